
import Derived.Test.YtpjplgfnhbjjjaaGreatDoorVg
namespace Go.Vw
open Go.RowKit Dat
theorem s_s {s:Int}(h1:1<=s)(h4:s<=4):d_Q s=some (b_I .i64 1<|8 * s):=by
 unfold d_Q
 rw [e_a (by omega) (by omega),show nn (8 * s)=some () from by unfold nn;rw [iP_ (by omega)],bd_some]
def Bd (j:Nat):Nat:=60 * 4 ^ j
theorem Bd_lt {c j:Nat}(h:c<j):4 * Bd c<=Bd j:=by
 unfold Bd;have:=Nat.pow_le_pow_right (show 0<4 by decide) (show c+1<=j from h)
 rw [Nat.pow_succ] at this;omega
theorem Bd_ge (j:Nat):60<=Bd j:=by
 unfold Bd;have:=Nat.pow_le_pow_right (show 0<4 by decide)<|Nat.zero_le j
 omega
theorem Bd_le {j:Nat}(h:j<=5):Bd j<=61440:=by
 unfold Bd;have:=Nat.pow_le_pow_right (show 0<4 by decide) h
 omega
theorem Mk.item {d:c_}{j:Nat}{v:Val}(h:Mk d j v):v.items.length<=3/\v.bytes.length<=6/\j<d.rules.length/\∀(hj:j<d.rules.length) t (ht:t<v.items.length),∃c:Nat,J_ d.rules[j] v.number t=(c:Int)/\c<j/\Mk d c v.items[t]:=by
 cases h with
 | flat hj hi hb=>exact ⟨by rw [hi];simp,hb,hj,λ_ t ht=>by rw [hi] at ht;simp at ht⟩
 | node hj hn hb f hf ch=>exact ⟨hn,by rw [hb];simp,hj,λ_ t ht=>⟨f t,(hf t ht).1,(hf t ht).2,ch t ht⟩⟩
theorem s_t {n:Nat}{r:d_}(h:DrR n r)(i:Nat)(hi:i<=1000000000):(D_ r i).b.length<=40:=by
 unfold D_;have:=i_F i hi
 split
 .simp only;omega
 .split
  .rename_i hc
   simp only [aE_,dE_] at hc
   rw [gD_,gG_ hc.2,Option.getD_some]
   exact h.names.2 _<|gE_ hc.2
  .split
   .simp
   .split
    .simp
    .split <;> simp
theorem s_u {d:c_}(hd:DrD d):∀(j:Nat)(v:Val),Mk d j v->∀n,40+j<=n->∀p:Str,p.b.length<=1000 - 41 * j->∃l,j_J n d (j:Int) v p=some l/\l.length<=Bd j/\0<l.length/\∀s∈l,s.b.length<=p.b.length+41 * j:=by
 have hLIM:=X_;intro j
 induction j using Nat.strongRecOn with
 | ind j ih =>
  intro v hv n hn p hp;obtain ⟨m,rfl⟩:∃m,n=m+1:=⟨n - 1,by omega⟩;obtain ⟨a3,a5,hj,hch⟩:=hv.item;have hch:=hch hj;have hr:=hd.each j hj;have hB:=Bd_ge j;have a4:j<=5:=by have:=hd.few;omega
  have hB2:=Bd_le a4
  show ∃l,f_S m (d_u m) d (j:Int) v p=some l/\l.length<=Bd j/\0<l.length/\∀s∈l,s.b.length<=p.b.length+41 * j
  unfold f_S;have hidx:idx d.rules (j:Int)=some d.rules[j]:=ix_ hj;generalize d.rules[j]=r at hr hch hidx
  rcases c_U (σ:=List Str) (ρ:=List Str) (body:=λG=>(λL=>bd (idx d.rules (j:Int)) λH=>bd (idx v.items ((G:Nat):Int)) λO=>bd (cat p (⟨[47]⟩:Str)) λV=>bd (a_D H v.number ((G:Nat):Int)) λW=>bd (c_M m H ((G:Nat):Int)) λY=>bd (cat V Y) λa0=>bd ((d_u m).spec_l18Paths d W O a0) λa1=>bd (app L a1) λa2=>some<|.next a2))
   (λk l=>4 * l.length<=4+k * Bd j/\0<l.length/\∀s∈l,s.b.length<=p.b.length+41 * j) (λ_=>False) (n:=v.items.length)
   (by
    intro k l hk ⟨hl,I,hls⟩
    left
    obtain ⟨c,c1,J,c3⟩:=hch k hk;have hst:=s_t hr k (by omega);obtain ⟨q,e,hq,a6,hqs⟩:=ih c J _ c3 m (by omega) ⟨(p.b++[47])++(D_ r k).b⟩ (by simp;omega);have hbc:=Bd_lt J;have hkb:k * Bd j<=3 * Bd j:=Nat.mul_le_mul_right _ (by omega)
    rw [hidx,bd_some,ix_ hk,bd_some,a_4 (by simp;omega),bd_some,b_O hr.ok,bd_some,c1,e_L (by omega) r k (by omega),bd_some,a_4 (by simp;omega),bd_some]
    rw [show (d_u m).spec_l18Paths d (c:Int) v.items[k] ⟨(p.b++[47])++(D_ r k).b⟩=some q from e,bd_some,b_r (by omega),bd_some]
    have h2:(k+1) * Bd j=k * Bd j+Bd j:=Nat.succ_mul _ _;refine ⟨_,rfl,by rw [List.length_append,h2];omega,by simp;omega,λs hs=>?_⟩
    rcases List.mem_append.1 hs with hs | hs
    .exact hls s hs
    .have h3:=hqs s hs
     simp only [List.length_append,lC_,List.length_nil] at h3
     have h4:41 * c+41<=41 * j:=by omega
     omega)
   v.items.length 0 [p] (by omega) ⟨by simp,by simp,λs hs=>(by rw [List.mem_singleton] at hs;subst hs;omega)⟩ with ⟨l,e,hl,I,hls⟩ | ⟨_,_,hf⟩
  .have hac:v.items.length * Bd j<=3 * Bd j:=Nat.mul_le_mul_right _ a3
   rw [e,bd_some,el_inl]
   exact ⟨l,rfl,by omega,I,hls⟩
  .exact hf.elim
end Go.Vw
