
import Derived.Test.YtpjplgfnhbjjjaaGreatDoorVb4
namespace Go.Vw
open Go.RowKit Dat
section
variable {d:c_}
def b_M (l:List j_):Nat:=(l.map λc=>1+vsz 25 c.part).sum
theorem i_u (c:j_)(l:List j_):b_M (c::l)=1+vsz 25 c.part+b_M l:=by unfold b_M;simp
theorem l_n (l m:List j_):b_M (l++m)=b_M l+b_M m:=by unfold b_M;simp
theorem h_v:∀l:List j_,l.length<=b_M l
 | []=>Nat.zero_le _
 | c::l=>by rw [i_u,lC_];have:=h_v l;omega
theorem r_I {l acc:List j_}(hl:l.length<=100000)(h:acc.length=l.length){k:Nat}(hk:k<l.length)(x:j_):upd acc (l_ (l_ (l.length:Int) 1) (k:Int)) x=some (acc.set ((l.length:Int) - 1 - (k:Int)).toNat x):=by
 rw [b_i (x:=(l.length:Int)) (y:=1) (by omega) (by omega),b_i (x:=(l.length:Int) - 1) (y:=(k:Int)) (by omega) (by omega)]
 exact t_d (by omega) (by omega)
def f_t (l:List j_):Prop:=∀c∈l,dep 25 c.part/\c.path.b.length<=MX
theorem o_c (hd:SmD d){n:Nat}(hn:MX+1200<=n){v:Val}(hci:b_H n v=some v)(hcs:b_Y n v=some v){l:List j_}(hl:l.length<=100000):∀(cs:List j_)(k:Nat)(out:Val),l.drop k=cs->f_t cs->dep 25 out->vsz 25 out+b_M cs<=100000 ->
  ∃r:Option Val,n_ (σ:=Int×Bt×(List Val)) (ρ:=Val×Bool) (λa4=>un3 λa5 a6 a7=>bd (idx l ((a4:Nat):Int)) λH=>bd2 (e_p n d (⟨a5,a6,a7⟩:Val) H.path (⟨H.part.number,H.part.bytes,H.part.items⟩:Val)) λJ a8=>if (!a8) then bd (b_H n v) λa9=>some (.ret (a9,false)) else some (.next (J.number,J.bytes,J.items))) cs.length k (out.number,out.bytes,out.items)=some (match r with | none=>.inr (v,false) | some w=>.inl (w.number,w.bytes,w.items))
  /\n_ (σ:=Int×Bt×(List Val)) (ρ:=Val×Bool) (λY=>un3 λaa ab ad=>bd (α:=Int×Bt×(List Val)×Bool) (bd (idx l ((Y:Nat):Int)) λae=>bd (idx l ((Y:Nat):Int)) λL=>bd2 (f_k n d (⟨aa,ab,ad⟩:Val) ae.path (⟨L.part.number,L.part.bytes,L.part.items⟩:Val)) λO af=>some (O.number,O.bytes,O.items,af)) (un4 λah ai aj ak=>if (!ak) then bd (b_Y n v) λal=>some (.ret (al,false)) else some (.next (ah,ai,aj)))) cs.length k (out.number,out.bytes,out.items)=some (match r with | none=>.inr (v,false) | some w=>.inl (w.number,w.bytes,w.items))
  /\(r=none->∀acc:List j_,acc.length=l.length->n_ (σ:=(List j_)×Int×Bt×(List Val)) (ρ:=List j_) (λa0=>un4 λam a1 a2 a3=>bd (idx l ((a0:Nat):Int)) λG=>bd3 (e_v n d (⟨a1,a2,a3⟩:Val) G.path) λV au av=>bd2 (e_p n d (⟨a1,a2,a3⟩:Val) G.path (⟨G.part.number,G.part.bytes,G.part.items⟩:Val)) λW an=>if (!an) then some (.ret ([]:List j_)) else bd (upd am (l_ (l_ (l.length:Int) 1) ((a0:Nat):Int)) (⟨G.path,(⟨V.number,V.bytes,V.items⟩:Val)⟩:j_)) λap=>some<|.next (ap,W.number,W.bytes,W.items)) cs.length k (acc,out.number,out.bytes,out.items)=some (.inr []))
 | [],k,out,hs,ht,hdo,hz=>⟨some out,rfl,rfl,nofun⟩
 | c::cs,k,out,hs,ht,hdo,hz=>by
  rw [i_u] at hz
  have hkl:k<l.length:=by
   refine Nat.lt_of_not_le λhc=>?_
   rw [List.drop_of_length_le hc] at hs;cases hs
  have hs':l[k]=c/\l.drop (k+1)=cs:=by
   rw [dC_ hkl] at hs
   exact List.cons.inj hs
  obtain ⟨aq,ar⟩:=ht c mS_;obtain ⟨w,w1,I,⟨⟨y1,y2,y3⟩,hy⟩,w4,w5⟩:=rep_G hd (v:=out) (part:=c.part) (path:=c.path) (n:=n) aq (by omega) hdo (by omega) ar hn;obtain ⟨w,ok⟩:=w
  simp only at w4 w5
  cases ok
  .refine ⟨none,?_,?_,λ_ acc hacc=>?_⟩
   .rw [lC_]
    unfold n_
    simp only [un3]
    rw [ix_ hkl,bd_some,hs'.1,a_w,a_w,I,bd2_some,Bool.not_false,iP_ rfl,hci,bd_some]
   .rw [lC_]
    unfold n_
    simp only [un3]
    rw [ix_ hkl,bd_some,bd_some,hs'.1,a_w,a_w,w1,bd2_some,bd_some]
    simp only [un4]
    rw [Bool.not_false,iP_ rfl,hcs,bd_some]
   .rw [lC_]
    unfold n_
    simp only [un4]
    rw [ix_ hkl,bd_some,hs'.1,a_w,a_w,hy,bd3_some,I,bd2_some,Bool.not_false,iP_ rfl]
  .obtain ⟨r,r1,r2,r3⟩:=o_c hd hn hci hcs hl cs (k+1) w hs'.2 (λx hx=>ht x<|mT_ _ hx) w4 (by omega);refine ⟨r,?_,?_,λhr acc hacc=>?_⟩
   .rw [lC_]
    unfold n_
    simp only [un3]
    rw [ix_ hkl,bd_some,hs'.1,a_w,a_w,I,bd2_some,nT_,iN_ (by simp)]
    exact r1
   .rw [lC_]
    unfold n_
    simp only [un3]
    rw [ix_ hkl,bd_some,bd_some,hs'.1,a_w,a_w,w1,bd2_some,bd_some]
    simp only [un4]
    rw [nT_,iN_ (by simp)]
    exact r2
   .rw [lC_]
    unfold n_
    simp only [un4]
    rw [ix_ hkl,bd_some,hs'.1,a_w,a_w,hy,bd3_some,I,bd2_some,nT_,iN_ (by simp),r_I hl hacc hkl,bd_some]
    exact r3 hr _<|List.length_set.trans hacc
def k_6 (v:Val):Option Val->Val×Bool
 | none=>(v,false)
 | some w=>(w,true)
theorem r_J (hd:SmD d){n:Nat}(hn:MX+1200<=n){v:Val}(hdv:dep 25 v){l:List j_}(ht:f_t l)(hz:vsz 25 v+b_M l<=100000) :
  ∃w:Val×Bool,h_I n d v l=some w/\h_J n d v l=some w/\(w.2=false->w.1=v/\i_M n d v l=some []):=by
 have hMX:=MXv;have hLIM:=X_;have hl:l.length<=100000:=by have:=h_v l;omega
 have hci:b_H n v=some v:=h_G 25 v hdv (by omega) n (by omega);have hcs:b_Y n v=some v:=d_M 25 v hdv (by omega) n (by omega);obtain ⟨r,r1,r2,r3⟩:=o_c hd hn hci hcs hl l 0 v rfl ht hdv hz
 have G:h_I n d v l=some (k_6 v r):=by
  unfold h_I;refine (congrArg (λz=>bd z _) hci).trans ?_
  rw [bd_some]
  refine (congrArg (λz=>bd z _) r1).trans ?_
  cases r with
  | none=>rfl
  | some w=>simp only [bd_some,el_inl,un3,a_w,k_6]
 have H:h_J n d v l=some (k_6 v r):=by
  unfold h_J;refine (congrArg (λz=>bd z _) hcs).trans ?_
  rw [bd_some]
  refine (congrArg (λz=>bd z _) r2).trans ?_
  cases r with
  | none=>rfl
  | some w=>simp only [bd_some,el_inl,un3,a_w,k_6]
 refine ⟨_,G,H,?_⟩
 cases r with
 | some w=>exact nofun
 | none =>
  refine λ_=>⟨rfl,?_⟩
  unfold i_M
  rw [k_z (by omega),bd_some,r3 rfl _ (by simp),bd_some]
  rfl
end
end Go.Vw
