import Derived.Test.YtahlbmonbflopaaGreatDoorVm
namespace Go.Vw
open Go.RowKit Dat
theorem nextAt {σ ρ:Type}{body:Nat->σ->Option (Out σ ρ)}(f:Nat->σ){n:Nat}{s:σ}(G:s=f 0)(h:∀j,j<n->body j (f j)=some (.next<|f<|j+1)):y_ body n 0 s=some (.inl<|f n):=by
 subst G;exact d_w f h
end Go.Vw
namespace Go.Vw
open Go.RowKit Dat
theorem n_3 {d:c_}{b:Bt}(hd:SmD d){n:Nat}(hn:500<=n):f_d n d b=some (okF d b):=by
 unfold f_d okF
 rw [n_y hd hn];rfl
def e_Z (r:W_):Bool:=decide (r.versions.length<=8) && !(r.versions.any λd=>!R_ d)
theorem q_H {r:W_}(h:∀d∈r.versions,SmD d){n:Nat}(hn:14<=n):i_X n r=some (e_Z r):=by
 unfold i_X e_Z
 by_cases hl:r.versions.length<=8
 .rw [dF_ (by omega),iN_ (by simp),dT_ hl,Bool.true_and]
  rw [f_4 (λd=>!R_ d) false (λk hk=>by
   rw [ix_ hk,bd_some,m_v n hn _<|h _<|gE_ hk,bd_some]
   cases R_ r.versions[k] <;> rfl),bd_some]
  cases r.versions.any λd=>!R_ d <;> rfl
 .rw [dT_ (by omega),iP_ rfl,dF_ hl];rfl
theorem q_I {r:W_}(h:∀d∈r.versions,SmD d):i_W r=some (e_Z r):=by
 unfold i_W e_Z
 rw [f_4 (λd=>!R_ d) false (λk hk=>by
   rw [ix_ hk,bd_some,k_D _<|h _<|gE_ hk,bd_some]
   cases R_ r.versions[k] <;> rfl),bd_some]
 cases r.versions.any λd=>!R_ d
 .simp only [bF_,fF_,el_inl,Bool.not_false,Bool.and_true]
  congr 1;rw [decide_eq_decide];omega
 .simp
end Go.Vw
namespace Go.Vw
open Go.RowKit Dat
section
variable {d:c_}{b:Bt}
end
def Incl (r:b_)(k:Nat):Prop:=0<k∨(r.kind ≠ 4/\r.kind ≠ 5/\r.kind ≠ 7)
instance {r:b_}{k:Nat}:Decidable (Incl r k):=by unfold Incl;infer_instance
section
variable {d:c_}{b:Bt}
end
end Go.Vw
namespace Go.Vw
open Go.RowKit Dat
structure Sml (a:List Int)(B:Int):Prop where
 len:a.length<=30
 bd:∀i,0<=a.getD i 0/\a.getD i 0<=B
theorem Sml.nil:Sml [] 0:=⟨by simp,λi=>by simp⟩
theorem Sml.mono {a:List Int}{B C:Int}(ha:Sml a B)(h:B<=C):Sml a C:=⟨ha.len,λi=>by have:=ha.bd i;omega⟩
open Classical in
theorem p_X (l:List Int)(q:Int):h_D l q=some (decide<|q∈l):=by
 unfold h_D
 rcases c_u (ρ:=Bool) (σ:=Unit) (n:=l.length) (body:=λG=>(λ(_:Unit)=>bd (idx l ((G:Nat):Int)) λH=>if (H==q) then some (.ret true) else some (.next ())))
  (λk _=>∀i (h:i<l.length),i<k->l[i] ≠ q) (λr=>r=true/\q∈l) (λk s hk hi=>by
   rw [ix_ hk,bd_some]
   by_cases h:l[k]=q
   .right
    rw [iP_ (by simpa using h)]
    exact ⟨true,rfl,rfl,h ▸ gE_ hk⟩
   .left
    rw [iN_ (by simpa using h)]
    refine ⟨(),rfl,λi h1 h2=>?_⟩
    by_cases hik:i=k
    .subst hik;exact h
    .exact hi i h1 (by omega)) l.length 0 () (by omega) (λi _ hi=>by omega) with ⟨s,e,hs⟩ | ⟨r,e,rfl,hr⟩
 .rw [e,bd_some,el_inl,dF_]
  intro h;obtain ⟨i,h1,h2⟩:=List.getElem_of_mem h;exact hs i h1 h1 h2
 .rw [e,bd_some,el_inr,dT_ hr]
section
open Classical
variable {d:c_}{p:List Bool}{ok:Nat->Bool}{x:Nat->List Int}
end
end Go.Vw
