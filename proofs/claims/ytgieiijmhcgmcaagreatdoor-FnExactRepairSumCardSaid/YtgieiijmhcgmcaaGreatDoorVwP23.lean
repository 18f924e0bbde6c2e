
import Derived.Test.YtgieiijmhcgmcaaGreatDoorVwP24
namespace Go.Vw
open Go.RowKit Dat
section
variable {d:g_}{b:List UInt8}
end
theorem p_1 {σ ρ:Type}{body:Nat->σ->Option (Out σ ρ)}(f:Nat->σ){n:Nat}{s:σ}(G:s=f 0)(h:∀j,j<n->body j (f j)=some (.next<|f<|j+1)):u_ body n 0 s=some (.inl<|f n):=by
 subst G;exact b_A f h
def f_f (n:Nat)(k:Int):List UInt8:=(List.range n).map (fun (i:Nat)=>mkB<|k+i)
theorem p_2 {m:Nat}{k:Int}(h:0<=k)(hk:k+m<=1152921504606846976):e_K (f_f m k) k=some (k+m):=by
 unfold e_K
 rw [p_1 (fun j=>k+(j:Int)) (n:=(f_f m k).length) (by simp) (fun j hj=>by
  rw [ix_ hj]
  unfold f_f at hj ⊢
  simp at hj
  simp only [bd_some,List.getElem_map,List.getElem_range]
  rw [ia_ (x:=k+(j:Int)) (by omega) (by omega)]
  simp only [bN_,bF_,fF_]
  congr 2
  omega)]
 unfold f_f
 simp
end Go.Vw
