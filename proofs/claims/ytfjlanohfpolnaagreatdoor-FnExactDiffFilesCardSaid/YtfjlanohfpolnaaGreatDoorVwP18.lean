
import Derived.Test.YtfjlanohfpolnaaGreatDoorVwP17
namespace Go.Vw
open Go.RowKit Dat
theorem forN_nextAt' {σ ρ:Type}{body:Nat->σ->Option (Out σ ρ)}(f:Nat->σ){n:Nat}{s:σ}(G:s=f 0)(h:∀j,j<n->body j (f j)=some (.next<|f<|j+1)):u_ body n 0 s=some (.inl<|f n):=by
 subst G;exact b_S f h
theorem markS_eq' {n:Nat}(G:30<=n){k:Int}(H:0<=k)(hk:k<=1152921504606846976):c_F n k=some (c_U n k):=by
 obtain ⟨t,ht,_⟩:=i_l G H hk;unfold c_U;rw [ht];rfl
theorem r_g {n m:Nat}{k:Int}(H:0<=k)(hk:k+m<=1152921504606846976)(G:30<=n):f_N n ((List.range m).map (fun (i:Nat)=>c_U n<|k+i)) k=some (k+m):=by
 unfold f_N
 rw [forN_nextAt' (fun j=>k+(j:Int)) (n:=((List.range m).map (fun (i:Nat)=>c_U n (k+(i:Int)))).length) (by simp) (fun j hj=>by
  rw [ix_ hj]
  simp at hj
  simp only [bd_some,List.getElem_map,List.getElem_range]
  rw [markS_eq' G (by omega) (by omega),bd_some]
  rw [ia_ (x:=k+(j:Int)) (by omega) (by omega)]
  simp only [bN_,bF_,fF_]
  congr 2
  omega)]
 simp
end Go.Vw
