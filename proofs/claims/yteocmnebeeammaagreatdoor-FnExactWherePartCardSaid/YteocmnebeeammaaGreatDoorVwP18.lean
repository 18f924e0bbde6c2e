
import Derived.Test.YteocmnebeeammaaGreatDoorVwP17
namespace Go.Vw
open Go.RowKit Dat
theorem forN_nextAt' {σ ρ:Type}{body:Nat->σ->Option (Out σ ρ)}(f:Nat->σ){n:Nat}{s:σ}(G:s=f 0)(h:∀j,j<n->body j (f j)=some (.next<|f<|j+1)):r_ body n 0 s=some (.inl<|f n):=by
 subst G;exact b_P f h
theorem markS_eq' {n:Nat}(G:30<=n){k:Int}(H:0<=k)(hk:k<=1152921504606846976):d_i n k=some (d_y n k):=by
 obtain ⟨t,ht,_⟩:=j_c G H hk;unfold d_y;rw [ht];rfl
theorem r_E {n m:Nat}{k:Int}(H:0<=k)(hk:k+m<=1152921504606846976)(G:30<=n):g_t n ((List.range m).map (λ(i:Nat)=>d_y n<|k+i)) k=some (k+m):=by
 unfold g_t
 rw [forN_nextAt' (λj=>k+(j:Int)) (n:=((List.range m).map (λ(i:Nat)=>d_y n (k+(i:Int)))).length) (by simp) (λj hj=>by
  rw [ix_ hj]
  simp at hj
  simp only [bd_some,List.getElem_map,List.getElem_range]
  rw [markS_eq' G (by omega) (by omega),bd_some]
  rw [ia_ (x:=k+(j:Int)) (by omega) (by omega)]
  simp only [bN_,bF_,fF_]
  congr 2
  omega)]
 simp
end Go.Vw
