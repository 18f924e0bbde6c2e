
import Derived.Test.YtjdphpimefbinaaGreatDoorV9
namespace Go.Vw
open Go.RowKit Dat
theorem forN_nextAt' {σ ρ:Type}{body:Nat->σ->Option (Out σ ρ)}(f:Nat->σ){n:Nat}{s:σ}(G:s=f 0)(h:∀j,j<n->body j (f j)=some (.next<|f<|j+1)):v_ body n 0 s=some (.inl<|f n):=by
 subst G;exact b_A f h
theorem markS_eq' {n:Nat}(G:30<=n){k:Int}(H:0<=k)(hk:k<=1152921504606846976):d_f n k=some (d_C n k):=by
 obtain ⟨t,ht,_⟩:=k_2 G H hk;unfold d_C;rw [ht];rfl
theorem t_2 {n m:Nat}{k:Int}(H:0<=k)(hk:k+m<=1152921504606846976)(G:30<=n):g_E n ((List.range m).map (λ(i:Nat)=>d_C n<|k+i)) k=some (k+m):=by
 unfold g_E
 rw [forN_nextAt' (λj=>k+(j:Int)) (n:=((List.range m).map (λ(i:Nat)=>d_C n (k+(i:Int)))).length) (by simp) (λj hj=>by
  rw [ix_ hj]
  simp at hj
  simp only [bd_some,List.getElem_map,List.getElem_range]
  rw [markS_eq' G (by omega) (by omega),bd_some]
  rw [ia_ (x:=k+(j:Int)) (by omega) (by omega)]
  simp only [bN_,bF_,fF_]
  congr 2
  omega)]
 simp
end Go.Vw
