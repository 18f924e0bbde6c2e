
import Derived.Test.YtbhbfaljeoeciaaGreatDoorVq
namespace Go.Vw
open Go.RowKit Dat
theorem q_3 (x y:List UInt8):d_e x y=some (x==y):=by
 unfold d_e
 by_cases hl:x.length=y.length
 ·rw [show ((x.length:Int) != (y.length:Int))=false by simp [hl]]
  simp only [bF_,fF_]
  rw [c_O (fun k=>decide (x[k]? ≠ y[k]?)) false (fun k hk _=>by
   rw [ix_ hk,ix_ (show k<y.length by omega),bd_some,bd_some]
   rw [show ((byteI x[k]) != (byteI (y[k]'(by omega))))=decide (x[k]? ≠ y[k]?) by
    rw [gG_ hk,gG_ (show k<y.length by omega),Bool.eq_iff_iff,bne_iff_ne,dE_,ne_eq,ne_eq,g_K,oI_]]
   by_cases h:x[k]? ≠ y[k]?
   ·rw [dT_ h];rfl
   ·rw [dF_ h];rfl),bd_some]
  by_cases h:x=y
  ·subst h
   rw [show ((List.range x.length).any fun k=>decide<|x[k]? ≠ x[k]?)=false by rw [List.any_eq_false];intro k _;simp]
   simp [el]
  ·rw [show ((List.range x.length).any fun k=>decide (x[k]? ≠ y[k]?))=true by
    rw [List.any_eq_true]
    refine Classical.byContradiction fun hn=>h<|List.ext_getElem? fun i=>Classical.byContradiction fun hi=>hn ⟨i,List.mem_range.2 ?_,dT_ hi⟩
    refine Classical.byContradiction fun hlt=>hi ?_
    rw [gN_ (by omega),gN_ (by omega)]]
   simp [el,h]
 ·rw [show ((x.length:Int) != (y.length:Int))=true by rw [bne_iff_ne];omega,iP_ rfl]
  congr 1
  symm;rw [beq_eq_false_iff_ne];rintro rfl;exact hl rfl
theorem q_4 {b:List UInt8}{k:Nat}(h:k<=b.length):slc b (k:Int) (b.length:Int)=some (b.drop k):=by
 have:=q_2 (b:=b) (k:=k) (j:=b.length - k) (by omega)
 rw [show ((k+(b.length - k):Nat):Int)=(b.length:Int) by omega] at this
 rw [this,List.take_of_length_le (by rw [List.length_drop];omega)]
end Go.Vw
