
import Derived.Test.YtgpbbhplnbndeaaGreatDoorV7
namespace Go.Vw
open Go.RowKit Dat
section
variable {d:b_}{b:Bt}
end
section
variable {d:b_}{b:Bt}
theorem indexP_len':(c_6 d b).length<=10000:=by
 unfold c_6
 split
 .rename_i h
  obtain ⟨hv,hb,hi,_,hok,_⟩:=h_o h;exact k_Z hv hb hi _ (Nat.zero_le _) hok
 .simp
end
end Go.Vw
