
import Derived.Test.YtbhbfaljeoeciaaGreatDoorVj
import Derived.Test.YtbhbfaljeoeciaaGreatDoorVl
namespace Go.Vw
open Go.RowKit Dat
section
variable {d:c_}{v:Val}
theorem m_4 (hv:a_7 d=true){i:Nat}(hi:i<d.rules.length)(h:Own d.rules d.rules[i] v):v.items.length<=40:=by
 have hr:=b_w hv hi;unfold Own at h
 rcases h with ⟨h,_,_,_,G⟩ | ⟨h,_,_,G⟩ | ⟨h,_,_,G⟩ | ⟨h,_,_,_,G⟩ | ⟨h,_,_,G⟩ | ⟨h,_,_,H,_⟩ | ⟨h,_,_,H⟩ | ⟨h,_,_,_,I,J⟩ | ⟨h,_,_,H⟩ | ⟨h,_,_,H⟩
 ·rw [G];simp
 ·rw [G];simp
 ·rw [G];simp
 ·rw [G];simp
 ·rw [G];simp
 ·omega
 ·have:=d_P hr.kind h;omega
 ·omega
 ·omega
 ·omega
end
end Go.Vw
