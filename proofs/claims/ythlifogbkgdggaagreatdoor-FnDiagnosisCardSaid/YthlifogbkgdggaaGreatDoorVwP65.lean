
import Derived.Test.YthlifogbkgdggaaGreatDoorVwP23
namespace Go.Vw
open Go.RowKit Dat
theorem m_X {rs:List g_}{k:Int}(h:0<lim rs k):d_B (F_ rs k)/\lim rs k=256 ^ (F_ rs k).size.toNat - 1:=by
 unfold lim at *
 cases hk:idx rs k with
 | none=>rw [hk] at h;exact absurd h (by decide)
 | some r =>
  rw [hk] at h
  simp only at h ⊢
  have hr:F_ rs k=r:=by
   unfold idx at hk
   split at hk
   ·unfold F_;rw [gD_,hk];rfl
   ·cases hk
  split at h
  ·rename_i hc
   rw [hr,iP_ hc]
   exact ⟨⟨hc.1,hc.2.1,hc.2.2⟩,rfl⟩
  ·exact absurd h (by decide)
section
variable {d:d_}{b:List UInt8}
end
end Go.Vw
