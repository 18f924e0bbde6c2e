import Derived.Test.YtahlbmonbflopaaGreatDoorVe
namespace Go.Vw
open Go.RowKit Dat
section
variable {d:c_}{v:Val}
theorem p_P (hv:R_ d=true){i:Nat}(hi:i<d.rules.length)(h:Own d.rules d.rules[i] v):v.items.length<=40:=by
 have hr:=a_S hv hi;unfold Own at h
 rcases h with ⟨h,_,_,_,G⟩ | ⟨h,_,_,G⟩ | ⟨h,_,_,G⟩ | ⟨h,_,_,_,G⟩ | ⟨h,_,_,G⟩ | ⟨h,_,_,H,_⟩ | ⟨h,_,_,H⟩ | ⟨h,_,_,_,I,J⟩ | ⟨h,_,_,H⟩ | ⟨h,_,_,H⟩
 .rw [G];simp
 .rw [G];simp
 .rw [G];simp
 .rw [G];simp
 .rw [G];simp
 .omega
 .have:=d_t hr.kind h;omega
 .omega
 .omega
 .omega
end
end Go.Vw
namespace Go.Vw
open Go.RowKit Dat
section
variable {d:c_}
theorem vp_lt {m i:Nat}{v:Val}(h:VP d.rules m i v):i<d.rules.length:=by
 cases m with
 | zero=>exact h.elim
 | succ m=>exact h.1
end
end Go.Vw
namespace Go.Vw
open Go.RowKit Dat
def ML:Nat:=1060000
theorem MLv:ML=1060000:=rfl
section
variable {b:Bt}{k:Nat}
end
theorem q_F {b:Bt}{k j:Nat}(h:k+j<=b.length):slc b (k:Int) ((k+j:Nat):Int)=some ((b.drop k).take j):=by
 rw [g_f (by omega) (by omega) (by omega)]
 congr 1
 simp only [tN_]
 rw [List.drop_take,show k+j - k=j by omega]
end Go.Vw
namespace Go.Vw
open Go.RowKit Dat
theorem j_I {p:Int}:a_g .i64 p 0=p:=by
 unfold a_g;rw [show (min (0:Int).toNat IntKind.i64.bits)=0 from rfl];simp
end Go.Vw
