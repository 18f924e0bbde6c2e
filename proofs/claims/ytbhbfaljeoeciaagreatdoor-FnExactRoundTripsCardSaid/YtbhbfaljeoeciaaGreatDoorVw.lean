
import Derived.Test.YtbhbfaljeoeciaaGreatDoorVv
namespace Go.Vw
open Go.RowKit Dat
section
variable {d:c_}{b:List UInt8}
theorem m_O {r:g_}{ts:List Str}{k:Nat}(h:k<ts.length):(a_6 r ts).take (k+1)=(a_6 r ts).take k++[b_J r ts k]:=by
 have hk:k<(a_6 r ts).length:=by rw [b_c];exact h
 rw [d_r hk,e_o]
theorem g_J {r:g_}{ts:List Str}(h6:r.kind ≠ 6)(h1:ts.length=1):a_q (a_6 r ts)=(ts[0]'(by omega)).b:=by
 obtain ⟨t,rfl⟩:∃t,ts=[t]:=by
  match ts,h1 with
  | [t],_=>exact ⟨t,rfl⟩
 unfold a_q a_6 b_J
 simp [h6,Lib.join_one]
theorem m_P {x:Int}(G:0<=x)(h:x<=4294967295):∃q:Nat,x=q/\q<=1000000000000/\(Lib.itoa x).length<=20:=by
 obtain ⟨q,rfl⟩:∃q:Nat,x=q:=⟨x.toNat,by omega⟩;exact ⟨q,rfl,by omega,p_Q (by omega)⟩
theorem f_e {s:Int}(h1:1<=s)(h4:s<=4):(256:Int) ^ s.toNat - 1<=4294967295:=by
 have:s=1∨s=2∨s=3∨s=4:=by omega
 rcases this with rfl | rfl | rfl | rfl <;> decide
end
end Go.Vw
