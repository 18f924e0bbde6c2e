import Derived.Test.YtajhmimbhplkfaaGreatDoorV0
import Derived.WalkKit
import Derived.LaidEql
import Derived.Stop.Asserts
import Derived.RowKitTokens
import Derived.Test.YtajhmimbhplkfaaGreatDoorShelf
set_option linter.unusedVariables false
namespace Go.Vw
open Go.RowKit Dat Go.Proofs
theorem mo:Tryz.prog.follows .mixedOrders=true:=by kernel_rfl
abbrev e_R:=@Tryz.isAgg123
abbrev g_157:=@Tryz.isAgg157
abbrev b_p:=@Tryz.isAgg186
abbrev g_206:=@Tryz.isAgg206
abbrev g_208:=@Tryz.isAgg208
abbrev M_:=@Tryz.isAgg22
abbrev g_226:=@Tryz.isAgg226
abbrev a_m:=@Tryz.isAgg235
abbrev a_q:=@Tryz.isAgg24
abbrev J_:=@Tryz.isAgg26
abbrev g_285:=@Tryz.isAgg285
abbrev g_3:=@Tryz.isAgg3
abbrev g_33:=@Tryz.isAgg33
abbrev g_36:=@Tryz.isAgg36
abbrev g_4:=@Tryz.isAgg4
abbrev g_o:=@Tryz.isAgg46
abbrev D_:=@Tryz.isAgg48
abbrev g_5:=@Tryz.isAgg5
abbrev a_J:=@Tryz.isAgg51
abbrev I_:=@Tryz.isAgg52
abbrev R_:=@Tryz.isAgg54
abbrev g_56:=@Tryz.isAgg56
abbrev g_58:=@Tryz.isAgg58
abbrev g_60:=@Tryz.isAgg60
abbrev g_62:=@Tryz.isAgg62
abbrev c_v:=@Tryz.isAgg65
abbrev f_x:=@Tryz.isAgg67
abbrev e_S:=@Tryz.isAgg68
abbrev e_i:=@Tryz.isAgg70
abbrev g_9:=@Tryz.isAgg9
theorem k_l:c_O Tryz.prog 123 [(Str.v ⟨[]⟩),.int .i64 0,(.slice none 0 0)] [(0,1),(1,1),(2,1)]:=⟨fun w=>Tryz.zeroValue123 w,_,Tryz.underlying123,fun w=>by simp [Tryz.sizeOf22,Tryz.sizeOf3,Tryz.sizeOf9]⟩
theorem u_E:c_O Tryz.prog 136 [(.slice none 0 0),.slice none 0 0,(.slice none 0 0)] [(0,1),(1,1),(2,1)]:=⟨fun w=>Tryz.zeroValue136 w,_,Tryz.underlying136,fun w=>by simp [Tryz.sizeOf22,Tryz.sizeOf26,Tryz.sizeOf36]⟩
theorem d_R:c_O Tryz.prog 186 [(.int .i64 0),Str.v ⟨[]⟩,.int .i64 0,(.slice none 0 0)] [(0,1),(1,1),(2,1),(3,1)]:=⟨fun w=>Tryz.zeroValue186 w,_,Tryz.underlying186,fun w=>by simp [Tryz.sizeOf22,Tryz.sizeOf3,Tryz.sizeOf9]⟩
theorem u_F:c_O Tryz.prog 221 [(.slice none 0 0),(.slice none 0 0)] [(0,1),(1,1)]:=⟨fun w=>Tryz.zeroValue221 w,_,Tryz.underlying221,fun w=>by simp [Tryz.sizeOf22,Tryz.sizeOf26]⟩
theorem u_G:c_O Tryz.prog 230 [(.int .i64 0),(.int .i64 0)] [(0,1),(1,1)]:=⟨fun w=>Tryz.zeroValue230 w,_,Tryz.underlying230,fun w=>by simp [Tryz.sizeOf3]⟩
theorem u_H:c_O Tryz.prog 233 [(.slice none 0 0),.slice none 0 0,(.int .i64 0)] [(0,1),(1,1),(2,1)]:=⟨fun w=>Tryz.zeroValue233 w,_,Tryz.underlying233,fun w=>by simp [Tryz.sizeOf22,Tryz.sizeOf26,Tryz.sizeOf3]⟩
theorem d_8:c_O Tryz.prog 235 [(.int .i64 0),(.int .i64 0)] [(0,1),(1,1)]:=⟨fun w=>Tryz.zeroValue235 w,_,Tryz.underlying235,fun w=>by simp [Tryz.sizeOf3]⟩
theorem m_c:c_O Tryz.prog 252 [] []:=⟨fun w=>Tryz.zeroValue252 w,_,Tryz.underlying252,fun w=>by simp []⟩
theorem p_z:c_O Tryz.prog 33 [(Str.v ⟨[]⟩),.int .i64 0,.int .i64 0,(.int .i64 0)] [(0,1),(1,1),(2,1),(3,1)]:=⟨fun w=>Tryz.zeroValue33 w,_,Tryz.underlying33,fun w=>by simp [Tryz.sizeOf3,Tryz.sizeOf9]⟩
theorem a_7:c_O Tryz.prog 48 [(.int .i64 0),.slice none 0 0,(.slice none 0 0)] [(0,1),(1,1),(2,1)]:=⟨fun w=>Tryz.zeroValue48 w,_,Tryz.underlying48,fun w=>by simp [Tryz.sizeOf22,Tryz.sizeOf3,Tryz.sizeOf46]⟩
theorem c_i:El Tryz.prog 119 123 3 48 (.agg #[(Str.v ⟨[]⟩),.int .i64 0,(.slice none 0 0)]):=⟨Tryz.underlying119,by kernel_rfl,rfl,by decide,by decide⟩
theorem k_m:El Tryz.prog 173 4 1 1 (.bool false):=⟨Tryz.underlying173,by kernel_rfl,rfl,by decide,by decide⟩
theorem g_p:El Tryz.prog 182 186 4 56 (.agg #[(.int .i64 0),Str.v ⟨[]⟩,.int .i64 0,(.slice none 0 0)]):=⟨Tryz.underlying182,by kernel_rfl,rfl,by decide,by decide⟩
theorem N_:El Tryz.prog 22 5 1 1 (.int .u8 0):=⟨Tryz.underlying22,by kernel_rfl,rfl,by decide,by decide⟩
theorem el_24:El Tryz.prog 24 54 8 136 (.agg #[(Str.v ⟨[]⟩),.int .i64 0,.int .i64 0,.bool false,.slice none 0 0,.slice none 0 0,.slice none 0 0,(.slice none 0 0)]):=⟨Tryz.underlying24,by kernel_rfl,rfl,by decide,by decide⟩
theorem c_G:El Tryz.prog 36 33 4 40 (.agg #[(Str.v ⟨[]⟩),.int .i64 0,.int .i64 0,(.int .i64 0)]):=⟨Tryz.underlying36,by kernel_rfl,rfl,by decide,by decide⟩
theorem k_n:El Tryz.prog 46 48 3 56 (.agg #[(.int .i64 0),.slice none 0 0,(.slice none 0 0)]):=⟨Tryz.underlying46,by kernel_rfl,rfl,by decide,by decide⟩
theorem b_q:El Tryz.prog 51 9 1 16 (Str.v ⟨[]⟩):=⟨Tryz.underlying51,by kernel_rfl,rfl,by decide,by decide⟩
theorem m_d:El Tryz.prog 52 3 1 8 (.int .i64 0):=⟨Tryz.underlying52,by kernel_rfl,rfl,by decide,by decide⟩
theorem el_65:El Tryz.prog 65 26 1 24 (.agg #[(.slice none 0 0)]):=⟨Tryz.underlying65,by kernel_rfl,rfl,by decide,by decide⟩
theorem p_A:Fld Tryz.prog 123 0 0:=⟨_,_,Tryz.underlying123,rfl,rfl,1,fun w=>Tryz.sizeOf9 w,by decide⟩
theorem p_B:Fld Tryz.prog 123 1 1:=⟨_,_,Tryz.underlying123,rfl,rfl,1,fun w=>Tryz.sizeOf3 w,by decide⟩
theorem p_C:Fld Tryz.prog 123 2 2:=⟨_,_,Tryz.underlying123,rfl,rfl,1,fun w=>Tryz.sizeOf22 w,by decide⟩
theorem h_G:Fld Tryz.prog 136 0 0:=⟨_,_,Tryz.underlying136,rfl,rfl,1,fun w=>Tryz.sizeOf26 w,by decide⟩
theorem u_I:Fld Tryz.prog 136 1 1:=⟨_,_,Tryz.underlying136,rfl,rfl,1,fun w=>Tryz.sizeOf22 w,by decide⟩
theorem h_H:Fld Tryz.prog 136 2 2:=⟨_,_,Tryz.underlying136,rfl,rfl,1,fun w=>Tryz.sizeOf36 w,by decide⟩
theorem d_a:Fld Tryz.prog 186 0 0:=⟨_,_,Tryz.underlying186,rfl,rfl,1,fun w=>Tryz.sizeOf3 w,by decide⟩
theorem d_S:Fld Tryz.prog 186 1 1:=⟨_,_,Tryz.underlying186,rfl,rfl,1,fun w=>Tryz.sizeOf9 w,by decide⟩
theorem d_b:Fld Tryz.prog 186 2 2:=⟨_,_,Tryz.underlying186,rfl,rfl,1,fun w=>Tryz.sizeOf3 w,by decide⟩
theorem d_T:Fld Tryz.prog 186 3 3:=⟨_,_,Tryz.underlying186,rfl,rfl,1,fun w=>Tryz.sizeOf22 w,by decide⟩
theorem p_D:Fld Tryz.prog 208 0 0:=⟨_,_,Tryz.underlying208,rfl,rfl,1,fun w=>Tryz.sizeOf206 w,by decide⟩
theorem p_E:Fld Tryz.prog 221 0 0:=⟨_,_,Tryz.underlying221,rfl,rfl,1,fun w=>Tryz.sizeOf26 w,by decide⟩
theorem g_q:Fld Tryz.prog 221 1 1:=⟨_,_,Tryz.underlying221,rfl,rfl,1,fun w=>Tryz.sizeOf22 w,by decide⟩
theorem u_J:Fld Tryz.prog 230 0 0:=⟨_,_,Tryz.underlying230,rfl,rfl,1,fun w=>Tryz.sizeOf3 w,by decide⟩
theorem u_K:Fld Tryz.prog 230 1 1:=⟨_,_,Tryz.underlying230,rfl,rfl,1,fun w=>Tryz.sizeOf3 w,by decide⟩
theorem p_F:Fld Tryz.prog 233 0 0:=⟨_,_,Tryz.underlying233,rfl,rfl,1,fun w=>Tryz.sizeOf26 w,by decide⟩
theorem e_j:Fld Tryz.prog 233 1 1:=⟨_,_,Tryz.underlying233,rfl,rfl,1,fun w=>Tryz.sizeOf22 w,by decide⟩
theorem k_o:Fld Tryz.prog 233 2 2:=⟨_,_,Tryz.underlying233,rfl,rfl,1,fun w=>Tryz.sizeOf3 w,by decide⟩
theorem d_u:Fld Tryz.prog 235 0 0:=⟨_,_,Tryz.underlying235,rfl,rfl,1,fun w=>Tryz.sizeOf3 w,by decide⟩
theorem d_U:Fld Tryz.prog 235 1 1:=⟨_,_,Tryz.underlying235,rfl,rfl,1,fun w=>Tryz.sizeOf3 w,by decide⟩
theorem a_o:Fld Tryz.prog 26 0 0:=⟨_,_,Tryz.underlying26,rfl,rfl,1,fun w=>Tryz.sizeOf24 w,by decide⟩
theorem p_G:Fld Tryz.prog 285 0 0:=⟨_,_,Tryz.underlying285,rfl,rfl,1,fun w=>Tryz.sizeOf9 w,by decide⟩
theorem u_L:Fld Tryz.prog 285 1 1:=⟨_,_,Tryz.underlying285,rfl,rfl,1,fun w=>Tryz.sizeOf3 w,by decide⟩
theorem u_M:Fld Tryz.prog 285 2 2:=⟨_,_,Tryz.underlying285,rfl,rfl,1,fun w=>Tryz.sizeOf3 w,by decide⟩
theorem u_N:Fld Tryz.prog 285 3 3:=⟨_,_,Tryz.underlying285,rfl,rfl,1,fun w=>Tryz.sizeOf4 w,by decide⟩
theorem p_H:Fld Tryz.prog 285 4 4:=⟨_,_,Tryz.underlying285,rfl,rfl,1,fun w=>Tryz.sizeOf22 w,by decide⟩
theorem p_I:Fld Tryz.prog 285 5 5:=⟨_,_,Tryz.underlying285,rfl,rfl,1,fun w=>Tryz.sizeOf51 w,by decide⟩
theorem p_J:Fld Tryz.prog 285 6 6:=⟨_,_,Tryz.underlying285,rfl,rfl,1,fun w=>Tryz.sizeOf52 w,by decide⟩
theorem p_K:Fld Tryz.prog 285 7 7:=⟨_,_,Tryz.underlying285,rfl,rfl,1,fun w=>Tryz.sizeOf52 w,by decide⟩
theorem p_L:Fld Tryz.prog 33 0 0:=⟨_,_,Tryz.underlying33,rfl,rfl,1,fun w=>Tryz.sizeOf9 w,by decide⟩
theorem k_p:Fld Tryz.prog 33 1 1:=⟨_,_,Tryz.underlying33,rfl,rfl,1,fun w=>Tryz.sizeOf3 w,by decide⟩
theorem p_M:Fld Tryz.prog 33 2 2:=⟨_,_,Tryz.underlying33,rfl,rfl,1,fun w=>Tryz.sizeOf3 w,by decide⟩
theorem m_e:Fld Tryz.prog 33 3 3:=⟨_,_,Tryz.underlying33,rfl,rfl,1,fun w=>Tryz.sizeOf3 w,by decide⟩
theorem m_f:Fld Tryz.prog 48 0 0:=⟨_,_,Tryz.underlying48,rfl,rfl,1,fun w=>Tryz.sizeOf3 w,by decide⟩
theorem e_T:Fld Tryz.prog 48 2 2:=⟨_,_,Tryz.underlying48,rfl,rfl,1,fun w=>Tryz.sizeOf46 w,by decide⟩
theorem e_k:Fld Tryz.prog 54 0 0:=⟨_,_,Tryz.underlying54,rfl,rfl,1,fun w=>Tryz.sizeOf9 w,by decide⟩
theorem a_M:Fld Tryz.prog 54 1 1:=⟨_,_,Tryz.underlying54,rfl,rfl,1,fun w=>Tryz.sizeOf3 w,by decide⟩
theorem b_3:Fld Tryz.prog 54 2 2:=⟨_,_,Tryz.underlying54,rfl,rfl,1,fun w=>Tryz.sizeOf3 w,by decide⟩
theorem d_c:Fld Tryz.prog 54 3 3:=⟨_,_,Tryz.underlying54,rfl,rfl,1,fun w=>Tryz.sizeOf4 w,by decide⟩
theorem b_r:Fld Tryz.prog 54 4 4:=⟨_,_,Tryz.underlying54,rfl,rfl,1,fun w=>Tryz.sizeOf22 w,by decide⟩
theorem c_w:Fld Tryz.prog 54 5 5:=⟨_,_,Tryz.underlying54,rfl,rfl,1,fun w=>Tryz.sizeOf51 w,by decide⟩
theorem b_s:Fld Tryz.prog 54 6 6:=⟨_,_,Tryz.underlying54,rfl,rfl,1,fun w=>Tryz.sizeOf52 w,by decide⟩
theorem a_2:Fld Tryz.prog 54 7 7:=⟨_,_,Tryz.underlying54,rfl,rfl,1,fun w=>Tryz.sizeOf52 w,by decide⟩
theorem p_N:Fld Tryz.prog 58 0 0:=⟨_,_,Tryz.underlying58,rfl,rfl,1,fun w=>Tryz.sizeOf56 w,by decide⟩
theorem p_O:Fld Tryz.prog 60 0 0:=⟨_,_,Tryz.underlying60,rfl,rfl,1,fun w=>Tryz.sizeOf22 w,by decide⟩
theorem f_60_1:Fld Tryz.prog 60 1 1:=⟨_,_,Tryz.underlying60,rfl,rfl,1,fun w=>Tryz.sizeOf3 w,by decide⟩
theorem p_P:Fld Tryz.prog 62 0 0:=⟨_,_,Tryz.underlying62,rfl,rfl,1,fun w=>Tryz.sizeOf58 w,by decide⟩
theorem p_Q:Fld Tryz.prog 62 1 1:=⟨_,_,Tryz.underlying62,rfl,rfl,2,fun w=>Tryz.sizeOf60 w,by decide⟩
theorem c_j:Fld Tryz.prog 67 0 0:=⟨_,_,Tryz.underlying67,rfl,rfl,1,fun w=>Tryz.sizeOf65 w,by decide⟩
theorem c_k:Fld Tryz.prog 68 0 0:=⟨_,_,Tryz.underlying68,rfl,rfl,1,fun w=>Tryz.sizeOf22 w,by decide⟩
theorem e_l:Fld Tryz.prog 68 1 1:=⟨_,_,Tryz.underlying68,rfl,rfl,1,fun w=>Tryz.sizeOf3 w,by decide⟩
theorem d_v:Fld Tryz.prog 70 0 0:=⟨_,_,Tryz.underlying70,rfl,rfl,1,fun w=>Tryz.sizeOf67 w,by decide⟩
theorem d_d:Fld Tryz.prog 70 1 1:=⟨_,_,Tryz.underlying70,rfl,rfl,2,fun w=>Tryz.sizeOf68 w,by decide⟩
abbrev b_a:=@Tryz.sizeOf123
abbrev a_9:=@Tryz.sizeOf186
abbrev k_q:=@Tryz.sizeOf208
abbrev z_22:=@Tryz.sizeOf22
abbrev C_:=@Tryz.sizeOf235
abbrev z_24:=@Tryz.sizeOf24
abbrev E_:=@Tryz.sizeOf26
abbrev k_r:=@Tryz.sizeOf285
abbrev z_3:=@Tryz.sizeOf3
abbrev c_6:=@Tryz.sizeOf33
abbrev z_36:=@Tryz.sizeOf36
abbrev z_4:=@Tryz.sizeOf4
abbrev z_46:=@Tryz.sizeOf46
abbrev k_:=@Tryz.sizeOf48
abbrev z_5:=@Tryz.sizeOf5
abbrev c_H:=@Tryz.sizeOf51
abbrev z_52:=@Tryz.sizeOf52
abbrev u_:=@Tryz.sizeOf54
abbrev z_58:=@Tryz.sizeOf58
abbrev z_60:=@Tryz.sizeOf60
abbrev z_62:=@Tryz.sizeOf62
abbrev z_65:=@Tryz.sizeOf65
abbrev e_m:=@Tryz.sizeOf67
abbrev d_V:=@Tryz.sizeOf68
abbrev d_w:=@Tryz.sizeOf70
abbrev z_9:=@Tryz.sizeOf9
abbrev c_7:=@Tryz.underlying119
abbrev b_b:=@Tryz.underlying173
abbrev c_I:=@Tryz.underlying182
abbrev k_s:=@Tryz.underlying203
abbrev e_U:=@Tryz.underlying206
abbrev j_:=@Tryz.underlying22
abbrev e_n:=@Tryz.underlying223
abbrev d_226:=@Tryz.underlying226
abbrev d_228:=@Tryz.underlying228
abbrev a_b:=@Tryz.underlying24
abbrev m_g:=@Tryz.underlying252
abbrev d_3:=@Tryz.underlying3
abbrev c_8:=@Tryz.underlying36
abbrev d_4:=@Tryz.underlying4
abbrev d_46:=@Tryz.underlying46
abbrev d_5:=@Tryz.underlying5
abbrev G_:=@Tryz.underlying51
abbrev z_:=@Tryz.underlying52
abbrev e_V:=@Tryz.underlying56
abbrev b_B:=@Tryz.underlying65
abbrev d_9:=@Tryz.underlying9
theorem g_r (w:World):(zeroValue 123).run Tryz.prog w = .ok (.agg #[(Str.v ⟨[]⟩),.int .i64 0,(.slice none 0 0)]) w:=Tryz.zeroValue123 w
theorem e_o (w:World):(zeroValue 186).run Tryz.prog w = .ok (.agg #[(.int .i64 0),Str.v ⟨[]⟩,.int .i64 0,(.slice none 0 0)]) w:=Tryz.zeroValue186 w
theorem u_O (w:World):(zeroValue 226).run Tryz.prog w = .ok (.pointer none) w:=Tryz.zeroValue226 w
theorem b_U (w:World):(zeroValue 235).run Tryz.prog w = .ok (.agg #[(.int .i64 0),(.int .i64 0)]) w:=Tryz.zeroValue235 w
theorem m_h (w:World):(zeroValue 26).run Tryz.prog w = .ok (.agg #[(.slice none 0 0)]) w:=Tryz.zeroValue26 w
theorem p_R (w:World):(zeroValue 33).run Tryz.prog w = .ok (.agg #[(Str.v ⟨[]⟩),.int .i64 0,.int .i64 0,(.int .i64 0)]) w:=Tryz.zeroValue33 w
theorem p_S (w:World):(zeroValue 4).run Tryz.prog w = .ok (.bool false) w:=Tryz.zeroValue4 w
theorem a_s (w:World):(zeroValue 48).run Tryz.prog w = .ok (.agg #[(.int .i64 0),.slice none 0 0,(.slice none 0 0)]) w:=Tryz.zeroValue48 w
theorem k_t (w:World):(zeroValue 51).run Tryz.prog w = .ok (.slice none 0 0) w:=Tryz.zeroValue51 w
theorem c_x (w:World):(zeroValue 54).run Tryz.prog w = .ok (.agg #[(Str.v ⟨[]⟩),.int .i64 0,.int .i64 0,.bool false,.slice none 0 0,.slice none 0 0,.slice none 0 0,(.slice none 0 0)]) w:=Tryz.zeroValue54 w
theorem p_T (w:World):(zeroValue 67).run Tryz.prog w = .ok (.agg #[(.slice none 0 0)]) w:=Tryz.zeroValue67 w
theorem p_U (w:World):(zeroValue 68).run Tryz.prog w = .ok (.agg #[(.slice none 0 0),(.int .i64 0)]) w:=Tryz.zeroValue68 w
theorem m_i (w:World):(zeroValue 70).run Tryz.prog w = .ok (.agg #[(.slice none 0 0),.slice none 0 0,(.int .i64 0)]) w:=Tryz.zeroValue70 w
end Go.Vw
namespace Go.Vw
open Go.RowKit Dat Go.Proofs
/-- What the variables hold. -/
def GD (w:World):Prop:=Lib.TabIs Tryz.prog w "internal/strconv.uint64pow10" .u64 Lib.pow10Tab/\w.cell? ⟨0,0,none⟩=some (.iface 292 (.agg #[.pointer (some ⟨4,223,none⟩)]))
abbrev Gl:World->Zone->Prop:=GlW 4 GD
theorem gl_err {w:World}{B:Zone}(h:Gl w B):w.cell? ⟨0,0,none⟩=some (.iface 292<|.agg #[.pointer (some ⟨4,223,none⟩)]):=h.cell (fun _ h=>h.2) (by decide)
theorem gl_tab {w:World}{B:Zone}(h:Gl w B):Lib.TabIs Tryz.prog w "internal/strconv.uint64pow10" .u64 Lib.pow10Tab:=h.tab (fun _ h=>h.1) (by kernel_rfl:Tryz.prog.globalNamed "internal/strconv.uint64pow10" = some 1) (by decide)
def u_f (w0:World)(B:Zone)(r:Str)(v:Value)(w':World):Prop:=Below w0.heap.size w0 w'/\(fun h=>(Str.v h)=v/\h.b.length<=LEN) r
theorem u_g {B:Zone}{x1:Int}{res:Str}{w0:World}(hm:l_j x1=some res)(hBw:B<=w0.heap.size)(hG:Gl w0 B)(p1_0:inI x1):h_ Tryz.prog 245 [vI x1] w0 (u_f w0 B res):=by
  obtain rfl:=som hm;exact (r_m<|Tryz.strconv_Itoa x1 (by unfold inI at p1_0;omega) (by unfold inI at p1_0;omega) w0<|gl_tab hG).mono fun v w' h=>⟨h.2,h.1,Nat.le_trans (Lib.itoa_length_le x1 (by unfold inI at p1_0;omega) (by unfold inI at p1_0;omega))<|Nat.le_of_ble_eq_true rfl⟩
section
open Go.Extern.Stop Go.Stop Go.Extern
/-! ### errors.As at one target type (after the kit's worked example) -/
theorem as_nil (t:Value)(w:World):Calls Tryz.prog 192 #[.nilIface,t] w fun e w'=>e = .returned (.bool false)/\w'=w:=by
  go_enter Tryz.func192,Tryz.ntmps192
  go_wp2
  go_ret
  exact ⟨rfl,rfl⟩
theorem u_h (t:Addr)(w:World):(ReflectliteValue.unpack<|.iface 228<|.pointer<|some t).run Tryz.prog w
    = .ok (.agg #[.pointer (some ⟨4,228,none⟩),.pointer<|some ⟨w.heap.size,0,none⟩,.int .u64 150]) (w.alloc<|.cells #[.pointer (some t)] 228):=by kernel_rfl
theorem u_i (a:Addr)(w:World):(ReflectliteValue.methodAny (ReflectliteValue.valueError "reflectlite.Value.Type" 0) (fun t _ _ _=>ReflectliteType.toType t) #[.agg #[.pointer (some ⟨4,228,none⟩),.pointer (some a),.int .u64 150]]).run Tryz.prog w
    = .ok (.iface 292<|.agg #[.pointer (some ⟨4,228,none⟩)]) w:=by kernel_rfl
theorem u_j (h:Value)(w:World):(Go.method 457 292 (.agg #[h]) "Kind").run Tryz.prog w = .ok (308,h) w:=by kernel_rfl
theorem u_k (w:World):((ReflectliteType.abiMethod fun t=>Functor.map (fun a:Nat=>Value.int IntKind.u8 (a:Int))<|Rtype.kind t) #[.pointer (some ⟨4,228,none⟩)]).run Tryz.prog w = .ok (.int .u8 22) w:=by kernel_rfl
theorem u_l (w:World):((ReflectliteType.abiMethod fun t=>Functor.map (fun a:Nat=>Value.int IntKind.u8 (a:Int))<|Rtype.kind t) #[.pointer (some ⟨4,226,none⟩)]).run Tryz.prog w = .ok (.int .u8 22) w:=by kernel_rfl
theorem p_x (z:Sem Value)(f:TypeId->Addr->Nat->Nat->Sem Value)(v:Value) :
    ReflectliteValue.method z f #[v]=(do match ← ReflectliteValue.parts v with | none=>z | some (t,a,fl)=>f t a fl<|fl % 32):=rfl
theorem p_y (a:Addr)(w:World):(ReflectliteValue.parts<|.agg #[.pointer (some ⟨4,228,none⟩),.pointer<|some a,.int .u64 150]).run Tryz.prog w = .ok (some (228,a,150)) w:=by kernel_rfl
theorem u_m (a p:Addr)(W:World)(ha:W.cell? a=some (.pointer<|some p)) :
    (ReflectliteValue.method (ReflectliteValue.valueError "reflectlite.Value.IsNil" 0) ReflectliteValue.isNil #[.agg #[.pointer (some ⟨4,228,none⟩),.pointer (some a),.int .u64 150]]).run Tryz.prog W = .ok (.bool false) W:=by
  rw [p_x]
  simp only [Sem.run_bind,p_y,Result.andThen]
  simp [ReflectliteValue.isNil,loadVar,isAgg,underlying,Tryz.underlying228,ha,Result.andThen]
theorem u_n (h:Value)(w:World):(Go.method 457 292 (.agg #[h]) "Elem").run Tryz.prog w = .ok (319,.agg #[h]) w:=by kernel_rfl
theorem u_o (h:Value)(w:World):(Go.method 457 292 (.agg #[h]) "Implements").run Tryz.prog w = .ok (320,.agg #[h]) w:=by kernel_rfl
theorem u_p (h:Value)(w:World):(Go.method 457 292 (.agg #[h]) "AssignableTo").run Tryz.prog w = .ok (317,.agg #[h]) w:=by kernel_rfl
theorem u_q (w:World):(ReflectliteType.method ReflectliteType.elem #[.agg #[.pointer (some ⟨4,228,none⟩)]]).run Tryz.prog w = .ok (.iface 292<|.agg #[.pointer (some ⟨4,226,none⟩)]) w:=by kernel_rfl
theorem u_r (w:World):(ReflectliteType.relation "Implements" ReflectliteType.implements_ #[.agg #[.pointer (some ⟨4,226,none⟩)],.iface 292 (.agg #[.pointer (some ⟨4,223,none⟩)])]).run Tryz.prog w = .ok (.bool true) w:=by kernel_rfl
theorem u_s (v:Value)(w:World):(ReflectliteType.typeOf #[.iface 226 v]).run Tryz.prog w = .ok (.iface 292<|.agg #[.pointer (some ⟨4,226,none⟩)]) w:=by kernel_rfl
theorem u_t (w:World):(ReflectliteType.relation "AssignableTo" ReflectliteType.assignableTo #[.agg #[.pointer (some ⟨4,226,none⟩)],.iface 292 (.agg #[.pointer (some ⟨4,226,none⟩)])]).run Tryz.prog w = .ok (.bool true) w:=by kernel_rfl
theorem u_u (e:Addr)(w:World):(ReflectliteValue.unpack<|.iface 226<|.pointer<|some e).run Tryz.prog w
    = .ok (.agg #[.pointer (some ⟨4,226,none⟩),.pointer<|some ⟨w.heap.size,0,none⟩,.int .u64 150]) (w.alloc<|.cells #[.pointer (some e)] 226):=by kernel_rfl
theorem u_v (w:World):(Rtype.elem? 228).run Tryz.prog w = .ok (some 226) w:=by kernel_rfl
theorem u_w (p:Addr)(w:World):(ReflectliteValue.mk 226 p ReflectliteValue.flagAddr).run Tryz.prog w = .ok (.agg #[.pointer (some ⟨4,226,none⟩),.pointer<|some p,.int .u64 406]) w:=by kernel_rfl
theorem u_x (a p:Addr)(W:World)(ha:W.cell? a=some (.pointer<|some p)) :
    (ReflectliteValue.method (ReflectliteValue.valueError "reflectlite.Value.Elem" 0) ReflectliteValue.elem #[.agg #[.pointer (some ⟨4,228,none⟩),.pointer (some a),.int .u64 150]]).run Tryz.prog W
      = .ok (.agg #[.pointer (some ⟨4,226,none⟩),.pointer<|some p,.int .u64 406]) W:=by
  rw [p_x]
  simp only [Sem.run_bind,p_y,Result.andThen]
  simp [ReflectliteValue.elem,loadVar,isAgg,underlying,Tryz.underlying228,ha,Result.andThen,u_v,u_w]
theorem as_rls (v x:Value):ReflectliteValue.set #[v,x]=(do
    let (some (dst,a,fl),some (src,b,_)):=(← ReflectliteValue.parts v,← ReflectliteValue.parts x)
      | unsupported (.noEntry "extern/(internal/reflectlite.Value).Set.zeroValue")
    if fl / ReflectliteValue.flagAddr % 2==0 then unsupported (.noEntry "extern/(internal/reflectlite.Value).Set.unaddressable")
    let val ← loadVar src b
    if ← Rtype.directlyAssignable dst src then storeVar dst a val
    else if ← Rtype.implements dst src then
      if (← Rtype.kind src)==20 then
        match val with
        | .nilIface=>unsupported (.noEntry "extern/reflectlite: a nil value of one interface type handed on as a value of another")
        | _=>storeVar dst a val
      else storeVar dst a (.iface src val)
    else panicString ("reflectlite.Set: value of type " ++ (← Rtype.spelt src) ++ " is not assignable to type " ++ (← Rtype.spelt dst))
    pure (.tuple #[])):=rfl
theorem u_y (a:Addr)(w:World):(ReflectliteValue.parts<|.agg #[.pointer (some ⟨4,226,none⟩),.pointer<|some a,.int .u64 406]).run Tryz.prog w = .ok (some (226,a,406)) w:=by kernel_rfl
theorem u_z (a:Addr)(w:World):(ReflectliteValue.parts<|.agg #[.pointer (some ⟨4,226,none⟩),.pointer<|some a,.int .u64 150]).run Tryz.prog w = .ok (some (226,a,150)) w:=by kernel_rfl
theorem u_A (w:World):(Rtype.directlyAssignable 226 226).run Tryz.prog w = .ok true w:=by kernel_rfl
theorem as_size25 (w:World):(sizeOf 226).run Tryz.prog w = .ok 1 w:=by kernel_rfl
theorem u_B (ta b e:Addr)(old:Value)(W:World)(hb:W.cell? b=some (.pointer<|some e))(ht:W.cell? ta=some old)(hf:W.frozen? ta=false) :
    (ReflectliteValue.set #[.agg #[.pointer (some ⟨4,226,none⟩),.pointer<|some ta,.int .u64 406],.agg #[.pointer (some ⟨4,226,none⟩),.pointer<|some b,.int .u64 150]]).run Tryz.prog W
      = .ok (.tuple #[]) (W.setCell ta<|.pointer<|some e):=by
  rw [as_rls]
  simp only [Sem.run_bind,u_y,u_z,Result.andThen]
  simp [ReflectliteValue.flagAddr,loadVar,isAgg,underlying,Tryz.underlying226,hb,Result.andThen,u_A,storeVar,Value.cells,storeCells,Addr.add]
  rw [run_store Tryz.prog W ta _ _ (by rfl)]
  simp [ht,hf]
set_option maxHeartbeats 4000000 in
theorem as_hit (e t:Addr)(old:Value)(w:World)(hg:w.cell? ⟨0,0,none⟩=some (.iface 292<|.agg #[.pointer (some ⟨4,223,none⟩)]))(G:w.cell? t=some old)(H:w.frozen? t=false) :
    Calls Tryz.prog 192 #[.iface 226 (.pointer<|some e),.iface 228<|.pointer<|some t] w fun ev w'=>ev = .returned (.bool true)/\w'=((((w.alloc<|.cells #[.pointer (some t)] 228).alloc (.cells #[.pointer (some ⟨4,228,none⟩),.pointer<|some ⟨w.heap.size,0,none⟩,.int .u64 150] 271)).alloc (.cells #[.pointer (some ⟨4,228,none⟩),.pointer<|some ⟨w.heap.size,0,none⟩,.int .u64 150] 271)).alloc (.cells #[.pointer (some e)] 226)).setCell t (.pointer<|some e):=by
  have h6:=@run_callFunc_extern Tryz.prog 234 _ (fun args=>ReflectliteValue.unpack (args.getD 0 (.tuple #[]))) Tryz.func234 (by kernel_rfl) (by kernel_rfl) (by kernel_rfl) (by kernel_rfl);have h7:=@run_callFunc_extern Tryz.prog 235 _ (ReflectliteValue.methodAny (ReflectliteValue.valueError "reflectlite.Value.Type" 0) (fun t _ _ _=>ReflectliteType.toType t)) Tryz.func235 (by kernel_rfl) (by kernel_rfl) (by kernel_rfl) (by kernel_rfl)
  have h8:=@run_callFunc_extern Tryz.prog 236 _ (ReflectliteValue.method (ReflectliteValue.valueError "reflectlite.Value.IsNil" 0) ReflectliteValue.isNil) Tryz.func236 (by kernel_rfl) (by kernel_rfl) (by kernel_rfl) (by kernel_rfl)
  have I:=@run_callFunc_extern Tryz.prog 308 _ (ReflectliteType.abiMethod fun t=>do pure (.int .u8 (← Rtype.kind t))) Tryz.func308 (by kernel_rfl) (by kernel_rfl) (by kernel_rfl) (by kernel_rfl);have J:=@run_callFunc_extern Tryz.prog 319 _ (ReflectliteType.method ReflectliteType.elem) Tryz.func319 (by kernel_rfl) (by kernel_rfl) (by kernel_rfl) (by kernel_rfl);have L:=@run_callFunc_extern Tryz.prog 320 _ (ReflectliteType.relation "Implements" ReflectliteType.implements_) Tryz.func320 (by kernel_rfl) (by kernel_rfl) (by kernel_rfl) (by kernel_rfl)
  have O:=@run_callFunc_extern Tryz.prog 264 _ ReflectliteType.typeOf Tryz.func264 (by kernel_rfl) (by kernel_rfl) (by kernel_rfl) (by kernel_rfl);have V:=@run_callFunc_extern Tryz.prog 317 _ (ReflectliteType.relation "AssignableTo" ReflectliteType.assignableTo) Tryz.func317 (by kernel_rfl) (by kernel_rfl) (by kernel_rfl) (by kernel_rfl)
  have W:=@run_callFunc_extern Tryz.prog 265 _ (ReflectliteValue.method (ReflectliteValue.valueError "reflectlite.Value.Elem" 0) ReflectliteValue.elem) Tryz.func265 (by kernel_rfl) (by kernel_rfl) (by kernel_rfl) (by kernel_rfl)
  have Y:=@run_callFunc_extern Tryz.prog 266 _ ReflectliteValue.set Tryz.func266 (by kernel_rfl) (by kernel_rfl) (by kernel_rfl) (by kernel_rfl);have tO:=u_s;have mA:=u_p;have a0:=u_t;have a1:=u_u;have f6:=u_h;have f7:=u_i;have mK:=u_j;have mE:=u_n;have mI:=u_o;have a2:=u_k;have a3:=u_l;have a4:=u_q;have a5:=u_r;have n8:=u_m ⟨w.heap.size,0,none⟩ t ((w.alloc<|.cells #[.pointer (some t)] 228).alloc (.cells #[.pointer (some ⟨4,228,none⟩),.pointer<|some ⟨w.heap.size,0,none⟩,.int .u64 150] 271)) (by simp);have hlt:0<w.heap.size:=World.block_lt_of_cell? w _ hg
  have a6:((w.alloc<|.cells #[.pointer (some t)] 228).alloc (.cells #[.pointer (some ⟨4,228,none⟩),.pointer<|some ⟨w.heap.size,0,none⟩,.int .u64 150] 271)).cell? ⟨0,0,none⟩=some (.iface 292<|.agg #[.pointer (some ⟨4,223,none⟩)]):=by
    rw [World.cell?_alloc_lt _ _ ⟨0,0,none⟩ (by simp <;> omega),World.cell?_alloc_lt _ _ ⟨0,0,none⟩ hlt];exact hg
  have htl:t.block<w.heap.size:=by
    rcases Nat.lt_or_ge t.block w.heap.size with h | h
    · exact h
    · simp [World.cell?,Array.getElem?_eq_none h] at G
  have el:=u_x ⟨w.heap.size,0,none⟩ t (((w.alloc<|.cells #[.pointer (some t)] 228).alloc (.cells #[.pointer (some ⟨4,228,none⟩),.pointer<|some ⟨w.heap.size,0,none⟩,.int .u64 150] 271)).alloc (.cells #[.pointer (some ⟨4,228,none⟩),.pointer<|some ⟨w.heap.size,0,none⟩,.int .u64 150] 271)) (by rw [World.cell?_alloc_lt _ _ ⟨w.heap.size,0,none⟩ (by simp;omega)];simp)
  have st:=u_B t ⟨w.heap.size+1+1+1,0,none⟩ e old ((((w.alloc<|.cells #[.pointer (some t)] 228).alloc (.cells #[.pointer (some ⟨4,228,none⟩),.pointer<|some ⟨w.heap.size,0,none⟩,.int .u64 150] 271)).alloc (.cells #[.pointer (some ⟨4,228,none⟩),.pointer<|some ⟨w.heap.size,0,none⟩,.int .u64 150] 271)).alloc (.cells #[.pointer (some e)] 226))
    (by rw [World.cell?_alloc_at _ _ _ _ (by simp)];rfl)
    (by rw [World.cell?_alloc_lt _ _ t (by simp;omega),World.cell?_alloc_lt _ _ t (by simp;omega),World.cell?_alloc_lt _ _ t (by simp;omega),World.cell?_alloc_lt _ _ t htl];exact G)
    (by rw [World.frozen?_alloc_old _ _ t (by simp;omega),World.frozen?_alloc_old _ _ t (by simp;omega),World.frozen?_alloc_old _ _ t (by simp;omega),World.frozen?_alloc_old _ _ t<|Nat.ne_of_lt htl];exact H)
  go_enter Tryz.func192,Tryz.ntmps192
  go_wp2
  refine wp_loop_rounds 1 ?_
  rw [rounds_succ]
  go_wp2
  go_ret
  exact ⟨rfl,rfl⟩
theorem u_C {S:List Nat}{v t:Value}{w:World}{o:Option (Int×Int)}(h:a_I 226 w S v o)(ho:o.isSome=false):h_ Tryz.prog 192 [v,t] w (fun r w'=>vB false=r/\Below w.heap.size w w'):=by
  cases o with
  | some _=>cases ho
  | none =>
  obtain ⟨rfl,_⟩:=h;exact ⟨(as_nil t w).mono fun e w' ⟨he,hw⟩=>⟨_,he,rfl,hw ▸ Below.refl _ _⟩⟩
theorem u_D {S:List Nat}{v:Value}{w:World}{B:Zone}{g:Nat}{o:Option (Int×Int)}{p c:Int}(hG:Gl w B)(h:a_I 226 w S v o)(ho:o=some (p,c))(hb:Blk w g [.pointer none]) :
    h_ Tryz.prog 192 [v,.iface 228<|.pointer<|some ⟨g,0,none⟩] w (fun r w'=>∃ge,vB true=r/\Chg (· = g) w w'/\Blk w' g [.pointer (some ⟨ge,0,none⟩)]/\Blk w ge [vI p,vI c]/\ge∈S/\inI p/\inI c):=by
  subst ho;obtain ⟨b,rfl,rfl,hbk,hp,hc⟩:=h;refine ⟨(as_hit ⟨b,0,none⟩ ⟨g,0,none⟩ (.pointer none) w (gl_err hG) (hb.at rfl)<|hb.free (i:=0) Nat.zero_lt_one).mono fun e w' ⟨he,hw⟩=>⟨_,he,b,rfl,?_,?_,hbk,List.mem_singleton.2 rfl,hp,hc⟩⟩
  · subst hw;exact as_chg hb
  · subst hw;exact as_blk hb
end
end Go.Vw
