
import Derived.Test.YtdaajhjijbcdcaaGreatDoorVmA
import Derived.Test.YtdaajhjijbcdcaaGreatDoorProg
set_option linter.unusedVariables false
namespace Go.Vw
open Go.RowKit Dat Go.Proofs
theorem mo:Tryz.prog.follows .mixedOrders=true:=by kernel_rfl
abbrev g_128:=@Tryz.isAgg128
abbrev a_t:=@Tryz.isAgg137
abbrev a_0:=@Tryz.isAgg22
abbrev S_:=@Tryz.isAgg24
abbrev B_:=@Tryz.isAgg26
abbrev g_29:=@Tryz.isAgg29
abbrev g_3:=@Tryz.isAgg3
abbrev d_B:=@Tryz.isAgg35
abbrev c_5:=@Tryz.isAgg36
abbrev D_:=@Tryz.isAgg38
abbrev g_4:=@Tryz.isAgg4
abbrev a_R:=@Tryz.isAgg41
abbrev F_:=@Tryz.isAgg42
abbrev M_:=@Tryz.isAgg44
abbrev g_5:=@Tryz.isAgg5
abbrev g_85:=@Tryz.isAgg85
abbrev g_9:=@Tryz.isAgg9
theorem r_e:c_I Tryz.prog 123 [(.slice none 0 0),(.slice none 0 0)] [(0,1),(1,1)]:=⟨λw=>Tryz.zeroValue123 w,_,Tryz.underlying123,λw=>by simp [Tryz.sizeOf22,Tryz.sizeOf26]⟩
theorem r_f:c_I Tryz.prog 132 [(.int .i64 0),(.int .i64 0)] [(0,1),(1,1)]:=⟨λw=>Tryz.zeroValue132 w,_,Tryz.underlying132,λw=>by simp [Tryz.sizeOf3]⟩
theorem r_g:c_I Tryz.prog 135 [(.slice none 0 0),.slice none 0 0,(.int .i64 0)] [(0,1),(1,1),(2,1)]:=⟨λw=>Tryz.zeroValue135 w,_,Tryz.underlying135,λw=>by simp [Tryz.sizeOf22,Tryz.sizeOf26,Tryz.sizeOf3]⟩
theorem c_T:c_I Tryz.prog 137 [(.int .i64 0),(.int .i64 0)] [(0,1),(1,1)]:=⟨λw=>Tryz.zeroValue137 w,_,Tryz.underlying137,λw=>by simp [Tryz.sizeOf3]⟩
theorem n_k:c_I Tryz.prog 26 [(.slice none 0 0)] [(0,1)]:=⟨λw=>Tryz.zeroValue26 w,_,Tryz.underlying26,λw=>by simp [Tryz.sizeOf24]⟩
theorem g_b:c_I Tryz.prog 35 [(Str.v ⟨[]⟩),.int .i64 0,.int .i64 0,(.int .i64 0)] [(0,1),(1,1),(2,1),(3,1)]:=⟨λw=>Tryz.zeroValue35 w,_,Tryz.underlying35,λw=>by simp [Tryz.sizeOf3,Tryz.sizeOf9]⟩
theorem a_9:c_I Tryz.prog 38 [(.int .i64 0),.slice none 0 0,(.slice none 0 0)] [(0,1),(1,1),(2,1)]:=⟨λw=>Tryz.zeroValue38 w,_,Tryz.underlying38,λw=>by simp [Tryz.sizeOf22,Tryz.sizeOf3,Tryz.sizeOf36]⟩
theorem r_h:c_I Tryz.prog 44 [(Str.v ⟨[]⟩),.int .i64 0,.int .i64 0,.bool false,.slice none 0 0,.slice none 0 0,.slice none 0 0,(.slice none 0 0)] [(0,1),(1,1),(2,1),(3,1),(4,1),(5,1),(6,1),(7,1)]:=⟨λw=>Tryz.zeroValue44 w,_,Tryz.underlying44,λw=>by simp [Tryz.sizeOf22,Tryz.sizeOf3,Tryz.sizeOf4,Tryz.sizeOf41,Tryz.sizeOf42,Tryz.sizeOf9]⟩
theorem r_i:c_I Tryz.prog 70 [(.slice none 0 0),.int .i64 0,(.int .i64 0)] [(0,1),(1,1),(2,1)]:=⟨λw=>Tryz.zeroValue70 w,_,Tryz.underlying70,λw=>by simp [Tryz.sizeOf22,Tryz.sizeOf3]⟩
theorem r_j:c_I Tryz.prog 77 [(.slice none 0 0),.slice none 0 0,(.slice none 0 0)] [(0,1),(1,1),(2,1)]:=⟨λw=>Tryz.zeroValue77 w,_,Tryz.underlying77,λw=>by simp [Tryz.sizeOf22,Tryz.sizeOf26,Tryz.sizeOf29]⟩
theorem a_3:El Tryz.prog 22 5 1 1 (.int .u8 0):=⟨Tryz.underlying22,by kernel_rfl,rfl,by decide,by decide⟩
theorem j_i:El Tryz.prog 24 44 8 136 (.agg #[(Str.v ⟨[]⟩),.int .i64 0,.int .i64 0,.bool false,.slice none 0 0,.slice none 0 0,.slice none 0 0,(.slice none 0 0)]):=⟨Tryz.underlying24,by kernel_rfl,rfl,by decide,by decide⟩
theorem d_C:El Tryz.prog 29 35 4 40 (.agg #[(Str.v ⟨[]⟩),.int .i64 0,.int .i64 0,(.int .i64 0)]):=⟨Tryz.underlying29,by kernel_rfl,rfl,by decide,by decide⟩
theorem d_c:El Tryz.prog 36 38 3 56 (.agg #[(.int .i64 0),.slice none 0 0,(.slice none 0 0)]):=⟨Tryz.underlying36,by kernel_rfl,rfl,by decide,by decide⟩
theorem a_5:El Tryz.prog 41 9 1 16 (Str.v ⟨[]⟩):=⟨Tryz.underlying41,by kernel_rfl,rfl,by decide,by decide⟩
theorem a_E:El Tryz.prog 42 3 1 8 (.int .i64 0):=⟨Tryz.underlying42,by kernel_rfl,rfl,by decide,by decide⟩
theorem j_j:El Tryz.prog 86 4 1 1 (.bool false):=⟨Tryz.underlying86,by kernel_rfl,rfl,by decide,by decide⟩
theorem eqa_35:EqA Tryz.prog 35 (λx:s_=>Value.agg #[x.path.v,vI x.rule,vI x.start,vI x.end_]):=⟨λx y=>⟨_,_,_,rfl,rfl,Tryz.underlying35,(show decide (x=y)=((x.path.b==y.path.b) && ((x.rule==y.rule) && ((x.start==y.start) && ((x.end_==y.end_) && true)))) from Bool.eq_iff_iff.2 (by cases x;cases y;simp [Str.beq_dec])) ▸ (.cons rfl Tryz.isAgg9 rfl rfl (.str Tryz.underlying9)<|.cons rfl Tryz.isAgg3 rfl rfl (.int Tryz.underlying3)<|.cons rfl Tryz.isAgg3 rfl rfl (.int Tryz.underlying3)<|.cons rfl Tryz.isAgg3 rfl rfl (.int Tryz.underlying3) .nil)⟩,by kernel_rfl,by kernel_rfl⟩
theorem n_l:Fld Tryz.prog 123 0 0:=⟨_,_,Tryz.underlying123,rfl,rfl,1,λw=>Tryz.sizeOf26 w,by decide⟩
theorem g_c:Fld Tryz.prog 123 1 1:=⟨_,_,Tryz.underlying123,rfl,rfl,1,λw=>Tryz.sizeOf22 w,by decide⟩
theorem r_k:Fld Tryz.prog 132 0 0:=⟨_,_,Tryz.underlying132,rfl,rfl,1,λw=>Tryz.sizeOf3 w,by decide⟩
theorem r_l:Fld Tryz.prog 132 1 1:=⟨_,_,Tryz.underlying132,rfl,rfl,1,λw=>Tryz.sizeOf3 w,by decide⟩
theorem n_m:Fld Tryz.prog 135 0 0:=⟨_,_,Tryz.underlying135,rfl,rfl,1,λw=>Tryz.sizeOf26 w,by decide⟩
theorem e_4:Fld Tryz.prog 135 1 1:=⟨_,_,Tryz.underlying135,rfl,rfl,1,λw=>Tryz.sizeOf22 w,by decide⟩
theorem j_k:Fld Tryz.prog 135 2 2:=⟨_,_,Tryz.underlying135,rfl,rfl,1,λw=>Tryz.sizeOf3 w,by decide⟩
theorem d_d:Fld Tryz.prog 137 0 0:=⟨_,_,Tryz.underlying137,rfl,rfl,1,λw=>Tryz.sizeOf3 w,by decide⟩
theorem d_D:Fld Tryz.prog 137 1 1:=⟨_,_,Tryz.underlying137,rfl,rfl,1,λw=>Tryz.sizeOf3 w,by decide⟩
theorem R_:Fld Tryz.prog 26 0 0:=⟨_,_,Tryz.underlying26,rfl,rfl,1,λw=>Tryz.sizeOf24 w,by decide⟩
theorem k_z:Fld Tryz.prog 35 0 0:=⟨_,_,Tryz.underlying35,rfl,rfl,1,λw=>Tryz.sizeOf9 w,by decide⟩
theorem j_l:Fld Tryz.prog 35 1 1:=⟨_,_,Tryz.underlying35,rfl,rfl,1,λw=>Tryz.sizeOf3 w,by decide⟩
theorem n_n:Fld Tryz.prog 35 2 2:=⟨_,_,Tryz.underlying35,rfl,rfl,1,λw=>Tryz.sizeOf3 w,by decide⟩
theorem n_o:Fld Tryz.prog 35 3 3:=⟨_,_,Tryz.underlying35,rfl,rfl,1,λw=>Tryz.sizeOf3 w,by decide⟩
theorem d_E:Fld Tryz.prog 38 0 0:=⟨_,_,Tryz.underlying38,rfl,rfl,1,λw=>Tryz.sizeOf3 w,by decide⟩
theorem c_U:Fld Tryz.prog 38 1 1:=⟨_,_,Tryz.underlying38,rfl,rfl,1,λw=>Tryz.sizeOf22 w,by decide⟩
theorem b_p:Fld Tryz.prog 38 2 2:=⟨_,_,Tryz.underlying38,rfl,rfl,1,λw=>Tryz.sizeOf36 w,by decide⟩
theorem e_C:Fld Tryz.prog 44 0 0:=⟨_,_,Tryz.underlying44,rfl,rfl,1,λw=>Tryz.sizeOf9 w,by decide⟩
theorem a_G:Fld Tryz.prog 44 1 1:=⟨_,_,Tryz.underlying44,rfl,rfl,1,λw=>Tryz.sizeOf3 w,by decide⟩
theorem a_W:Fld Tryz.prog 44 2 2:=⟨_,_,Tryz.underlying44,rfl,rfl,1,λw=>Tryz.sizeOf3 w,by decide⟩
theorem c_F:Fld Tryz.prog 44 3 3:=⟨_,_,Tryz.underlying44,rfl,rfl,1,λw=>Tryz.sizeOf4 w,by decide⟩
theorem a_X:Fld Tryz.prog 44 4 4:=⟨_,_,Tryz.underlying44,rfl,rfl,1,λw=>Tryz.sizeOf22 w,by decide⟩
theorem b_K:Fld Tryz.prog 44 5 5:=⟨_,_,Tryz.underlying44,rfl,rfl,1,λw=>Tryz.sizeOf41 w,by decide⟩
theorem b_3:Fld Tryz.prog 44 6 6:=⟨_,_,Tryz.underlying44,rfl,rfl,1,λw=>Tryz.sizeOf42 w,by decide⟩
theorem Q_:Fld Tryz.prog 44 7 7:=⟨_,_,Tryz.underlying44,rfl,rfl,1,λw=>Tryz.sizeOf42 w,by decide⟩
theorem n_p:Fld Tryz.prog 70 0 0:=⟨_,_,Tryz.underlying70,rfl,rfl,1,λw=>Tryz.sizeOf22 w,by decide⟩
theorem j_m:Fld Tryz.prog 70 1 1:=⟨_,_,Tryz.underlying70,rfl,rfl,1,λw=>Tryz.sizeOf3 w,by decide⟩
theorem j_n:Fld Tryz.prog 70 2 2:=⟨_,_,Tryz.underlying70,rfl,rfl,1,λw=>Tryz.sizeOf3 w,by decide⟩
theorem h_R:Fld Tryz.prog 77 0 0:=⟨_,_,Tryz.underlying77,rfl,rfl,1,λw=>Tryz.sizeOf26 w,by decide⟩
theorem f_77_1:Fld Tryz.prog 77 1 1:=⟨_,_,Tryz.underlying77,rfl,rfl,1,λw=>Tryz.sizeOf22 w,by decide⟩
theorem h_S:Fld Tryz.prog 77 2 2:=⟨_,_,Tryz.underlying77,rfl,rfl,1,λw=>Tryz.sizeOf29 w,by decide⟩
abbrev J_:=@Tryz.sizeOf137
abbrev e_D:=@Tryz.sizeOf22
abbrev z_24:=@Tryz.sizeOf24
abbrev z_:=@Tryz.sizeOf26
abbrev z_29:=@Tryz.sizeOf29
abbrev z_3:=@Tryz.sizeOf3
abbrev b_e:=@Tryz.sizeOf35
abbrev f_i:=@Tryz.sizeOf36
abbrev l_:=@Tryz.sizeOf38
abbrev z_4:=@Tryz.sizeOf4
abbrev b_U:=@Tryz.sizeOf41
abbrev c_p:=@Tryz.sizeOf42
abbrev p_:=@Tryz.sizeOf44
abbrev z_5:=@Tryz.sizeOf5
abbrev z_9:=@Tryz.sizeOf9
abbrev j_o:=@Tryz.underlying112
abbrev e_5:=@Tryz.underlying125
abbrev d_128:=@Tryz.underlying128
abbrev d_130:=@Tryz.underlying130
abbrev w_:=@Tryz.underlying22
abbrev K_:=@Tryz.underlying24
abbrev b_V:=@Tryz.underlying29
abbrev d_3:=@Tryz.underlying3
abbrev c_V:=@Tryz.underlying36
abbrev N_:=@Tryz.underlying41
abbrev G_:=@Tryz.underlying42
abbrev d_5:=@Tryz.underlying5
abbrev b_l:=@Tryz.underlying86
abbrev d_9:=@Tryz.underlying9
theorem r_m (w:World):(zeroValue 128).run Tryz.prog w = .ok (.pointer none) w:=Tryz.zeroValue128 w
theorem b_L (w:World):(zeroValue 137).run Tryz.prog w = .ok (.agg #[(.int .i64 0),(.int .i64 0)]) w:=Tryz.zeroValue137 w
theorem e_6 (w:World):(zeroValue 26).run Tryz.prog w = .ok (.agg #[(.slice none 0 0)]) w:=Tryz.zeroValue26 w
theorem j_p (w:World):(zeroValue 35).run Tryz.prog w = .ok (.agg #[(Str.v ⟨[]⟩),.int .i64 0,.int .i64 0,(.int .i64 0)]) w:=Tryz.zeroValue35 w
theorem a_k (w:World):(zeroValue 38).run Tryz.prog w = .ok (.agg #[(.int .i64 0),.slice none 0 0,(.slice none 0 0)]) w:=Tryz.zeroValue38 w
theorem n_q (w:World):(zeroValue 4).run Tryz.prog w = .ok (.bool false) w:=Tryz.zeroValue4 w
theorem j_q (w:World):(zeroValue 41).run Tryz.prog w = .ok (.slice none 0 0) w:=Tryz.zeroValue41 w
theorem b_M (w:World):(zeroValue 44).run Tryz.prog w = .ok (.agg #[(Str.v ⟨[]⟩),.int .i64 0,.int .i64 0,.bool false,.slice none 0 0,.slice none 0 0,.slice none 0 0,(.slice none 0 0)]) w:=Tryz.zeroValue44 w
end Go.Vw
