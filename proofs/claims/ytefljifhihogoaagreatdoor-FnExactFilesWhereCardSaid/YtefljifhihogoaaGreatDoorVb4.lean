
import Derived.Test.YtefljifhihogoaaGreatDoorV0
import Derived.Test.YtefljifhihogoaaGreatDoorProg
set_option linter.unusedVariables false
set_option linter.defProp false
namespace Go.Vw
open Go.RowKit Dat Go.Proofs Tryz
abbrev zeV (T:Nat)(v:Value):=∀w,(zeroValue T).run prog w = .ok v w
theorem fL {T U n:Nat}{fs:_}(k o:Nat)(h:prog.underlying T=some (.struct fs))(hs:∀w,(sizeOf U).run prog w = .ok n w)(hf:fs[k]?.map (λf=>(f.offset,f.type))=some (o,U):=by rfl)(hn:n ≠ 0:=by decide):Fld prog T k o:=by
  obtain ⟨f,a,b⟩:=QBF.1 hf
  cases b
  exact ⟨_,_,h,a,rfl,n,hs,hn⟩
theorem eL {T E n b:Nat}{z:Value}(h:prog.underlying T=some (.slice E))(i:(prog.info? E).map (λi=>(i.zero,i.size,i.bytes))=some (some z,n,b):=by kernel_rfl)(l:z.cells.size=n:=by rfl)(p:0<n:=by decide)(s:b<=32768:=by decide):El prog T E n b z:=⟨h,i,l,p,s⟩
theorem bL {T:Nat}{zs:List Value}{ps:List (Nat×Nat)}{fs:_}(z:zeV T (.agg zs.toArray))(h:prog.underlying T=some (.struct fs))(i:∀w,(fs.toList.mapM λf=>Functor.map (Prod.mk f.offset)<|sizeOf f.type).run prog w = .ok ps w:=by intro w;simp [sizeOf3,sizeOf9,sizeOf25,sizeOf31,sizeOf53,sizeOf77,sizeOf84]):b_H prog T zs ps:=⟨z,_,h,i⟩
theorem mo:prog.follows .mixedOrders=true:=by kernel_rfl
def shV (s:Value):Nat->Value
  | 1=>.iface 184<|.agg #[]
  | 2=>.iface 185<|.agg #[]
  | 5=>.iface 186<|.agg #[]
  | 6=>.iface 189<|.agg #[s]
  | 7=>.iface 190<|.agg #[]
  | 8=>.iface 192<|.agg #[]
  | 9=>.iface 193<|.agg #[]
  | 10=>.nilIface
  | _=>.iface 243<|.agg #[]
theorem taP {T i:Nat}{v:Value->Value}{fs:_}(hT:prog.underlying T=some (.struct fs))(hs:∀s,shV s i = .iface T (v s)){X:Nat->Prop}{N:Nat}{e:Env}{w:World}{dst:Option Tmp}{ty S:TypeId}{pos:String}{aft:Array Edge}{gd:Option (Nat×Bool)}{x:Operand}{s:Value}{k:Nat}(hx:ev e x=some (shV s k))(h:(k==i)=true):Rd X prog N ⟨dst,.typeAssert x S T true,ty,pos,aft,gd⟩ e w (.tuple #[v s,.bool true]):=λa ha w' _=>by
  obtain rfl:k=i:=by simpa using h
  simp [execOp,ha.ev hx,hs,Instr.typeAssert,run_underlying hT]
theorem taN {T i:Nat}{v:Value}{fs:_}(hT:prog.underlying T=some (.struct fs))(hz:∀w,(zeroValue T).run prog w = .ok v w)(hs:∀s k,k ≠ i->shV s k = .nilIface∨∃U u,shV s k = .iface U u/\U ≠ T){X:Nat->Prop}{N:Nat}{e:Env}{w:World}{dst:Option Tmp}{ty S:TypeId}{pos:String}{aft:Array Edge}{gd:Option (Nat×Bool)}{x:Operand}{s:Value}{k:Nat}(hx:ev e x=some (shV s k))(h:(k==i)=false):Rd X prog N ⟨dst,.typeAssert x S T true,ty,pos,aft,gd⟩ e w (.tuple #[v,.bool false]):=λa ha w' _=>by
  have hk:=hs s k (by simpa using h);have hz:=hz w'
  simp only [execOp,ha.ev hx]
  rcases hk with hk | ⟨U,u,hk,hU⟩ <;> simp_all [Instr.typeAssert,run_underlying hT]
def ta_184:=@taP 184 1 (λs=>.agg #[]) _ underlying184<|λ_=>rfl
def z_0:=@taN 184 1 (.agg #[]) _ underlying184 zeroValue184 (by intro s k h;unfold shV;split <;> simp_all)
def ta_185:=@taP 185 2 (λs=>.agg #[]) _ underlying185<|λ_=>rfl
def z_1:=@taN 185 2 (.agg #[]) _ underlying185 zeroValue185 (by intro s k h;unfold shV;split <;> simp_all)
def ta_186:=@taP 186 5 (λs=>.agg #[]) _ underlying186<|λ_=>rfl
def z_2:=@taN 186 5 (.agg #[]) _ underlying186 zeroValue186 (by intro s k h;unfold shV;split <;> simp_all)
def ta_189:=@taP 189 6 (λs=>.agg #[s]) _ underlying189<|λ_=>rfl
def z_6:=@taN 189 6 (.agg #[(.slice none 0 0)]) _ underlying189 zeroValue189 (by intro s k h;unfold shV;split <;> simp_all)
def ta_190:=@taP 190 7 (λs=>.agg #[]) _ underlying190<|λ_=>rfl
def z_7:=@taN 190 7 (.agg #[]) _ underlying190 zeroValue190 (by intro s k h;unfold shV;split <;> simp_all)
def ta_192:=@taP 192 8 (λs=>.agg #[]) _ underlying192<|λ_=>rfl
def z_8:=@taN 192 8 (.agg #[]) _ underlying192 zeroValue192 (by intro s k h;unfold shV;split <;> simp_all)
def ta_193:=@taP 193 9 (λs=>.agg #[]) _ underlying193<|λ_=>rfl
def z_a:=@taN 193 9 (.agg #[]) _ underlying193 zeroValue193 (by intro s k h;unfold shV;split <;> simp_all)
abbrev g_124:=@isAgg124
abbrev h_N:=@isAgg131
abbrev A_:=@isAgg156
abbrev G_:=@isAgg158
abbrev g_198:=@isAgg198
abbrev g_199:=@isAgg199
abbrev g_22:=@isAgg22
abbrev g_24:=@isAgg24
abbrev B_:=@isAgg25
abbrev a_o:=@isAgg256
abbrev g_27:=@isAgg27
abbrev g_29:=@isAgg29
abbrev g_3:=@isAgg3
abbrev a_A:=@isAgg31
abbrev c_Q:=@isAgg33
abbrev g_F:=@isAgg35
abbrev f_u:=@isAgg36
abbrev e_M:=@isAgg38
abbrev g_4:=@isAgg4
abbrev g_5:=@isAgg5
abbrev a_p:=@isAgg51
abbrev s_:=@isAgg53
abbrev e_N:=@isAgg55
abbrev b_L:=@isAgg75
abbrev g_77:=@isAgg77
abbrev f_v:=@isAgg81
abbrev a_S:=@isAgg84
abbrev x_:=@isAgg86
abbrev g_9:=@isAgg9
abbrev g_94:=@isAgg94
abbrev g_96:=@isAgg96
theorem z_b:b_H prog 119 [(.slice none 0 0),(.slice none 0 0)] [(0,1),(1,1)]:=bL zeroValue119 underlying119
theorem z_c:b_H prog 128 [(.int .i64 0),(.int .i64 0)] [(0,1),(1,1)]:=bL zeroValue128 underlying128
theorem o_M:b_H prog 148 [] []:=bL zeroValue148 underlying148
theorem z_d:b_H prog 154 [(.slice none 0 0),.slice none 0 0,(.slice none 0 0)] [(0,1),(1,1),(2,1)]:=bL zeroValue154 underlying154
theorem z_e:b_H prog 184 [] []:=bL zeroValue184 underlying184
theorem z_f:b_H prog 185 [] []:=bL zeroValue185 underlying185
theorem z_g:b_H prog 186 [] []:=bL zeroValue186 underlying186
theorem z_h:b_H prog 189 [(.slice none 0 0)] [(0,1)]:=bL zeroValue189 underlying189
theorem z_i:b_H prog 190 [] []:=bL zeroValue190 underlying190
theorem z_j:b_H prog 192 [] []:=bL zeroValue192 underlying192
theorem z_k:b_H prog 193 [] []:=bL zeroValue193 underlying193
theorem z_l:b_H prog 243 [] []:=bL zeroValue243 underlying243
theorem z_m:b_H prog 254 [(.slice none 0 0),.slice none 0 0,(.int .i64 0)] [(0,1),(1,1),(2,1)]:=bL zeroValue254 underlying254
theorem d_Q:b_H prog 256 [(.int .i64 0),(.int .i64 0)] [(0,1),(1,1)]:=bL zeroValue256 underlying256
theorem m_K:b_H prog 55 [(Str.v ⟨[]⟩),.int .i64 0,(.slice none 0 0)] [(0,1),(1,1),(2,1)]:=bL zeroValue55 underlying55
theorem e_O:b_H prog 75 [(.int .i64 0),Str.v ⟨[]⟩,.int .i64 0,(.slice none 0 0)] [(0,1),(1,1),(2,1),(3,1)]:=bL zeroValue75 underlying75
theorem i_T:b_H prog 81 [(Str.v ⟨[]⟩),.int .i64 0,.int .i64 0,(.int .i64 0)] [(0,1),(1,1),(2,1),(3,1)]:=bL zeroValue81 underlying81
theorem a_4:b_H prog 86 [(.int .i64 0),.slice none 0 0,(.slice none 0 0)] [(0,1),(1,1),(2,1)]:=bL zeroValue86 underlying86
theorem o_N:El prog 156 3 1 8 (.int .i64 0):=eL underlying156
theorem m_L:El prog 208 4 1 1 (.bool false):=eL underlying208
theorem M_:El prog 25 5 1 1 (.int .u8 0):=eL underlying25
theorem a_q:El prog 31 9 1 16 (Str.v ⟨[]⟩):=eL underlying31
theorem el_33:El prog 33 53 1 24 (.agg #[(.slice none 0 0)]):=eL underlying33
theorem c_R:El prog 47 55 3 48 (.agg #[(Str.v ⟨[]⟩),.int .i64 0,(.slice none 0 0)]):=eL underlying47
theorem el_51:El prog 51 158 8 136 (.agg #[(Str.v ⟨[]⟩),.int .i64 0,.int .i64 0,.bool false,.slice none 0 0,.slice none 0 0,.slice none 0 0,(.slice none 0 0)]):=eL underlying51
theorem i_U:El prog 71 75 4 56 (.agg #[(.int .i64 0),Str.v ⟨[]⟩,.int .i64 0,(.slice none 0 0)]):=eL underlying71
theorem d_t:El prog 77 81 4 40 (.agg #[(Str.v ⟨[]⟩),.int .i64 0,.int .i64 0,(.int .i64 0)]):=eL underlying77
theorem m_M:El prog 84 86 3 56 (.agg #[(.int .i64 0),.slice none 0 0,(.slice none 0 0)]):=eL underlying84
def t_k:=fL 0 0 underlying119 sizeOf53
def i_V:=fL 1 1 underlying119 sizeOf25
def z_n:=fL 0 0 underlying128 sizeOf3
def z_o:=fL 1 1 underlying128 sizeOf3
def l_2:=fL 0 0 underlying154 sizeOf53
def z_p:=fL 1 1 underlying154 sizeOf25
def l_3:=fL 2 2 underlying154 sizeOf77
def e_P:=fL 0 0 underlying158 sizeOf9
def a_r:=fL 1 1 underlying158 sizeOf3
def a_V:=fL 2 2 underlying158 sizeOf3
def e_k:=fL 3 3 underlying158 sizeOf4
def b_F:=fL 4 4 underlying158 sizeOf25
def c_r:=fL 5 5 underlying158 sizeOf31
def b_G:=fL 6 6 underlying158 sizeOf156
def Q_:=fL 7 7 underlying158 sizeOf156
def z_q:=fL 0 0 underlying189 sizeOf31
def t_l:=fL 0 0 underlying198 sizeOf9
def z_r:=fL 1 1 underlying198 sizeOf3
def z_s:=fL 2 2 underlying198 sizeOf3
def z_t:=fL 3 3 underlying198 sizeOf4
def t_m:=fL 4 4 underlying198 sizeOf25
def t_n:=fL 5 5 underlying198 sizeOf31
def t_o:=fL 6 6 underlying198 sizeOf156
def t_p:=fL 7 7 underlying198 sizeOf156
def t_q:=fL 0 0 underlying24 sizeOf22
def t_r:=fL 0 0 underlying254 sizeOf53
def f_w:=fL 1 1 underlying254 sizeOf25
def m_N:=fL 2 2 underlying254 sizeOf3
def e_l:=fL 0 0 underlying256 sizeOf3
def e_Q:=fL 1 1 underlying256 sizeOf3
def t_s:=fL 0 0 underlying27 sizeOf25
def f_27_1:=fL 1 1 underlying27 sizeOf3
def t_t:=fL 0 0 underlying29 sizeOf24
def t_u:=fL 1 1 underlying29 sizeOf27
def c_D:=fL 0 0 underlying35 sizeOf33
def c_E:=fL 0 0 underlying36 sizeOf25
def f_x:=fL 1 1 underlying36 sizeOf3
def d_R:=fL 0 0 underlying38 sizeOf35
def d_u:=fL 1 1 underlying38 sizeOf36
def a_l:=fL 0 0 underlying53 sizeOf51
def m_O:=fL 0 0 underlying55 sizeOf9
def t_v:=fL 1 1 underlying55 sizeOf3
def t_w:=fL 2 2 underlying55 sizeOf25
def d_S:=fL 0 0 underlying75 sizeOf3
def e_R:=fL 1 1 underlying75 sizeOf9
def d_T:=fL 2 2 underlying75 sizeOf3
def e_S:=fL 3 3 underlying75 sizeOf25
def l_4:=fL 0 0 underlying81 sizeOf9
def m_P:=fL 1 1 underlying81 sizeOf3
def t_x:=fL 2 2 underlying81 sizeOf3
def f_81_3:=fL 3 3 underlying81 sizeOf3
def c_0:=fL 0 0 underlying86 sizeOf3
def d_a:=fL 1 1 underlying86 sizeOf25
def a_O:=fL 2 2 underlying86 sizeOf84
def t_y:=fL 0 0 underlying96 sizeOf94
abbrev z_156:=@sizeOf156
abbrev l_:=@sizeOf158
abbrev z_184:=@sizeOf184
abbrev z_185:=@sizeOf185
abbrev z_186:=@sizeOf186
abbrev z_189:=@sizeOf189
abbrev z_190:=@sizeOf190
abbrev z_192:=@sizeOf192
abbrev z_193:=@sizeOf193
abbrev m_Q:=@sizeOf198
abbrev z_24:=@sizeOf24
abbrev z_25:=@sizeOf25
abbrev C_:=@sizeOf256
abbrev z_27:=@sizeOf27
abbrev z_29:=@sizeOf29
abbrev z_3:=@sizeOf3
abbrev d_v:=@sizeOf31
abbrev z_33:=@sizeOf33
abbrev e_T:=@sizeOf35
abbrev e_m:=@sizeOf36
abbrev d_U:=@sizeOf38
abbrev z_4:=@sizeOf4
abbrev z_5:=@sizeOf5
abbrev z_51:=@sizeOf51
abbrev n_:=@sizeOf53
abbrev b_b:=@sizeOf55
abbrev a_8:=@sizeOf75
abbrev z_77:=@sizeOf77
abbrev b_x:=@sizeOf81
abbrev z_84:=@sizeOf84
abbrev i_:=@sizeOf86
abbrev z_9:=@sizeOf9
abbrev z_96:=@sizeOf96
abbrev f_y:=@underlying121
abbrev d_124:=@underlying124
abbrev d_126:=@underlying126
abbrev o_O:=@underlying148
abbrev v_:=@underlying156
abbrev d_184:=@underlying184
abbrev d_185:=@underlying185
abbrev d_186:=@underlying186
abbrev d_189:=@underlying189
abbrev d_190:=@underlying190
abbrev d_192:=@underlying192
abbrev d_193:=@underlying193
abbrev b_y:=@underlying208
abbrev g_G:=@underlying22
abbrev m_R:=@underlying224
abbrev d_243:=@underlying243
abbrev h_:=@underlying25
abbrev d_3:=@underlying3
abbrev z_:=@underlying31
abbrev b_M:=@underlying33
abbrev d_4:=@underlying4
abbrev c_s:=@underlying47
abbrev d_5:=@underlying5
abbrev Y_:=@underlying51
abbrev d_w:=@underlying71
abbrev d_b:=@underlying77
abbrev b_0:=@underlying84
abbrev d_9:=@underlying9
abbrev g_H:=@underlying94
theorem z_u:zeV 124 (.pointer none):=zeroValue124
theorem c_t:zeV 158 (.agg #[(Str.v ⟨[]⟩),.int .i64 0,.int .i64 0,.bool false,.slice none 0 0,.slice none 0 0,.slice none 0 0,(.slice none 0 0)]):=zeroValue158
theorem z_v:zeV 184 (.agg #[]):=zeroValue184
theorem z_w:zeV 185 (.agg #[]):=zeroValue185
theorem z_x:zeV 186 (.agg #[]):=zeroValue186
theorem z_y:zeV 189 (.agg #[(.slice none 0 0)]):=zeroValue189
theorem z_z:zeV 190 (.agg #[]):=zeroValue190
theorem z_A:zeV 192 (.agg #[]):=zeroValue192
theorem z_B:zeV 193 (.agg #[]):=zeroValue193
theorem c_m:zeV 256 (.agg #[(.int .i64 0),(.int .i64 0)]):=zeroValue256
theorem m_S:zeV 31 (.slice none 0 0):=zeroValue31
theorem t_z:zeV 35 (.agg #[(.slice none 0 0)]):=zeroValue35
theorem t_A:zeV 36 (.agg #[(.slice none 0 0),(.int .i64 0)]):=zeroValue36
theorem o_P:zeV 38 (.agg #[(.slice none 0 0),.slice none 0 0,(.int .i64 0)]):=zeroValue38
theorem t_B:zeV 4 (.bool false):=zeroValue4
theorem o_Q:zeV 53 (.agg #[(.slice none 0 0)]):=zeroValue53
theorem i_W:zeV 55 (.agg #[(Str.v ⟨[]⟩),.int .i64 0,(.slice none 0 0)]):=zeroValue55
theorem f_z:zeV 75 (.agg #[(.int .i64 0),Str.v ⟨[]⟩,.int .i64 0,(.slice none 0 0)]):=zeroValue75
theorem l_5:zeV 81 (.agg #[(Str.v ⟨[]⟩),.int .i64 0,.int .i64 0,(.int .i64 0)]):=zeroValue81
theorem a_h:zeV 86 (.agg #[(.int .i64 0),.slice none 0 0,(.slice none 0 0)]):=zeroValue86
end Go.Vw
