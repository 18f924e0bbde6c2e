
import Derived.Test.YtgpgenigfncgeaaGreatDoorVi
namespace Go.Vw
open Go.RowKit Dat
theorem g_y {s:Bt}{i:Nat}(h:i<s.length):idx s (i:Int)=some (s.getD i 0):=by
 rw [ix_ h,gD_,gG_ h];rfl
theorem m_R {s:Bt}{i:Nat}(h:i<s.length):s[i]? = some (s.getD i 0):=by
 rw [gD_,gG_ h];rfl
theorem m_S {s:Bt}{i j:Nat}(h:i<j):(s.take j).getD i 0=s.getD i 0:=by
 rw [gD_,gD_,List.getElem?_take,iP_ h]
theorem u_z {b:Bt}{k i:Nat}:(b.drop k).getD i 0=b.getD (k+i) 0:=by
 rw [gD_,gD_,f_B]
def nmS (s:Bt):Nat:=(s.getD 1 0).toNat
def szS (s:Bt):Nat:=256 * (s.getD (nmS s+3) 0).toNat+(s.getD (nmS s+4) 0).toNat
theorem p_N (s:Bt):nmS s<256:=(s.getD 1 0).toNat_lt
theorem p_O (s:Bt):szS s<65536:=by
 unfold szS;have h1:=(s.getD (nmS s+3) 0).toNat_lt;have h2:=(s.getD (nmS s+4) 0).toNat_lt
 omega
theorem u_A {s:Bt}(h:s.length<2):c_y s=none:=by
 unfold c_y;rw [gN_ (by omega)]
theorem u_B {s:Bt}(h:2<=s.length):c_y s=if nmS s+6+szS s<=s.length then some (nmS s+6+szS s) else none:=by
 unfold c_y
 rw [m_R (show 1<s.length by omega)]
 simp only
 by_cases h1:nmS s+4<s.length
 .have H:=m_R (show nmS s+3<s.length by omega);have G:=m_R h1;unfold nmS at H G
  rw [H,G];rfl
 .rw [iN_ (by omega)]
  have G:s[(s.getD 1 0).toNat+4]? = none:=gN_ (by unfold nmS at h1;omega)
  rw [G]
  cases s[(s.getD 1 0).toNat+3]? <;> rfl
def a_D (s data:Bt):p_:=⟨byteI<|s.getD 0 0,⟨(s.drop 2).take (nmS s)⟩,byteI<|s.getD (nmS s+2) 0,data⟩
def pkS (s:Bt):Bt:=(s.drop<|nmS s+5).take (szS s)
theorem p_P {s:Bt}(h:2<=s.length):a_N s=if nmS s+6+szS s<=s.length then (match d_y (pkS s) with
  | none=>none
  | some data=>if b_n (a_D s data)=true/\b_0 (a_D s data)=s.take (nmS s+6+szS s) then some (a_D s data,nmS s+6+szS s) else none) else none:=by
 unfold a_N
 rw [u_B h]
 by_cases hl:nmS s+6+szS s<=s.length
 .rw [iP_ hl,iP_ hl]
  simp only
  have G:(s.take<|nmS s+6+szS s).getD 1 0=s.getD 1 0:=m_S (by omega);have H:(s.take<|nmS s+6+szS s).getD 0 0=s.getD 0 0:=m_S (by omega);have I:(s.take<|nmS s+6+szS s).getD (nmS s+2) 0=s.getD (nmS s+2) 0:=m_S (by omega);have hn:((s.take<|nmS s+6+szS s).getD 1 0).toNat=nmS s:=by rw [G];rfl
  have ep:m_L (s.take<|nmS s+6+szS s)=pkS s:=by
   unfold m_L pkS
   rw [hn,List.length_take,Nat.min_eq_left hl,List.drop_take,List.take_take]
   congr 1
   omega
  have er:∀data,h_U (s.take<|nmS s+6+szS s) data=a_D s data:=by
   intro data;unfold h_U a_D
   rw [hn,H,I,List.drop_take,List.take_take,show min (nmS s) (nmS s+6+szS s - 2)=nmS s by omega]
  unfold k_S
  rw [ep]
  cases d_y (pkS s) with
  | none=>rfl
  | some data =>
   simp only [er]
   by_cases hv:b_n (a_D s data)=true/\b_0 (a_D s data)=s.take (nmS s+6+szS s)
   .rw [iP_ hv,iP_ hv]
   .rw [iN_ hv,iN_ hv]
 .rw [iN_ hl,iN_ hl]
theorem k_X {s:Bt}(h:s.length<2):a_N s=none:=by unfold a_N;rw [u_A h]
def zeroR:p_:=⟨0,⟨[]⟩,0,[]⟩
def e_Z (k:Nat):Option (p_×Nat)->p_×Int×Bool
 | some (r,j)=>(r,((k+j:Nat):Int),true)
 | none=>(zeroR,(k:Int),false)
theorem u_C (x y:Bt):h_a x y=some (x==y):=by
 unfold h_a
 by_cases hl:x.length=y.length
 .rw [show ((x.length:Int) != (y.length:Int))=false by simp [hl]]
  simp only [bF_,fF_]
  rw [e_y (λk=>decide (x[k]? ≠ y[k]?)) false (λk hk _=>by
   rw [ix_ hk,ix_ (show k<y.length by omega),bd_some,bd_some]
   rw [show ((byteI x[k]) != (byteI (y[k]'(by omega))))=decide (x[k]? ≠ y[k]?) by
    rw [gG_ hk,gG_ (show k<y.length by omega),Bool.eq_iff_iff,bne_iff_ne,dE_,ne_eq,ne_eq,g_E,oI_]]
   by_cases h:x[k]? ≠ y[k]?
   .rw [dT_ h];rfl
   .rw [dF_ h];rfl),bd_some]
  by_cases h:x=y
  .subst h
   rw [show ((List.range x.length).any λk=>decide<|x[k]? ≠ x[k]?)=false by rw [List.any_eq_false];intro k _;simp]
   simp [el]
  .rw [show ((List.range x.length).any λk=>decide (x[k]? ≠ y[k]?))=true by
    rw [List.any_eq_true]
    refine Classical.byContradiction λhn=>h<|List.ext_getElem? λi=>Classical.byContradiction λhi=>hn ⟨i,List.mem_range.2 ?_,dT_ hi⟩
    refine Classical.byContradiction λhlt=>hi ?_
    rw [gN_ (by omega),gN_ (by omega)]]
   simp [el,h]
 .rw [show ((x.length:Int) != (y.length:Int))=true by rw [bne_iff_ne];omega,iP_ rfl]
  congr 1
  symm;rw [beq_eq_false_iff_ne];rintro rfl;exact hl rfl
theorem u_D (h l:UInt8):c_1 .i64 (· ||| ·) (b_y .i64 (byteI h) 8) (byteI l)=((256 * h.toNat+l.toNat:Nat):Int):=by
 rw [m_B (f_p h) (by have:=f_o h;omega)]
 unfold b_T byteI;omega
theorem u_E {l:Bt}{m:Nat}(h:m<=l.length):cpy (List.replicate m 0) l=l.take m:=by
 unfold cpy
 rw [List.length_replicate,List.drop_of_length_le (by rw [List.length_replicate];exact h),List.append_nil]
theorem p_Q {b:Bt}{k:Nat}(h:k<=b.length):slc b (k:Int) (b.length:Int)=some (b.drop k):=by
 have:=e_X (b:=b) (k:=k) (j:=b.length - k) (by omega)
 rw [show ((k+(b.length - k):Nat):Int)=(b.length:Int) by omega] at this
 rw [this,List.take_of_length_le (by rw [List.length_drop];omega)]
theorem p_R {b:Bt}(hb:b.length<=ML){k:Nat}(hk:k<=b.length){n:Nat}(hn:1060100<=n):f_i n b (k:Int)=some (e_Z k<|a_N<|b.drop k):=by
 have hML:=MLv;have hMX:=MXv;have hLIM:=a_o;unfold f_i;have hdl:(b.drop k).length=b.length - k:=List.length_drop
 rw [dF_ (show ¬(k:Int)<0 by omega),dF_ (show ¬(b.length:Int)<(k:Int) by omega)]
 simp only [bF_,fF_,bd_some]
 rw [a_y (by omega) (by omega)]
 by_cases h2:b.length - k<2
 .rw [dT_ (by omega),iP_ rfl,k_X (by omega)];rfl
 rw [dF_ (by omega),iN_ (by simp),p_Q hk,bd_some]
 generalize hs:b.drop k=s at *
 have hc:=p_N s;have hz:=p_O s;have hbn:byteI (s.getD 1 0)=(nmS s:Int):=rfl
 rw [show (1:Int)=((1:Nat):Int) from rfl,g_y (show 1<s.length by omega),bd_some,hbn,p_P (by omega)]
 rw [ia_ (y:=6) (by omega) (by omega)]
 by_cases h6:s.length<nmS s+6
 .rw [dT_ (by omega),iP_ rfl,iN_ (by omega)];rfl
 rw [dF_ (by omega),iN_ (by simp),ia_ (y:=3) (by omega) (by omega),ia_ (y:=4) (by omega) (by omega)]
 rw [show ((nmS s:Int)+3)=((nmS s+3:Nat):Int) by omega,show ((nmS s:Int)+4)=((nmS s+4:Nat):Int) by omega,g_y (by omega),bd_some,g_y (by omega),bd_some,u_D]
 rw [show 256 * (s.getD (nmS s+3) 0).toNat+(s.getD (nmS s+4) 0).toNat=szS s from rfl]
 rw [show ((nmS s:Int)+6)=((nmS s+6:Nat):Int) by omega,ia_ (x:=((nmS s+6:Nat):Int)) (by omega) (by omega)]
 by_cases hl:nmS s+6+szS s<=s.length
 .rw [dF_ (by omega),iN_ (by simp),iP_ hl,f_H (by omega),bd_some,ia_ (y:=5) (by omega) (by omega),show ((nmS s:Int)+5)=((nmS s+5:Nat):Int) by omega,p_Q (by omega),bd_some,u_E (by rw [List.length_drop];omega)]
  rw [show (s.drop<|nmS s+5).take (szS s)=pkS s from rfl]
  have hpl:(pkS s).length<=65536:=by unfold pkS;rw [List.length_take];omega
  rw [u_t (by omega) (by omega)]
  rw [show (0:Int)=((0:Nat):Int) from rfl,g_y (show 0<s.length by omega)]
  rw [ia_ (x:=2) (by omega) (by omega),show (2:Int)+(nmS s:Int)=((2+nmS s:Nat):Int) by omega,show (2:Int)=((2:Nat):Int) from rfl,e_X (by omega)]
  rw [ia_ (y:=((2:Nat):Int)) (by omega) (by omega),show (nmS s:Int)+((2:Nat):Int)=((nmS s+2:Nat):Int) by omega,g_y (show nmS s+2<s.length by omega)]
  rw [show slc s ((0:Nat):Int) (((nmS s+6:Nat):Int)+(szS s:Int))=some (s.take (nmS s+6+szS s)) by
   have:=e_X (b:=s) (k:=0) (j:=nmS s+6+szS s) (by omega)
   rw [Nat.zero_add,List.drop_zero] at this
   rw [← this];congr 1]
  cases hu:d_y (pkS s) with
  | none=>rfl
  | some data =>
   simp only [bd2_some,bd_some,nT_,bF_,fF_]
   rw [show (⟨byteI<|s.getD 0 0,(⟨(s.drop 2).take (nmS s)⟩:Str),byteI<|s.getD (nmS s+2) 0,data⟩:p_)=a_D s data from rfl]
   rw [p_K (by omega),u_y (by omega)]
   simp only [bd_some]
   cases hv:b_n (a_D s data) with
   | false =>
    simp only [Bool.not_false,fT_,bd_some,bF_,false_and,fF_];rfl
   | true =>
    simp only [nT_,bF_,fF_,true_and]
    rw [show l_g (b_0<|a_D s data) (s.take<|nmS s+6+szS s)=some (b_0 (a_D s data)==s.take (nmS s+6+szS s)) from rfl,bd_some,bd_some]
    by_cases he:b_0 (a_D s data)=s.take (nmS s+6+szS s)
    .rw [show (b_0 (a_D s data)==s.take (nmS s+6+szS s))=true by simpa using he,iN_ (by simp),iP_ he]
     unfold e_Z
     simp only
     rw [ia_ (x:=(k:Int)) (y:=(nmS s:Int)) (by omega) (by omega),ia_ (x:=(k:Int)+(nmS s:Int)) (by omega) (by omega),ia_ (x:=(k:Int)+(nmS s:Int)+6) (by omega) (by omega)]
     rw [show (k:Int)+(nmS s:Int)+6+(szS s:Int)=((k+(nmS s+6+szS s):Nat):Int) by omega]
    .rw [show (b_0 (a_D s data)==s.take (nmS s+6+szS s))=false by simpa using he,show (!false)=true from rfl,iP_ rfl,iN_ he];rfl
 .rw [dT_ (by omega),iP_ rfl,iN_ hl];rfl
theorem u_F {s:Bt}(hl:nmS s+6+szS s<=s.length)(hu:d_y (pkS s)=none):¬b_0 (a_D s [])=s.take (nmS s+6+szS s):=by
 intro he;have hv:b_n (a_D s [])=true:=u_f.1 (by rw [he];intro h;have:=congrArg List.length h;rw [List.length_take,Nat.min_eq_left hl,List.length_nil] at this;omega);have h1:=p_u hv
 rw [he] at h1
 have h2:(a_D s []).name.b.length=nmS s:=by simp only [a_D,List.length_take,List.length_drop];omega
 have h3:(c_x (a_D s []).data).length=0:=rfl
 rw [h2,h3,List.length_take] at h1
 have h4:szS s=0:=by omega
 unfold pkS at hu
 rw [h4,List.take_zero,u_c] at hu
 cases hu
theorem u_G {s:Bt}{i:Nat}(h:i+2<=s.length):(s.drop i).take 2=[s.getD i 0,s.getD (i+1) 0]:=by
 rw [dC_ (by omega),dC_ (by omega)]
 simp only [List.take_succ_cons,List.take_zero]
 rw [gD_,gD_,gG_,gG_]
 rfl
theorem u_H (h l:UInt8):e_2 [h,l] false=((256 * h.toNat+l.toNat:Nat):Int):=by
 simp only [e_2,bF_,fF_,List.foldl_cons,List.foldl_nil,b_T,byteI]
 omega
theorem slc_in {b:Bt}{k i j:Nat}(h:k+i+j<=b.length):slc b ((k+i:Nat):Int) ((k+i+j:Nat):Int)=some (((b.drop k).drop i).take j):=by
 rw [e_X h,List.drop_drop]
theorem u_I {b:Bt}(hb:b.length<=ML){k:Nat}(hk:k<=b.length){n:Nat}(hn:1060100<=n):h_b n b (k:Int)=some (e_Z k<|a_N<|b.drop k):=by
 have hML:=MLv;have hMX:=MXv;have hLIM:=a_o;unfold h_b;have hdl:(b.drop k).length=b.length - k:=List.length_drop
 rw [b_u,a_y (by omega) (by omega),dT_ (show (0:Int)<=(k:Int) by omega),bd_some,Bool.true_and]
 by_cases h2:b.length - k<2
 .rw [dF_ (by omega),k_X (by omega)];rfl
 rw [dT_ (by omega)]
 simp only [nT_,bF_,fF_]
 have hg:∀i,k+i<b.length->idx b ((k+i:Nat):Int)=some ((b.drop k).getD i 0):=λi hi=>by rw [g_y hi,u_z]
 have hsl:∀i j,k+i+j<=b.length->slc b ((k+i:Nat):Int) ((k+i+j:Nat):Int)=some (((b.drop k).drop i).take j):=λi j h=>slc_in h
 generalize hs:b.drop k=s at *
 have hc:=p_N s;have hz:=p_O s;have hbn:byteI (s.getD 1 0)=(nmS s:Int):=rfl
 rw [ia_ (x:=(k:Int)) (y:=1) (by omega) (by omega),show ((k:Int)+1)=((k+1:Nat):Int) by omega,hg 1 (by omega),bd_some,hbn,p_P (by omega)]
 rw [ia_ (x:=(k:Int)) (y:=2) (by omega) (by omega),show ((k:Int)+2)=((k+2:Nat):Int) by omega]
 rw [ia_ (x:=((k+2:Nat):Int)) (y:=(nmS s:Int)) (by omega) (by omega),show (((k+2:Nat):Int)+(nmS s:Int))=((k+(2+nmS s):Nat):Int) by omega]
 rw [ia_ (x:=((k+(2+nmS s):Nat):Int)) (y:=3) (by omega) (by omega),ia_ (x:=((k+(2+nmS s):Nat):Int)) (y:=1) (by omega) (by omega)]
 by_cases h5:s.length<nmS s+5
 .rw [dT_ (by omega),iP_ rfl,iN_ (by omega)];rfl
 rw [dF_ (by omega),iN_ (by simp)]
 rw [show (((k+(2+nmS s):Nat):Int)+1)=((k+(nmS s+3):Nat):Int) by omega,show (((k+(2+nmS s):Nat):Int)+3)=((k+(nmS s+3)+2:Nat):Int) by omega,hsl (nmS s+3) 2 (by omega),bd_some,u_G (by omega),o_V _ _ (by simp),bd_some,u_H]
 rw [show 256 * (s.getD (nmS s+3) 0).toNat+(s.getD (nmS s+3+1) 0).toNat=szS s from rfl]
 rw [show ((k+(nmS s+3)+2:Nat):Int)=((k+(nmS s+5):Nat):Int) by omega,ia_ (x:=((k+(nmS s+5):Nat):Int)) (y:=(szS s:Int)) (by omega) (by omega),show (((k+(nmS s+5):Nat):Int)+(szS s:Int))=((k+(nmS s+5)+szS s:Nat):Int) by omega]
 by_cases hl:nmS s+6+szS s<=s.length
 .rw [dF_ (by omega),iN_ (by simp),iP_ hl,hsl (nmS s+5) (szS s) (by omega),bd_some]
  rw [show (s.drop<|nmS s+5).take (szS s)=pkS s from rfl]
  have hpl:(pkS s).length<=65536:=by unfold pkS;rw [List.length_take];omega
  rw [u_u (by omega) (by omega)]
  have G:=hg 0 (by omega)
  rw [Nat.add_zero] at G
  have hm:=hsl 2 (nmS s) (by omega)
  rw [show ((k+2+nmS s:Nat):Int)=((k+(2+nmS s):Nat):Int) by omega] at hm
  have he:=hsl 0 (nmS s+6+szS s) (by omega)
  rw [Nat.add_zero,List.drop_zero] at he
  rw [G,hm,hg (2+nmS s) (by omega),Nat.add_comm 2<|nmS s,ia_ (x:=((k+(nmS s+5)+szS s:Nat):Int)) (y:=1) (by omega) (by omega),show (((k+(nmS s+5)+szS s:Nat):Int)+1)=((k+(nmS s+6+szS s):Nat):Int) by omega,he]
  have fin:∀data,(bd (α:=Bool) (if (((b_0<|a_D s data).length:Int)==0) then some true else bd (some<|s.take<|nmS s+6+szS s) λH=>bd (h_a (b_0<|a_D s data) H) λI=>some (!I)) (λJ=>if J then some ((⟨0,(⟨[]⟩:Str),0,([]:Bt)⟩:p_),(k:Int),false) else some (a_D s data,((k+(nmS s+6+szS s):Nat):Int),true)))=some (e_Z k (if b_n (a_D s data)=true/\b_0 (a_D s data)=s.take (nmS s+6+szS s) then some (a_D s data,nmS s+6+szS s) else none)):=by
   intro data
   cases hv:b_n (a_D s data) with
   | false =>
    have:b_0 (a_D s data)=[]:=by unfold b_0;rw [hv];rfl
    rw [this]
    simp only [List.length_nil,show ((((0:Nat):Int))==0)=true from rfl,fT_,bd_some,bF_,false_and,fF_];rfl
   | true =>
    have hne:=p_u hv
    rw [show (((b_0<|a_D s data).length:Int)==0)=false by rw [beq_eq_false_iff_ne];omega,iN_ (by simp),bd_some,u_C,bd_some,bd_some]
    by_cases he:b_0 (a_D s data)=s.take (nmS s+6+szS s)
    .rw [show (b_0 (a_D s data)==s.take (nmS s+6+szS s))=true by simpa using he,iN_ (by simp),iP_ ⟨rfl,he⟩];rfl
    .rw [show (b_0 (a_D s data)==s.take (nmS s+6+szS s))=false by simpa using he,show (!false)=true from rfl,iP_ rfl,iN_<|λh=>he h.2];rfl
  cases hu:d_y (pkS s) with
  | none =>
   simp only [bd2_some,bd_some]
   rw [show (⟨byteI<|s.getD 0 0,(⟨(s.drop 2).take (nmS s)⟩:Str),byteI<|s.getD (nmS s+2) 0,[]⟩:p_)=a_D s [] from rfl,p_M (by omega),bd_some]
   have:=fin []
   rw [bd_some] at this
   rw [this,iN_<|λh=>u_F hl hu h.2]
  | some data =>
   simp only [bd2_some,bd_some]
   rw [show (⟨byteI<|s.getD 0 0,(⟨(s.drop 2).take (nmS s)⟩:Str),byteI<|s.getD (nmS s+2) 0,data⟩:p_)=a_D s data from rfl,p_M (by omega),bd_some]
   have:=fin data
   rw [bd_some] at this
   exact this
 .rw [dT_ (by omega),iP_ rfl,iN_ hl];rfl
end Go.Vw
