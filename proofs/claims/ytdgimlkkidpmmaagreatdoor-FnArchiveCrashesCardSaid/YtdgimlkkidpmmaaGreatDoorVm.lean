
import Derived.Test.YtdgimlkkidpmmaaGreatDoorVk
namespace Go.Vw
open Go.RowKit Dat
theorem h_w {s:Bt}{i:Nat}(h:i<s.length):idx s (i:Int)=some (s.getD i 0):=by
 rw [ix_ h,gD_,gG_ h];rfl
theorem m_M {s:Bt}{i:Nat}(h:i<s.length):s[i]? = some (s.getD i 0):=by
 rw [gD_,gG_ h];rfl
theorem m_N {s:Bt}{i j:Nat}(h:i<j):(s.take j).getD i 0=s.getD i 0:=by
 rw [gD_,gD_,List.getElem?_take,iP_ h]
theorem t_u {b:Bt}{k i:Nat}:(b.drop k).getD i 0=b.getD (k+i) 0:=by
 rw [gD_,gD_,g_f]
def nmS (s:Bt):Nat:=(s.getD 1 0).toNat
def szS (s:Bt):Nat:=256 * (s.getD (nmS s+3) 0).toNat+(s.getD (nmS s+4) 0).toNat
theorem p_b (s:Bt):nmS s<256:=(s.getD 1 0).toNat_lt
theorem p_c (s:Bt):szS s<65536:=by
 unfold szS;have h1:=(s.getD (nmS s+3) 0).toNat_lt;have h2:=(s.getD (nmS s+4) 0).toNat_lt
 omega
theorem t_v {s:Bt}(h:s.length<2):c_q s=none:=by
 unfold c_q;rw [gN_ (by omega)]
theorem t_w {s:Bt}(h:2<=s.length):c_q s=if nmS s+6+szS s<=s.length then some (nmS s+6+szS s) else none:=by
 unfold c_q
 rw [m_M (show 1<s.length by omega)]
 simp only
 by_cases h1:nmS s+4<s.length
 .have H:=m_M (show nmS s+3<s.length by omega);have G:=m_M h1;unfold nmS at H G
  rw [H,G];rfl
 .rw [iN_ (by omega)]
  have G:s[(s.getD 1 0).toNat+4]? = none:=gN_ (by unfold nmS at h1;omega)
  rw [G]
  cases s[(s.getD 1 0).toNat+3]? <;> rfl
def a_K (s data:Bt):m_:=⟨byteI<|s.getD 0 0,⟨(s.drop 2).take (nmS s)⟩,byteI<|s.getD (nmS s+2) 0,data⟩
def pkS (s:Bt):Bt:=(s.drop<|nmS s+5).take (szS s)
theorem p_d {s:Bt}(h:2<=s.length):a_z s=if nmS s+6+szS s<=s.length then (match d_s (pkS s) with
  | none=>none
  | some data=>if a_I (a_K s data)=true/\a_3 (a_K s data)=s.take (nmS s+6+szS s) then some (a_K s data,nmS s+6+szS s) else none) else none:=by
 unfold a_z
 rw [t_w h]
 by_cases hl:nmS s+6+szS s<=s.length
 .rw [iP_ hl,iP_ hl]
  simp only
  have G:(s.take<|nmS s+6+szS s).getD 1 0=s.getD 1 0:=m_N (by omega);have H:(s.take<|nmS s+6+szS s).getD 0 0=s.getD 0 0:=m_N (by omega);have I:(s.take<|nmS s+6+szS s).getD (nmS s+2) 0=s.getD (nmS s+2) 0:=m_N (by omega);have hn:((s.take<|nmS s+6+szS s).getD 1 0).toNat=nmS s:=by rw [G];rfl
  have ep:m_D (s.take<|nmS s+6+szS s)=pkS s:=by
   unfold m_D pkS
   rw [hn,List.length_take,Nat.min_eq_left hl,List.drop_take,List.take_take]
   congr 1
   omega
  have er:∀data,i_K (s.take<|nmS s+6+szS s) data=a_K s data:=by
   intro data;unfold i_K a_K
   rw [hn,H,I,List.drop_take,List.take_take,show min (nmS s) (nmS s+6+szS s - 2)=nmS s by omega]
  unfold k_v
  rw [ep]
  cases d_s (pkS s) with
  | none=>rfl
  | some data =>
   simp only [er]
   by_cases hv:a_I (a_K s data)=true/\a_3 (a_K s data)=s.take (nmS s+6+szS s)
   .rw [iP_ hv,iP_ hv]
   .rw [iN_ hv,iN_ hv]
 .rw [iN_ hl,iN_ hl]
theorem k_A {s:Bt}(h:s.length<2):a_z s=none:=by unfold a_z;rw [t_v h]
def zeroR:m_:=⟨0,⟨[]⟩,0,[]⟩
def f_0 (k:Nat):Option (m_×Nat)->m_×Int×Bool
 | some (r,j)=>(r,((k+j:Nat):Int),true)
 | none=>(zeroR,(k:Int),false)
theorem t_x (x y:Bt):h_R x y=some (x==y):=by
 unfold h_R
 by_cases hl:x.length=y.length
 .rw [show ((x.length:Int) != (y.length:Int))=false by simp [hl]]
  simp only [bF_,fF_]
  rw [e_q (λk=>decide (x[k]? ≠ y[k]?)) false (λk hk _=>by
   rw [ix_ hk,ix_ (show k<y.length by omega),bd_some,bd_some]
   rw [show ((byteI x[k]) != (byteI (y[k]'(by omega))))=decide (x[k]? ≠ y[k]?) by
    rw [gG_ hk,gG_ (show k<y.length by omega),Bool.eq_iff_iff,bne_iff_ne,dE_,ne_eq,ne_eq,h_A,oI_]]
   by_cases h:x[k]? ≠ y[k]?
   .rw [dT_ h];rfl
   .rw [dF_ h];rfl),bd_some]
  by_cases h:x=y
  .subst h
   rw [show ((List.range x.length).any λk=>decide<|x[k]? ≠ x[k]?)=false by rw [List.any_eq_false];intro k _;simp]
   simp [el]
  .rw [show ((List.range x.length).any λk=>decide (x[k]? ≠ y[k]?))=true by
    rw [List.any_eq_true]
    refine Classical.byContradiction λhn=>h<|List.ext_getElem? λi=>Classical.byContradiction λhi=>hn ⟨i,List.mem_range.2 ?_,dT_ hi⟩
    refine Classical.byContradiction λhlt=>hi ?_
    rw [gN_ (by omega),gN_ (by omega)]]
   simp [el,h]
 .rw [show ((x.length:Int) != (y.length:Int))=true by rw [bne_iff_ne];omega,iP_ rfl]
  congr 1
  symm;rw [beq_eq_false_iff_ne];rintro rfl;exact hl rfl
theorem t_y (h l:UInt8):a_n .i64 (· ||| ·) (b_d .i64 (byteI h) 8) (byteI l)=((256 * h.toNat+l.toNat:Nat):Int):=by
 rw [m_p (e_B h) (by have:=e_A h;omega)]
 unfold b_R byteI;omega
theorem t_z {l:Bt}{m:Nat}(h:m<=l.length):cpy (List.replicate m 0) l=l.take m:=by
 unfold cpy
 rw [List.length_replicate,List.drop_of_length_le (by rw [List.length_replicate];exact h),List.append_nil]
theorem m_O {b:Bt}{k:Nat}(h:k<=b.length):slc b (k:Int) (b.length:Int)=some (b.drop k):=by
 have:=e_Y (b:=b) (k:=k) (j:=b.length - k) (by omega)
 rw [show ((k+(b.length - k):Nat):Int)=(b.length:Int) by omega] at this
 rw [this,List.take_of_length_le (by rw [List.length_drop];omega)]
theorem p_e {b:Bt}(hb:b.length<=ML){k:Nat}(hk:k<=b.length){n:Nat}(hn:1060100<=n):f_g n b (k:Int)=some (f_0 k<|a_z<|b.drop k):=by
 have hML:=MLv;have hMX:=MXv;have hLIM:=W_;unfold f_g;have hdl:(b.drop k).length=b.length - k:=List.length_drop
 rw [dF_ (show ¬(k:Int)<0 by omega),dF_ (show ¬(b.length:Int)<(k:Int) by omega)]
 simp only [bF_,fF_,bd_some]
 rw [a_f (by omega) (by omega)]
 by_cases h2:b.length - k<2
 .rw [dT_ (by omega),iP_ rfl,k_A (by omega)];rfl
 rw [dF_ (by omega),iN_ (by simp),m_O hk,bd_some]
 generalize hs:b.drop k=s at *
 have hc:=p_b s;have hz:=p_c s;have hbn:byteI (s.getD 1 0)=(nmS s:Int):=rfl
 rw [show (1:Int)=((1:Nat):Int) from rfl,h_w (show 1<s.length by omega),bd_some,hbn,p_d (by omega)]
 rw [ia_ (y:=6) (by omega) (by omega)]
 by_cases h6:s.length<nmS s+6
 .rw [dT_ (by omega),iP_ rfl,iN_ (by omega)];rfl
 rw [dF_ (by omega),iN_ (by simp),ia_ (y:=3) (by omega) (by omega),ia_ (y:=4) (by omega) (by omega)]
 rw [show ((nmS s:Int)+3)=((nmS s+3:Nat):Int) by omega,show ((nmS s:Int)+4)=((nmS s+4:Nat):Int) by omega,h_w (by omega),bd_some,h_w (by omega),bd_some,t_y]
 rw [show 256 * (s.getD (nmS s+3) 0).toNat+(s.getD (nmS s+4) 0).toNat=szS s from rfl]
 rw [show ((nmS s:Int)+6)=((nmS s+6:Nat):Int) by omega,ia_ (x:=((nmS s+6:Nat):Int)) (by omega) (by omega)]
 by_cases hl:nmS s+6+szS s<=s.length
 .rw [dF_ (by omega),iN_ (by simp),iP_ hl,k_S (by omega),bd_some,ia_ (y:=5) (by omega) (by omega),show ((nmS s:Int)+5)=((nmS s+5:Nat):Int) by omega,m_O (by omega),bd_some,t_z (by rw [List.length_drop];omega)]
  rw [show (s.drop<|nmS s+5).take (szS s)=pkS s from rfl]
  have hpl:(pkS s).length<=65536:=by unfold pkS;rw [List.length_take];omega
  rw [t_q (by omega) (by omega)]
  rw [show (0:Int)=((0:Nat):Int) from rfl,h_w (show 0<s.length by omega)]
  rw [ia_ (x:=2) (by omega) (by omega),show (2:Int)+(nmS s:Int)=((2+nmS s:Nat):Int) by omega,show (2:Int)=((2:Nat):Int) from rfl,e_Y (by omega)]
  rw [ia_ (y:=((2:Nat):Int)) (by omega) (by omega),show (nmS s:Int)+((2:Nat):Int)=((nmS s+2:Nat):Int) by omega,h_w (show nmS s+2<s.length by omega)]
  rw [show slc s ((0:Nat):Int) (((nmS s+6:Nat):Int)+(szS s:Int))=some (s.take (nmS s+6+szS s)) by
   have:=e_Y (b:=s) (k:=0) (j:=nmS s+6+szS s) (by omega)
   rw [Nat.zero_add,List.drop_zero] at this
   rw [← this];congr 1]
  cases hu:d_s (pkS s) with
  | none=>rfl
  | some data =>
   simp only [bd2_some,bd_some,nT_,bF_,fF_]
   rw [show (⟨byteI<|s.getD 0 0,(⟨(s.drop 2).take (nmS s)⟩:Str),byteI<|s.getD (nmS s+2) 0,data⟩:m_)=a_K s data from rfl]
   rw [p_9 (by omega),t_t (by omega)]
   simp only [bd_some]
   cases hv:a_I (a_K s data) with
   | false =>
    simp only [Bool.not_false,fT_,bd_some,bF_,false_and,fF_];rfl
   | true =>
    simp only [nT_,bF_,fF_,true_and]
    rw [show f_d (a_3<|a_K s data) (s.take<|nmS s+6+szS s)=some (a_3 (a_K s data)==s.take (nmS s+6+szS s)) from rfl,bd_some,bd_some]
    by_cases he:a_3 (a_K s data)=s.take (nmS s+6+szS s)
    .rw [show (a_3 (a_K s data)==s.take (nmS s+6+szS s))=true by simpa using he,iN_ (by simp),iP_ he]
     unfold f_0
     simp only
     rw [ia_ (x:=(k:Int)) (y:=(nmS s:Int)) (by omega) (by omega),ia_ (x:=(k:Int)+(nmS s:Int)) (by omega) (by omega),ia_ (x:=(k:Int)+(nmS s:Int)+6) (by omega) (by omega)]
     rw [show (k:Int)+(nmS s:Int)+6+(szS s:Int)=((k+(nmS s+6+szS s):Nat):Int) by omega]
    .rw [show (a_3 (a_K s data)==s.take (nmS s+6+szS s))=false by simpa using he,show (!false)=true from rfl,iP_ rfl,iN_ he];rfl
 .rw [dT_ (by omega),iP_ rfl,iN_ hl];rfl
theorem t_A {s:Bt}(hl:nmS s+6+szS s<=s.length)(hu:d_s (pkS s)=none):¬a_3 (a_K s [])=s.take (nmS s+6+szS s):=by
 intro he;have hv:a_I (a_K s [])=true:=t_g.1 (by rw [he];intro h;have:=congrArg List.length h;rw [List.length_take,Nat.min_eq_left hl,List.length_nil] at this;omega);have h1:=m_C hv
 rw [he] at h1
 have h2:(a_K s []).name.b.length=nmS s:=by simp only [a_K,List.length_take,List.length_drop];omega
 have h3:(b_m (a_K s []).data).length=0:=rfl
 rw [h2,h3,List.length_take] at h1
 have h4:szS s=0:=by omega
 unfold pkS at hu
 rw [h4,List.take_zero,t_d] at hu
 cases hu
theorem t_B {s:Bt}{i:Nat}(h:i+2<=s.length):(s.drop i).take 2=[s.getD i 0,s.getD (i+1) 0]:=by
 rw [dC_ (by omega),dC_ (by omega)]
 simp only [List.take_succ_cons,List.take_zero]
 rw [gD_,gD_,gG_,gG_]
 rfl
theorem t_C (h l:UInt8):d_M [h,l] false=((256 * h.toNat+l.toNat:Nat):Int):=by
 simp only [d_M,bF_,fF_,List.foldl_cons,List.foldl_nil,b_R,byteI]
 omega
theorem slc_in {b:Bt}{k i j:Nat}(h:k+i+j<=b.length):slc b ((k+i:Nat):Int) ((k+i+j:Nat):Int)=some (((b.drop k).drop i).take j):=by
 rw [e_Y h,List.drop_drop]
theorem t_D {b:Bt}(hb:b.length<=ML){k:Nat}(hk:k<=b.length){n:Nat}(hn:1060100<=n):h_S n b (k:Int)=some (f_0 k<|a_z<|b.drop k):=by
 have hML:=MLv;have hMX:=MXv;have hLIM:=W_;unfold h_S;have hdl:(b.drop k).length=b.length - k:=List.length_drop
 rw [b_5,a_f (by omega) (by omega),dT_ (show (0:Int)<=(k:Int) by omega),bd_some,Bool.true_and]
 by_cases h2:b.length - k<2
 .rw [dF_ (by omega),k_A (by omega)];rfl
 rw [dT_ (by omega)]
 simp only [nT_,bF_,fF_]
 have hg:∀i,k+i<b.length->idx b ((k+i:Nat):Int)=some ((b.drop k).getD i 0):=λi hi=>by rw [h_w hi,t_u]
 have hsl:∀i j,k+i+j<=b.length->slc b ((k+i:Nat):Int) ((k+i+j:Nat):Int)=some (((b.drop k).drop i).take j):=λi j h=>slc_in h
 generalize hs:b.drop k=s at *
 have hc:=p_b s;have hz:=p_c s;have hbn:byteI (s.getD 1 0)=(nmS s:Int):=rfl
 rw [ia_ (x:=(k:Int)) (y:=1) (by omega) (by omega),show ((k:Int)+1)=((k+1:Nat):Int) by omega,hg 1 (by omega),bd_some,hbn,p_d (by omega)]
 rw [ia_ (x:=(k:Int)) (y:=2) (by omega) (by omega),show ((k:Int)+2)=((k+2:Nat):Int) by omega]
 rw [ia_ (x:=((k+2:Nat):Int)) (y:=(nmS s:Int)) (by omega) (by omega),show (((k+2:Nat):Int)+(nmS s:Int))=((k+(2+nmS s):Nat):Int) by omega]
 rw [ia_ (x:=((k+(2+nmS s):Nat):Int)) (y:=3) (by omega) (by omega),ia_ (x:=((k+(2+nmS s):Nat):Int)) (y:=1) (by omega) (by omega)]
 by_cases h5:s.length<nmS s+5
 .rw [dT_ (by omega),iP_ rfl,iN_ (by omega)];rfl
 rw [dF_ (by omega),iN_ (by simp)]
 rw [show (((k+(2+nmS s):Nat):Int)+1)=((k+(nmS s+3):Nat):Int) by omega,show (((k+(2+nmS s):Nat):Int)+3)=((k+(nmS s+3)+2:Nat):Int) by omega,hsl (nmS s+3) 2 (by omega),bd_some,t_B (by omega),o_D _ _ (by simp),bd_some,t_C]
 rw [show 256 * (s.getD (nmS s+3) 0).toNat+(s.getD (nmS s+3+1) 0).toNat=szS s from rfl]
 rw [show ((k+(nmS s+3)+2:Nat):Int)=((k+(nmS s+5):Nat):Int) by omega,ia_ (x:=((k+(nmS s+5):Nat):Int)) (y:=(szS s:Int)) (by omega) (by omega),show (((k+(nmS s+5):Nat):Int)+(szS s:Int))=((k+(nmS s+5)+szS s:Nat):Int) by omega]
 by_cases hl:nmS s+6+szS s<=s.length
 .rw [dF_ (by omega),iN_ (by simp),iP_ hl,hsl (nmS s+5) (szS s) (by omega),bd_some]
  rw [show (s.drop<|nmS s+5).take (szS s)=pkS s from rfl]
  have hpl:(pkS s).length<=65536:=by unfold pkS;rw [List.length_take];omega
  rw [t_r (by omega) (by omega)]
  have G:=hg 0 (by omega)
  rw [Nat.add_zero] at G
  have hm:=hsl 2 (nmS s) (by omega)
  rw [show ((k+2+nmS s:Nat):Int)=((k+(2+nmS s):Nat):Int) by omega] at hm
  have he:=hsl 0 (nmS s+6+szS s) (by omega)
  rw [Nat.add_zero,List.drop_zero] at he
  rw [G,hm,hg (2+nmS s) (by omega),Nat.add_comm 2<|nmS s,ia_ (x:=((k+(nmS s+5)+szS s:Nat):Int)) (y:=1) (by omega) (by omega),show (((k+(nmS s+5)+szS s:Nat):Int)+1)=((k+(nmS s+6+szS s):Nat):Int) by omega,he]
  have fin:∀data,(bd (α:=Bool) (if (((a_3<|a_K s data).length:Int)==0) then some true else bd (some<|s.take<|nmS s+6+szS s) λH=>bd (h_R (a_3<|a_K s data) H) λI=>some (!I)) (λJ=>if J then some ((⟨0,(⟨[]⟩:Str),0,([]:Bt)⟩:m_),(k:Int),false) else some (a_K s data,((k+(nmS s+6+szS s):Nat):Int),true)))=some (f_0 k (if a_I (a_K s data)=true/\a_3 (a_K s data)=s.take (nmS s+6+szS s) then some (a_K s data,nmS s+6+szS s) else none)):=by
   intro data
   cases hv:a_I (a_K s data) with
   | false =>
    have:a_3 (a_K s data)=[]:=by unfold a_3;rw [hv];rfl
    rw [this]
    simp only [List.length_nil,show ((((0:Nat):Int))==0)=true from rfl,fT_,bd_some,bF_,false_and,fF_];rfl
   | true =>
    have hne:=m_C hv
    rw [show (((a_3<|a_K s data).length:Int)==0)=false by rw [beq_eq_false_iff_ne];omega,iN_ (by simp),bd_some,t_x,bd_some,bd_some]
    by_cases he:a_3 (a_K s data)=s.take (nmS s+6+szS s)
    .rw [show (a_3 (a_K s data)==s.take (nmS s+6+szS s))=true by simpa using he,iN_ (by simp),iP_ ⟨rfl,he⟩];rfl
    .rw [show (a_3 (a_K s data)==s.take (nmS s+6+szS s))=false by simpa using he,show (!false)=true from rfl,iP_ rfl,iN_<|λh=>he h.2];rfl
  cases hu:d_s (pkS s) with
  | none =>
   simp only [bd2_some,bd_some]
   rw [show (⟨byteI<|s.getD 0 0,(⟨(s.drop 2).take (nmS s)⟩:Str),byteI<|s.getD (nmS s+2) 0,[]⟩:m_)=a_K s [] from rfl,m_L (by omega),bd_some]
   have:=fin []
   rw [bd_some] at this
   rw [this,iN_<|λh=>t_A hl hu h.2]
  | some data =>
   simp only [bd2_some,bd_some]
   rw [show (⟨byteI<|s.getD 0 0,(⟨(s.drop 2).take (nmS s)⟩:Str),byteI<|s.getD (nmS s+2) 0,data⟩:m_)=a_K s data from rfl,m_L (by omega),bd_some]
   have:=fin data
   rw [bd_some] at this
   exact this
 .rw [dT_ (by omega),iP_ rfl,iN_ hl];rfl
end Go.Vw
