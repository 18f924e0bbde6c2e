
import Derived.Test.YtefljifhihogoaaGreatDoorVa
namespace Go.Vw
set_option linter.unusedVariables false
open Go.RowKit Dat
theorem i_d {s:Bt}{i:Nat}(h:i<s.length):idx s (i:Int)=some (s.getD i 0):=by
 grind [b_E,List.getElem?_eq_getElem]
theorem o_b {s:Bt}{i:Nat}(h:i<s.length):s[i]? = some (s.getD i 0):=by
 grind
theorem o_c {s:Bt}{i j:Nat}(h:i<j):(s.take j).getD i 0=s.getD i 0:=by
 grind
theorem x_1 {b:Bt}{k i:Nat}:(b.drop k).getD i 0=b.getD (k+i) 0:=by
 simp
def nmS (s:Bt):Nat:=(s.getD 1 0).toNat
def szS (s:Bt):Nat:=256 * (s.getD (nmS s+3) 0).toNat+(s.getD (nmS s+4) 0).toNat
theorem r_O (s:Bt):nmS s<256:=(s.getD 1 0).toNat_lt
theorem r_P (s:Bt):szS s<65536:=by
 unfold szS;have h1:=(s.getD (nmS s+3) 0).toNat_lt;have h2:=(s.getD (nmS s+4) 0).toNat_lt
 omega
theorem x_2 {s:Bt}(h:s.length<2):d_1 s=none:=by
 grind [d_1]
theorem x_3 {s:Bt}(h:2<=s.length):d_1 s=if nmS s+6+szS s<=s.length then some (nmS s+6+szS s) else none:=by
 unfold d_1
 rw [o_b (show 1<s.length by omega)]
 simp only
 by_cases h1:nmS s+4<s.length
 .have G:=o_b (show nmS s+3<s.length by omega);have H:=o_b h1;unfold nmS at G H
  rw [G,H];rfl
 grind [nmS]
def a_K (s data:Bt):q_:=⟨b_<|s.getD 0 0,⟨(s.drop 2).take (nmS s)⟩,b_<|s.getD (nmS s+2) 0,data⟩
def pkS (s:Bt):Bt:=(s.drop<|nmS s+5).take (szS s)
theorem r_Q {s:Bt}(h:2<=s.length):b_5 s=if nmS s+6+szS s<=s.length then (match e_c (pkS s) with
  | none=>none
  | some data=>if b_K (a_K s data)=true/\b_a (a_K s data)=s.take (nmS s+6+szS s) then some (a_K s data,nmS s+6+szS s) else none) else none:=by
 unfold b_5
 rw [x_3 h]
 by_cases hl:nmS s+6+szS s<=s.length
 .rw [iP_ hl,iP_ hl]
  simp only
  have G:(s.take<|nmS s+6+szS s).getD 1 0=s.getD 1 0:=o_c (by omega);have H:(s.take<|nmS s+6+szS s).getD 0 0=s.getD 0 0:=o_c (by omega);have I:(s.take<|nmS s+6+szS s).getD (nmS s+2) 0=s.getD (nmS s+2) 0:=o_c (by omega);have hn:((s.take<|nmS s+6+szS s).getD 1 0).toNat=nmS s:=by rw [G];rfl
  have ep:o_5 (s.take<|nmS s+6+szS s)=pkS s:=by
   unfold o_5 pkS
   rw [hn,QAT,QBL hl,List.drop_take,List.take_take]
   congr 1
   omega
  have er:∀data,j_v (s.take<|nmS s+6+szS s) data=a_K s data:=by
   intro data;unfold j_v a_K
   rw [hn,H,I,List.drop_take,List.take_take,show min (nmS s) (nmS s+6+szS s - 2)=nmS s by omega]
  unfold l_T
  rw [ep]
  cases e_c (pkS s) with
  | none=>rfl
  | some data =>
   simp only [er]
   by_cases hv:b_K (a_K s data)=true/\b_a (a_K s data)=s.take (nmS s+6+szS s)
   .rw [iP_ hv,iP_ hv]
   .rw [iN_ hv,iN_ hv]
 .rw [iN_ hl,iN_ hl]
theorem l_X {s:Bt}(h:s.length<2):b_5 s=none:=by grind [b_5,x_2]
def zeroR:q_:=⟨0,⟨[]⟩,0,[]⟩
def g_d (k:Nat):Option (q_×Nat)->q_×Int×Bool
 | some (r,j)=>(r,((k+j:Nat):Int),true)
 | none=>(zeroR,(k:Int),false)
theorem x_4 (x y:Bt):i_M x y=some (x==y):=by
 unfold i_M
 by_cases hl:x.length=y.length
 .rw [show ((x.length:Int) != (y.length:Int))=false by grind]
  simp only [bF_,fF_]
  rw [f_j (λk=>decide (x[k]? ≠ y[k]?)) false (λk hk _=>by
   rw [ix_ hk,ix_ (show k<y.length by omega),a_,a_]
   rw [show ((b_ x[k]) != (b_ (y[k]'(by omega))))=decide (x[k]? ≠ y[k]?) by
    rw [gG_ hk,gG_ (show k<y.length by omega),QA0,bne_iff_ne,dE_,ne_eq,ne_eq,j_D,oI_]]
   grind),a_]
  by_cases h:x=y
  .simp_all
  .rw [show ((List.range x.length).any λk=>decide (x[k]? ≠ y[k]?))=true by
    rw [List.any_eq_true]
    refine Classical.byContradiction λhn=>h<|List.ext_getElem? λi=>Classical.byContradiction λhi=>hn ⟨i,QAX.2 ?_,dT_ hi⟩
    grind]
   simp_all
 .rw [show ((x.length:Int) != (y.length:Int))=true by grind,iP_ rfl]
  congr 1
  grind
theorem x_5 (h l:UInt8):b_P .i64 (· ||| ·) (b_I .i64 (b_ h) 8) (b_ l)=((256 * h.toNat+l.toNat:Nat):Int):=by
 rw [n_J (l_m h) (by have:=g_U h;omega)]
 unfold b_X b_;omega
theorem x_6 {l:Bt}{m:Nat}(h:m<=l.length):cpy (List.replicate m 0) l=l.take m:=by
 grind [cpy,List.length_replicate,List.drop_of_length_le]
theorem r_R {b:Bt}{k:Nat}(h:k<=b.length):slc b (k:Int) (b.length:Int)=some (b.drop k):=by
 have:=g_b (b:=b) (k:=k) (j:=b.length - k) (by omega)
 grind [List.take_of_length_le,List.length_drop]
theorem r_S {b:Bt}(hb:b.length<=ML){k:Nat}(hk:k<=b.length){n:Nat}(hn:1060100<=n):g_E n b (k:Int)=some (g_d k<|b_5<|b.drop k):=by
 have hML:=MLv;have hMX:=MXv;have hLIM:=a_7;unfold g_E;have hdl:(b.drop k).length=b.length - k:=QAa
 rw [dF_ (show ¬(k:Int)<0 by omega),dF_ (show ¬(b.length:Int)<(k:Int) by omega)]
 simp only [bF_,fF_,a_]
 rw [a_L (by omega) (by omega)]
 by_cases h2:b.length - k<2
 .rw [dT_ (by omega),iP_ rfl,l_X (by omega)];rfl
 rw [dF_ (by omega),iN_ (by simp),r_R hk,a_]
 generalize hs:b.drop k=s at *
 have hc:=r_O s;have hz:=r_P s;have hbn:b_ (s.getD 1 0)=(nmS s:Int):=rfl
 rw [show (1:Int)=((1:Nat):Int) from rfl,i_d (show 1<s.length by omega),a_,hbn,r_Q (by omega)]
 rw [ia_ (y:=6) (by omega) (by omega)]
 by_cases h6:s.length<nmS s+6
 .rw [dT_ (by omega),iP_ rfl,iN_ (by omega)];rfl
 rw [dF_ (by omega),iN_ (by simp),ia_ (y:=3) (by omega) (by omega),ia_ (y:=4) (by omega) (by omega)]
 rw [show ((nmS s:Int)+3)=((nmS s+3:Nat):Int) by omega,show ((nmS s:Int)+4)=((nmS s+4:Nat):Int) by omega,i_d (by omega),a_,i_d (by omega),a_,x_5]
 rw [show 256 * (s.getD (nmS s+3) 0).toNat+(s.getD (nmS s+4) 0).toNat=szS s from rfl]
 rw [show ((nmS s:Int)+6)=((nmS s+6:Nat):Int) by omega,ia_ (x:=((nmS s+6:Nat):Int)) (by omega) (by omega)]
 by_cases hl:nmS s+6+szS s<=s.length
 .rw [dF_ (by omega),iN_ (by simp),iP_ hl,g_k (by omega),a_,ia_ (y:=5) (by omega) (by omega),show ((nmS s:Int)+5)=((nmS s+5:Nat):Int) by omega,r_R (by omega),a_,x_6 (by grind)]
  rw [show (s.drop<|nmS s+5).take (szS s)=pkS s from rfl]
  have hpl:(pkS s).length<=65536:=by grind [pkS]
  rw [w_V (by omega) (by omega)]
  rw [show (0:Int)=((0:Nat):Int) from rfl,i_d (show 0<s.length by omega)]
  rw [ia_ (x:=2) (by omega) (by omega),show (2:Int)+(nmS s:Int)=((2+nmS s:Nat):Int) by omega,show (2:Int)=((2:Nat):Int) from rfl,g_b (by omega)]
  rw [ia_ (y:=((2:Nat):Int)) (by omega) (by omega),show (nmS s:Int)+((2:Nat):Int)=((nmS s+2:Nat):Int) by omega,i_d (show nmS s+2<s.length by omega)]
  rw [show slc s ((0:Nat):Int) (((nmS s+6:Nat):Int)+(szS s:Int))=some (s.take (nmS s+6+szS s)) by
   have:=g_b (b:=s) (k:=0) (j:=nmS s+6+szS s) (by omega)
   grind]
  cases hu:e_c (pkS s) with
  | none=>rfl
  | some data =>
   simp only [a_b,a_,nT_,bF_,fF_]
   rw [show (⟨b_<|s.getD 0 0,(⟨(s.drop 2).take (nmS s)⟩:Str),b_<|s.getD (nmS s+2) 0,data⟩:q_)=a_K s data from rfl]
   rw [r_L (by omega),x_0 (by omega)]
   simp only [a_]
   cases hv:b_K (a_K s data) with
   | false =>
    rfl
   | true =>
    simp only [nT_,bF_,fF_,true_and]
    rw [show m_p (b_a<|a_K s data) (s.take<|nmS s+6+szS s)=some (b_a (a_K s data)==s.take (nmS s+6+szS s)) from rfl,a_,a_]
    by_cases he:b_a (a_K s data)=s.take (nmS s+6+szS s)
    .rw [show (b_a (a_K s data)==s.take (nmS s+6+szS s))=true by grind,iN_ (by simp),iP_ he]
     grind [nmS,szS,nmS,g_d,d_o]
    .rw [show (b_a (a_K s data)==s.take (nmS s+6+szS s))=false by grind,show (!false)=true from rfl,iP_ rfl,iN_ he];rfl
 .rw [dT_ (by omega),iP_ rfl,iN_ hl];rfl
theorem x_7 {s:Bt}(hl:nmS s+6+szS s<=s.length)(hu:e_c (pkS s)=none):¬b_a (a_K s [])=s.take (nmS s+6+szS s):=by
 intro he;have hv:b_K (a_K s [])=true:=w_G.1 (by rw [he];intro h;simp_all);have h1:=r_u hv
 rw [he] at h1
 have h2:(a_K s []).name.b.length=nmS s:=by grind [a_K]
 have h3:(d_0 (a_K s []).data).length=0:=rfl
 simp_all [pkS,szS,w_D]
theorem x_8 {s:Bt}{i:Nat}(h:i+2<=s.length):(s.drop i).take 2=[s.getD i 0,s.getD (i+1) 0]:=by
 grind [List.getElem?_eq_getElem,List.drop_eq_getElem_cons]
theorem x_9 (h l:UInt8):e_9 [h,l] false=((256 * h.toNat+l.toNat:Nat):Int):=by
 simp only [e_9,bF_,fF_,List.foldl_cons,List.foldl_nil,b_X,b_]
 omega
theorem slc_in {b:Bt}{k i j:Nat}(h:k+i+j<=b.length):slc b ((k+i:Nat):Int) ((k+i+j:Nat):Int)=some (((b.drop k).drop i).take j):=by
 rw [g_b h,QAo]
theorem x_a {b:Bt}(hb:b.length<=ML){k:Nat}(hk:k<=b.length){n:Nat}(hn:1060100<=n):i_N n b (k:Int)=some (g_d k<|b_5<|b.drop k):=by
 have hML:=MLv;have hMX:=MXv;have hLIM:=a_7;unfold i_N;have hdl:(b.drop k).length=b.length - k:=QAa
 rw [b_z,a_L (by omega) (by omega),dT_ (show (0:Int)<=(k:Int) by omega),a_,QAE]
 by_cases h2:b.length - k<2
 .rw [dF_ (by omega),l_X (by omega)];rfl
 rw [dT_ (by omega)]
 simp only [nT_,bF_,fF_]
 have hg:∀i,k+i<b.length->idx b ((k+i:Nat):Int)=some ((b.drop k).getD i 0):=λi hi=>by rw [i_d hi,x_1]
 have hsl:∀i j,k+i+j<=b.length->slc b ((k+i:Nat):Int) ((k+i+j:Nat):Int)=some (((b.drop k).drop i).take j):=λi j h=>slc_in h
 generalize hs:b.drop k=s at *
 have hc:=r_O s;have hz:=r_P s;have hbn:b_ (s.getD 1 0)=(nmS s:Int):=rfl
 rw [ia_ (x:=(k:Int)) (y:=1) (by omega) (by omega),show ((k:Int)+1)=((k+1:Nat):Int) by omega,hg 1 (by omega),a_,hbn,r_Q (by omega)]
 rw [ia_ (x:=(k:Int)) (y:=2) (by omega) (by omega),show ((k:Int)+2)=((k+2:Nat):Int) by omega]
 rw [ia_ (x:=((k+2:Nat):Int)) (y:=(nmS s:Int)) (by omega) (by omega),show (((k+2:Nat):Int)+(nmS s:Int))=((k+(2+nmS s):Nat):Int) by omega]
 rw [ia_ (x:=((k+(2+nmS s):Nat):Int)) (y:=3) (by omega) (by omega),ia_ (x:=((k+(2+nmS s):Nat):Int)) (y:=1) (by omega) (by omega)]
 by_cases h5:s.length<nmS s+5
 .rw [dT_ (by omega),iP_ rfl,iN_ (by omega)];rfl
 rw [dF_ (by omega),iN_ (by simp)]
 rw [show (((k+(2+nmS s):Nat):Int)+1)=((k+(nmS s+3):Nat):Int) by omega,show (((k+(2+nmS s):Nat):Int)+3)=((k+(nmS s+3)+2:Nat):Int) by omega,hsl (nmS s+3) 2 (by omega),a_,x_8 (by omega),q_L _ _ (by simp),a_,x_9]
 rw [show 256 * (s.getD (nmS s+3) 0).toNat+(s.getD (nmS s+3+1) 0).toNat=szS s from rfl]
 rw [show ((k+(nmS s+3)+2:Nat):Int)=((k+(nmS s+5):Nat):Int) by omega,ia_ (x:=((k+(nmS s+5):Nat):Int)) (y:=(szS s:Int)) (by omega) (by omega),show (((k+(nmS s+5):Nat):Int)+(szS s:Int))=((k+(nmS s+5)+szS s:Nat):Int) by omega]
 by_cases hl:nmS s+6+szS s<=s.length
 .rw [dF_ (by omega),iN_ (by simp),iP_ hl,hsl (nmS s+5) (szS s) (by omega),a_]
  rw [show (s.drop<|nmS s+5).take (szS s)=pkS s from rfl]
  have hpl:(pkS s).length<=65536:=by unfold pkS;rw [QAT];omega
  rw [w_W (by omega) (by omega)]
  have G:=hg 0 (by omega)
  rw [QBM] at G
  have hm:=hsl 2 (nmS s) (by omega)
  rw [show ((k+2+nmS s:Nat):Int)=((k+(2+nmS s):Nat):Int) by omega] at hm
  have he:=hsl 0 (nmS s+6+szS s) (by omega)
  rw [QBM,QAP] at he
  rw [G,hm,hg (2+nmS s) (by omega),Nat.add_comm 2<|nmS s,ia_ (x:=((k+(nmS s+5)+szS s:Nat):Int)) (y:=1) (by omega) (by omega),show (((k+(nmS s+5)+szS s:Nat):Int)+1)=((k+(nmS s+6+szS s):Nat):Int) by omega,he]
  have fin:∀data,(bd (α:=Bool) (if (((b_a<|a_K s data).length:Int)==0) then some true else bd (some<|s.take<|nmS s+6+szS s) λH=>bd (i_M (b_a<|a_K s data) H) λI=>some (!I)) (λJ=>if J then some ((⟨0,(⟨[]⟩:Str),0,([]:Bt)⟩:q_),(k:Int),false) else some (a_K s data,((k+(nmS s+6+szS s):Nat):Int),true)))=some (g_d k (if b_K (a_K s data)=true/\b_a (a_K s data)=s.take (nmS s+6+szS s) then some (a_K s data,nmS s+6+szS s) else none)):=by
   intro data
   cases hv:b_K (a_K s data) with
   | false =>
    have:b_a (a_K s data)=[]:=by unfold b_a;rw [hv];rfl
    rw [this]
    simp only [QAD,show ((((0:Nat):Int))==0)=true from rfl,fT_,a_,bF_,false_and,fF_];rfl
   | true =>
    have hne:=r_u hv
    rw [show (((b_a<|a_K s data).length:Int)==0)=false by rw [QA9];omega,iN_ (by simp),a_,x_4,a_,a_]
    by_cases he:b_a (a_K s data)=s.take (nmS s+6+szS s)
    .rw [show (b_a (a_K s data)==s.take (nmS s+6+szS s))=true by simpa using he,iN_ (by simp),iP_ ⟨rfl,he⟩];rfl
    .rw [show (b_a (a_K s data)==s.take (nmS s+6+szS s))=false by simpa using he,show (!false)=true from rfl,iP_ rfl,iN_<|λh=>he h.2];rfl
  cases hu:e_c (pkS s) with
  | none =>
   simp only [a_b,a_]
   rw [show (⟨b_<|s.getD 0 0,(⟨(s.drop 2).take (nmS s)⟩:Str),b_<|s.getD (nmS s+2) 0,[]⟩:q_)=a_K s [] from rfl,r_N (by omega),a_]
   have:=fin []
   rw [a_] at this
   rw [this,iN_<|λh=>x_7 hl hu h.2]
  | some data =>
   simp only [a_b,a_]
   rw [show (⟨b_<|s.getD 0 0,(⟨(s.drop 2).take (nmS s)⟩:Str),b_<|s.getD (nmS s+2) 0,data⟩:q_)=a_K s data from rfl,r_N (by omega),a_]
   have:=fin data
   rw [a_] at this
   exact this
 .rw [dT_ (by omega),iP_ rfl,iN_ hl];rfl
end Go.Vw
