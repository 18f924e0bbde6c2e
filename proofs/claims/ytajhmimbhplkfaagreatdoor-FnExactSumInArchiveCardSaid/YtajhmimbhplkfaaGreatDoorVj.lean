
import Derived.Test.YtajhmimbhplkfaaGreatDoorVi
namespace Go.Vw
open Go.RowKit Dat
theorem g_g {s:List UInt8}{i:Nat}(h:i<s.length):idx s (i:Int)=some (s.getD i 0):=by
 rw [ix_ h,gD_,gG_ h];rfl
theorem l_Q {s:List UInt8}{i:Nat}(h:i<s.length):s[i]? = some (s.getD i 0):=by
 rw [gD_,gG_ h];rfl
theorem l_R {s:List UInt8}{i j:Nat}(h:i<j):(s.take j).getD i 0=s.getD i 0:=by
 rw [gD_,gD_,List.getElem?_take,iP_ h]
theorem t_5 {b:List UInt8}{k i:Nat}:(b.drop k).getD i 0=b.getD (k+i) 0:=by
 rw [gD_,gD_,f_r]
def nmS (s:List UInt8):Nat:=(s.getD 1 0).toNat
def szS (s:List UInt8):Nat:=256 * (s.getD (nmS s+3) 0).toNat+(s.getD (nmS s+4) 0).toNat
theorem o_Q (s:List UInt8):nmS s<256:=(s.getD 1 0).toNat_lt
theorem o_R (s:List UInt8):szS s<65536:=by
 unfold szS;have h1:=(s.getD (nmS s+3) 0).toNat_lt;have h2:=(s.getD (nmS s+4) 0).toNat_lt
 omega
theorem t_6 {s:List UInt8}(h:s.length<2):c_s s=none:=by
 unfold c_s;rw [gN_ (by omega)]
theorem t_7 {s:List UInt8}(h:2<=s.length):c_s s=if nmS s+6+szS s<=s.length then some (nmS s+6+szS s) else none:=by
 unfold c_s
 rw [l_Q (show 1<s.length by omega)]
 simp only
 by_cases h1:nmS s+4<s.length
 ·have H:=l_Q (show nmS s+3<s.length by omega);have G:=l_Q h1;unfold nmS at H G
  rw [H,G];rfl
 ·rw [iN_ (by omega)]
  have G:s[(s.getD 1 0).toNat+4]? = none:=gN_ (by unfold nmS at h1;omega)
  rw [G]
  cases s[(s.getD 1 0).toNat+3]? <;> rfl
def a_C (s data:List UInt8):o_:=⟨byteI<|s.getD 0 0,⟨(s.drop 2).take (nmS s)⟩,byteI<|s.getD (nmS s+2) 0,data⟩
def pkS (s:List UInt8):List UInt8:=(s.drop<|nmS s+5).take (szS s)
theorem o_S {s:List UInt8}(h:2<=s.length):a_L s=if nmS s+6+szS s<=s.length then (match d_s (pkS s) with
  | none=>none
  | some data=>if b_g (a_C s data)=true/\a_W (a_C s data)=s.take (nmS s+6+szS s) then some (a_C s data,nmS s+6+szS s) else none) else none:=by
 unfold a_L
 rw [t_7 h]
 by_cases hl:nmS s+6+szS s<=s.length
 ·rw [iP_ hl,iP_ hl]
  simp only
  have G:(s.take<|nmS s+6+szS s).getD 1 0=s.getD 1 0:=l_R (by omega);have H:(s.take<|nmS s+6+szS s).getD 0 0=s.getD 0 0:=l_R (by omega);have I:(s.take<|nmS s+6+szS s).getD (nmS s+2) 0=s.getD (nmS s+2) 0:=l_R (by omega);have hn:((s.take<|nmS s+6+szS s).getD 1 0).toNat=nmS s:=by rw [G];rfl
  have ep:l_K (s.take<|nmS s+6+szS s)=pkS s:=by
   unfold l_K pkS
   rw [hn,List.length_take,Nat.min_eq_left hl,List.drop_take,List.take_take]
   congr 1
   omega
  have er:∀data,h_v (s.take<|nmS s+6+szS s) data=a_C s data:=by
   intro data;unfold h_v a_C
   rw [hn,H,I,List.drop_take,List.take_take,show min (nmS s) (nmS s+6+szS s - 2)=nmS s by omega]
  unfold k_8
  rw [ep]
  cases d_s (pkS s) with
  | none=>rfl
  | some data =>
   simp only [er]
   by_cases hv:b_g (a_C s data)=true/\a_W (a_C s data)=s.take (nmS s+6+szS s)
   ·rw [iP_ hv,iP_ hv]
   ·rw [iN_ hv,iN_ hv]
 ·rw [iN_ hl,iN_ hl]
theorem k_d {s:List UInt8}(h:s.length<2):a_L s=none:=by unfold a_L;rw [t_6 h]
def zeroR:o_:=⟨0,⟨[]⟩,0,[]⟩
def e_M (k:Nat):Option (o_×Nat)->o_×Int×Bool
 | some (r,j)=>(r,((k+j:Nat):Int),true)
 | none=>(zeroR,(k:Int),false)
theorem t_8 (x y:List UInt8):g_T x y=some (x==y):=by
 unfold g_T
 by_cases hl:x.length=y.length
 ·rw [show ((x.length:Int) != (y.length:Int))=false by simp [hl]]
  simp only [bF_,fF_]
  rw [e_h (fun k=>decide (x[k]? ≠ y[k]?)) false (fun k hk _=>by
   rw [ix_ hk,ix_ (show k<y.length by omega),bd_some,bd_some]
   rw [show ((byteI x[k]) != (byteI (y[k]'(by omega))))=decide (x[k]? ≠ y[k]?) by
    rw [gG_ hk,gG_ (show k<y.length by omega),Bool.eq_iff_iff,bne_iff_ne,dE_,ne_eq,ne_eq,g_l,oI_]]
   by_cases h:x[k]? ≠ y[k]?
   ·rw [dT_ h];rfl
   ·rw [dF_ h];rfl),bd_some]
  by_cases h:x=y
  ·subst h
   rw [show ((List.range x.length).any fun k=>decide<|x[k]? ≠ x[k]?)=false by rw [List.any_eq_false];intro k _;simp]
   simp [el]
  ·rw [show ((List.range x.length).any fun k=>decide (x[k]? ≠ y[k]?))=true by
    rw [List.any_eq_true]
    refine Classical.byContradiction fun hn=>h<|List.ext_getElem? fun i=>Classical.byContradiction fun hi=>hn ⟨i,List.mem_range.2 ?_,dT_ hi⟩
    refine Classical.byContradiction fun hlt=>hi ?_
    rw [gN_ (by omega),gN_ (by omega)]]
   simp [el,h]
 ·rw [show ((x.length:Int) != (y.length:Int))=true by rw [bne_iff_ne];omega,iP_ rfl]
  congr 1
  symm;rw [beq_eq_false_iff_ne];rintro rfl;exact hl rfl
theorem t_9 (h l:UInt8):b_Y .i64 (· ||| ·) (b_v .i64 (byteI h) 8) (byteI l)=((256 * h.toNat+l.toNat:Nat):Int):=by
 rw [l_y (f_e h) (by have:=f_d h;omega)]
 unfold b_O byteI;omega
theorem t_a {l:List UInt8}{m:Nat}(h:m<=l.length):cpy (List.replicate m 0) l=l.take m:=by
 unfold cpy
 rw [List.length_replicate,List.drop_of_length_le (by rw [List.length_replicate];exact h),List.append_nil]
theorem o_T {b:List UInt8}{k:Nat}(h:k<=b.length):slc b (k:Int) (b.length:Int)=some (b.drop k):=by
 have:=e_K (b:=b) (k:=k) (j:=b.length - k) (by omega)
 rw [show ((k+(b.length - k):Nat):Int)=(b.length:Int) by omega] at this
 rw [this,List.take_of_length_le (by rw [List.length_drop];omega)]
theorem o_U {b:List UInt8}(hb:b.length<=ML){k:Nat}(hk:k<=b.length){n:Nat}(hn:1060100<=n):f_9 n b (k:Int)=some (e_M k<|a_L<|b.drop k):=by
 have hML:=MLv;have hMX:=MXv;have hLIM:=a_u;unfold f_9;have hdl:(b.drop k).length=b.length - k:=List.length_drop
 rw [dF_ (show ¬(k:Int)<0 by omega),dF_ (show ¬(b.length:Int)<(k:Int) by omega)]
 simp only [bF_,fF_,bd_some]
 rw [a_x (by omega) (by omega)]
 by_cases h2:b.length - k<2
 ·rw [dT_ (by omega),iP_ rfl,k_d (by omega)];rfl
 rw [dF_ (by omega),iN_ (by simp),o_T hk,bd_some]
 generalize hs:b.drop k=s at *
 have hc:=o_Q s;have hz:=o_R s;have hbn:byteI (s.getD 1 0)=(nmS s:Int):=rfl
 rw [show (1:Int)=((1:Nat):Int) from rfl,g_g (show 1<s.length by omega),bd_some,hbn,o_S (by omega)]
 rw [ia_ (y:=6) (by omega) (by omega)]
 by_cases h6:s.length<nmS s+6
 ·rw [dT_ (by omega),iP_ rfl,iN_ (by omega)];rfl
 rw [dF_ (by omega),iN_ (by simp),ia_ (y:=3) (by omega) (by omega),ia_ (y:=4) (by omega) (by omega)]
 rw [show ((nmS s:Int)+3)=((nmS s+3:Nat):Int) by omega,show ((nmS s:Int)+4)=((nmS s+4:Nat):Int) by omega,g_g (by omega),bd_some,g_g (by omega),bd_some,t_9]
 rw [show 256 * (s.getD (nmS s+3) 0).toNat+(s.getD (nmS s+4) 0).toNat=szS s from rfl]
 rw [show ((nmS s:Int)+6)=((nmS s+6:Nat):Int) by omega,ia_ (x:=((nmS s+6:Nat):Int)) (by omega) (by omega)]
 by_cases hl:nmS s+6+szS s<=s.length
 ·rw [dF_ (by omega),iN_ (by simp),iP_ hl,f_w (by omega),bd_some,ia_ (y:=5) (by omega) (by omega),show ((nmS s:Int)+5)=((nmS s+5:Nat):Int) by omega,o_T (by omega),bd_some,t_a (by rw [List.length_drop];omega)]
  rw [show (s.drop<|nmS s+5).take (szS s)=pkS s from rfl]
  have hpl:(pkS s).length<=65536:=by unfold pkS;rw [List.length_take];omega
  rw [s_Z (by omega) (by omega)]
  rw [show (0:Int)=((0:Nat):Int) from rfl,g_g (show 0<s.length by omega)]
  rw [ia_ (x:=2) (by omega) (by omega),show (2:Int)+(nmS s:Int)=((2+nmS s:Nat):Int) by omega,show (2:Int)=((2:Nat):Int) from rfl,e_K (by omega)]
  rw [ia_ (y:=((2:Nat):Int)) (by omega) (by omega),show (nmS s:Int)+((2:Nat):Int)=((nmS s+2:Nat):Int) by omega,g_g (show nmS s+2<s.length by omega)]
  rw [show slc s ((0:Nat):Int) (((nmS s+6:Nat):Int)+(szS s:Int))=some (s.take (nmS s+6+szS s)) by
   have:=e_K (b:=s) (k:=0) (j:=nmS s+6+szS s) (by omega)
   rw [Nat.zero_add,List.drop_zero] at this
   rw [← this];congr 1]
  cases hu:d_s (pkS s) with
  | none=>rfl
  | some data =>
   simp only [bd2_some,bd_some,nT_,bF_,fF_]
   rw [show (⟨byteI<|s.getD 0 0,(⟨(s.drop 2).take (nmS s)⟩:Str),byteI<|s.getD (nmS s+2) 0,data⟩:o_)=a_C s data from rfl]
   rw [o_N (by omega),t_4 (by omega)]
   simp only [bd_some]
   cases hv:b_g (a_C s data) with
   | false =>
    simp only [Bool.not_false,fT_,bd_some,bF_,false_and,fF_];rfl
   | true =>
    simp only [nT_,bF_,fF_,true_and]
    rw [show k_P (a_W<|a_C s data) (s.take<|nmS s+6+szS s)=some (a_W (a_C s data)==s.take (nmS s+6+szS s)) from rfl,bd_some,bd_some]
    by_cases he:a_W (a_C s data)=s.take (nmS s+6+szS s)
    ·rw [show (a_W (a_C s data)==s.take (nmS s+6+szS s))=true by simpa using he,iN_ (by simp),iP_ he]
     unfold e_M
     simp only
     rw [ia_ (x:=(k:Int)) (y:=(nmS s:Int)) (by omega) (by omega),ia_ (x:=(k:Int)+(nmS s:Int)) (by omega) (by omega),ia_ (x:=(k:Int)+(nmS s:Int)+6) (by omega) (by omega)]
     rw [show (k:Int)+(nmS s:Int)+6+(szS s:Int)=((k+(nmS s+6+szS s):Nat):Int) by omega]
    ·rw [show (a_W (a_C s data)==s.take (nmS s+6+szS s))=false by simpa using he,show (!false)=true from rfl,iP_ rfl,iN_ he];rfl
 ·rw [dT_ (by omega),iP_ rfl,iN_ hl];rfl
theorem t_b {s:List UInt8}(hl:nmS s+6+szS s<=s.length)(hu:d_s (pkS s)=none):¬a_W (a_C s [])=s.take (nmS s+6+szS s):=by
 intro he;have hv:b_g (a_C s [])=true:=s_L.1 (by rw [he];intro h;have:=congrArg List.length h;rw [List.length_take,Nat.min_eq_left hl,List.length_nil] at this;omega);have h1:=o_x hv
 rw [he] at h1
 have h2:(a_C s []).name.b.length=nmS s:=by simp only [a_C,List.length_take,List.length_drop];omega
 have h3:(c_r (a_C s []).data).length=0:=rfl
 rw [h2,h3,List.length_take] at h1
 have h4:szS s=0:=by omega
 unfold pkS at hu
 rw [h4,List.take_zero,s_I] at hu
 cases hu
theorem t_c {s:List UInt8}{i:Nat}(h:i+2<=s.length):(s.drop i).take 2=[s.getD i 0,s.getD (i+1) 0]:=by
 rw [dC_ (by omega),dC_ (by omega)]
 simp only [List.take_succ_cons,List.take_zero]
 rw [gD_,gD_,gG_,gG_]
 rfl
theorem t_d (h l:UInt8):d_q [h,l] false=((256 * h.toNat+l.toNat:Nat):Int):=by
 simp only [d_q,bF_,fF_,List.foldl_cons,List.foldl_nil,b_O,byteI]
 omega
theorem slc_in {b:List UInt8}{k i j:Nat}(h:k+i+j<=b.length):slc b ((k+i:Nat):Int) ((k+i+j:Nat):Int)=some (((b.drop k).drop i).take j):=by
 rw [e_K h,List.drop_drop]
theorem t_e {b:List UInt8}(hb:b.length<=ML){k:Nat}(hk:k<=b.length){n:Nat}(hn:1060100<=n):g_U n b (k:Int)=some (e_M k<|a_L<|b.drop k):=by
 have hML:=MLv;have hMX:=MXv;have hLIM:=a_u;unfold g_U;have hdl:(b.drop k).length=b.length - k:=List.length_drop
 rw [b_m,a_x (by omega) (by omega),dT_ (show (0:Int)<=(k:Int) by omega),bd_some,Bool.true_and]
 by_cases h2:b.length - k<2
 ·rw [dF_ (by omega),k_d (by omega)];rfl
 rw [dT_ (by omega)]
 simp only [nT_,bF_,fF_]
 have hg:∀i,k+i<b.length->idx b ((k+i:Nat):Int)=some ((b.drop k).getD i 0):=fun i hi=>by rw [g_g hi,t_5]
 have hsl:∀i j,k+i+j<=b.length->slc b ((k+i:Nat):Int) ((k+i+j:Nat):Int)=some (((b.drop k).drop i).take j):=fun i j h=>slc_in h
 generalize hs:b.drop k=s at *
 have hc:=o_Q s;have hz:=o_R s;have hbn:byteI (s.getD 1 0)=(nmS s:Int):=rfl
 rw [ia_ (x:=(k:Int)) (y:=1) (by omega) (by omega),show ((k:Int)+1)=((k+1:Nat):Int) by omega,hg 1 (by omega),bd_some,hbn,o_S (by omega)]
 rw [ia_ (x:=(k:Int)) (y:=2) (by omega) (by omega),show ((k:Int)+2)=((k+2:Nat):Int) by omega]
 rw [ia_ (x:=((k+2:Nat):Int)) (y:=(nmS s:Int)) (by omega) (by omega),show (((k+2:Nat):Int)+(nmS s:Int))=((k+(2+nmS s):Nat):Int) by omega]
 rw [ia_ (x:=((k+(2+nmS s):Nat):Int)) (y:=3) (by omega) (by omega),ia_ (x:=((k+(2+nmS s):Nat):Int)) (y:=1) (by omega) (by omega)]
 by_cases h5:s.length<nmS s+5
 ·rw [dT_ (by omega),iP_ rfl,iN_ (by omega)];rfl
 rw [dF_ (by omega),iN_ (by simp)]
 rw [show (((k+(2+nmS s):Nat):Int)+1)=((k+(nmS s+3):Nat):Int) by omega,show (((k+(2+nmS s):Nat):Int)+3)=((k+(nmS s+3)+2:Nat):Int) by omega,hsl (nmS s+3) 2 (by omega),bd_some,t_c (by omega),l_x _ _ (by simp),bd_some,t_d]
 rw [show 256 * (s.getD (nmS s+3) 0).toNat+(s.getD (nmS s+3+1) 0).toNat=szS s from rfl]
 rw [show ((k+(nmS s+3)+2:Nat):Int)=((k+(nmS s+5):Nat):Int) by omega,ia_ (x:=((k+(nmS s+5):Nat):Int)) (y:=(szS s:Int)) (by omega) (by omega),show (((k+(nmS s+5):Nat):Int)+(szS s:Int))=((k+(nmS s+5)+szS s:Nat):Int) by omega]
 by_cases hl:nmS s+6+szS s<=s.length
 ·rw [dF_ (by omega),iN_ (by simp),iP_ hl,hsl (nmS s+5) (szS s) (by omega),bd_some]
  rw [show (s.drop<|nmS s+5).take (szS s)=pkS s from rfl]
  have hpl:(pkS s).length<=65536:=by unfold pkS;rw [List.length_take];omega
  rw [t_0 (by omega) (by omega)]
  have G:=hg 0 (by omega)
  rw [Nat.add_zero] at G
  have hm:=hsl 2 (nmS s) (by omega)
  rw [show ((k+2+nmS s:Nat):Int)=((k+(2+nmS s):Nat):Int) by omega] at hm
  have he:=hsl 0 (nmS s+6+szS s) (by omega)
  rw [Nat.add_zero,List.drop_zero] at he
  rw [G,hm,hg (2+nmS s) (by omega),Nat.add_comm 2<|nmS s,ia_ (x:=((k+(nmS s+5)+szS s:Nat):Int)) (y:=1) (by omega) (by omega),show (((k+(nmS s+5)+szS s:Nat):Int)+1)=((k+(nmS s+6+szS s):Nat):Int) by omega,he]
  have fin:∀data,(bd (α:=Bool) (if (((a_W<|a_C s data).length:Int)==0)=true then some true else bd (some<|s.take<|nmS s+6+szS s) fun H=>bd (g_T (a_W<|a_C s data) H) fun I=>some (!I)) (fun J=>if J=true then some ((⟨0,(⟨[]⟩:Str),0,([]:List UInt8)⟩:o_),(k:Int),false) else some (a_C s data,((k+(nmS s+6+szS s):Nat):Int),true)))=some (e_M k (if b_g (a_C s data)=true/\a_W (a_C s data)=s.take (nmS s+6+szS s) then some (a_C s data,nmS s+6+szS s) else none)):=by
   intro data
   cases hv:b_g (a_C s data) with
   | false =>
    have:a_W (a_C s data)=[]:=by unfold a_W;rw [hv];rfl
    rw [this]
    simp only [List.length_nil,show ((((0:Nat):Int))==0)=true from rfl,fT_,bd_some,bF_,false_and,fF_];rfl
   | true =>
    have hne:=o_x hv
    rw [show (((a_W<|a_C s data).length:Int)==0)=false by rw [beq_eq_false_iff_ne];omega,iN_ (by simp),bd_some,t_8,bd_some,bd_some]
    by_cases he:a_W (a_C s data)=s.take (nmS s+6+szS s)
    ·rw [show (a_W (a_C s data)==s.take (nmS s+6+szS s))=true by simpa using he,iN_ (by simp),iP_ ⟨rfl,he⟩];rfl
    ·rw [show (a_W (a_C s data)==s.take (nmS s+6+szS s))=false by simpa using he,show (!false)=true from rfl,iP_ rfl,iN_<|fun h=>he h.2];rfl
  cases hu:d_s (pkS s) with
  | none =>
   simp only [bd2_some,bd_some]
   rw [show (⟨byteI<|s.getD 0 0,(⟨(s.drop 2).take (nmS s)⟩:Str),byteI<|s.getD (nmS s+2) 0,[]⟩:o_)=a_C s [] from rfl,o_P (by omega),bd_some]
   have:=fin []
   rw [bd_some] at this
   rw [this,iN_<|fun h=>t_b hl hu h.2]
  | some data =>
   simp only [bd2_some,bd_some]
   rw [show (⟨byteI<|s.getD 0 0,(⟨(s.drop 2).take (nmS s)⟩:Str),byteI<|s.getD (nmS s+2) 0,data⟩:o_)=a_C s data from rfl,o_P (by omega),bd_some]
   have:=fin data
   rw [bd_some] at this
   exact this
 ·rw [dT_ (by omega),iP_ rfl,iN_ hl];rfl
end Go.Vw
