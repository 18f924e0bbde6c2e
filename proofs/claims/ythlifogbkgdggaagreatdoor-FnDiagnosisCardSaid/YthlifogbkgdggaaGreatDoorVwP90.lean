
import Derived.Test.YthlifogbkgdggaaGreatDoorVwP88
import Derived.Test.YthlifogbkgdggaaGreatDoorVwP78
import Derived.Test.YthlifogbkgdggaaGreatDoorVwP13
import Derived.Test.YthlifogbkgdggaaGreatDoorVwP67
namespace Go.Vw
open Go.RowKit Dat
section
variable {d:d_}{b:List UInt8}
theorem n_g (d:d_)(b:List UInt8):∃p:Nat,(a_L d b).2.1=(p:Int)/\p<=400:=by
 have h1:∃p:Nat,(a_Y d (a_Z d) b 0).2.1=(p:Int)/\p<=400:=by
  unfold a_Y
  by_cases h:okV d b (a_Z d) 0=true
  ·obtain ⟨hv,hb,i,p,hi,hp,hil,hpl⟩:=f_h h
   rw [iP_ h,hi]
   have:=d_2 (b:=b) hv i hil 0 (by omega);exact ⟨(rdW d.rules b i 0).2.1,by simp [b_v],by omega⟩
  ·rw [iN_ h];exact ⟨0,rfl,by omega⟩
 unfold a_L;obtain ⟨p,hp,h4⟩:=h1
 split
 ·exact ⟨p,hp,h4⟩
 ·exact ⟨p,hp,h4⟩
theorem n_h (hd:SmD d){n:Nat}(hn:2000<=n):∃x:a_n,f_5 n d b=some x/\e_N n d b=some x/\x.code=(a_L d b).2.2/\x.position=(a_L d b).2.1/\x.path.b.length<=MX/\(x.rule = -1∨∃j:Nat,x.rule=(j:Int)/\j<d.rules.length/\a_9 d=true):=by
 have hMX:=MXv;unfold f_5 e_N
 rw [i_k hd (by omega),k_j hd (by omega),bd2_some,bd2_some,i_l hd,k_m hd,bd_some,bd_some]
 generalize hq:(a_L d b).2.1=W;generalize hc:(a_L d b).2.2=c
 by_cases G:c=8
 ·rw [G]
  exact ⟨_,rfl,rfl,rfl,rfl,by simp,.inl rfl⟩
 rw [show (c==8)=false by simpa using G]
 have ho:okV d b (a_Z d) 0=true:=by
  by_cases h:okV d b (a_Z d) 0=true
  ·exact h
  ·exfalso
   unfold a_L a_Y at hc
   rw [iN_ h] at hc
   simp at hc
   exact G hc.symm
 obtain ⟨hv,hb,_⟩:=f_h ho;have hl:=c_4 hv
 rw [n_4 hv]
 by_cases J:c=0
 ·rw [J]
  exact ⟨_,rfl,rfl,rfl,rfl,by simp,.inr ⟨_,rfl,by omega,hv⟩⟩
 by_cases L:c=7
 ·rw [L]
  exact ⟨_,rfl,rfl,rfl,rfl,by simp,.inr ⟨_,rfl,by omega,hv⟩⟩
 rw [show (c==0)=false by simpa using J,show (c==7)=false by simpa using L]
 simp only [bF_,fF_,bd_some]
 obtain ⟨x,⟨j,hj,hjl,hxl⟩,O,V⟩:=n_a (b:=b) hv hd hb (d.rules.length - 1) (by omega) 0 (by omega) ⟨[]⟩ (by simp only [List.length_nil];omega);have H:=O n (by omega) ⟨[]⟩ 0;have I:=V n (by omega)
 rw [show (((0:Nat):Nat):Int)=0 from rfl] at H I
 rw [show (a_S n).impl_tracer_part=j_A n from rfl] at H
 rw [show (b_L n).spec_l28Find=j_m n from rfl] at I
 rw [show (⟨⟨d.rules⟩,b,⟨[]⟩,0⟩:b_6)=⟨d,b,⟨[]⟩,0⟩ from rfl,H,I]
 exact ⟨_,rfl,rfl,rfl,rfl,(show x.1.b.length<=MX by omega),.inr ⟨j,hj,hjl,hv⟩⟩
theorem n_i (c:Int):∃s:Str,s.b.length<=10/\e_O c=some s/\d_W c=some s:=by
 by_cases h:0<=c/\c<=8
 ·have:c=0∨c=1∨c=2∨c=3∨c=4∨c=5∨c=6∨c=7∨c=8:=by omega
  rcases this with rfl | rfl | rfl | rfl | rfl | rfl | rfl | rfl | rfl <;> exact ⟨_,by decide,rfl,rfl⟩
 ·refine ⟨⟨[]⟩,by simp,?_,?_⟩
  ·unfold e_O
   rw [b_4,show G_ ([(⟨[111,107]⟩:Str),(⟨[115,104,111,114,116]⟩:Str),(⟨[99,111,110,115,116]⟩:Str),(⟨[116,97,103]⟩:Str),(⟨[102,108,97,103]⟩:Str),(⟨[115,117,109]⟩:Str),(⟨[99,111,117,110,116]⟩:Str),(⟨[116,114,97,105,108,105,110,103]⟩:Str),(⟨[114,117,108,101]⟩:Str)].length:Int) 1=8 from rfl]
   have hx:(decide (0<=c) && decide (c<=8))=false:=by
    by_cases G:0<=c
    ·rw [dF_ (show ¬c<=8 by omega),Bool.and_false]
    ·rw [dF_ G,Bool.false_and]
   rw [bd_some,hx]
   rfl
  ·unfold d_W b_p
   by_cases G:0<=c
   ·rw [dT_ G,iP_ rfl,bd_some,dF_ (show ¬c<=8 by omega)];rfl
   ·rw [dF_ G];rfl
theorem n_j (hd:SmD d){n:Nat}(hn:2000<=n){x:a_n}(hc:x.code ≠ 0){p:Nat}(hp:x.position=(p:Int))(V:p<=400)(hpath:x.path.b.length<=MX)(hr:x.rule = -1∨∃j:Nat,x.rule=(j:Int)/\j<d.rules.length/\a_9 d=true):∃t:Str,d_n d x=some t/\c_A n d x=some t:=by
 have hMX:=MXv;have hLIM:=a_v;obtain ⟨s,hs,s1,s2⟩:=n_i x.code;have ip:=f_i p (by omega);unfold d_n c_A g_g d_V c_a g_v b_T
 rw [show (x.code==0)=false by simpa using hc,s1,s2,hp,h_0 (by omega) p (by omega)]
 simp only [bF_,fF_,bd_some]
 have I:cat s ⟨[32,97,116,32]⟩=some ⟨s.b++[32,97,116,32]⟩:=a_C (by simp only [lC_,List.length_nil];omega);have J:cat ⟨s.b++[32,97,116,32]⟩ ⟨Lib.itoa (p:Int)⟩=some ⟨(s.b++[32,97,116,32])++Lib.itoa (p:Int)⟩:=a_C (by simp only [List.length_append,lC_,List.length_nil];omega)
 simp only [I,J,bd_some]
 have hE:((s.b++[32,97,116,32])++Lib.itoa (p:Int)).length<=100:=by simp only [List.length_append,lC_,List.length_nil];omega
 generalize (s.b++[32,97,116,32])++Lib.itoa (p:Int)=E at hE
 -- the path
 have hP:∃y:List UInt8,y.length<=MX+200 /\
   (if (x.path.b != ([]:List UInt8))=true then bd (cat (⟨[32,105,110,32]⟩:Str) x.path) fun G=>bd (cat ⟨E⟩ G) fun H=>some H else some ⟨E⟩)=some ⟨y⟩ /\
   (if (x.path.b != ([]:List UInt8))=true then bd (cat ⟨E⟩ (⟨[32,105,110,32]⟩:Str)) fun G=>bd (cat G x.path) fun H=>some H else some ⟨E⟩)=some ⟨y⟩:=by
  by_cases hn:(x.path.b != ([]:List UInt8))=true
  ·rw [iP_ hn,iP_ hn]
   refine ⟨E++([32,105,110,32]++x.path.b),by simp only [List.length_append,lC_,List.length_nil];omega,?_,?_⟩
   ·rw [a_C (by simp only [lC_,List.length_nil];omega),bd_some,a_C (by simp only [List.length_append,lC_,List.length_nil];omega),bd_some]
   ·rw [a_C (by simp only [lC_,List.length_nil];omega),bd_some,a_C (by simp only [List.length_append,lC_,List.length_nil];omega),bd_some,List.append_assoc]
  ·rw [iN_ hn,iN_ hn]
   exact ⟨E,by omega,rfl,rfl⟩
 obtain ⟨y,hy,L,O⟩:=hP
 rw [L,O]
 simp only [bd_some,b_4]
 -- the rule
 rcases hr with hr | ⟨j,hr,hj,hv⟩
 ·rw [hr]
  exact ⟨⟨y⟩,rfl,rfl⟩
 ·have hlen:=(c_4 hv).2;have hnm:=(c_m hv hj).name
  have hnl:d.rules[j].name.b.length<=12:=by
   unfold a_X at hnm
   simp only [aE_,dE_] at hnm
   omega
  rw [hr,dT_ (show (0:Int)<=(j:Int) by omega),iP_ rfl,dT_ (show (j:Int)<(d.rules.length:Int) by omega),bd_some,a_y (by omega) (by omega),dT_ (show (j:Int)<=(d.rules.length:Int) - 1 by omega)]
  simp only [Bool.and_self,fT_,ix_ hj,bd_some]
  rw [a_C (by simp only [lC_,List.length_nil];omega),bd_some,a_C (by simp only [List.length_append,lC_,List.length_nil];omega),bd_some,a_C (by simp only [List.length_append,lC_,List.length_nil];omega),bd_some]
  refine ⟨_,rfl,?_⟩
  rw [a_C (by simp only [lC_,List.length_nil];omega),bd_some,a_C (by simp only [List.length_append,lC_,List.length_nil];omega),bd_some,a_C (by simp only [List.length_append,lC_,List.length_nil];omega),bd_some]
  simp
end
end Go.Vw
