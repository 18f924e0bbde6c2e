
import Derived.Test.YtjdphpimefbinaaGreatDoorVb0
namespace Go.Vw
open Go.RowKit Dat
section
variable {d:c_}{b:Bt}
theorem u_6 (d:c_)(b:Bt):∃p:Nat,(b_4 d b).2.1=(p:Int)/\p<=400:=by
 have h1:∃p:Nat,(a_O d (a_I d) b 0).2.1=(p:Int)/\p<=400:=by
  unfold a_O
  by_cases h:okV d b (a_I d) 0=true
  .obtain ⟨hv,hb,i,p,hi,hp,hil,hpl⟩:=f_o h
   rw [iP_ h,hi]
   have:=a_X (b:=b) hv i hil 0 (by omega);exact ⟨(rdW d.rules b i 0).2.1,by simp [a_Y],by omega⟩
  .rw [iN_ h];exact ⟨0,rfl,by omega⟩
 unfold b_4;obtain ⟨p,hp,h4⟩:=h1
 split
 .exact ⟨p,hp,h4⟩
 .exact ⟨p,hp,h4⟩
theorem u_7 (hd:SmD d){n:Nat}(hn:2000<=n):∃x:c_3,h_l n d b=some x/\g_O n d b=some x/\x.code=(b_4 d b).2.2/\x.position=(b_4 d b).2.1/\x.path.b.length<=MX/\(x.rule = -1∨∃j:Nat,x.rule=(j:Int)/\j<d.rules.length/\G_ d=true):=by
 have hMX:=MXv;unfold h_l g_O
 rw [t_S hd (by omega),t_Q hd (by omega),bd2_some,bd2_some,h_C hd,h_D hd,bd_some,bd_some]
 generalize hq:(b_4 d b).2.1=W;generalize hc:(b_4 d b).2.2=c
 by_cases G:c=8
 .rw [G]
  exact ⟨_,rfl,rfl,rfl,rfl,by simp,.inl rfl⟩
 rw [show (c==8)=false by simpa using G]
 have ho:okV d b (a_I d) 0=true:=by
  by_cases h:okV d b (a_I d) 0=true
  .exact h
  .exfalso
   unfold b_4 a_O at hc
   rw [iN_ h] at hc
   simp at hc
   exact G hc.symm
 obtain ⟨hv,hb,_⟩:=f_o ho;have hl:=a_T hv
 rw [t_T hv]
 by_cases J:c=0
 .rw [J]
  exact ⟨_,rfl,rfl,rfl,rfl,by simp,.inr ⟨_,rfl,by omega,hv⟩⟩
 by_cases L:c=7
 .rw [L]
  exact ⟨_,rfl,rfl,rfl,rfl,by simp,.inr ⟨_,rfl,by omega,hv⟩⟩
 rw [show (c==0)=false by simpa using J,show (c==7)=false by simpa using L]
 simp only [bF_,fF_,bd_some]
 obtain ⟨x,⟨j,hj,hjl,hxl⟩,O,V⟩:=t_Z (b:=b) hv hd hb (d.rules.length - 1) (by omega) 0 (by omega) ⟨[]⟩ (by simp only [List.length_nil];omega);have H:=O n (by omega) ⟨[]⟩ 0;have I:=V n (by omega)
 rw [show (((0:Nat):Nat):Int)=0 from rfl] at H I
 rw [show (b_w n).impl_tracer_part=n_x n from rfl] at H
 rw [show (c_H n).spec_l28Find=m_T n from rfl] at I
 rw [show (⟨⟨d.rules⟩,b,⟨[]⟩,0⟩:b_N)=⟨d,b,⟨[]⟩,0⟩ from rfl,H,I]
 exact ⟨_,rfl,rfl,rfl,rfl,(show x.1.b.length<=MX by omega),.inr ⟨j,hj,hjl,hv⟩⟩
theorem u_8 (c:Int):∃s:Str,s.b.length<=10/\g_P c=some s/\f_C c=some s:=by
 by_cases h:0<=c/\c<=8
 .have:c=0∨c=1∨c=2∨c=3∨c=4∨c=5∨c=6∨c=7∨c=8:=by omega
  rcases this with rfl | rfl | rfl | rfl | rfl | rfl | rfl | rfl | rfl <;> exact ⟨_,by decide,rfl,rfl⟩
 .refine ⟨⟨[]⟩,by simp,?_,?_⟩
  .unfold g_P
   rw [b_K,show W_ ([(⟨[111,107]⟩:Str),(⟨[115,104,111,114,116]⟩:Str),(⟨[99,111,110,115,116]⟩:Str),(⟨[116,97,103]⟩:Str),(⟨[102,108,97,103]⟩:Str),(⟨[115,117,109]⟩:Str),(⟨[99,111,117,110,116]⟩:Str),(⟨[116,114,97,105,108,105,110,103]⟩:Str),(⟨[114,117,108,101]⟩:Str)].length:Int) 1=8 from rfl]
   have hx:(decide (0<=c) && decide (c<=8))=false:=by
    by_cases G:0<=c
    .rw [dF_ (show ¬c<=8 by omega),Bool.and_false]
    .rw [dF_ G,Bool.false_and]
   rw [bd_some,hx]
   rfl
  .unfold f_C c_1
   by_cases G:0<=c
   .rw [dT_ G,iP_ rfl,bd_some,dF_ (show ¬c<=8 by omega)];rfl
   .rw [dF_ G];rfl
theorem u_9 (hd:SmD d){n:Nat}(hn:2000<=n){x:c_3}(hc:x.code ≠ 0){p:Nat}(hp:x.position=(p:Int))(V:p<=400)(hpath:x.path.b.length<=MX)(hr:x.rule = -1∨∃j:Nat,x.rule=(j:Int)/\j<d.rules.length/\G_ d=true):∃t:Str,g_S d x=some t/\g_Q n d x=some t:=by
 have hMX:=MXv;have hLIM:=a_G;obtain ⟨s,hs,s1,s2⟩:=u_8 x.code;have ip:=h_E p (by omega);unfold g_S g_Q i_Y i_X c_T f_W c_S
 rw [show (x.code==0)=false by simpa using hc,s1,s2,hp,k_s (by omega) p (by omega)]
 simp only [bF_,fF_,bd_some]
 have I:cat s ⟨[32,97,116,32]⟩=some ⟨s.b++[32,97,116,32]⟩:=P_ (by simp only [lC_,List.length_nil];omega);have J:cat ⟨s.b++[32,97,116,32]⟩ ⟨Lib.itoa (p:Int)⟩=some ⟨(s.b++[32,97,116,32])++Lib.itoa (p:Int)⟩:=P_ (by simp only [List.length_append,lC_,List.length_nil];omega)
 simp only [I,J,bd_some]
 have hE:((s.b++[32,97,116,32])++Lib.itoa (p:Int)).length<=100:=by simp only [List.length_append,lC_,List.length_nil];omega
 generalize (s.b++[32,97,116,32])++Lib.itoa (p:Int)=E at hE
 -- the path
 have hP:∃y:Bt,y.length<=MX+200 /\
   (if (x.path.b != ([]:Bt)) then bd (cat (⟨[32,105,110,32]⟩:Str) x.path) λG=>bd (cat ⟨E⟩ G) λH=>some H else some ⟨E⟩)=some ⟨y⟩ /\
   (if (x.path.b != ([]:Bt)) then bd (cat ⟨E⟩ (⟨[32,105,110,32]⟩:Str)) λG=>bd (cat G x.path) λH=>some H else some ⟨E⟩)=some ⟨y⟩:=by
  by_cases hn:(x.path.b != ([]:Bt))=true
  .rw [iP_ hn,iP_ hn]
   refine ⟨E++([32,105,110,32]++x.path.b),by simp only [List.length_append,lC_,List.length_nil];omega,?_,?_⟩
   .rw [P_ (by simp only [lC_,List.length_nil];omega),bd_some,P_ (by simp only [List.length_append,lC_,List.length_nil];omega),bd_some]
   .rw [P_ (by simp only [lC_,List.length_nil];omega),bd_some,P_ (by simp only [List.length_append,lC_,List.length_nil];omega),bd_some,List.append_assoc]
  .rw [iN_ hn,iN_ hn]
   exact ⟨E,by omega,rfl,rfl⟩
 obtain ⟨y,hy,L,O⟩:=hP
 rw [L,O]
 simp only [bd_some,b_K]
 -- the rule
 rcases hr with hr | ⟨j,hr,hj,hv⟩
 .rw [hr]
  exact ⟨⟨y⟩,rfl,rfl⟩
 .have hlen:=(a_T hv).2;have hnm:=(a_r hv hj).name
  have hnl:d.rules[j].name.b.length<=12:=by
   unfold a_W at hnm
   simp only [aE_,dE_] at hnm
   omega
  rw [hr,dT_ (show (0:Int)<=(j:Int) by omega),iP_ rfl,dT_ (show (j:Int)<(d.rules.length:Int) by omega),bd_some,b_p (by omega) (by omega),dT_ (show (j:Int)<=(d.rules.length:Int) - 1 by omega)]
  simp only [Bool.and_self,fT_,ix_ hj,bd_some]
  rw [P_ (by simp only [lC_,List.length_nil];omega),bd_some,P_ (by simp only [List.length_append,lC_,List.length_nil];omega),bd_some,P_ (by simp only [List.length_append,lC_,List.length_nil];omega),bd_some]
  refine ⟨_,rfl,?_⟩
  rw [P_ (by simp only [lC_,List.length_nil];omega),bd_some,P_ (by simp only [List.length_append,lC_,List.length_nil];omega),bd_some,P_ (by simp only [List.length_append,lC_,List.length_nil];omega),bd_some]
  simp
end
end Go.Vw
