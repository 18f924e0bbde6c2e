
import Derived.Test.YtbhbfaljeoeciaaGreatDoorVz
import Derived.Test.YtbhbfaljeoeciaaGreatDoorVb4
namespace Go.Vw
open Go.RowKit Dat
section
variable {d:c_}{b:List UInt8}
theorem p_M (hd:SmD d)(J:(a_A d b).2.2=0){n:Nat}(hn:2000<=n):∃t:Str,e_H n d (a_R d) (a_A d b).1=some t/\e_I n d (a_R d) (a_A d b).1=some t/\f_E n d (a_R d) t=some ((a_A d b).1,true)/\f_P n d (a_R d) t=some ((a_A d b).1,true):=by
 obtain ⟨hv,hb,hl,hroot,hok,e,_⟩:=m_0 (show okF d b=true by unfold okF;rw [J];rfl);have Y:=(c_h hv).2;obtain ⟨_,hz⟩:=j_P (d:=d) (b:=b);have hS:=q_j hv hd hb hl (Nat.zero_le _) hok (n:=n) (by omega)
 rw [← e,← hroot] at hS
 obtain ⟨y,L,_,O,_⟩:=k_h hv hd (i:=a_R d) (v:=(a_A d b).1) (n:=n) (by omega)
 rw [L] at hS
 obtain ⟨k,hk,hkl,hV⟩:=O<|Option.some.inj hS;generalize (a_A d b).1=v at *
 have hzk:vsz (k+1) v<=20000:=Nat.le_trans (j_O v (by omega)) hz;obtain ⟨t,t1,G,H,I⟩:=p_t hv hd (show k+1<=25 by omega) hV hzk (n:=n) (by omega);have hs:t.b.length<=1000000000:=by omega
 obtain ⟨c,u,ec,_⟩:=g_x hV G;have hne:(t.b==(⟨[]⟩:Str).b)=false:=by rw [ec];rfl
 have V:l_9 n d (k:Int) t 0=some (v,((0+t.b.length:Nat):Int)):=j_Y hv hd hs (k+1) n (by omega) k v t.b [] 0 hV G (by simp) (fun c u h=>by cases h);have W:l_a n ⟨⟨d.rules⟩,t,0⟩ (k:Int)=some (v,true,((0+t.b.length:Nat):Int)):=m_g hv hd hs (k+1) n (by omega) k v t.b [] 0 hV G (by simp) (fun c u h=>by cases h);have hir:b_q d (k:Int)=true:=by unfold b_q;simp;omega
 rw [hk]
 refine ⟨t,H,I,?_,?_⟩
 ·unfold f_E
  rw [g_t d hd,hv,hir,bd_some,iN_ (by simp),V,bd2_some,Nat.zero_add,bN_,iN_ (by simp),H,bd_some,bN_,iN_ (by simp),hne,bd_some,iN_ (by simp)]
 ·unfold f_P
  rw [i_z n (by omega) d hd,hv,hir,bd_some,iN_ (by simp),W,bd3_some]
  simp only [nT_,bF_,fF_]
  rw [I,bd_some,bN_,iN_ (by simp),hne,bd_some,iN_ (by simp)]
theorem m_m (hd:SmD d){n:Nat}(hn:2000<=n):∃w:List UInt8×Bool,e_M n d b=some w/\e_O n d b=some w/\w.1.length<=400:=by
 unfold e_M e_O
 rw [i_W hd (by omega),i_V hd (by omega)]
 obtain ⟨_,hz⟩:=j_P (d:=d) (b:=b);obtain ⟨w,G,H,I⟩:=p_q hd (n:=n) (v:=(a_A d b).1) (by omega) (fun m hm=>by have:=j_O (a_A d b).1 hm;omega);generalize a_A d b=rf at *
 obtain ⟨L,O,J⟩:=rf
 simp only [bd3_some] at G H ⊢
 rw [G,H]
 obtain ⟨o,ok⟩:=w
 cases hc:(J != 0)
 ·exact ⟨(o,ok),rfl,rfl,I⟩
 ·exact ⟨([],false),rfl,rfl,Nat.zero_le _⟩
theorem p_N (hd:SmD d){n:Nat}(hn:2000<=n):∃r:Bool,f_H n d b=some r/\f_S n d b=some r:=by
 unfold f_H f_S
 rw [i_W hd (by omega),i_V hd (by omega)]
 obtain ⟨w,L,O,_⟩:=m_m hd (b:=b) (n:=n) (by omega);obtain ⟨hdep,_⟩:=j_P (d:=d) (b:=b);have hpb:=p_M hd (b:=b) (n:=n);obtain ⟨w',w1',w2',_⟩:=m_m hd (b:=w.1) (n:=n) (by omega)
 have hsame:∃e,f_F n d b w.1=some e/\f_Q n d b w.1=some e:=by
  unfold f_F f_Q
  rw [i_W hd (by omega),i_V hd (by omega),i_W hd (by omega),i_V hd (by omega)]
  obtain ⟨e,he⟩:=q_w 25 (a_A d b).1 (a_A d w.1).1 hdep;obtain ⟨G,H⟩:=he n (by omega);generalize a_A d b=x at *
  generalize a_A d w.1=y at *
  obtain ⟨x1,x2,x3⟩:=x;obtain ⟨y1,y2,V⟩:=y
  simp only [bd3_some] at G H ⊢
  rw [G,H]
  cases (x3==0)
  ·exact ⟨false,rfl,rfl⟩
  ·cases (V==0)
   ·exact ⟨false,rfl,rfl⟩
   ·exact ⟨e,rfl,rfl⟩
 have hcan:∃e,f_G n d w.1=some e/\f_R n d w.1=some e:=by
  unfold f_G f_R
  rw [w1',w2']
  obtain ⟨o,ok⟩:=w'
  simp only [bd2_some]
  rw [q_3,g_D]
  cases ok
  ·exact ⟨false,rfl,rfl⟩
  ·refine ⟨o==w.1,rfl,?_⟩
   show some (w.1==o)=some (o==w.1)
   congr 1
   rw [Bool.eq_iff_iff]
   simp only [beq_iff_eq]
   exact eq_comm
 obtain ⟨G,s1,s2⟩:=hsame;obtain ⟨H,W,Y⟩:=hcan;have q1:=eqv_ok 25 _ hdep n (by omega);have q2:=q_t 25 _ hdep n (by omega)
 rw [k_f hd,k_e hd]
 generalize a_A d b=rf at *
 obtain ⟨v0,p0,J⟩:=rf;obtain ⟨o,ok⟩:=w
 simp only [bd3_some,bd_some] at *
 by_cases I:J=0
 ·obtain ⟨t,t1,t2,t3,t4⟩:=hpb I (by omega)
  rw [I,L,O,t1,t2]
  simp only [bd_some,bd2_some,bN_,bF_,fF_]
  rw [t3,t4]
  simp only [bd_some,bd2_some,un4,g_H]
  rw [s1,s2,W,Y,q1,q2]
  cases ok <;> cases G <;> cases H <;> exact ⟨_,rfl,rfl⟩
 ·rw [show (J != 0)=true by simpa using I]
  exact ⟨true,rfl,rfl⟩
theorem p_O {n:Nat}(hn:4000000<=n)(hd:LnD d)(hb:b.length<=LEN):f_T n d b=some true:=by
 have hMX:=MXv;have hLEN:=LENv;unfold f_T
 by_cases h1:(1048576:Int)<(b.length:Int)
 ·rw [dT_ h1];rfl
 rw [dF_ h1]
 obtain ⟨r,hr,G⟩:=p_E hd
 simp only [bF_,fF_]
 rw [hr,bd_some]
 by_cases h2:r<0
 ·rw [dT_ h2];rfl
 rw [dF_ h2]
 have hs:=(G.resolve_left h2).2;have hbm:b.length<=MX:=by omega
 obtain ⟨t,H,I⟩:=p_N (b:=b) hs (n:=n) (by omega)
 simp only [bF_,fF_,p_I hs,m_j hbm,bd_some,H,I,p_L,m_l,nT_,bN_]
end
end Go.Vw
