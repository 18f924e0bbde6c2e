
import Derived.Test.YtcaidakkhpmcjaaGreatDoorVwP86
import Derived.Test.YtcaidakkhpmcjaaGreatDoorVwP85
namespace Go.Vw
open Go.RowKit Dat
section
variable {d:b_}{b:List UInt8}
theorem n_r {β:Type}(f:Val->Int->Int->Option β):bd3 (some<|b_6 d b) f=f (b_6 d b).1 (b_6 d b).2.1 (b_6 d b).2.2:=rfl
theorem n_s (hd:SmD d){e:k_}(he:e∈a_N d b){n:Nat}(hn:1048600<=n):∃(v:Val)(i:Int),e.rule=i/\d_s d b e.path=(e,true)/\d_X d b e.path=(v,true)/\f_1 n d (b_6 d b).1 e.path=some (v,i,true)/\f_d n d (b_6 d b).1 e.path=some (v,i,true)/\k_3 n v v=some true/\k_l n v v=some true:=by
 obtain ⟨i,p,g1,O,hi,hp,hok,hdep,hf⟩:=r_y (n:=n) hn hd he;obtain ⟨G,L,k1,k2,H⟩:=r_I (n:=n) hn hd he;obtain ⟨i',p',heq,hi',hp',hok',hfp⟩:=r_A hd he;have V:e.rule=(i':Int):=congrArg k_.rule heq;have W:e.start=(p':Int):=congrArg k_.start heq;have hii:i'=i:=by omega
 have hpp:p'=p:=by omega
 have I:G=i:=by omega
 have J:L=p:=by omega
 subst hii hpp I J;obtain ⟨hv,_,_,_,_⟩:=k_N hfp;have hvl:=(a_O hv).2;refine ⟨_,_,g1,?_,?_,hf,H,eqv_ok G _ hdep n (by omega),r_H G _ hdep n (by omega)⟩
 ·unfold d_s
  rw [hfp]
  exact congrArg (fun z=>(z,true)) heq.symm
 ·unfold d_X
  rw [hfp]
theorem r_J (hd:SmD d){n:Nat}(hn:1048600<=n):g_l n d b=some true:=by
 unfold g_l
 rw [q_m hd (by omega),bd2_some,n_n hd (by omega),n_r]
 rw [c_F (l:=a_N d b) (p:=fun _=>false) (r:=false) (fun k hk=>by
  have hm:(a_N d b)[k]∈a_N d b:=gE_ hk;obtain ⟨v,i,h1,h2,h3,h4,_,h6,_⟩:=n_s hd hm hn;have hps:=k_T hm
  rw [ix_ hk]
  simp only [bd_some,i_U hd hn hps,r_0 hd hn hps,h2,h3,h4,bd2_some,bd3_some,un5,un4,e_z,h6]
  rw [show (!true)=false from rfl,iN_ (by simp),iN_ (by simp),iN_ (by simp)]
  rw [show (!decide True)=false by simp,iN_ (by simp),h1,bN_,iN_ (by simp),bd_some]
  simp)]
 simp
theorem r_K (hd:SmD d){n:Nat}(hn:1048600<=n):g_m n d b=some true:=by
 unfold g_m
 rw [q_n hd (by omega),bd2_some,n_m hd (by omega),n_r]
 rw [c_F (l:=a_N d b) (p:=fun _=>false) (r:=false) (fun k hk=>by
  have hm:(a_N d b)[k]∈a_N d b:=gE_ hk;obtain ⟨v,i,h1,h2,h3,_,h5,_,G⟩:=n_s hd hm hn;have hps:=k_T hm
  rw [ix_ hk]
  simp only [bd_some,m_V hd hn hps,r_2 hd hn hps,h2,h3,h5,bd2_some,bd3_some,G]
  rw [show (!true)=false from rfl,iN_ (by simp),show (!decide True)=false by simp,iN_ (by simp),iN_ (by simp),iN_ (by simp),bd_some]
  simp)]
 simp
theorem r_L {n:Nat}(hn:4000000<=n)(hd:LnD d)(hb:b.length<=LEN):g_n n d b=some true:=by
 have hMX:=MXv;have hLEN:=LENv;unfold g_n
 by_cases h1:(1048576:Int)<(b.length:Int)
 ·rw [dT_ h1];rfl
 rw [dF_ h1]
 obtain ⟨r,hr,G⟩:=q_r hd
 simp only [bF_,fF_]
 rw [hr,bd_some]
 by_cases h2:r<0
 ·rw [dT_ h2];rfl
 rw [dF_ h2]
 have hs:=(G.resolve_left h2).2;have hbm:b.length<=MX:=by omega
 simp only [bF_,fF_,q_v hs,m_o hbm,bd_some,r_J hs (show 1048600<=n by omega),r_K hs (show 1048600<=n by omega)]
 simp only [bF_,fF_,bd_some,q_y,m_q,nT_,bN_]
end
end Go.Vw
