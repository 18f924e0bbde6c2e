
import Derived.Test.YtelphaiofendpaaGreatDoorVwP82
import Derived.Test.YtelphaiofendpaaGreatDoorVwP55
import Derived.Test.YtelphaiofendpaaGreatDoorVwP70
namespace Go.Vw
open Go.RowKit Dat
theorem s_L {n:Nat}(hn:4000000<=n)(c:Bt):g_G n c=some true:=by
 have hMX:=MXv;unfold g_G i_n
 rw [bd_some]
 by_cases h1:(1048576:Int)<(c.length:Int)
 .rw [dT_ h1];rfl
 rw [dF_ h1,iN_ (by simp)]
 obtain ⟨d,b,L,hdd,hb⟩:=s_g (c:=c) (by omega) (n:=n) (by omega);have hd:=hdd.sm
 rw [L,bd3_some,o_a hd (by omega)]
 have hrf:∀{β:Type}(f:Val->Int->Int->Option β),bd3 (some<|c_r d b) f=f (c_r d b).1 (c_r d b).2.1 (c_r d b).2.2:=λf=>rfl
 rw [hrf]
 rw [e_1 (l:=a_K d b) (p:=λ_=>false) (r:=false) (λk hk=>by
  have hm:(a_K d b)[k]∈a_K d b:=gE_ hk;obtain ⟨i,p,g1,g2,hi,hp,hok,hdep,hf⟩:=s_K (n:=n) (by omega) hd hm;obtain ⟨i',p',heq,hi',hp',hok',hfp⟩:=o_d hd hm;have H:(a_K d b)[k].rule=(i':Int):=congrArg y_.rule heq;have O:(a_K d b)[k].start=(p':Int):=congrArg y_.start heq;have hii:i'=i:=by omega
  have hpp:p'=p:=by omega
  subst hii hpp;obtain ⟨hv,G,_,_,_⟩:=j_s hfp;have hps:=l_o hm;have hvl:=(b_e hv).2;obtain ⟨t,v,x,t1,V,I,J⟩:=s_z (n:=n) (by omega) hd hm
  have hRV:f_i n d (a_K d b)[k].rule b (a_K d b)[k].start=some (b_m<|rdW d.rules b i' p'):=by
   rw [H,O,l_E hd (by omega),j_l hv G hi hp]
  have hv':v=(rdW d.rules b i' p').1:=by
   rw [hRV] at I
   exact (congrArg Prod.fst<|Option.some.inj I).symm
  obtain ⟨W,Y,f2⟩:=o_5 hv hd G hi hp hok (n:=n) (by omega)
  have htt:t=W:=by
   rw [H,hv',f2] at J
   exact (Option.some.inj J).symm
  have hEq:=eqv_ok i' (rdW d.rules b i' p').1 hdep n (by omega)
  have hLoc:f_f n d b (a_K d b)[k].path=some ((a_K d b)[k],true):=by
   rw [n_x hd (by omega) hps]
   unfold d_U
   rw [hfp]
   exact congrArg (λz=>some (z,true)) heq.symm
  have hRP:g_m n d b (a_K d b)[k].path=some ((rdW d.rules b i' p').1,true):=by
   rw [r_T hd (by omega) hps]
   unfold d_t
   rw [hfp]
  have hCI:g_F n d b (a_K d b)[k].path=some ((rdW d.rules b i' p').1.items.length:Int):=by
   unfold g_F
   rw [l_l hd (by omega) hps]
   unfold d_t
   rw [hfp]
   rfl
  rw [ix_ hk,bd_some,hLoc,bd2_some,bd_some]
  simp only [un5]
  rw [bd_some,hRP,bd2_some,bd_some]
  simp only [un4]
  rw [bd_some,hf,bd3_some,bd_some]
  simp only [un5]
  rw [show (!true)=false from rfl,iN_ (by simp),iN_ (by simp),iN_ (by simp),bd_some]
  rw [show (!decide ((⟨(a_K d b)[k].path,(a_K d b)[k].rule,(a_K d b)[k].start,(a_K d b)[k].end_⟩:y_)=(a_K d b)[k]))=false by simp,iN_ (by simp)]
  rw [f_Q,hEq,bd_some,show (!true)=false from rfl,iN_ (by simp),bd_some,V,bd_some,Y,bd_some,htt,bN_,iN_ (by simp),bd_some,hCI,bd_some,bN_,bd_some]
  simp)]
 simp
end Go.Vw
