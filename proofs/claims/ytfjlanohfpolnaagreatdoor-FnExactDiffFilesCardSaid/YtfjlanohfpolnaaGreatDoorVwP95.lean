
import Derived.Test.YtfjlanohfpolnaaGreatDoorVwP94
import Derived.Test.YtfjlanohfpolnaaGreatDoorVwP18
namespace Go.Vw
open Go.RowKit Dat
section
variable {d:e_}{b b1 b2:List UInt8}
theorem s_a (hd:SmD d)(hok:okF d b=true){ss:List Str}{i p:Nat}(V:f_x d b (d.rules.length - 1) 0 ss i p)(I:f_y d b (d.rules.length - 1) 0 ss i p)(hg:∀s∈ss,c_9 s)(hl:ss.length+i<=d.rules.length - 1)(hi:i<d.rules.length)(hp:p<=b.length)(hpo:(rdW d.rules b i p).2.2=0){path:Str}(hpath:path.b=b_E ss){n:Nat}(hn:1048600<=n) :
  f_Z n d (a_x d b).1 path=some ((rdW d.rules b i p).1,(i:Int),true)/\g_h n d (a_x d b).1 path=some ((rdW d.rules b i p).1,(i:Int),true):=by
 obtain ⟨hv,hb,hr,hroot,hrd,hval⟩:=g_l hok;have hsz:=f_r (b:=b) hv i hi p hp;have hz:=k_T hv hb hi hp hpo;have hlen:=(c_2 hv).2
 have hpath':path=⟨b_E ss⟩:=by
  cases path with
  | mk x=>simpa using hpath
 have hj:=k_B ss hg;have hMX:=MXv;have hval1:(a_x d b).1=(rdW d.rules b (d.rules.length - 1) 0).1:=hval.1
 constructor
 ·have hvv:=i_D hv hd hb hr (Nat.zero_le _) hrd (n:=n) (by omega);unfold f_Z
  rw [k_P hd,bd_some,hpath',r_7 (by omega) (by simp only;omega) (by simp only;omega),m_G ss hg,bd2_some,hval1,hroot]
  rw [show (!true)=false from rfl,iN_ (by simp),hvv,bd_some,bd_some,show (!true)=false from rfl,iN_ (by simp)]
  have hloop:=r_Z (n:=n) (by omega) V (l:=ss) 0 (by omega) rfl;refine (congrArg (fun z=>bd z _) hloop).trans ?_
  rw [bd_some,el_inl]
  simp only [un4]
  rw [d_t,n_h i _ hsz.1 (by omega) n (by omega),bd_some]
 ·have hvv:=i_E hv hd hb hr (Nat.zero_le _) hrd (n:=n) (by omega);unfold g_h i_6
  rw [hpath',r_m (by omega) (by simp only;omega),m_G ss hg,bd2_some,k_O hd,bd_some,hval1,hroot]
  rw [show (!true)=false from rfl,iN_ (by simp),hvv,bd_some,bd_some,show (!true)=false from rfl,iN_ (by simp),bd_some]
  have hloop:=s_3 (n:=n) (by omega) I (l:=ss) 0 (by omega) rfl;refine (congrArg (fun z=>bd2 (bd z _) _) hloop).trans ?_
  rw [bd_some,el_inl]
  simp only [un2,bd2_some,opS]
  rw [n_j i _ hsz.1 (by omega) n (by omega),bd_some]
theorem s_b (hd:SmD d)(H:okF d b1=true)(G:b2.length<=400){c:A_}{ss:List Str}{i p q:Nat}(C:ChP d b1 b2 (d.rules.length - 1) 0 ⟨[]⟩ c ss i p q){n:Nat}(hn:1048600<=n):∃t:Str,t.b.length<=1000000/\f_c n d (a_x d b1).1 c=some t/\f_d n d (a_x d b1).1 c=some t:=by
 have hLIM:=a_G;obtain ⟨hv,W,_⟩:=g_l H;have hlen:=(c_2 hv).2;have hpath:c.path.b=b_E ss:=by rw [C.path];rfl
 obtain ⟨I,J⟩:=s_a hd H C.vr C.ir C.good C.len C.hi C.hp C.ok hpath hn;obtain ⟨t,ht,L,O⟩:=r_U hv hd G i C.hi q C.hq C.okq;have hi:=C.hi;have hz:=k_T hv G C.hi C.hq C.okq
 have g1:h_p n d (i:Int) c.part=some t:=by
  unfold h_p
  rw [C.part,i_D hv hd G C.hi C.hq C.okq (by omega),bd_some,iN_ (by simp),L n (by omega),bd_some]
 have V:h_u n d (i:Int) c.part=some t:=by
  unfold h_u
  rw [C.part,i_E hv hd G C.hi C.hq C.okq (by omega),bd_some,iN_ (by simp),O n (by omega),bd_some]
 have hj:=k_B ss C.good;have hl:=C.len;have hpl:c.path.b.length<=600:=by rw [hpath];omega
 unfold f_c f_d h_N
 rw [I,J,bd3_some,bd3_some]
 simp only [nT_,bF_,fF_]
 rw [d_t,g1,V]
 cases (c.path.b==([]:List UInt8))
 ·simp only [bF_,fF_,bd_some]
  rw [a_2 (by simp only [lC_,List.length_nil];omega),bd_some,a_2 (by simp only [List.length_append,lC_,List.length_nil];omega),bd_some]
  exact ⟨_,by simp only [List.length_append,lC_,List.length_nil];omega,rfl,rfl⟩
 ·simp only [fT_,bd_some]
  rw [a_2 (by simp only [lC_,List.length_nil];omega),bd_some,a_2 (by simp only [List.length_append,lC_,List.length_nil];omega),bd_some]
  exact ⟨_,by simp only [List.length_append,lC_,List.length_nil];omega,rfl,rfl⟩
theorem rf_all' {β:Type}(f:Val->Int->Int->Option β):bd3 (some<|a_x d b) f=f (a_x d b).1 (a_x d b).2.1 (a_x d b).2.2:=rfl
theorem s_c (hd:SmD d)(V:okF d b1=true)(W:okF d b2=true){n:Nat}(hn:1048600<=n):∃l:List A_,l.length<=400/\g_a n d (a_x d b1).1 (a_x d b2).1=some l/\g_d n d (a_x d b1).1 (a_x d b2).1=some l/\∀c∈l,∃ss i p q,ChP d b1 b2 (d.rules.length - 1) 0 ⟨[]⟩ c ss i p q:=by
 have hMX:=MXv;have hLIM:=a_G;obtain ⟨hv,H,hr,hroot,hrd,hval⟩:=g_l V;obtain ⟨_,I,_,_,G,hval2⟩:=g_l W;have hlen:=(c_2 hv).2;have J:(a_x d b1).1=(rdW d.rules b1 (d.rules.length - 1) 0).1:=hval.1;have O:(a_x d b2).1=(rdW d.rules b2 (d.rules.length - 1) 0).1:=hval2.1;obtain ⟨l,D,L,C⟩:=s_9 hv hd H I _ hr 0 0 ⟨[]⟩ (Nat.zero_le _) hrd (Nat.zero_le _) G (by simp only [List.length_nil];omega);have hle:=(c_3 (b:=b1) hv _ hr 0<|Nat.zero_le _).2;have hs:=s_7 hv hd D (by omega) n (by omega);have hi:=s_8 hv hd D [] (by simp only [List.length_nil];omega) n (by omega);refine ⟨l,by omega,?_,?_,C⟩
 ·unfold g_a
  rw [k_P hd,bd_some,hroot,J,O,i_D hv hd H hr (Nat.zero_le _) hrd (by omega),bd_some,show (!true)=false from rfl,iN_ (by simp),i_D hv hd I hr (Nat.zero_le _) G (by omega),bd_some,bd_some,iN_ (by simp)]
  refine (congrArg (fun z=>bd z _) hs).trans ?_
  rw [bd_some]
 ·unfold g_d
  rw [k_O hd,bd_some,hroot,J,O,i_E hv hd H hr (Nat.zero_le _) hrd (by omega),bd_some,show (!true)=false from rfl,iN_ (by simp),i_E hv hd I hr (Nat.zero_le _) G (by omega),bd_some,bd_some,iN_ (by simp)]
  refine (congrArg (fun z=>bd z _) hi).trans ?_
  rw [bd_some,List.nil_append]
  refine (congrArg (fun z=>bd z _)<|c_n (fun k=>l.take k) (n:=l.length) rfl<|fun k hk=>?_).trans ?_
  ·rw [ix_ hk,bd_some,b_v (by rw [List.length_take];omega),bd_some,List.take_add_one,gG_ hk];rfl
  ·rw [bd_some,el_inl,List.take_length]
theorem s_d (hd:SmD d){n:Nat}(hn:1048600<=n):∃u:List Str,u.length<=400/\(∀t∈u,t.b.length<=1000000)/\f_e n d b1 b2=some u/\g_b n d b1 b2=some u:=by
 have hLIM:=a_G;unfold f_e g_b
 rw [n_f hd (by omega),n_f hd (by omega),n_g hd (by omega),n_g hd (by omega),rf_all',rf_all',rf_all',rf_all']
 by_cases h1:(a_x d b1).2.2=0
 ·by_cases h2:(a_x d b2).2.2=0
  ·have G:okF d b1=true:=by unfold okF;rw [h1];rfl
   have H:okF d b2=true:=by unfold okF;rw [h2];rfl
   obtain ⟨l,hl,J,L,C⟩:=s_c hd G H hn;obtain ⟨_,I,_⟩:=g_l H
   obtain ⟨u,hu,hP⟩:=k_I (P:=fun k t=>∀hk:k<l.length,t.b.length<=1000000/\f_c n d (a_x d b1).1 l[k]=some t/\f_d n d (a_x d b1).1 l[k]=some t) l.length (fun k hk=>by
    obtain ⟨ss,i,p,q,Q⟩:=C l[k] (gE_ hk);obtain ⟨t,h⟩:=s_b hd G I Q hn
    exact ⟨t,fun _=>h⟩)
   refine ⟨u,by omega,fun t ht=>by obtain ⟨k,hk,rfl⟩:=List.mem_iff_getElem.1 ht;exact (hP k hk (by omega)).1,?_,?_⟩
   ·rw [h1,h2,bN_,iN_ (by simp),bd_some,iN_ (by simp),L,bd_some]
    refine (congrArg (fun z=>bd z _)<|c_n (fun k=>u.take k) (n:=l.length) rfl<|fun k hk=>?_).trans ?_
    ·have hku:k<u.length:=by omega
     rw [ix_ hk,bd_some,(hP k hku hk).2.2,bd_some,b_v (by rw [List.length_take];omega),bd_some,List.take_add_one,gG_ hku];rfl
    ·rw [bd_some,el_inl,← hu,List.take_length]
   ·rw [h1,h2,bN_,iN_ (by simp),bd_some,iN_ (by simp),J,bd_some]
    refine (congrArg (fun z=>bd z _)<|c_n (fun k=>u.take k) (n:=l.length) rfl<|fun k hk=>?_).trans ?_
    ·have hku:k<u.length:=by omega
     rw [ix_ hk,bd_some,(hP k hku hk).2.1,bd_some,b_v (by rw [List.length_take];omega),bd_some,List.take_add_one,gG_ hku];rfl
    ·rw [bd_some,el_inl,← hu,List.take_length]
  ·have hne:((a_x d b2).2.2 != 0)=true:=by rw [bne_iff_ne];exact h2
   refine ⟨[],by simp,by simp,?_,?_⟩ <;> rw [h1,bN_,iN_ (by simp),bd_some,hne,iP_ rfl]
 ·have hne:((a_x d b1).2.2 != 0)=true:=by rw [bne_iff_ne];exact h1
  refine ⟨[],by simp,by simp,?_,?_⟩ <;> rw [hne,iP_ rfl,bd_some,iP_ rfl]
theorem s_e {n:Nat}(hn:4000000<=n)(hd:LnD d)(L:b1.length<=LEN)(O:b2.length<=LEN):g_e n d b1 b2=some true:=by
 have hMX:=MXv;have hLEN:=LENv;unfold g_e
 by_cases h1:(1048576:Int)<(b1.length:Int)
 ·rw [dT_ h1];rfl
 rw [dF_ h1]
 simp only [bF_,fF_]
 by_cases h3:(1048576:Int)<(b2.length:Int)
 ·rw [dT_ h3];rfl
 rw [dF_ h3]
 obtain ⟨r,hr,H⟩:=q_R hd
 simp only [bF_,fF_]
 rw [hr,bd_some]
 by_cases h2:r<0
 ·rw [dT_ h2];rfl
 rw [dF_ h2]
 have hs:=(H.resolve_left h2).2;have hbm:b1.length<=MX:=by omega
 have G:b2.length<=MX:=by omega
 obtain ⟨u,hcl,_,I,J⟩:=s_d (b1:=b1) (b2:=b2) (n:=n) hs (by omega)
 simp only [bF_,fF_,q_V hs,k_q hbm,k_q G,bd_some,I,J]
 simp only [bF_,fF_,bd_some,m_w,q_X,m_v,nT_]
 obtain ⟨k',l',hm,V,W⟩:=r_1 (n:=n) hs (by omega)
 rw [hm]
 simp only [bd2_some]
 rw [k_s (by omega) (by omega) (by omega)]
 simp only [bd2_some]
 rw [k_s (by omega) (by omega) (by omega)]
 simp only [bd2_some]
 rw [dF_ (by omega)]
 simp only [bF_,fF_,bd_some]
 rw [m_z (by omega) (by omega) (by omega) (by omega)]
 simp only [bd2_some]
 rw [r_g (by omega) (by omega) (by omega)]
 simp only [bd_some]
 rw [dF_ (show ¬1+((u.length:Nat):Int)<0 by omega)]
 simp only [bF_,fF_,bN_]
end
end Go.Vw
