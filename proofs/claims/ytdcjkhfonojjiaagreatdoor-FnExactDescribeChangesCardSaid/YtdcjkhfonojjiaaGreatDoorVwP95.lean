
import Derived.Test.YtdcjkhfonojjiaaGreatDoorVwP94
namespace Go.Vw
open Go.RowKit Dat
section
variable {d:d_}{b b1 b2:List UInt8}
theorem q_C (hd:SmD d)(hok:okF d b=true){ss:List Str}{i p:Nat}(V:f_j d b (d.rules.length - 1) 0 ss i p)(I:f_k d b (d.rules.length - 1) 0 ss i p)(hg:∀s∈ss,c_5 s)(hl:ss.length+i<=d.rules.length - 1)(hi:i<d.rules.length)(hp:p<=b.length)(hpo:(rdW d.rules b i p).2.2=0){path:Str}(hpath:path.b=b_z ss){n:Nat}(hn:1048600<=n) :
  f_J n d (a_u d b).1 path=some ((rdW d.rules b i p).1,(i:Int),true)/\f_Y n d (a_u d b).1 path=some ((rdW d.rules b i p).1,(i:Int),true):=by
 obtain ⟨hv,hb,hr,hroot,hrd,hval⟩:=g_2 hok;have hsz:=f_d (b:=b) hv i hi p hp;have hz:=j_Y hv hb hi hp hpo;have hlen:=(b_V hv).2
 have hpath':path=⟨b_z ss⟩:=by
  cases path with
  | mk x=>simpa using hpath
 have hj:=j_E ss hg;have hMX:=MXv;have hval1:(a_u d b).1=(rdW d.rules b (d.rules.length - 1) 0).1:=hval.1
 constructor
 ·have hvv:=i_f hv hd hb hr (Nat.zero_le _) hrd (n:=n) (by omega);unfold f_J
  rw [j_S hd,bd_some,hpath',p_A (by omega) (by simp only;omega) (by simp only;omega),l_Y ss hg,bd2_some,hval1,hroot]
  rw [show (!true)=false from rfl,iN_ (by simp),hvv,bd_some,bd_some,show (!true)=false from rfl,iN_ (by simp)]
  have hloop:=q_r (n:=n) (by omega) V (l:=ss) 0 (by omega) rfl;refine (congrArg (fun z=>bd z _) hloop).trans ?_
  rw [bd_some,el_inl]
  simp only [un4]
  rw [d_e,m_x i _ hsz.1 (by omega) n (by omega),bd_some]
 ·have hvv:=i_g hv hd hb hr (Nat.zero_le _) hrd (n:=n) (by omega);unfold f_Y h_I
  rw [hpath',p_O (by omega) (by simp only;omega),l_Y ss hg,bd2_some,j_R hd,bd_some,hval1,hroot]
  rw [show (!true)=false from rfl,iN_ (by simp),hvv,bd_some,bd_some,show (!true)=false from rfl,iN_ (by simp),bd_some]
  have hloop:=q_v (n:=n) (by omega) I (l:=ss) 0 (by omega) rfl;refine (congrArg (fun z=>bd2 (bd z _) _) hloop).trans ?_
  rw [bd_some,el_inl]
  simp only [un2,bd2_some,opS]
  rw [m_z i _ hsz.1 (by omega) n (by omega),bd_some]
theorem q_D (hd:SmD d)(H:okF d b1=true)(G:b2.length<=400){c:A_}{ss:List Str}{i p q:Nat}(C:ChP d b1 b2 (d.rules.length - 1) 0 ⟨[]⟩ c ss i p q){n:Nat}(hn:1048600<=n):∃t:Str,t.b.length<=1000000/\e_Z n d (a_u d b1).1 c=some t/\f_0 n d (a_u d b1).1 c=some t:=by
 have hLIM:=a_D;obtain ⟨hv,W,_⟩:=g_2 H;have hlen:=(b_V hv).2;have hpath:c.path.b=b_z ss:=by rw [C.path];rfl
 obtain ⟨I,J⟩:=q_C hd H C.vr C.ir C.good C.len C.hi C.hp C.ok hpath hn;obtain ⟨t,ht,L,O⟩:=q_m hv hd G i C.hi q C.hq C.okq;have hi:=C.hi;have hz:=j_Y hv G C.hi C.hq C.okq
 have g1:h_h n d (i:Int) c.part=some t:=by
  unfold h_h
  rw [C.part,i_f hv hd G C.hi C.hq C.okq (by omega),bd_some,iN_ (by simp),L n (by omega),bd_some]
 have V:h_m n d (i:Int) c.part=some t:=by
  unfold h_m
  rw [C.part,i_g hv hd G C.hi C.hq C.okq (by omega),bd_some,iN_ (by simp),O n (by omega),bd_some]
 have hj:=j_E ss C.good;have hl:=C.len;have hpl:c.path.b.length<=600:=by rw [hpath];omega
 unfold e_Z f_0 h_r
 rw [I,J,bd3_some,bd3_some]
 simp only [nT_,bF_,fF_]
 rw [d_e,g1,V]
 cases (c.path.b==([]:List UInt8))
 ·simp only [bF_,fF_,bd_some]
  rw [W_ (by simp only [lC_,List.length_nil];omega),bd_some,W_ (by simp only [List.length_append,lC_,List.length_nil];omega),bd_some]
  exact ⟨_,by simp only [List.length_append,lC_,List.length_nil];omega,rfl,rfl⟩
 ·simp only [fT_,bd_some]
  rw [W_ (by simp only [lC_,List.length_nil];omega),bd_some,W_ (by simp only [List.length_append,lC_,List.length_nil];omega),bd_some]
  exact ⟨_,by simp only [List.length_append,lC_,List.length_nil];omega,rfl,rfl⟩
theorem rf_all' {β:Type}(f:Val->Int->Int->Option β):bd3 (some<|a_u d b) f=f (a_u d b).1 (a_u d b).2.1 (a_u d b).2.2:=rfl
theorem q_E (hd:SmD d)(V:okF d b1=true)(W:okF d b2=true){n:Nat}(hn:1048600<=n):∃l:List A_,l.length<=400/\f_R n d (a_u d b1).1 (a_u d b2).1=some l/\f_U n d (a_u d b1).1 (a_u d b2).1=some l/\∀c∈l,∃ss i p q,ChP d b1 b2 (d.rules.length - 1) 0 ⟨[]⟩ c ss i p q:=by
 have hMX:=MXv;have hLIM:=a_D;obtain ⟨hv,H,hr,hroot,hrd,hval⟩:=g_2 V;obtain ⟨_,I,_,_,G,hval2⟩:=g_2 W;have hlen:=(b_V hv).2;have J:(a_u d b1).1=(rdW d.rules b1 (d.rules.length - 1) 0).1:=hval.1;have O:(a_u d b2).1=(rdW d.rules b2 (d.rules.length - 1) 0).1:=hval2.1;obtain ⟨l,D,L,C⟩:=q_B hv hd H I _ hr 0 0 ⟨[]⟩ (Nat.zero_le _) hrd (Nat.zero_le _) G (by simp only [List.length_nil];omega);have hle:=(b_W (b:=b1) hv _ hr 0<|Nat.zero_le _).2;have hs:=q_z hv hd D (by omega) n (by omega);have hi:=q_A hv hd D [] (by simp only [List.length_nil];omega) n (by omega);refine ⟨l,by omega,?_,?_,C⟩
 ·unfold f_R
  rw [j_S hd,bd_some,hroot,J,O,i_f hv hd H hr (Nat.zero_le _) hrd (by omega),bd_some,show (!true)=false from rfl,iN_ (by simp),i_f hv hd I hr (Nat.zero_le _) G (by omega),bd_some,bd_some,iN_ (by simp)]
  refine (congrArg (fun z=>bd z _) hs).trans ?_
  rw [bd_some]
 ·unfold f_U
  rw [j_R hd,bd_some,hroot,J,O,i_g hv hd H hr (Nat.zero_le _) hrd (by omega),bd_some,show (!true)=false from rfl,iN_ (by simp),i_g hv hd I hr (Nat.zero_le _) G (by omega),bd_some,bd_some,iN_ (by simp)]
  refine (congrArg (fun z=>bd z _) hi).trans ?_
  rw [bd_some,List.nil_append]
  refine (congrArg (fun z=>bd z _)<|c_7 (fun k=>l.take k) (n:=l.length) rfl<|fun k hk=>?_).trans ?_
  ·rw [ix_ hk,bd_some,b_s (by rw [List.length_take];omega),bd_some,List.take_add_one,gG_ hk];rfl
  ·rw [bd_some,el_inl,List.take_length]
theorem q_F (hd:SmD d){n:Nat}(hn:1048600<=n):∃u:List Str,u.length<=400/\(∀t∈u,t.b.length<=1000000)/\f_V n d b1 b2=some u/\f_S n d b1 b2=some u:=by
 have hLIM:=a_D;unfold f_V f_S
 rw [j_T hd (by omega),j_T hd (by omega),j_U hd (by omega),j_U hd (by omega),rf_all',rf_all',rf_all',rf_all']
 by_cases h1:(a_u d b1).2.2=0
 ·by_cases h2:(a_u d b2).2.2=0
  ·have G:okF d b1=true:=by unfold okF;rw [h1];rfl
   have H:okF d b2=true:=by unfold okF;rw [h2];rfl
   obtain ⟨l,hl,J,L,C⟩:=q_E hd G H hn;obtain ⟨_,I,_⟩:=g_2 H
   obtain ⟨u,hu,hP⟩:=j_L (P:=fun k t=>∀hk:k<l.length,t.b.length<=1000000/\e_Z n d (a_u d b1).1 l[k]=some t/\f_0 n d (a_u d b1).1 l[k]=some t) l.length (fun k hk=>by
    obtain ⟨ss,i,p,q,Q⟩:=C l[k] (gE_ hk);obtain ⟨t,h⟩:=q_D hd G I Q hn
    exact ⟨t,fun _=>h⟩)
   refine ⟨u,by omega,fun t ht=>by obtain ⟨k,hk,rfl⟩:=List.mem_iff_getElem.1 ht;exact (hP k hk (by omega)).1,?_,?_⟩
   ·rw [h1,h2,bN_,iN_ (by simp),bd_some,iN_ (by simp),L,bd_some]
    refine (congrArg (fun z=>bd z _)<|c_7 (fun k=>u.take k) (n:=l.length) rfl<|fun k hk=>?_).trans ?_
    ·have hku:k<u.length:=by omega
     rw [ix_ hk,bd_some,(hP k hku hk).2.2,bd_some,b_s (by rw [List.length_take];omega),bd_some,List.take_add_one,gG_ hku];rfl
    ·rw [bd_some,el_inl,← hu,List.take_length]
   ·rw [h1,h2,bN_,iN_ (by simp),bd_some,iN_ (by simp),J,bd_some]
    refine (congrArg (fun z=>bd z _)<|c_7 (fun k=>u.take k) (n:=l.length) rfl<|fun k hk=>?_).trans ?_
    ·have hku:k<u.length:=by omega
     rw [ix_ hk,bd_some,(hP k hku hk).2.1,bd_some,b_s (by rw [List.length_take];omega),bd_some,List.take_add_one,gG_ hku];rfl
    ·rw [bd_some,el_inl,← hu,List.take_length]
  ·have hne:((a_u d b2).2.2 != 0)=true:=by rw [bne_iff_ne];exact h2
   refine ⟨[],by simp,by simp,?_,?_⟩ <;> rw [h1,bN_,iN_ (by simp),bd_some,hne,iP_ rfl]
 ·have hne:((a_u d b1).2.2 != 0)=true:=by rw [bne_iff_ne];exact h1
  refine ⟨[],by simp,by simp,?_,?_⟩ <;> rw [hne,iP_ rfl,bd_some,iP_ rfl]
end
end Go.Vw
