
import Derived.Test.YtpjplgfnhbjjjaaGreatDoorVz
namespace Go.Vw
open Go.RowKit Dat
section
variable {d:c_}{b b1 b2:Bt}
theorem t_0 (hd:SmD d)(hok:okF d b=true){ss:List Str}{i p:Nat}(V:h_E d b (d.rules.length - 1) 0 ss i p)(I:h_F d b (d.rules.length - 1) 0 ss i p)(hg:∀s∈ss,c_W s)(hl:ss.length+i<=d.rules.length - 1)(hi:i<d.rules.length)(hp:p<=b.length)(hpo:(rdW d.rules b i p).2.2=0){path:Str}(hpath:path.b=c_e ss){n:Nat}(hn:1048600<=n) :
  c_p n d (a_6 d b).1 path=some ((rdW d.rules b i p).1,(i:Int),true)/\e_v n d (a_6 d b).1 path=some ((rdW d.rules b i p).1,(i:Int),true):=by
 obtain ⟨hv,hb,hr,hroot,hrd,hval⟩:=f_r hok;have hsz:=g_v (b:=b) hv i hi p hp;have hz:=k_v hv hb hi hp hpo;have hlen:=(b_B hv).2
 have hpath':path=⟨c_e ss⟩:=by
  cases path with
  | mk x=>simpa using hpath
 have hj:=l_w ss hg;have hMX:=MXv;have hval1:(a_6 d b).1=(rdW d.rules b (d.rules.length - 1) 0).1:=hval.1
 constructor
 .have hvv:=h_A hv hd hb hr (Nat.zero_le _) hrd (n:=n) (by omega);unfold c_p
  rw [h_D hd,bd_some,hpath',l_s (by omega) (by simp only;omega) (by simp only;omega),o_o ss hg,bd2_some,hval1,hroot]
  rw [show (!true)=false from rfl,iN_ (by simp),hvv,bd_some,bd_some,show (!true)=false from rfl,iN_ (by simp)]
  have hloop:=s_R (n:=n) (by omega) V (l:=ss) 0 (by omega) rfl;refine (congrArg (λz=>bd z _) hloop).trans ?_
  rw [bd_some,el_inl]
  simp only [un4]
  rw [a_w,d_M i _ hsz.1 (by omega) n (by omega),bd_some]
 .have hvv:=k_r hv hd hb hr (Nat.zero_le _) hrd (n:=n) (by omega);unfold e_v i_p
  rw [hpath',o_s (by omega) (by simp only;omega),o_o ss hg,bd2_some,k_t hd,bd_some,hval1,hroot]
  rw [show (!true)=false from rfl,iN_ (by simp),hvv,bd_some,bd_some,show (!true)=false from rfl,iN_ (by simp),bd_some]
  have hloop:=s_U (n:=n) (by omega) I (l:=ss) 0 (by omega) rfl;refine (congrArg (λz=>bd2 (bd z _) _) hloop).trans ?_
  rw [bd_some,el_inl]
  simp only [un2,bd2_some,opS]
  rw [h_G i _ hsz.1 (by omega) n (by omega),bd_some]
theorem t_1 (hd:SmD d)(H:okF d b1=true)(G:b2.length<=400){c:j_}{ss:List Str}{i p q:Nat}(C:ChP d b1 b2 (d.rules.length - 1) 0 ⟨[]⟩ c ss i p q){n:Nat}(hn:1048600<=n):∃t:Str,t.b.length<=1000000/\j_W n d (a_6 d b1).1 c=some t/\h_k n d (a_6 d b1).1 c=some t:=by
 have hLIM:=X_;obtain ⟨hv,W,_⟩:=f_r H;have hlen:=(b_B hv).2;have hpath:c.path.b=c_e ss:=by rw [C.path];rfl
 obtain ⟨I,J⟩:=t_0 hd H C.vr C.ir C.good C.len C.hi C.hp C.ok hpath hn;obtain ⟨t,ht,L,O⟩:=s_M hv hd G i C.hi q C.hq C.okq;have hi:=C.hi;have hz:=k_v hv G C.hi C.hq C.okq
 have g1:m_U n d (i:Int) c.part=some t:=by
  unfold m_U
  rw [C.part,h_A hv hd G C.hi C.hq C.okq (by omega),bd_some,iN_ (by simp),L n (by omega),bd_some]
 have V:j_C n d (i:Int) c.part=some t:=by
  unfold j_C
  rw [C.part,k_r hv hd G C.hi C.hq C.okq (by omega),bd_some,iN_ (by simp),O n (by omega),bd_some]
 have hj:=l_w ss C.good;have hl:=C.len;have hpl:c.path.b.length<=600:=by rw [hpath];omega
 unfold j_W h_k j_K
 rw [I,J,bd3_some,bd3_some]
 simp only [nT_,bF_,fF_]
 rw [a_w,g1,V]
 cases (c.path.b==([]:Bt))
 .simp only [bF_,fF_,bd_some]
  rw [a_4 (by simp only [lC_,List.length_nil];omega),bd_some,a_4 (by simp only [List.length_append,lC_,List.length_nil];omega),bd_some]
  exact ⟨_,by simp only [List.length_append,lC_,List.length_nil];omega,rfl,rfl⟩
 .simp only [fT_,bd_some]
  rw [a_4 (by simp only [lC_,List.length_nil];omega),bd_some,a_4 (by simp only [List.length_append,lC_,List.length_nil];omega),bd_some]
  exact ⟨_,by simp only [List.length_append,lC_,List.length_nil];omega,rfl,rfl⟩
theorem rf_all' {β:Type}(f:Val->Int->Int->Option β):bd3 (some<|a_6 d b) f=f (a_6 d b).1 (a_6 d b).2.1 (a_6 d b).2.2:=rfl
theorem t_2 (hd:SmD d)(V:okF d b1=true)(W:okF d b2=true){n:Nat}(hn:1048600<=n):∃l:List j_,l.length<=400/\e_1 n d (a_6 d b1).1 (a_6 d b2).1=some l/\i_m n d (a_6 d b1).1 (a_6 d b2).1=some l/\∀c∈l,∃ss i p q,ChP d b1 b2 (d.rules.length - 1) 0 ⟨[]⟩ c ss i p q:=by
 have hMX:=MXv;have hLIM:=X_;obtain ⟨hv,H,hr,hroot,hrd,hval⟩:=f_r V;obtain ⟨_,I,_,_,G,hval2⟩:=f_r W;have hlen:=(b_B hv).2;have J:(a_6 d b1).1=(rdW d.rules b1 (d.rules.length - 1) 0).1:=hval.1;have O:(a_6 d b2).1=(rdW d.rules b2 (d.rules.length - 1) 0).1:=hval2.1;obtain ⟨l,D,L,C⟩:=s_Z hv hd H I _ hr 0 0 ⟨[]⟩ (Nat.zero_le _) hrd (Nat.zero_le _) G (by simp only [List.length_nil];omega);have hle:=(c_L (b:=b1) hv _ hr 0<|Nat.zero_le _).2;have hs:=s_X hv hd D (by omega) n (by omega);have hi:=s_Y hv hd D [] (by simp only [List.length_nil];omega) n (by omega);refine ⟨l,by omega,?_,?_,C⟩
 .unfold e_1
  rw [h_D hd,bd_some,hroot,J,O,h_A hv hd H hr (Nat.zero_le _) hrd (by omega),bd_some,show (!true)=false from rfl,iN_ (by simp),h_A hv hd I hr (Nat.zero_le _) G (by omega),bd_some,bd_some,iN_ (by simp)]
  refine (congrArg (λz=>bd z _) hs).trans ?_
  rw [bd_some]
 .unfold i_m
  rw [k_t hd,bd_some,hroot,J,O,k_r hv hd H hr (Nat.zero_le _) hrd (by omega),bd_some,show (!true)=false from rfl,iN_ (by simp),k_r hv hd I hr (Nat.zero_le _) G (by omega),bd_some,bd_some,iN_ (by simp)]
  refine (congrArg (λz=>bd z _) hi).trans ?_
  rw [bd_some,List.nil_append]
  refine (congrArg (λz=>bd z _)<|c_h (λk=>l.take k) (n:=l.length) rfl<|λk hk=>?_).trans ?_
  .rw [ix_ hk,bd_some,a_a (by rw [List.length_take];omega),bd_some,List.take_add_one,gG_ hk];rfl
  .rw [bd_some,el_inl,List.take_length]
theorem t_3 (hd:SmD d){n:Nat}(hn:1048600<=n):∃u:List Str,u.length<=400/\(∀t∈u,t.b.length<=1000000)/\i_n n d b1 b2=some u/\n_y n d b1 b2=some u/\(okF d b1=true->okF d b2=true->∃l,e_1 n d (a_6 d b1).1 (a_6 d b2).1=some l/\u.length=l.length)/\(¬(okF d b1=true/\okF d b2=true)->u=[]):=by
 have hLIM:=X_;unfold i_n n_y
 rw [o_Z hd (by omega),o_Z hd (by omega),g_z hd (by omega),g_z hd (by omega),rf_all',rf_all',rf_all',rf_all']
 by_cases h1:(a_6 d b1).2.2=0
 .by_cases h2:(a_6 d b2).2.2=0
  .have G:okF d b1=true:=by unfold okF;rw [h1];rfl
   have H:okF d b2=true:=by unfold okF;rw [h2];rfl
   obtain ⟨l,hl,I,L,C⟩:=t_2 hd G H hn;obtain ⟨_,J,_⟩:=f_r H
   obtain ⟨u,hu,hP⟩:=l_I (P:=λk t=>∀hk:k<l.length,t.b.length<=1000000/\j_W n d (a_6 d b1).1 l[k]=some t/\h_k n d (a_6 d b1).1 l[k]=some t) l.length (λk hk=>by
    obtain ⟨ss,i,p,q,Q⟩:=C l[k] (gE_ hk);obtain ⟨t,h⟩:=t_1 hd G J Q hn
    exact ⟨t,λ_=>h⟩)
   refine ⟨u,by omega,λt ht=>by obtain ⟨k,hk,rfl⟩:=List.mem_iff_getElem.1 ht;exact (hP k hk (by omega)).1,?_,?_,λ_ _=>⟨l,I,hu⟩,λh=>absurd ⟨G,H⟩ h⟩
   .rw [h1,h2,bN_,iN_ (by simp),bd_some,iN_ (by simp),L,bd_some]
    refine (congrArg (λz=>bd z _)<|c_h (λk=>u.take k) (n:=l.length) rfl<|λk hk=>?_).trans ?_
    .have hku:k<u.length:=by omega
     rw [ix_ hk,bd_some,(hP k hku hk).2.2,bd_some,a_a (by rw [List.length_take];omega),bd_some,List.take_add_one,gG_ hku];rfl
    .rw [bd_some,el_inl,← hu,List.take_length]
   .rw [h1,h2,bN_,iN_ (by simp),bd_some,iN_ (by simp),I,bd_some]
    refine (congrArg (λz=>bd z _)<|c_h (λk=>u.take k) (n:=l.length) rfl<|λk hk=>?_).trans ?_
    .have hku:k<u.length:=by omega
     rw [ix_ hk,bd_some,(hP k hku hk).2.1,bd_some,a_a (by rw [List.length_take];omega),bd_some,List.take_add_one,gG_ hku];rfl
    .rw [bd_some,el_inl,← hu,List.take_length]
  .have hne:((a_6 d b2).2.2 != 0)=true:=by rw [bne_iff_ne];exact h2
   refine ⟨[],by simp,by simp,?_,?_,λ_ h=>absurd (by unfold okF at h;simpa using h) h2,λ_=>rfl⟩ <;> rw [h1,bN_,iN_ (by simp),bd_some,hne,iP_ rfl]
 .have hne:((a_6 d b1).2.2 != 0)=true:=by rw [bne_iff_ne];exact h1
  refine ⟨[],by simp,by simp,?_,?_,λh=>absurd (by unfold okF at h;simpa using h) h1,λ_=>rfl⟩ <;> rw [hne,iP_ rfl,bd_some,iP_ rfl]
end
end Go.Vw
