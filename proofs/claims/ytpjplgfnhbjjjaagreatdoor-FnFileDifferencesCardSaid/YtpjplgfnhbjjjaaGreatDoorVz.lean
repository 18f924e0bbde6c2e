
import Derived.Test.YtpjplgfnhbjjjaaGreatDoorVy
namespace Go.Vw
open Go.RowKit Dat
section
variable {d:c_}{b1 b2:Bt}
theorem s_Y (hv:O_ d=true)(hd:SmD d){i p q:Nat}{path:Str}{l:List j_}(D:e_M d b1 b2 i p q path l):∀(acc:List j_),acc.length+l.length<=1000000->∀n,i+2000<=n->(e_t n).impl_differ_compare ⟨d,acc⟩ (i:Int) (rdW d.rules b1 i p).1 (rdW d.rules b2 i q).1 path=some (acc++l):=by
 have hMX:=MXv;have hLIM:=X_
 induction D with
 | @same i p q path he =>
  intro acc hl n hn;obtain ⟨n,rfl⟩:∃k,n=k+1:=⟨n - 1,by omega⟩
  show e_s n (e_t n) ⟨d,acc⟩ (i:Int) _ _ path=_
  unfold e_s
  rw [(he n (by omega)).2,bd_some,iP_ rfl,List.append_nil]
 | @leaf i p q path he hc hcp =>
  intro acc hl n hn;obtain ⟨n,rfl⟩:∃k,n=k+1:=⟨n - 1,by omega⟩
  show e_s n (e_t n) ⟨d,acc⟩ (i:Int) _ _ path=_
  unfold e_s
  rw [(he n (by omega)).2,bd_some,iN_ (by simp),i_x]
  generalize (rdW d.rules b1 i p).1=v at hc ⊢
  have hcp':=(hcp n (by omega)).2;generalize (rdW d.rules b2 i q).1=w at hc hcp' hl ⊢
  have hcond:(if (v.number != w.number) then some true else bd (some<|v.bytes==w.bytes) λI=>if (!I) then some true else if ((v.items.length:Int) != (w.items.length:Int)) then some true else some ((v.items.length:Int)==0))=some true:=by
   by_cases G:v.number=w.number
   .rw [show (v.number != w.number)=false by rw [bne_eq_false_iff_eq];exact G,iN_ (by simp),bd_some]
    by_cases H:v.bytes=w.bytes
    .rw [show (v.bytes==w.bytes)=true by simpa using H,show (!true)=false from rfl,iN_ (by simp)]
     by_cases L:v.items.length=w.items.length
     .rw [show ((v.items.length:Int) != (w.items.length:Int))=false by rw [bne_eq_false_iff_eq];omega,iN_ (by simp)]
      have:v.items.length=0:=by
       rcases hc with h | h | h | h
       .exact absurd G h
       .exact absurd H h
       .exact absurd L h
       .exact h
      rw [this];rfl
     .rw [show ((v.items.length:Int) != (w.items.length:Int))=true by rw [bne_iff_ne];omega,iP_ rfl]
    .rw [show (v.bytes==w.bytes)=false by simpa using H,show (!false)=true from rfl,iP_ rfl]
   .rw [show (v.number != w.number)=true by rw [bne_iff_ne];exact G,iP_ rfl]
  rw [hcond,bd_some,iP_ rfl,hcp',bd_some,a_w]
  simp only [lC_,List.length_nil] at hl
  rw [a_a (by simp only;omega),bd_some]
 | @node i p q path he hi h1 h2 h3 h4 h40 hpl kid ps qs ls hk hA hB hrec ih =>
  intro acc hl n hn;obtain ⟨n,rfl⟩:∃k,n=k+1:=⟨n - 1,by omega⟩;have hr:=a_O hv hi
  show e_s n (e_t n) ⟨d,acc⟩ (i:Int) _ _ path=_
  unfold e_s
  rw [(he n (by omega)).2,bd_some,iN_ (by simp),i_x]
  generalize hvv:(rdW d.rules b1 i p).1=v at h1 h2 h3 h4 h40 hk hA hrec ih hl ⊢
  generalize hww:(rdW d.rules b2 i q).1=w at h1 h2 h3 hB ⊢
  rw [show (v.number != w.number)=false by rw [bne_eq_false_iff_eq];exact h1,iN_ (by simp),bd_some,show (v.bytes==w.bytes)=true by simpa using h2,show (!true)=false from rfl,iN_ (by simp),show ((v.items.length:Int) != (w.items.length:Int))=false by rw [bne_eq_false_iff_eq];omega,iN_ (by simp),show ((v.items.length:Int)==0)=false by rw [beq_eq_false_iff_ne];omega,bd_some,iN_ (by simp)]
  refine (congrArg (λz=>bd z _)<|c_h (λk=>acc++((List.range k).map ls).flatten) (n:=v.items.length) (by simp)<|λm hm=>?_).trans ?_
  .have hsl:(D_ d.rules[i] m).b.length<=21:=i_G hr.kind m (by omega);have hflat:=p_4 ls v.items.length (m+1) (by omega)
   rw [i_H,List.length_append] at hflat
   have J:=ih m hm (acc++((List.range m).map ls).flatten) (by rw [List.length_append];omega) n (by have:=(hk m hm).2;omega);have O:g_U n (⟨d.rules⟩:c_) (i:Int) (m:Int)=some (D_ d.rules[i] m):=l_S (d:=d) hv hd (by omega) hi m;have V:c_5 (⟨d.rules⟩:c_) (i:Int) v (m:Int)=some (J_ d.rules[i] v.number m):=e_G (d:=d) (ix_ hi) (b_d hr.kind) v m
   rw [ix_ hm,bd_some,ix_ (show m<w.items.length by omega),bd_some,a_4 (by simp only [lC_,List.length_nil];omega),bd_some,V,(hk m hm).1,bd_some,O,bd_some,a_4 (by simp only [List.length_append,lC_,List.length_nil];omega),bd_some,hA m hm,hB m (by omega)]
   refine (congrArg (λz=>bd z _) J).trans ?_
   rw [bd_some,i_H,List.append_assoc]
  .rw [bd_some,el_inl]
structure ChP (d:c_)(b1 b2:Bt)(i p:Nat)(path:Str)(c:j_)(ss:List Str)(i' p' q':Nat):Prop where
 path:c.path.b=path.b++c_e ss
 good:∀s∈ss,c_W s
 vr:h_E d b1 i p ss i' p'
 ir:h_F d b1 i p ss i' p'
 len:ss.length+i'<=i
 hi:i'<d.rules.length
 hp:p'<=b1.length
 ok:(rdW d.rules b1 i' p').2.2=0
 hq:q'<=b2.length
 okq:(rdW d.rules b2 i' q').2.2=0
 part:c.part=(rdW d.rules b2 i' q').1
theorem p_5 {β:Type}(ls:Nat->List β)(f:Nat->Nat):∀n,(∀m,m<n->(ls m).length+f m<=f (m+1))->(((List.range n).map ls).flatten).length+f 0<=f n
 | 0,_=>by simp
 | k+1,h=>by
  have:=p_5 ls f k λm hm=>h m (by omega)
  have h2:=h k (by omega)
  rw [i_H,List.length_append]
  omega
theorem p_6 {rd:Int->Nat->RR}{L:Nat}:∀{ks:List Int}{p:Nat}{vs:List Val}{e:Nat},e_9 rd L ks p vs e->b_4 (λk p=>(rd k p).2.1) ks p ks.length=e
 | [],p,vs,e,h=>h.2.symm
 | k::ks,p,vs,e,h=>by
  obtain ⟨_,_,ws,rfl,h3⟩:=h
  rw [lC_,k_a]
  exact p_6 h3
theorem k_v (hv:O_ d=true){b:Bt}(hb:b.length<=400){i:Nat}(hi:i<d.rules.length){p:Nat}(hp:p<=b.length)(hok:(rdW d.rules b i p).2.2=0):vsz i (rdW d.rules b i p).1<=20000:=by
 have hsz:=g_v (b:=b) hv i hi p hp;have hle:=c_L (b:=b) hv i hi p hp;have hlen:=(b_B hv).2;exact Nat.le_trans (hsz.2 hok) (Nat.le_trans (Nat.mul_le_mul (show 2 * i+1<=49 by omega) (show (rdW d.rules b i p).2.1 - p<=400 by omega)) (by decide))
theorem s_Z (hv:O_ d=true)(hd:SmD d)(I:b1.length<=400)(W:b2.length<=400):∀(i:Nat),i<d.rules.length->∀(p q:Nat)(path:Str),p<=b1.length->(rdW d.rules b1 i p).2.2=0->q<=b2.length->(rdW d.rules b2 i q).2.2=0->path.b.length+22 * i<=MX ->
  ∃l,e_M d b1 b2 i p q path l/\l.length+p<=(rdW d.rules b1 i p).2.1/\∀c∈l,∃ss i' p' q',ChP d b1 b2 i p path c ss i' p' q':=by
 intro i
 induction i using Nat.strongRecOn with
 | _ i ih =>
  intro hi p q path hp hok hq hokq hpl;have hlen:=(b_B hv).2;have hdep:=(g_v (b:=b1) hv i hi p hp).1;have hlt:=o_X hv i hi p hp hok;obtain ⟨e,he⟩:=s_W i _ (rdW d.rules b2 i q).1 hdep
  cases e with
  | true=>exact ⟨[],.same λn hn=>he n (by omega),by simp only [List.length_nil];omega,by simp⟩
  | false =>
   by_cases hc:(rdW d.rules b1 i p).1.number ≠ (rdW d.rules b2 i q).1.number∨(rdW d.rules b1 i p).1.bytes ≠ (rdW d.rules b2 i q).1.bytes∨(rdW d.rules b1 i p).1.items.length ≠ (rdW d.rules b2 i q).1.items.length∨(rdW d.rules b1 i p).1.items.length=0
   .have a1:=k_v hv W hi hq hokq;have hdep2:=(g_v (b:=b2) hv i hi q hq).1;refine ⟨_,.leaf (λn hn=>he n (by omega)) hc<|λn hn=>⟨d_M i _ hdep2 (by omega) n (by omega),h_G i _ hdep2 (by omega) n (by omega)⟩,?_,?_⟩
    .simp only [lC_,List.length_nil];omega
    .intro c hcm;obtain rfl:=List.mem_singleton.1 hcm;exact ⟨[],i,p,q,⟨by simp [c_e],λ_ h=>by simp at h,.nil _ _,.nil _ _,by simp,hi,hp,hok,hq,hokq,rfl⟩⟩
   .have h1:(rdW d.rules b1 i p).1.number=(rdW d.rules b2 i q).1.number:=Classical.byContradiction λh=>hc<|.inl h
    have h2:(rdW d.rules b1 i p).1.bytes=(rdW d.rules b2 i q).1.bytes:=Classical.byContradiction λh=>hc<|.inr<|.inl h
    have h3:(rdW d.rules b1 i p).1.items.length=(rdW d.rules b2 i q).1.items.length:=Classical.byContradiction λh=>hc<|.inr<|.inr<|.inl h
    have h4:(rdW d.rules b1 i p).1.items.length ≠ 0:=λh=>hc<|.inr<|.inr<|.inr h
    obtain ⟨ks,e,h⟩:=k_s hv hi hp hok;have hr:=a_O hv hi;have hlk:=h_B h.ch;have Y:=k_o hv hi hq hokq
    have H:∀m,m<(rdW d.rules b1 i p).1.items.length->∃x:Nat×Nat×Nat×List j_,J_ d.rules[i] (rdW d.rules b1 i p).1.number m=(x.1:Int)/\x.1<i/\(∀hm:m<(rdW d.rules b1 i p).1.items.length,(rdW d.rules b1 i p).1.items[m]=(rdW d.rules b1 x.1 x.2.1).1)/\(∀hm:m<(rdW d.rules b2 i q).1.items.length,(rdW d.rules b2 i q).1.items[m]=(rdW d.rules b2 x.1 x.2.2.1).1)/\e_M d b1 b2 x.1 x.2.1 x.2.2.1 ⟨path.b++[47]++(D_ d.rules[i] m).b⟩ x.2.2.2/\(x.2.2.2.length+b_4 (enP d b1) ks (a_g d.rules d.rules[i] p) m<=b_4 (enP d b1) ks (a_g d.rules d.rules[i] p) (m+1))/\∀c∈x.2.2.2,∃ss i' p' q',ChP d b1 b2 i p path c ss i' p' q':=λm hm=>by
     have hmk:m<ks.length:=by omega
     have hkr:=hr.kids _<|h.kids _<|gE_ hmk;have hP:=l_v h.ch m hmk;have hA:=k_u h.ch m hmk hm;obtain ⟨k2,O,g1,g2,g3,g4,g5⟩:=Y m (by omega);have hit:=h.item m hmk
     have J:ks[m].toNat=k2:=by
      have:((k2:Nat):Int)=ks[m]:=by rw [← g1,← h1,hit]
      omega
     have hsl:(D_ d.rules[i] m).b.length<=21:=i_G hr.kind m (by have:=h.small;omega);obtain ⟨l,D,L,C⟩:=ih ks[m].toNat (by omega) (by omega) _ O ⟨path.b++[47]++(D_ d.rules[i] m).b⟩ hP.1 hP.2 g3 (by rw [J];exact g4) (by simp only [List.length_append,lC_,List.length_nil];omega);refine ⟨(ks[m].toNat,b_4 (enP d b1) ks (a_g d.rules d.rules[i] p) m,O,l),by rw [hit];show ks[m]=((ks[m].toNat:Nat):Int);omega,by show ks[m].toNat<i;omega,λ_=>hA,λ_=>by rw [g5,J],D,?_,λc hcm=>?_⟩
     .rw [o_m _ _ _ _ hmk]
      exact L
     .obtain ⟨ss,i',p',q',Q⟩:=C c hcm;obtain ⟨_,G⟩:=s_0 hv hd I hi hp hok h hmk;have VS:=s_Q hv hd I hi hp hok h hmk;have IS:=s_T hv hd I hi hp hok h hmk;refine ⟨D_ d.rules[i] m::ss,i',p',q',⟨?_,?_,.cons VS Q.vr,.cons IS Q.ir,?_,Q.hi,Q.hp,Q.ok,Q.hq,Q.okq,Q.part⟩⟩
      .rw [Q.path];simp [c_e]
      .intro s hs
       rcases List.mem_cons.1 hs with rfl | hs
       .exact G
       .exact Q.good s hs
      .have:=Q.len;simp;omega
    obtain ⟨f,hf⟩:=p_3 (P:=λm (x:Nat×Nat×Nat×List j_)=>J_ d.rules[i] (rdW d.rules b1 i p).1.number m=(x.1:Int)/\x.1<i/\(∀hm:m<(rdW d.rules b1 i p).1.items.length,(rdW d.rules b1 i p).1.items[m]=(rdW d.rules b1 x.1 x.2.1).1)/\(∀hm:m<(rdW d.rules b2 i q).1.items.length,(rdW d.rules b2 i q).1.items[m]=(rdW d.rules b2 x.1 x.2.2.1).1)/\e_M d b1 b2 x.1 x.2.1 x.2.2.1 ⟨path.b++[47]++(D_ d.rules[i] m).b⟩ x.2.2.2/\(x.2.2.2.length+b_4 (enP d b1) ks (a_g d.rules d.rules[i] p) m<=b_4 (enP d b1) ks (a_g d.rules d.rules[i] p) (m+1))/\∀c∈x.2.2.2,∃ss i' p' q',ChP d b1 b2 i p path c ss i' p' q') _ H;refine ⟨_,.node (λn hn=>he n (by omega)) hi h1 h2 h3 h4 (by have:=h.small;omega) hpl (λm=>(f m).1) (λm=>(f m).2.1) (λm=>(f m).2.2.1) (λm=>(f m).2.2.2) (λm hm=>⟨(hf m hm).1,(hf m hm).2.1⟩) (λm hm=>(hf m hm).2.2.1 hm) (λm hm=>(hf m (by omega)).2.2.2.1 hm)<|λm hm=>(hf m hm).2.2.2.2.1,?_,?_⟩
    .have V:=p_5 (λm=>(f m).2.2.2) (b_4 (enP d b1) ks<|a_g d.rules d.rules[i] p) (rdW d.rules b1 i p).1.items.length (λm hm=>(hf m hm).2.2.2.2.2.1);have hce:b_4 (enP d b1) ks (a_g d.rules d.rules[i] p) ks.length=e:=p_6 h.ch
     rw [hlk,hce] at V
     have a0:b_4 (enP d b1) ks (a_g d.rules d.rules[i] p) 0=a_g d.rules d.rules[i] p:=rfl
     rw [a0] at V
     have:=h.le;have:=h.st.1
     rw [hlk]
     omega
    .intro c hcm;obtain ⟨l,hl,hcl⟩:=List.mem_flatten.1 hcm;obtain ⟨m,hm,rfl⟩:=List.mem_map.1 hl;exact (hf m<|List.mem_range.1 hm).2.2.2.2.2.2 c hcl
end
end Go.Vw
