
import Derived.Test.YtgpbbhplnbndeaaGreatDoorVw
namespace Go.Vw
open Go.RowKit Dat
section
variable {d:b_}{b:Bt}
theorem m_g {f:Int->Nat->Str->List z_}{e:Int->Nat->Nat}{r:c_}{path:Str}{N:Int}:∀(ks:List Int)(i pos:Nat),(∀k∈ks,∀p q,∀x∈f k p q,0<=x.rule/\x.rule<N)->∀x∈ixL f e r path ks i pos,0<=x.rule/\x.rule<N
 | [],_,_,_,x,hx=>by cases hx
 | k::ks,i,pos,h,x,hx=>by
  unfold ixL at hx
  rcases List.mem_append.1 hx with hx | hx
  .exact h k mS_ _ _ x hx
  .exact m_g ks _ _ (λk hk=>h k<|mT_ _ hk) x hx
theorem q_f {rs:List c_}{N:Int}:∀(i:Nat),(i:Int)<N->∀at_ path,∀x∈ixW rs b i at_ path,0<=x.rule/\x.rule<N:=by
 intro i
 induction i using Nat.strongRecOn with
 | _ i ih =>
  intro hi at_ path x hx
  rw [ixW] at hx
  rcases List.mem_cons.1 hx with rfl | hx
  .exact ⟨by simp only;omega,hi⟩
  .refine m_g _ _ _ (λk _ p q x hx=>?_) x hx
   split at hx
   .rename_i hk;exact ih k.toNat hk (by omega) p q x hx
   .cases hx
def g_t (n:Nat)(l:List z_):List Int:=l.foldl (λc x=>c.set x.rule.toNat<|d_ (c.getD x.rule.toNat 0) 1)<|List.replicate n 0
theorem m_h (n:Nat)(l:List z_):(g_t n l).length=n:=by
 unfold g_t
 have:∀(l:List z_)(c:List Int),(l.foldl (λc x=>c.set x.rule.toNat<|d_ (c.getD x.rule.toNat 0) 1) c).length=c.length:=by
  intro l
  induction l with
  | nil=>intro c;rfl
  | cons x l ih=>intro c;rw [List.foldl_cons,ih];simp
 rw [this];simp
theorem m_i {ρ:Type}{n:Nat}{l:List z_}(_:∀x∈l,0<=x.rule/\x.rule<(n:Int))(body:Nat->List Int->Option (Out (List Int) ρ))
  (hbody:∀k (hk:k<l.length) (c:List Int),c.length=n->body k c=some (.next<|c.set l[k].rule.toNat (d_ (c.getD l[k].rule.toNat 0) 1))) :
  n_ (σ:=List Int) (ρ:=ρ) body l.length 0 (List.replicate n 0)=some (.inl<|g_t n l):=by
 have h:=c_P (n:=l.length) (σ:=List Int) (ρ:=ρ) (body:=body) (λk=>g_t n (l.take k)) (λj hj=>by
  rw [hbody j hj _ (m_h n _)]
  unfold g_t
  rw [List.take_add_one,gG_ hj,Option.toList_some,List.foldl_append]
  rfl)
 simp only [List.take_zero,List.take_of_length_le<|Nat.le_refl _] at h
 exact h
theorem m_j {l:List z_}{n:Nat}(hl:∀x∈l,0<=x.rule/\x.rule<(n:Int)){k:Nat}(hk:k<l.length){c:List Int}(hc:c.length=n):idx c l[k].rule=some (c.getD l[k].rule.toNat 0)/\∀y,upd c l[k].rule y=some (c.set l[k].rule.toNat y):=by
 have h:=hl _<|gE_ hk;refine ⟨?_,λy=>n_d h.1 (by omega)⟩
 rw [d_g h.1 (by omega),B_ (by omega)]
def d_y (d:b_)(b:Bt):List Int:=if okF d b then g_t d.rules.length (c_6 d b) else []
theorem k_N (h:okF d b=true):∀x∈c_6 d b,0<=x.rule/\x.rule<(d.rules.length:Int):=by
 obtain ⟨_,_,hlt,_⟩:=h_o h;unfold c_6
 rw [iP_ h]
 exact q_f _ (by omega) _ _
theorem q_g (hd:SmD d){n:Nat}(hn:1000<=n):g_Y n d b=some (d_y d b):=by
 have hr:=hd.rules;have hMX:=MXv;have hLIM:=a_9;unfold g_Y d_y
 rw [p_S hd hn]
 cases h:okF d b
 .rfl
 .have hl:=k_N h;generalize c_6 d b=l at *
  simp only [bd2_some,nT_,bF_,fF_,fT_]
  rw [h_x (by omega),bd_some]
  rw [m_i hl _ (λk hk c hc=>by
   have:=m_j hl hk hc
   rw [ix_ hk,bd_some,this.1,bd_some,this.2,bd_some])]
  rfl
theorem q_h (hd:SmD d){n:Nat}(hn:1000<=n):g_V n d b=some (d_y d b):=by
 have hr:=hd.rules;have hMX:=MXv;have hLIM:=a_9;unfold g_V d_y
 rw [p_R hd hn]
 cases h:okF d b
 .rfl
 .have hl:=k_N h;generalize c_6 d b=l at *
  simp only [bd2_some,nT_,bF_,fF_,fT_]
  rw [h_x (by omega),bd_some]
  rw [m_i hl _ (λk hk c hc=>by
   have:=m_j hl hk hc
   simp only [ix_ hk,bd_some,this.1,this.2])]
  rfl
end
theorem k_O (c:List Int){e:Int}(G:0<=e):c_U c e=some (c.getD e.toNat 0):=by
 unfold c_U
 rw [dF_ (show ¬e<0 by omega),iN_ (by simp),bd_some]
 by_cases h:(c.length:Int)<=e
 .rw [dT_ h,iP_ rfl,gD_,gN_ (by omega)];rfl
 .rw [dF_ h,iN_ (by simp),d_g G (by omega),bd_some,B_ (by omega)]
theorem q_i (l:List Str):h_0 l l=some true:=by
 unfold h_0
 rw [iN_ (by simp)]
 have h:=q_L (ρ:=Bool) (n:=l.length) (body:=λG=>(λ(_:Unit)=>bd (idx l ((G:Nat):Int)) λH=>bd (idx l ((G:Nat):Int)) λI=>if (H.b != I.b) then some (.ret false) else some (.next ()))) (λj hj=>by
  rw [ix_ hj,bd_some,bd_some,iN_ (by simp)])
 rw [h,bd_some,el_inl]
def b_T (r:c_)(k:Nat):Prop:=0<k∨(r.kind ≠ 4/\r.kind ≠ 5/\r.kind ≠ 7)
instance {r:c_}{k:Nat}:Decidable (b_T r k):=by unfold b_T;infer_instance
def Clo (d:b_)(p:List Bool)(i:Nat):Prop:=∀(hi:i<d.rules.length),p.getD i false=true->∀k (hk:k<(d.rules[i]).kids.length),b_T d.rules[i] k->p.getD ((d.rules[i]).kids[k]).toNat false=true
theorem j_8 {t:List Bool}{k i:Nat}{x:Bool}(hk:k<t.length):(t.set k x).getD i false=if i=k then x else t.getD i false:=by
 rw [gD_,gD_,List.getElem?_set]
 by_cases h:k=i
 .subst h;rw [iP_ rfl,iP_ hk,iP_ rfl];rfl
 .rw [iN_ h,iN_<|λh'=>h h'.symm]
theorem q_j {r:c_}{k:Nat}{β:Type}(f:Bool->Option β):bd (α:=Bool) (if decide ((0:Int)<(k:Int)) then some true else if (r.kind != 4) then if (r.kind != 5) then some (r.kind != 7) else some false else some false) f=f (decide<|b_T r k):=by
 by_cases H:0<k
 .rw [dT_ (show (0:Int)<(k:Int) by omega),iP_ rfl,bd_some,dT_ (show b_T r k from .inl H)]
 .rw [dF_ (show ¬(0:Int)<(k:Int) by omega),iN_ (by simp)]
  by_cases h4:r.kind=4
  .rw [iN_ (by simp [h4]),bd_some,dF_ (show ¬b_T r k from λh=>by unfold b_T at h;omega)]
  rw [iP_ (by simp [h4])]
  by_cases h5:r.kind=5
  .rw [iN_ (by simp [h5]),bd_some,dF_ (show ¬b_T r k from λh=>by unfold b_T at h;omega)]
  rw [iP_ (by simp [h5]),bd_some]
  by_cases G:r.kind=7
  .rw [dF_ (show ¬b_T r k from λh=>by unfold b_T at h;omega),show (r.kind != 7)=false by simp [G]]
  .rw [dT_ (show b_T r k from .inr ⟨h4,h5,G⟩),show (r.kind != 7)=true by simp [G]]
theorem q_k {d:b_}{i:Nat}(hi:i<d.rules.length)(hkk:∀k∈(d.rules[i]).kids,0<=k/\k<(i:Int))(hkl:(d.rules[i]).kids.length<=4){cur:List Bool}(hc:cur.length=d.rules.length){n:Nat}(hn:10<=n) :
  ∃cur':List Bool,cur'.length=d.rules.length/\(∀j,i<=j->cur'.getD j false=cur.getD j false)/\(∀j,cur.getD j false=true->cur'.getD j false=true)/\Clo d cur' i /\
   (bd (G_ (σ:=(List Bool)×Int) (ρ:=List Bool) (un2 λH G=>bd (α:=Bool) (if (decide<|G<((d.rules[i]).kids.length:Int)) then bd (idx H (i:Int)) λV=>some V else some false) (λW=>if W then bd (α:=Bool) (if (decide<|0<G) then some true else if ((d.rules[i]).kind != 4) then if ((d.rules[i]).kind != 5) then some ((d.rules[i]).kind != 7) else some false else some false) (λI=>bd (α:=List Bool) (if I then bd (idx (d.rules[i]).kids G) λJ=>bd (upd H J true) λL=>some L else some H)<|λO=>some<|.next (O,d_ G 1)) else some (.brk (H,G)))) n (cur,0))<|el (un2 λH _=>some (Out.next (H,k_ (i:Int) 1):Out ((List Bool)×Int) (List Bool)))<|λY=>some<|.ret Y)=some (.next (cur',k_ (i:Int) 1)):=by
 obtain ⟨⟨cur',q⟩,e,h1,h2,h3,h4⟩:=e_a (σ:=(List Bool)×Int) (ρ:=List Bool) (step:=un2 λH G=>bd (α:=Bool) (if (decide<|G<((d.rules[i]).kids.length:Int)) then bd (idx H (i:Int)) λV=>some V else some false) (λW=>if W then bd (α:=Bool) (if (decide<|0<G) then some true else if ((d.rules[i]).kind != 4) then if ((d.rules[i]).kind != 5) then some ((d.rules[i]).kind != 7) else some false else some false) (λI=>bd (α:=List Bool) (if I then bd (idx (d.rules[i]).kids G) λJ=>bd (upd H J true) λL=>some L else some H)<|λO=>some<|.next (O,d_ G 1)) else some (.brk (H,G))))
  (λs=>∃q:Nat,s.2=q/\q<=(d.rules[i]).kids.length/\s.1.length=d.rules.length/\(∀j,i<=j->s.1.getD j false=cur.getD j false)/\(∀j,cur.getD j false=true->s.1.getD j false=true)/\(cur.getD i false=true->∀k (hk:k<(d.rules[i]).kids.length),k<q->b_T d.rules[i] k->s.1.getD ((d.rules[i]).kids[k]).toNat false=true))
  (λs=>(d.rules[i]).kids.length - s.2.toNat)
  (λs=>s.1.length=d.rules.length/\(∀j,i<=j->s.1.getD j false=cur.getD j false)/\(∀j,cur.getD j false=true->s.1.getD j false=true)/\Clo d s.1 i)
  (by
   rintro ⟨c,x⟩ ⟨q,rfl,g0,g1,g2,g3,g4⟩
   simp only at g1 g2 g3 g4
   simp only [un2]
   have hic:i<c.length:=by omega
   by_cases hq:q<(d.rules[i]).kids.length
   .rw [dT_ (show ((q:Nat):Int)<((d.rules[i]).kids.length:Int) by omega),iP_ rfl,ix_ hic,bd_some,bd_some]
    by_cases hci:c[i]=true
    .left
     rw [iP_ hci,q_j]
     have hcur:cur.getD i false=true:=by rw [← g2 i (Nat.le_refl _),B_ hic];exact hci
     have ha:d_ (q:Int) 1=((q+1:Nat):Int):=by rw [ia_ (by omega) (by omega)];omega
     have hkq:=hkk _<|gE_ hq
     by_cases hI:b_T d.rules[i] q
     .rw [dT_ hI,iP_ rfl,ix_ hq,bd_some,n_d hkq.1 (by omega),bd_some,bd_some,ha]
      have hkc:((d.rules[i]).kids[q]).toNat<c.length:=by omega
      refine ⟨_,rfl,⟨q+1,rfl,by omega,by rw [List.length_set];exact g1,λj hj=>?_,λj hj=>?_,λh k hk hkq' hI'=>?_⟩,by simp only [tN_];omega⟩
      .simp only;rw [j_8 hkc,iN_ (by omega)];exact g2 j hj
      .simp only;rw [j_8 hkc];split
       .rfl
       .exact g3 j hj
      .simp only;rw [j_8 hkc];split
       .rfl
       .rename_i hne
        by_cases hkk':k=q
        .subst hkk';exact absurd rfl hne
        .exact g4 h k hk (by omega) hI'
     .rw [dF_ hI,iN_ (by simp),bd_some,ha]
      refine ⟨_,rfl,⟨q+1,rfl,by omega,g1,g2,g3,λh k hk hkq' hI'=>?_⟩,by simp only [tN_];omega⟩
      by_cases hkk':k=q
      .subst hkk';exact absurd hI' hI
      .exact g4 h k hk (by omega) hI'
    .right
     rw [iN_ hci]
     refine ⟨_,rfl,g1,g2,g3,λ_ hp=>?_⟩
     simp only at hp
     rw [B_ hic] at hp;exact absurd hp hci
   .right
    rw [dF_ (show ¬((q:Nat):Int)<((d.rules[i]).kids.length:Int) by omega),iN_ (by simp),bd_some]
    refine ⟨_,rfl,g1,g2,g3,λ_ hp k hk hI=>?_⟩
    simp only at hp ⊢
    rw [g2 i (Nat.le_refl _)] at hp
    exact g4 hp k hk (by omega) hI) n (cur,0) ⟨0,rfl,Nat.zero_le _,hc,λ_ _=>rfl,λ_ h=>h,λ_ k _ h=>by omega⟩ (by simp only [Int.toNat_zero];omega)
 refine ⟨cur',h1,h2,h3,h4,?_⟩
 rw [e,bd_some,el_inl]
theorem j_9 {σ ρ β:Type}{step:σ->Option (Out σ ρ)}{n:Nat}{s:σ}{f:σ->Option β}{g:ρ->Option β}{P:β->Prop}(I:σ->Prop)(μ:σ->Nat)(B:σ->Prop)(hI:I s)(hm:μ s<n)(h:∀s,I s->(∃s',step s=some (.next s')/\I s'/\μ s'<μ s)∨(∃s',step s=some (.brk s')/\B s'))(hf:∀s,B s->∃r,f s=some r/\P r):∃r,bd (G_ step n s) (el f g)=some r/\P r:=by
 obtain ⟨s',e,hb⟩:=e_a I μ B h n s hI hm
 rw [e,bd_some,el_inl];exact hf s' hb
theorem q_l {d:b_}(hv:I_ d=true)(hs:SmD d)(hE:DrE d){n:Nat}(hn:1000<=n):∃p:List Bool,f_z n d=some p/\p.length=d.rules.length/\p.getD (d.rules.length - 1) false=true/\∀i,Clo d p i:=by
 have hl:=b_5 hv;have hLIM:=a_9;unfold f_z;obtain ⟨r,hr⟩:∃r:Nat,r+1=d.rules.length:=⟨d.rules.length - 1,by omega⟩;have hroot:a_z d=(r:Int):=by unfold a_z;omega
 rw [h_x (by omega),bd_some,h_t hs,bd_some,hroot,f_l (by simp;omega),bd_some,bd_some]
 have hrr:d.rules.length - 1=r:=by omega
 rw [hrr]
 refine j_9 (λs=>∃z:Int,s.2=z/\-1<=z/\z<=(r:Int)/\s.1.length=d.rules.length/\s.1.getD r false=true/\∀i:Nat,z<(i:Int)->Clo d s.1 i)
  (λs=>(s.2+1).toNat) (λs=>s.1.length=d.rules.length/\s.1.getD r false=true/\∀i,Clo d s.1 i)
  ⟨(r:Int),rfl,by omega,Int.le_refl _,by simp,by rw [j_8 (by simp;omega),iP_ rfl],λi hi G=>by omega⟩ (by simp only;omega) ?_ (λs h=>⟨s.1,rfl,h⟩)
 rintro ⟨c,x⟩ ⟨z,hz,H,g1,g2,g3,g4⟩
 simp only at hz g2 g3 g4
 subst hz
 simp only [un2]
 by_cases hx:0<=x
 .left
  obtain ⟨i,rfl⟩:∃i:Nat,x=i:=⟨x.toNat,by omega⟩;have hi:i<d.rules.length:=by omega
  obtain ⟨c',h1,h2,h3,h4,e⟩:=q_k hi (a_R hv hi).kids ((hE.each i hi).kidn) g2 (n:=n) (by omega)
  rw [dT_ hx,iP_ rfl,ix_ hi,bd_some]
  refine ⟨_,e,⟨k_ (i:Int) 1,rfl,by rw [a_V (by omega) (by omega)];omega,by rw [a_V (by omega) (by omega)];omega,h1,h3 _ g3,λi' hi'=>?_⟩,by simp only;rw [a_V (by omega) (by omega)];omega⟩
  rw [a_V (by omega) (by omega)] at hi'
  by_cases hii:i'=i
  .subst hii;exact h4
  .intro hi'' hp k hk hI
   rw [h2 i' (by omega)] at hp
   exact h3 _<|g4 i' (by omega) hi'' hp k hk hI
 .right
  rw [dF_ hx,iN_ (by simp)]
  exact ⟨_,rfl,g2,g3,λi=>g4 i (by omega)⟩
theorem q_m {rs:List c_}{r:c_}(hk:O_ rs r=true){num:Int}{j:Nat}(h:0<=v_ r num j):∃k,∃hk:k<r.kids.length,v_ r num j=r.kids[k]/\b_T r k:=by
 unfold v_ at h ⊢
 by_cases h5:r.kind=5
 .rw [h5,iP_ (by decide)] at h ⊢
  have:=(b_x hk h5).2;exact ⟨1,by omega,B_ (by omega),.inl (by decide)⟩
 rw [iN_ (by simpa using h5)] at h ⊢
 by_cases h6:r.kind=6
 .rw [h6,iP_ (by decide)] at h ⊢
  by_cases hj:j<r.kids.length
  .rw [iP_ hj];exact ⟨j,hj,B_ hj,.inr (by omega)⟩
  .rw [iN_ hj] at h;omega
 rw [iN_ (by simpa using h6)] at h ⊢
 by_cases G:r.kind=7
 .rw [G,iP_ (by decide)] at h ⊢
  have hc:=b_U hk G
  cases hq:a_y r.tags num with
  | none=>rw [hq] at h;simp at h
  | some q =>
   have:=g_z hq;exact ⟨q+1,by omega,B_ (by omega),.inl (by omega)⟩
 rw [iN_ (by simpa using G)] at h ⊢
 by_cases H:r.kind=8
 .rw [H,iP_ (by decide)] at h ⊢
  have:=b_d hk<|.inl H;exact ⟨0,by omega,B_ (by omega),.inr (by omega)⟩
 rw [iN_ (by simpa using H)] at h ⊢
 by_cases I:r.kind=9
 .rw [I,iP_ (by decide)] at h ⊢
  have:=b_d hk<|.inr I;exact ⟨0,by omega,B_ (by omega),.inr (by omega)⟩
 rw [iN_ (by simpa using I)] at h
 omega
section
variable {d:b_}{b:Bt}
theorem m_k {f:Int->Nat->Str->List z_}{r:c_}{path:Str}{P:z_->Prop}:∀(ks:List Int)(j pos:Nat)(vs:List Val)(e:Nat),(∀k∈ks,∀p q,p<=b.length->(rdW d.rules b k.toNat p).2.2=0->∀x∈f k p q,P x) ->
  d_F (λk p=>rdW d.rules b k.toNat p) b.length ks pos vs e->∀x∈ixL f (λk p=>(rdW d.rules b k.toNat p).2.1) r path ks j pos,P x
 | [],_,_,_,_,_,_,x,hx=>by cases hx
 | k::ks,j,pos,vs,e,hf,h,x,hx=>by
  obtain ⟨hp,G,ws,_,hrest⟩:=h;unfold ixL at hx
  rcases List.mem_append.1 hx with hx | hx
  .exact hf k mS_ pos _ hp G x hx
  .exact m_k ks (j+1) _ ws e (λk hk=>hf k<|mT_ _ hk) hrest x hx
theorem q_n (hv:I_ d=true){p:List Bool}(hp:∀i,Clo d p i):∀(i:Nat)(_:i<d.rules.length),p.getD i false=true->∀at_,at_<=b.length->(rdW d.rules b i at_).2.2=0->∀path,∀x∈ixW d.rules b i at_ path,p.getD x.rule.toNat false=true:=by
 intro i
 induction i using Nat.strongRecOn with
 | _ i ih =>
  intro hi hpi at_ ha hok path x hx;obtain ⟨ks,e,h⟩:=g_B hv hi ha hok
  rw [j_u hv hi h] at hx
  have hr:=a_R hv hi
  rcases List.mem_cons.1 hx with rfl | hx
  .exact hpi
  .refine m_k (P:=λx=>p.getD x.rule.toNat false=true) ks 0 _ _ e (λk hk q path' hq I x hx=>?_) h.ch x hx;have hkk:=hr.kids k<|h.kids k hk;obtain ⟨j,hj,rfl⟩:=List.getElem_of_mem hk;obtain ⟨c,hc,G,H⟩:=q_m hr.kind (num:=(rdW d.rules b i at_).1.number) (j:=j) (by rw [h.item j hj];exact hkk.1);refine ih (ks[j]).toNat (by omega) (by omega) ?_ q hq I path' x hx
   rw [← h.item j hj,G]
   exact hp i hi hpi c hc H
theorem q_o (h:okF d b=true){p:List Bool}(hp:∀i,Clo d p i)(hroot:p.getD (d.rules.length - 1) false=true):∀x∈c_6 d b,p.getD x.rule.toNat false=true:=by
 obtain ⟨hv,_,hlt,_,hok,_⟩:=h_o h;unfold c_6
 rw [iP_ h]
 exact q_n hv hp _ hlt hroot 0 (Nat.zero_le _) hok _
structure Cov (d:b_)(p:List Bool)(c:List Int)(B:Int):Prop where
 len:c.length<=d.rules.length
 nn:∀i,0<=c.getD i 0/\c.getD i 0<=B
 ps:∀i,0<c.getD i 0->p.getD i false=true
theorem f_h {c:List Int}{i:Nat}(h:c.length<=i):c.getD i 0=0:=by
 rw [gD_,gN_ h];rfl
theorem m_l {n:Nat}:∀(l:List z_)(c:List Int),c.length=n->(∀x∈l,0<=x.rule/\x.rule<(n:Int))->(∀i,0<=c.getD i 0/\c.getD i 0+(l.length:Int)<=2000000)->∀i,
  (0<=(l.foldl (λc x=>c.set x.rule.toNat<|d_ (c.getD x.rule.toNat 0) 1) c).getD i 0/\(l.foldl (λc x=>c.set x.rule.toNat<|d_ (c.getD x.rule.toNat 0) 1) c).getD i 0<=2000000) /\
  (0<(l.foldl (λc x=>c.set x.rule.toNat<|d_ (c.getD x.rule.toNat 0) 1) c).getD i 0->0<c.getD i 0∨∃x∈l,x.rule.toNat=i)
 | [],c,_,_,h,i=>by have:=h i;simp only [List.foldl_nil,List.length_nil] at *;exact ⟨by omega,λh=>.inl h⟩
 | x::l,c,hc,hl,h,i=>by
  have hx:=hl x mS_;have hxl:x.rule.toNat<c.length:=by omega
  have hb:=h x.rule.toNat
  simp only [lC_] at h hb
  rw [List.foldl_cons,ia_ (by omega) (by omega)]
  obtain ⟨h1,h2⟩:=m_l l (c.set x.rule.toNat (c.getD x.rule.toNat 0+1)) (by simpa using hc) (λy hy=>hl y (mT_ _ hy)) (λj=>by
   rw [j_7 hxl];have:=h j;split
   .rename_i hj;subst hj;omega
   .omega) i
  refine ⟨h1,λhp=>?_⟩
  rcases h2 hp with h2 | ⟨y,hy,hyi⟩
  .rw [j_7 hxl] at h2
   by_cases hi:i=x.rule.toNat
   .exact .inr ⟨x,mS_,hi.symm⟩
   .rw [iN_ hi] at h2;exact .inl h2
  .exact .inr ⟨y,mT_ _ hy,hyi⟩
theorem q_p {p:List Bool}(hp:∀i,Clo d p i)(hroot:p.getD (d.rules.length - 1) false=true):Cov d p (d_y d b) 2000000:=by
 unfold d_y
 cases h:okF d b
 .rw [iN_ (by simp)]
  exact ⟨by simp,λi=>by simp,λi hi=>by simp at hi⟩
 .rw [iP_ rfl]
  have hz:∀i,(List.replicate d.rules.length (0:Int)).getD i 0=0:=λi=>by
   rw [gD_,List.getElem?_replicate];split <;> rfl
  have hl:=indexP_len' (d:=d) (b:=b);have hc:=m_l (n:=d.rules.length) (c_6 d b) (List.replicate d.rules.length 0) (by simp) (k_N h) (λi=>by rw [hz];omega);refine ⟨by rw [m_h];exact Nat.le_refl _,λi=>(hc i).1,λi hi=>?_⟩
  rcases (hc i).2 hi with h2 | ⟨x,hx,rfl⟩
  .rw [hz] at h2;omega
  .exact q_o h hp hroot x hx
end
end Go.Vw
