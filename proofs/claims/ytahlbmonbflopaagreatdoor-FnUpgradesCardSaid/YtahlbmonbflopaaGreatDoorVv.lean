
import Derived.Test.YtahlbmonbflopaaGreatDoorVu
namespace Go.Vw
open Go.RowKit Dat
def d_m (k:Int):Bool:=decide<|k=4∨k=10
theorem k_K (k:Int):g_G k=some (d_m k):=by
 unfold g_G d_m
 by_cases h:k=4
 .subst h;rfl
 .rw [iN_ (by simpa using h),bd_some]
  congr 1
  rw [Bool.eq_iff_iff];simp [h]
theorem m_N (k:Int):h_H k=some (d_m k):=k_K k
theorem m_O {β:Type}{k l:Int}{o o':Option Bool}(h:o=some (d_m k))(h':o'=some (d_m l))(f:Bool->Option β):bd (α:=Bool) (bd o λr=>if r then bd o' λr=>some r else some false) f=f (d_m k && d_m l):=by
 rw [h,h',bd_some]
 cases d_m k <;> rfl
section
variable {a b:c_}{S g:Nat->Nat}
theorem q_f (hva:R_ a=true)(hvb:R_ b=true)(hdb:SmD b)(hw:WG b S g):∀(s ra rb:Nat)(v:Val)(m:Nat),ra+rb<s->rb<b.rules.length->VP a.rules m ra v->MigR a b g s ra rb v:=by
 classical
 have hLIM:=a_7;have hlb:=(b_X hvb).2;intro s
 induction s with
 | zero=>intro _ _ _ _ h;omega
 | succ s ih =>
 intro ra rb v m hs hrb hV;have a0:=hV
 cases m with
 | zero=>exact hV.elim
 | succ m =>
 obtain ⟨hra,hO,hP⟩:=hV;have hxa:=a_S hva hra;have hyb:=a_S hvb hrb;have hkx:=hxa.kind;have hky:=hyb.kind;have xk:=hxa.kids;have yk:=hyb.kids;have hxi:=ix_ hra;have hyi:=ix_ hrb;have gtwo:=hw.gtwo rb
 have gstep:∀cy:Int,0<=cy/\cy<(rb:Int)->g cy.toNat+1<=g rb:=λcy h=>by
  have h1:=hw.stp rb (by omega) hrb;have h2:=hw.gm cy.toNat (rb - 1) (by omega)
  omega
 have hal:=λhk=>q_e hva hvb hdb hw ih hra hrb (by omega) hk a0
 have mulL:∀{L A B:Nat},A<=B->L * A<=L * B:=λh=>Nat.mul_le_mul_left _ h
 generalize a.rules[ra]=x at *
 generalize b.rules[rb]=y at *
 -- the end, from what was made ahead of the last check
 have fin:∀(ok ok':Bool)(o:Val),(∀q,3 * s+2002<=q->∃p,e_m q (a_q q) a (ra:Int) b (rb:Int) v=(bd (α:=Bool) (if (!ok) then some true else bd (h_k q b (rb:Int) p) λr=>some (!r)) (λx=>if x then some ((⟨0,[],[]⟩:Val),false) else some (p,true)))/\(ok=true->p=o)) ->
   (∀q,3 * s+2002<=q->∃p,e_j q (a_p q) ⟨a,b⟩ (ra:Int) (rb:Int) v=(bd (α:=Bool) (if (!ok') then some true else bd (h_A q (⟨b.rules⟩:c_) (rb:Int) p) λr=>some (!r)) (λx=>if x then some ((⟨0,[],[]⟩:Val),false) else some (p,true)))/\(ok'=true->p=o)) ->
   (ok'=true->ok=true)->(ok'=false->ok=true->¬VP b.rules (rb+1) rb o)->(ok=true->∀c L,Cst c v L->∀m,1+vsz m o<=L * g rb)->MigR a b g (s+1) ra rb v:=λok ok' o h1 h2 h3 h4 h5=>by
  refine ⟨if ok=true/\VP b.rules (rb+1) rb o then (o,true) else ((⟨0,[],[]⟩:Val),false),λn hn=>?_,λn hn=>?_,λhok=>?_,λhok=>?_⟩
  .obtain ⟨q,rfl⟩:∃q,n=q+1:=⟨n - 1,by omega⟩;obtain ⟨p,e,hp⟩:=h1 q (by omega);exact e.trans<|m_L hvb hdb hrb hp (by omega)
  .obtain ⟨q,rfl⟩:∃q,n=q+1:=⟨n - 1,by omega⟩;obtain ⟨p,e,hp⟩:=h2 q (by omega);refine (e.trans<|q_9 hvb hdb hrb hp (by omega)).trans ?_
   congr 1
   by_cases hVP:VP b.rules (rb+1) rb o
   .have:ok=ok':=by
     cases ok' with
     | true=>exact h3 rfl
     | false=>exact Bool.eq_false_iff.2 λh=>h4 rfl h hVP
    rw [this]
   .rw [iN_ (λh=>hVP h.2),iN_<|λh=>hVP h.2]
  .by_cases hc:ok=true/\VP b.rules (rb+1) rb o
   .rw [iP_ hc];exact ⟨hc.2,h5 hc.1⟩
   .rw [iN_ hc] at hok;cases hok
  .by_cases hc:ok=true/\VP b.rules (rb+1) rb o
   .rw [iP_ hc] at hok;cases hok
   .rw [iN_ hc]
 by_cases hk:x.kind=y.kind
 .obtain ⟨ok,ok',o,h1,h2,h3,h4,h5⟩:=hal hk;refine fin ok ok' o (λq hq=>?_) (λq hq=>?_) h3 h4 h5
  .obtain ⟨p,e,hp⟩:=h1 q hq;refine ⟨p,?_,hp⟩;unfold e_m
   rw [hxi,bd_some,hyi,bd_some,iP_ (by simpa using hk)]
   rw [show (a_q q).spec_l30Alike a x b y v=some (p,ok) from e,bd2_some,bd_some]
   simp only [un4,e_U]
  .obtain ⟨p,e,hp⟩:=h2 q hq;refine ⟨p,?_,hp⟩;unfold e_j
   simp only [hxi,hyi,bd_some,un16]
   rw [iP_ (by simpa using hk)]
   rw [show (a_p q).impl_migrator_same ⟨a,b⟩ x y (rb:Int) v=some (p,ok') from e,bd2_some,bd_some,el_inl]
   simp only [un4,e_U]
 have hkn:¬(x.kind==y.kind)=true:=by simpa using hk
 -- the two sides, when the kinds differ
 have sp:∀q,e_m q (a_q q) a (ra:Int) b (rb:Int) v=_:=λq=>by
  unfold e_m
  rw [hxi,bd_some,hyi,bd_some,iN_ hkn,m_O (k_K _)<|k_K _]
 have im:∀q,e_j q (a_p q) ⟨a,b⟩ (ra:Int) (rb:Int) v=_:=λq=>by
  unfold e_j
  simp only [hxi,hyi,bd_some,un16]
  rw [iN_ hkn,m_O (m_N _)<|m_N _]
 unfold Own at hO
 by_cases ht:(d_m x.kind && d_m y.kind)=true
 .have htx:x.kind=4∨x.kind=10:=by
   rw [aE_] at ht;exact of_decide_eq_true ht.1
  have hb:v.bytes.length<=400:=by omega
  refine fin true true ⟨0,v.bytes,[]⟩ (λq hq=>⟨⟨0,v.bytes,[]⟩,?_,λ_=>rfl⟩) (λq hq=>⟨⟨0,v.bytes,[]⟩,?_,λ_=>rfl⟩) (λh=>h) nofun<|λ_ c L hc m=>?_
  .rw [sp q,iP_ ht,a_T (by simp only [List.length_nil];omega),bd_some]
   simp only [un4,List.nil_append,bd_some]
  .rw [im q,iP_ ht,a_T (by simp only [List.length_nil];omega),bd_some,bd_some]
   simp only [un3,un4,el_inl,List.nil_append,bd_some]
  .rw [g_e]
   have:=hc.pos;have h2:=mulL (L:=L) gtwo
   omega
 by_cases G:y.kind=8
 .have W:0<y.kids.length:=by have:=b_F hky<|.inl G;omega
  have hyk:=yk _<|gE_ W;obtain ⟨w,h1,h2,h3,_⟩:=ih ra (y.kids[0]).toNat v (m+1) (by omega) (by omega) a0
  rw [show (((y.kids[0]).toNat:Nat):Int)=y.kids[0] by omega] at h1 h2
  refine fin w.2 w.2 ⟨0,[],[w.1]⟩ (λq hq=>⟨⟨0,[],[w.1]⟩,?_,λ_=>rfl⟩) (λq hq=>⟨⟨0,[],[w.1]⟩,?_,λ_=>rfl⟩) (λh=>h) (λh h'=>by rw [h] at h';cases h')<|λhok c L hc m=>?_
  .rw [sp q,iN_ ht,iP_ (by simpa using G),a_h W,bd_some]
   rw [show (a_q q).spec_l30Migrate a (ra:Int) b y.kids[0] v=some (w.1,w.2) from h1 q (by omega),bd2_some,bd_some]
   simp only [un4,e_U,bd_some]
  .rw [im q,iN_ ht,iP_ (by simpa using G),a_h W,bd_some]
   rw [show (a_p q).impl_migrator_value ⟨a,b⟩ (ra:Int) y.kids[0] v=some (w.1,w.2) from h2 q (by omega),bd2_some,bd_some]
   simp only [un2,un3,un4,el_inl,bd_some]
  .have h4:=(h3 hok).2 c L hc
   have hrow:=h_9 (m:=m) (x:=0) (l:=[w.1]) (B:=L * g (y.kids[0]).toNat) λm=>by
    rw [e_W,show lsz m []=0 from rfl];exact h4 m
   have h6:=mulL (L:=L)<|gstep _ hyk;have:=hc.pos.1
   rw [Nat.mul_add,Nat.mul_one] at h6
   omega
 by_cases H:x.kind=8/\v.items.length=1
 .have J:0<x.kids.length:=by have:=b_F hkx<|.inl H.1;omega
  have hxk:=xk _<|gE_ J;have O:0<v.items.length:=by omega
  obtain ⟨k,a1,a2,a3⟩:=hP 0 O;have hit:P_ x v.number 0=x.kids[0]:=by unfold P_;rw [H.1];exact a_8 J
  obtain ⟨w,h1,h2,h3,h4⟩:=ih k rb v.items[0] m (by omega) hrb a3
  rw [show ((k:Nat):Int)=x.kids[0] by omega] at h1 h2
  have I:(if (x.kind==8) then some ((v.items.length:Int)==1) else some false)=some true:=by
   rw [iP_ (by simpa using H.1),H.2];rfl
  refine ⟨w,λn hn=>?_,λn hn=>?_,λhok=>⟨(h3 hok).1,λc L hc m=>?_⟩,h4⟩
  .obtain ⟨q,rfl⟩:∃q,n=q+1:=⟨n - 1,by omega⟩
   show e_m q (a_q q) a (ra:Int) b (rb:Int) v=_
   rw [sp q,iN_ ht,iN_ (by simpa using G),I,bd_some,iP_ rfl,a_h J,bd_some,a_h O,bd_some]
   rw [show (a_q q).spec_l30Migrate a x.kids[0] b (rb:Int) v.items[0]=some (w.1,w.2) from h1 q (by omega),bd2_some,bd_some]
   simp only [un4,e_U,bd_some]
   refine (m_L hvb hdb hrb (ok:=w.2) (p:=w.1) (o:=w.1) (λ_=>rfl) (by omega)).trans ?_
   congr 1
   cases V:w.2 with
   | true =>
    rw [iP_ ⟨rfl,(h3 V).1⟩,← V]
   | false =>
    rw [iN_ (λh=>by cases h.1),← h4 V,← V]
  .obtain ⟨q,rfl⟩:∃q,n=q+1:=⟨n - 1,by omega⟩
   show e_j q (a_p q) ⟨a,b⟩ (ra:Int) (rb:Int) v=_
   rw [im q,iN_ ht,iN_ (by simpa using G),I,bd_some,iP_ rfl,a_h J,bd_some,a_h O,bd_some]
   rw [show (a_p q).impl_migrator_value ⟨a,b⟩ x.kids[0] (rb:Int) v.items[0]=some (w.1,w.2) from h2 q (by omega),bd2_some,bd_some]
   simp only [el_inr,bd_some]
  .obtain ⟨Ls,k1,k2,k3⟩:=hc.parts;obtain ⟨l0,rfl⟩:∃l,Ls=[l]:=List.length_eq_one_iff.1 (by omega);obtain ⟨c',hc'⟩:=k3 0 O (by simp);have h5:=(h3 hok).2 c' _ hc' m
   simp only [List.getElem_cons_zero,List.sum_cons,List.sum_nil] at h5 k2
   exact Nat.le_trans h5<|Nat.mul_le_mul_right _ (by omega)
 .have I:(if (x.kind==8) then some ((v.items.length:Int)==1) else some false)=some false:=by
   by_cases Y:x.kind=8
   .rw [iP_ (by simpa using Y)]
    congr 1
    have:v.items.length ≠ 1:=λh=>H ⟨Y,h⟩
    rw [beq_eq_false_iff_ne];omega
   .rw [iN_ (by simpa using Y)]
  refine fin false false ⟨0,[],[]⟩ (λq hq=>⟨⟨0,[],[]⟩,?_,nofun⟩) (λq hq=>⟨⟨0,[],[]⟩,?_,nofun⟩) (λh=>h) nofun nofun
  .rw [sp q,iN_ ht,iN_ (by simpa using G),I,bd_some,iN_ (by simp),bd_some]
   simp only [un4,bd_some]
  .rw [im q,iN_ ht,iN_ (by simpa using G),I,bd_some,iN_ (by simp),bd_some]
   simp only [un2,un3,un4,el_inl,bd_some]
end
end Go.Vw
