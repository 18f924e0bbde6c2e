
import Derived.Test.YtgpbbhplnbndeaaGreatDoorVv
namespace Go.Vw
open Go.RowKit Dat
theorem m_e {r:c_}(h:d_A r)(x:Int):((b_0 r x).length:Int)=r.size:=by
 obtain ⟨_,h1,h4⟩:=h;have:r.size=1∨r.size=2∨r.size=3∨r.size=4:=by omega
 unfold b_0 beP
 rcases this with h | h | h | h <;> rw [h] <;> split <;> rfl
def Tb (t:List Int):Prop:=t.length=24/\∀i,0<=t.getD i 0/\t.getD i 0<=401
theorem Tb.idx {t:List Int}(h:Tb t){k:Int}(G:0<=k)(h1:k<24):idx t k=some (t.getD k.toNat 0):=by
 have:=h.1
 rw [d_g G (by omega),B_ (by omega)]
theorem j_7 {t:List Int}{k i:Nat}{x:Int}(hk:k<t.length):(t.set k x).getD i 0=if i=k then x else t.getD i 0:=by
 rw [gD_,gD_,List.getElem?_set]
 by_cases h:k=i
 .subst h;rw [iP_ rfl,iP_ hk,iP_ rfl];rfl
 .rw [iN_ h,iN_<|λh'=>h h'.symm]
def d_e (t:List Int)(ks:List Int):Int:=(ks.map<|λk=>t.getD k.toNat 0).sum
theorem k_M {t:List Int}(ht:Tb t):∀ks:List Int,0<=d_e t ks/\d_e t ks<=401 * (ks.length:Int)
 | []=>⟨Int.le_refl _,Int.le_refl _⟩
 | k::ks=>by
  have h:=k_M ht ks;have h2:=ht.2 k.toNat;unfold d_e at *
  rw [List.map_cons,List.sum_cons,lC_]
  omega
theorem sum_is {t:List Int}(ht:Tb t){r:c_}(hk:∀k∈r.kids,0<=k/\k<24)(hl:r.kids.length<=2000000):e_S t r=some (d_e t r.kids):=by
 unfold e_S
 have h:=f_i (ρ:=Int) (s:=0) (n:=r.kids.length) (body:=λI=>(λJ=>bd (idx r.kids ((I:Nat):Int)) λG=>bd (idx t G) λH=>some (.next (d_ J H)))) (λj=>d_e t (r.kids.take j)) (by simp [d_e]) (λj hj=>by
  have hm:=hk _<|gE_ hj;have h1:=k_M ht<|r.kids.take j;have h2:=ht.2 (r.kids[j]).toNat
  rw [List.length_take] at h1
  rw [ix_ hj,bd_some,ht.idx hm.1 hm.2,bd_some,ia_ (by omega) (by omega),j_c hj]
  unfold d_e
  rw [List.map_append,List.sum_append]
  simp)
 rw [h,bd_some,el_inl,List.take_length]
theorem m_f {t:List Int}:∀(ks:List Int)(es:List Bt),ks.length=es.length->(∀j (h:j<ks.length) (h':j<es.length),t.getD (ks[j]).toNat 0<=(es[j].length:Int))->d_e t ks<=(es.flatten.length:Int)
 | [],es,_,_=>by unfold d_e;simp
 | k::ks,[],h,_=>by simp at h
 | k::ks,e::es,h,hh=>by
  have h1:=m_f ks es (by simpa using h)<|λj h2 h3=>hh (j+1) (by simpa using h2) (by simpa using h3);have h2:=hh 0 (by simp) (by simp);unfold d_e at *
  simp only [List.getElem_cons_zero] at h2
  rw [List.map_cons,List.sum_cons,List.flatten_cons,List.length_append]
  omega
theorem alt_is {t:List Int}(ht:Tb t){r:c_}(hk:∀k∈r.kids,0<=k/\k<24)(h2:2<=r.kids.length):∃z,e_T t r=some z/\0<=z/\z<=401/\∀i,1<=i->i<r.kids.length->z<=t.getD (r.kids.getD i 0).toNat 0:=by
 unfold e_T;have h1:=hk _<|gE_ (show 1<r.kids.length by omega);have V:idx r.kids 1=some r.kids[1]:=ix_ (k:=1) (by omega)
 have W:slc r.kids 2 (r.kids.length:Int)=some (r.kids.drop 2):=by
  unfold slc
  rw [iP_ ⟨by omega,by omega,by omega⟩]
  simp
 rw [V,bd_some,ht.idx h1.1 h1.2,bd_some,W,bd_some]
 have G:=ht.2 (r.kids[1]).toNat
 rcases c_e (ρ:=Int) (n:=(r.kids.drop 2).length) (body:=λH=>(λI=>bd (idx (r.kids.drop 2) ((H:Nat):Int)) λJ=>bd (idx t J) λL=>bd (c_l I L) λO=>some<|.next O))
  (λk z=>0<=z/\z<=401/\z<=t.getD (r.kids[1]).toNat 0/\∀i,i<k->z<=t.getD ((r.kids.drop 2).getD i 0).toNat 0) (λ_=>False) (λk s hk' ⟨i0,i1,i2,Y⟩=>.inl (by
   have hm:=hk _<|List.mem_of_mem_drop<|gE_ hk';have hb:=ht.2 ((r.kids.drop 2)[k]).toNat
   rw [ix_ hk',bd_some,ht.idx hm.1 hm.2,bd_some,e_g,bd_some]
   refine ⟨_,rfl,by omega,by omega,by omega,λi hi=>?_⟩
   by_cases h:i=k
   .subst h;rw [B_ hk'];omega
   .have:=Y i (by omega);omega)) (r.kids.drop 2).length 0 (t.getD (r.kids[1]).toNat 0) (by omega) ⟨G.1,G.2,Int.le_refl _,λi hi=>by omega⟩ with ⟨z,e,g0,g1,g2,g3⟩ | ⟨_,_,hf⟩
 .rw [e,bd_some,el_inl]
  refine ⟨z,rfl,g0,g1,λi h3 h4=>?_⟩
  by_cases hi:i=1
  .subst hi;rw [B_ h4];exact g2
  .have:=g3 (i - 2) (by rw [List.length_drop];omega)
   rw [B_ (show i - 2<(r.kids.drop 2).length by rw [List.length_drop];omega),List.getElem_drop] at this
   rw [B_ h4]
   simpa [show 2+(i - 2)=i by omega] using this
 .exact hf.elim
theorem q_c {σ ρ β:Type}{body:Nat->σ->Option (Out σ ρ)}{n:Nat}{s:σ}{f:σ->Option β}{g:ρ->Option β}{P:β->Prop}(I:Nat->σ->Prop)(G:I 0 s)(h:∀k s,k<n->I k s->∃s',body k s=some (.next s')/\I (k+1) s')(hf:∀s,I n s->∃r,f s=some r/\P r):∃r,bd (n_ body n 0 s) (el f g)=some r/\P r:=by
 rcases c_e (body:=body) I (λ_=>False) (n:=n) (λk s hk hi=>.inl<|h k s hk hi) n 0 s (by omega) G with ⟨s',e,hi⟩ | ⟨_,_,h⟩
 .rw [e,bd_some,el_inl];exact hf s' hi
 .exact h.elim
def LeP (rs:List c_)(t:List Int)(k:Nat):Prop:=Tb t/\∀i,i<k->((rs.getD i default).kind=1->t.getD i 0<=(rs.getD i default).size)/\∀m v e,VP rs m i v->Prt rs m i v e->t.getD i 0<=(e.length:Int)
theorem q_d {d:b_}(hv:I_ d=true)(hd:SmD d):∃t,e_U d=some t/\LeP d.rules t d.rules.length:=by
 have hl:=(b_5 hv).2;unfold e_U;refine q_c (λk s=>LeP d.rules s k) ⟨⟨by simp,λi=>by rw [gD_,List.getElem?_replicate];split <;> simp⟩,λi hi=>by omega⟩ ?_<|λs hs=>⟨s,rfl,hs⟩
 .rintro k t hk ⟨hb,hi⟩;have hr:=a_R hv hk;have hsr:=hd.each _<|gE_ hk;have hkid:∀j∈d.rules[k].kids,0<=j/\j<24:=λj hj=>by have:=hr.kids j hj;omega
  have hge:d.rules.getD k default=d.rules[k]:=B_ hk
  have fin:∀z:Int,0<=z->(d.rules[k].kind=1->z<=d.rules[k].size)->(∀m v e,VP d.rules (m+1) k v->Prt d.rules (m+1) k v e->z<=(e.length:Int))->∃s':List Int,(bd (c_l z 401) λV=>bd (upd t ((k:Nat):Int) V) λW=>some (Out.next W:Out (List Int) (List Int)))=some (.next s')/\LeP d.rules s' (k+1):=λz H h1 h2=>by
   rw [e_g,bd_some,f_l (by have:=hb.1;omega),bd_some]
   have hkt:k<t.length:=by have:=hb.1;omega
   refine ⟨_,rfl,⟨by rw [List.length_set];exact hb.1,λi=>?_⟩,λi hik=>?_⟩
   .rw [j_7 hkt]
    have:=hb.2 i
    split <;> omega
   .rw [j_7 hkt]
    by_cases h:i=k
    .subst h
     rw [iP_ rfl,hge]
     refine ⟨λh=>by have:=h1 h;omega,λm v e hV hP=>?_⟩
     cases m with
     | zero=>exact hV.elim
     | succ m=>have:=h2 m v e hV hP;omega
    .rw [iN_ h];exact hi i (by omega)
  -- the parts of a value
  have parts:∀m v e,VP d.rules (m+1) k v->Prt d.rules (m+1) k v e->∃es:List Bt,es.length=v.items.length/\Own d.rules d.rules[k] v/\e=a_D d.rules d.rules[k] v++es.flatten++(if d.rules[k].kind=9 then [mkB (b_i es.flatten)] else [])/\∀j (h:j<es.length),t.getD (v_ d.rules[k] v.number j).toNat 0<=(es[j].length:Int):=by
   rintro m v e ⟨_,hO,hV⟩ ⟨es,h1,h2,h3⟩
   rw [hge] at h2 h3
   refine ⟨es,h1,hO,h3,λj h=>?_⟩;obtain ⟨q,a1,a2,a3⟩:=hV j (by omega);obtain ⟨q',b1,b2⟩:=h2 j h (by omega);obtain rfl:q=q':=by omega
   rw [a1,tN_]
   exact (hi q a2).2 m _ _ a3 b2
  have first:0<d.rules[k].kids.length->idx d.rules[k].kids 0=some (f_ d.rules[k])/\0<=f_ d.rules[k]/\f_ d.rules[k]<(k:Int):=λH=>by
   have hm:=hr.kids _<|gE_ H;have:f_ d.rules[k]=(d.rules[k].kids)[0]:=by unfold f_;rw [B_ H]
   rw [this]
   exact ⟨ix_ (k:=0) H,hm.1,hm.2⟩
  have tfirst:0<d.rules[k].kids.length->idx t (f_ d.rules[k])=some (t.getD (f_ d.rules[k]).toNat 0):=λH=>by
   obtain ⟨_,a,b⟩:=first H;exact hb.idx a (by omega)
  have enc:0<d.rules[k].kids.length->0<lim d.rules (f_ d.rules[k])->∀x,t.getD (f_ d.rules[k]).toNat 0<=((b_0 (w_ d.rules<|f_ d.rules[k]) x).length:Int):=λH hlim x=>by
   obtain ⟨_,a,b⟩:=first H;have hI:=(b_I hlim).2
   rw [m_e hI]
   exact (hi (f_ d.rules[k]).toNat (by omega)).1 hI.1
  have O:∀i,0<=t.getD i 0/\t.getD i 0<=401:=hb.2
  rw [ix_ hk,bd_some]
  have hkk:=c_A hr.kind;have hkind:=hr.kind;generalize d.rules[k]=r at *
  have hcase:r.kind=1∨r.kind=2∨r.kind=3∨r.kind=4∨r.kind=5∨r.kind=6∨r.kind=7∨r.kind=8∨r.kind=9∨r.kind=10:=by omega
  have own:∀{v:Val},Own d.rules r v->Own d.rules r v:=λh=>h
  rcases hcase with h | h | h | h | h | h | h | h | h | h
  .have hI:=c_N hkind h
   simp only [h,show ((1:Int)==1)=true from rfl,fT_,bd_some]
   refine fin _ (by have:=hI.2.1;omega) (λ_=>Int.le_refl _) λm v e hV hP=>?_
   obtain ⟨es,J,hO,G,I⟩:=parts m v e hV hP
   rw [G,List.length_append,List.length_append]
   have:a_D d.rules r v=b_0 r v.number:=by unfold a_D;rw [iP_ h]
   have h2:=m_e hI v.number
   rw [this];omega
  .simp only [h,show ((2:Int)==1)=false from rfl,show ((2:Int)==3)=false from rfl,show ((2:Int)==2)=true from rfl,bF_,fT_,fF_,bd_some]
   refine fin _ (by omega) (λh'=>by omega) λm v e hV hP=>?_
   obtain ⟨es,J,hO,G,I⟩:=parts m v e hV hP
   rw [G,List.length_append,List.length_append]
   have:a_D d.rules r v=r.bytes:=by unfold a_D;rw [iN_ (by omega),iP_ h]
   rw [this];omega
  .have hz:=d_C hkind h
   simp only [h,show ((3:Int)==1)=false from rfl,show ((3:Int)==3)=true from rfl,bF_,fT_,fF_,bd_some]
   refine fin _ (by omega) (λh'=>by omega) λm v e hV hP=>?_
   obtain ⟨es,J,hO,G,I⟩:=parts m v e hV hP
   rw [G,List.length_append,List.length_append]
   have:a_D d.rules r v=v.bytes:=by unfold a_D;rw [iN_ (by omega),iN_ (by omega),iP_ h]
   have hO':(v.bytes.length:Int)=r.size:=by unfold Own at hO;omega
   rw [this];omega
  .obtain ⟨k1,k2⟩:=c_z hkind h
   simp only [h,show ((4:Int)==1)=false from rfl,show ((4:Int)==3)=false from rfl,show ((4:Int)==2)=false from rfl,show ((4:Int)==4)=true from rfl,bF_,fT_,fF_,bd_some,(first (by omega)).1,tfirst (by omega)]
   refine fin _ (O _).1 (λh'=>by omega) λm v e hV hP=>?_
   obtain ⟨es,J,hO,G,I⟩:=parts m v e hV hP
   rw [G,List.length_append,List.length_append]
   have:a_D d.rules r v=b_0 (w_ d.rules<|f_ r) (v.bytes.length:Int)++v.bytes:=by unfold a_D;rw [iN_ (by omega),iN_ (by omega),iN_ (by omega),iP_ h]
   have h2:=enc (by omega) k1 (v.bytes.length:Int)
   rw [this,List.length_append];omega
  .obtain ⟨k1,k2⟩:=b_x hkind h
   simp only [h,show ((5:Int)==1)=false from rfl,show ((5:Int)==3)=false from rfl,show ((5:Int)==2)=false from rfl,show ((5:Int)==4)=false from rfl,show ((5:Int)==5)=true from rfl,bF_,fT_,fF_,bd_some,(first (by omega)).1,tfirst (by omega)]
   refine fin _ (O _).1 (λh'=>by omega) λm v e hV hP=>?_
   obtain ⟨es,J,hO,G,I⟩:=parts m v e hV hP
   rw [G,List.length_append,List.length_append]
   have:a_D d.rules r v=b_0 (w_ d.rules<|f_ r) (v.items.length:Int):=by unfold a_D;rw [iN_ (by omega),iN_ (by omega),iN_ (by omega),iN_ (by omega),iN_ (by omega),iP_ h]
   have h2:=enc (by omega) k1 (v.items.length:Int)
   rw [this];omega
  .have hMX:=MXv;have hkl:r.kids.length<=2000000:=by have:=hsr.kids;omega
   simp only [h,show ((6:Int)==1)=false from rfl,show ((6:Int)==3)=false from rfl,show ((6:Int)==2)=false from rfl,show ((6:Int)==4)=false from rfl,show ((6:Int)==5)=false from rfl,show ((6:Int)==6)=true from rfl,bF_,fT_,fF_,bd_some,sum_is hb hkid hkl]
   refine fin _ (k_M hb _).1 (λh'=>by omega) λm v e hV hP=>?_
   obtain ⟨es,J,hO,G,I⟩:=parts m v e hV hP
   rw [G,List.length_append,List.length_append]
   have hO':v.items.length=r.kids.length:=by unfold Own at hO;omega
   have:=m_f r.kids es (by omega) (t:=t) (λj h1 h2=>by
    have:=I j h2;have hit:v_ r v.number j=r.kids[j]:=by unfold v_;rw [h,iN_ (by decide),iP_ (by decide),iP_ h1,B_ h1]
    rw [hit] at this;exact this)
   omega
  .have hc:=b_U hkind h;obtain ⟨u,hu,u0,u1,u2⟩:=alt_is hb hkid (by omega)
   simp only [h,show ((7:Int)==1)=false from rfl,show ((7:Int)==3)=false from rfl,show ((7:Int)==2)=false from rfl,show ((7:Int)==4)=false from rfl,show ((7:Int)==5)=false from rfl,show ((7:Int)==6)=false from rfl,show ((7:Int)==7)=true from rfl,bF_,fT_,fF_,bd_some,(first (by omega)).1,tfirst (by omega),hu]
   have Y:=O (f_ r).toNat
   rw [ia_ (by omega) (by omega)]
   refine fin _ (by omega) (λh'=>by omega) λm v e hV hP=>?_
   obtain ⟨es,J,hO,G,I⟩:=parts m v e hV hP
   rw [G,List.length_append,List.length_append]
   have:a_D d.rules r v=b_0 (w_ d.rules<|f_ r) v.number:=by unfold a_D;rw [iN_ (by omega),iN_ (by omega),iN_ (by omega),iN_ (by omega),iN_ (by omega),iN_ (by omega),iP_ h]
   have h2:=enc (by omega) hc.1 v.number;have hO':v.items.length=1/\0<=v_ r v.number 0:=by unfold Own at hO;omega
   have h3:=I 0 (by omega)
   have hit:∃q,q<r.tags.length/\v_ r v.number 0=r.kids.getD (q+1) 0:=by
    have H:=hO'.2;unfold v_ at H ⊢
    rw [h,iN_ (by decide),iN_ (by decide),iP_ (by decide)] at H ⊢
    cases hq:a_y r.tags v.number with
    | none=>rw [hq] at H;simp at H
    | some q=>exact ⟨q,g_z hq,rfl⟩
   obtain ⟨q,q1,q2⟩:=hit;have h4:=u2 (q+1) (by omega) (by omega)
   rw [q2] at h3
   obtain ⟨L,rfl⟩:∃L,es=[L]:=List.length_eq_one_iff.1 (by omega)
   simp only [List.getElem_cons_zero] at h3
   rw [this]
   simp only [List.flatten_cons,List.flatten_nil,List.append_nil]
   omega
  .simp only [h,show ((8:Int)==1)=false from rfl,show ((8:Int)==3)=false from rfl,show ((8:Int)==2)=false from rfl,show ((8:Int)==4)=false from rfl,show ((8:Int)==5)=false from rfl,show ((8:Int)==6)=false from rfl,show ((8:Int)==7)=false from rfl,show ((8:Int)==9)=false from rfl,bF_,fF_,bd_some]
   refine fin _ (by omega) (λh'=>by omega) λm v e hV hP=>?_
   obtain ⟨es,J,hO,G,I⟩:=parts m v e hV hP
   rw [G,List.length_append,List.length_append]
   have:a_D d.rules r v=[mkB (v.items.length:Int)]:=by unfold a_D;rw [iN_ (by omega),iN_ (by omega),iN_ (by omega),iN_ (by omega),iN_ (by omega),iN_ (by omega),iN_ (by omega),iP_ h]
   rw [this,List.length_singleton];omega
  .have hn:=b_d hkind<|.inr h
   simp only [h,show ((9:Int)==1)=false from rfl,show ((9:Int)==3)=false from rfl,show ((9:Int)==2)=false from rfl,show ((9:Int)==4)=false from rfl,show ((9:Int)==5)=false from rfl,show ((9:Int)==6)=false from rfl,show ((9:Int)==7)=false from rfl,show ((9:Int)==9)=true from rfl,bF_,fT_,fF_,bd_some,(first (by omega)).1,tfirst (by omega)]
   have Y:=O (f_ r).toNat
   rw [ia_ (by omega) (by omega)]
   refine fin _ (by omega) (λh'=>by omega) λm v e hV hP=>?_
   obtain ⟨es,J,hO,G,I⟩:=parts m v e hV hP
   rw [G,List.length_append,List.length_append,iP_ h,List.length_singleton]
   have hO':v.items.length=1:=by unfold Own at hO;omega
   have h3:=I 0 (by omega);have hit:v_ r v.number 0=f_ r:=by unfold v_;rw [h];rfl
   rw [hit] at h3
   obtain ⟨L,rfl⟩:∃L,es=[L]:=List.length_eq_one_iff.1 (by omega)
   simp only [List.getElem_cons_zero] at h3
   simp only [List.flatten_cons,List.flatten_nil,List.append_nil]
   omega
  .simp only [h,show ((10:Int)==1)=false from rfl,show ((10:Int)==3)=false from rfl,show ((10:Int)==2)=false from rfl,show ((10:Int)==4)=false from rfl,show ((10:Int)==5)=false from rfl,show ((10:Int)==6)=false from rfl,show ((10:Int)==7)=false from rfl,show ((10:Int)==9)=false from rfl,bF_,fF_,bd_some]
   refine fin _ (by omega) (λh'=>by omega) λm v e hV hP=>?_
   obtain ⟨es,J,hO,G,I⟩:=parts m v e hV hP
   rw [G,List.length_append,List.length_append]
   have:a_D d.rules r v=c_d v.bytes (r.bytes.getD 0 0)++[r.bytes.getD 0 0]:=by unfold a_D;rw [iN_ (by omega),iN_ (by omega),iN_ (by omega),iN_ (by omega),iP_ h]
   rw [this,List.length_append,List.length_singleton];omega
theorem q_e {d:b_}(hv:I_ d=true)(hd:SmD d)(hw:WV d)(hE:DrE d){n:Nat}(hn:1000<=n){s:Int}(hs:SdI s):∃w:Bt×Bool,d_L n d s 3=some w/\w.1.length<=400/\∃w',d_m n d s 3=some w'/\w'.2=w.2/\(w.2=true->w'=w):=by
 obtain ⟨w,H,G,h1,h2⟩:=q_b hv hd hw hE hn hs;refine ⟨w,H,h1,?_⟩
 rcases G with G | ⟨G,z,hz,h4⟩
 .exact ⟨w,G,rfl,λ_=>rfl⟩
 .have:w.2=false:=by
   rw [← Bool.not_eq_true]
   intro h;obtain ⟨k,v,hk,hV,hP⟩:=h2 h;obtain ⟨t,et,hb,hl⟩:=q_d hv hd;have hkl:=vp_lt hV;have I:=(b_5 hv).2;have hle:=(hl k hkl).2 _ _ _ hV hP;unfold e_V at hz
   have hroot:a_G d (a_z d)=true:=by rw [hk];unfold a_G;simp [hkl]
   rw [e_9 n (by omega) d hd,hv,hroot] at hz
   simp only [Bool.and_self,nT_,bF_,fF_,bd_some,et] at hz
   rw [hk,hb.idx (by omega) (by omega),bd_some,tN_] at hz
   have:=Option.some.inj hz
   omega
  exact ⟨_,G,this.symm,λh=>by rw [this] at h;cases h⟩
end Go.Vw
