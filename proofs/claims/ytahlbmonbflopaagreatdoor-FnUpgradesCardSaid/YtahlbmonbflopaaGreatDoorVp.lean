
import Derived.Test.YtahlbmonbflopaaGreatDoorVo
namespace Go.Vw
open Go.RowKit Dat
def a_Q (W:Nat->Val×Bool)(k:Nat):List Val:=(List.range k).map λj=>(W j).1
theorem j_x (W:Nat->Val×Bool)(k:Nat):(a_Q W k).length=k:=by unfold a_Q;simp
theorem m_F (W:Nat->Val×Bool){k j:Nat}(h:j<(a_Q W k).length):(a_Q W k)[j]=(W j).1:=by simp [a_Q]
theorem p_Y (W:Nat->Val×Bool)(k:Nat):a_Q W (k+1)=a_Q W k++[(W k).1]:=by unfold a_Q;rw [List.range_succ,List.map_append];rfl
theorem gather {ρ:Type}{body:Nat->List Val->Option (Out (List Val) ρ)}(W:Nat->Val×Bool)(r:Nat->ρ){n:Nat}(h:∀k,k<n->body k (a_Q W k)=some (if (W k).2 then .next (a_Q W<|k+1) else .ret (r k))) :
  (y_ body n 0 []=some (.inl<|a_Q W n)/\∀j,j<n->(W j).2=true)∨(∃k,k<n/\(W k).2=false/\y_ body n 0 []=some (.inr<|r k)):=by
 rcases c_u (body:=body) (λk s=>s=a_Q W k/\∀j,j<k->(W j).2=true) (λx=>∃k,k<n/\(W k).2=false/\x=r k) (n:=n) (λk s hk ⟨hs,hi⟩=>by
  rw [hs,h k hk]
  by_cases hw:(W k).2=true
  .left
   rw [iP_ hw]
   refine ⟨_,rfl,rfl,λj hj=>?_⟩
   by_cases hjk:j=k
   .subst hjk;exact hw
   .exact hi j (by omega)
  .right
   rw [iN_ hw]
   exact ⟨_,rfl,k,hk,Bool.eq_false_iff.2 hw,rfl⟩) n 0 [] (by omega) ⟨rfl,λj hj=>by omega⟩ with ⟨s,e,rfl,hs⟩ | ⟨x,e,k,hk,hf,rfl⟩
 .exact .inl ⟨e,hs⟩
 .exact .inr ⟨k,hk,hf,e⟩
theorem m_G {m G:Nat}:∀(ws:List Val)(es:List Nat),ws.length=es.length->(∀j (h:j<ws.length) (h':j<es.length),1+vsz m ws[j]<=es[j] * G)->lsz m ws<=es.sum * G
 | [],es,_,_=>by unfold lsz;simp
 | w::ws,[],h,_=>by simp at h
 | w::ws,e::es,h,hh=>by
  have h1:=m_G ws es (by simpa using h)<|λj h2 h3=>hh (j+1) (by simpa using h2) (by simpa using h3);have h2:=hh 0 (by simp) (by simp)
  simp only [List.getElem_cons_zero] at h2
  rw [e_W,List.sum_cons,Nat.add_mul]
  omega
def d_l (N:Nat)(c:Nat->Nat):Nat:=((List.range N).map c).sum
theorem j_y (N:Nat)(c:Nat->Nat):d_l (N+1) c=d_l N c+c N:=by unfold d_l;rw [List.range_succ,List.map_append,List.sum_append];simp
theorem p_Z {N:Nat}{c c':Nat->Nat}(h:∀i,i<N->c i=c' i):d_l N c=d_l N c':=by
 induction N with
 | zero=>rfl
 | succ N ih=>rw [j_y,j_y,ih λi hi=>h i (by omega),h N (by omega)]
theorem m_H (c:Nat->Nat){k:Nat}:∀{N:Nat},k<N->d_l N c=c k+d_l N (λi=>if i=k then 0 else c i)
 | 0,h=>by omega
 | N+1,h=>by
  rw [j_y,j_y]
  by_cases hk:k=N
  .subst hk
   rw [iP_ rfl,p_Z (c:=c) (c':=λi=>if i=k then 0 else c i) λi hi=>by rw [iN_ (by omega)]]
   omega
  .rw [m_H c (show k<N by omega),iN_<|λh=>hk h.symm];omega
theorem q_0 (es:List Nat):d_l es.length (λk=>es.getD k 0)=es.sum:=by
 unfold d_l
 congr 1
 refine List.ext_getElem (by simp) λi h1 h2=>?_
 rw [List.getElem_map,List.getElem_range,a_8 h2]
theorem k_H {m G S N:Nat}{xs:List Str}:∀(ys:List Str)(ws:List Val)(c:Nat->Nat),ws.length=ys.length->ys.Nodup->(∀q (h:q<ys.length) (h':q<ws.length),(∃k,k<N/\xs[k]? = some ys[q]/\1+vsz m ws[q]<=c k * G)∨vsz m ws[q]<=S)->lsz m ws<=d_l N c * G+ys.length * (1+S)
 | [],[],c,_,_,_=>by unfold lsz;simp
 | [],_::_,_,h,_,_=>by simp at h
 | _::_,[],_,h,_,_=>by simp at h
 | y::ys,w::ws,c,hl,hn,h=>by
  have hn':=List.nodup_cons.1 hn;have H:=h 0 (by simp) (by simp)
  simp only [List.getElem_cons_zero] at H
  rw [e_W,lC_,Nat.add_mul (ys.length) 1,Nat.one_mul]
  rcases H with ⟨k,hk,hx,hb⟩ | hb
  .have ih:=k_H (m:=m) (G:=G) (S:=S) (N:=N) (xs:=xs) ys ws (λi=>if i=k then 0 else c i) (by simpa using hl) hn'.2 (λq h1 h2=>by
    rcases h (q+1) (by simpa using h1) (by simpa using h2) with ⟨k',J,a2,I⟩ | a
    .left
     simp only [List.getElem_cons_succ] at a2 I
     have hne:k' ≠ k:=λhkk=>by
      subst hkk
      rw [hx] at a2
      exact hn'.1 (by rw [Option.some.inj a2];exact gE_ h1)
     exact ⟨k',J,a2,by show _<=(if k'=k then 0 else c k') * G;rw [iN_ hne];exact I⟩
    .right;simpa using a)
   rw [m_H c hk,Nat.add_mul]
   omega
  .have ih:=k_H (m:=m) (G:=G) (S:=S) (N:=N) (xs:=xs) ys ws c (by simpa using hl) hn'.2 (λq h1 h2=>by
    have:=h (q+1) (by simpa using h1) (by simpa using h2)
    simpa only [List.getElem_cons_succ] using this)
   omega
theorem q_1 {l:List Str}(h:∀q (hq:q<l.length),l[q]∉l.take q):l.Nodup:=by
 unfold List.Nodup
 rw [List.pairwise_iff_getElem]
 intro i j hi hj hij he;refine h j hj ?_
 rw [← he]
 exact List.mem_iff_getElem.2 ⟨i,by rw [List.length_take];omega,by simp⟩
theorem q_2 {m G S:Nat}{xs ys:List Str}{ws:List Val}{es:List Nat}(hw:ws.length=ys.length)(hd:∀q (h:q<ys.length),ys[q]∉ys.take q)(h:∀q (h:q<ys.length) (h':q<ws.length),(∃k,k<es.length/\xs[k]? = some ys[q]/\1+vsz m ws[q]<=es.getD k 0 * G)∨vsz m ws[q]<=S):lsz m ws<=es.sum * G+ys.length * (1+S):=by
 have:=k_H (m:=m) (G:=G) (S:=S) (N:=es.length) (xs:=xs) ys ws (λk=>es.getD k 0) hw (q_1 hd) h
 rw [q_0] at this
 exact this
def Cst:Nat->Val->Nat->Prop
 | 0,v,L=>1<=L/\v.bytes.length<=L/\v.items=[]
 | m+1,v,L=>1<=L/\v.bytes.length<=L/\∃Ls:List Nat,Ls.length=v.items.length/\Ls.sum<=L/\∀j (h:j<v.items.length) (h':j<Ls.length),Cst m v.items[j] Ls[j]
theorem Cst.pos {m L:Nat}{v:Val}(h:Cst m v L):1<=L/\v.bytes.length<=L:=by
 cases m <;> exact ⟨h.1,h.2.1⟩
theorem Cst.parts {m L:Nat}{v:Val}(h:Cst m v L):∃Ls:List Nat,Ls.length=v.items.length/\Ls.sum<=L/\∀j (h:j<v.items.length) (h':j<Ls.length),∃m',Cst m' v.items[j] Ls[j]:=by
 cases m with
 | zero =>
  have h3:=h.2.2;exact ⟨[],by rw [h3];rfl,by simp,λj _ h=>by simp at h⟩
 | succ m =>
  obtain ⟨_,_,Ls,a,b,c⟩:=h;exact ⟨Ls,a,b,λj h h'=>⟨m,c j h h'⟩⟩
theorem Cst.up:∀{m n:Nat}{v:Val}{L:Nat},m<=n->Cst m v L->Cst n v L
 | 0,0,_,_,_,h=>h
 | 0,n+1,_,_,_,⟨a,b,c⟩=>⟨a,b,[],by rw [c];rfl,by simp,λj _ h=>by simp at h⟩
 | m+1,0,_,_,h,_=>by omega
 | m+1,n+1,_,_,hm,⟨a,b,Ls,c,d,e⟩=>⟨a,b,Ls,c,d,λj h h'=>(e j h h').up (by omega)⟩
section
variable {d:c_}{b:Bt}
theorem m_I {rd:Int->Nat->RR}{L m:Nat}:∀(ks:List Int)(p:Nat)(vs:List Val)(e:Nat),h_i rd L ks p vs e->(∀k∈ks,∀p,p<=L->(rd k p).2.2=0->Cst m (rd k p).1 ((rd k p).2.1 - p)/\p<=(rd k p).2.1)->∃Ls:List Nat,Ls.length=vs.length/\Ls.sum+p<=e/\∀j (h:j<vs.length) (h':j<Ls.length),Cst m vs[j] Ls[j]
 | [],p,vs,e,h,_=>by
  obtain ⟨rfl,rfl⟩:=h;exact ⟨[],rfl,by simp,λj h=>by simp at h⟩
 | k::ks,p,vs,e,h,hk=>by
  obtain ⟨h1,h2,ws,rfl,h3⟩:=h;obtain ⟨g1,G⟩:=hk k mS_ p h1 h2;obtain ⟨Ls,a,b,c⟩:=m_I ks _ ws e h3<|λk h=>hk k<|mT_ _ h;refine ⟨((rd k p).2.1 - p)::Ls,by simp [a],by rw [List.sum_cons];omega,λj h h'=>?_⟩
  cases j with
  | zero=>exact g1
  | succ j=>exact c j (by simpa using h) (by simpa using h')
theorem cst_rd (hv:R_ d=true):∀(i:Nat),i<d.rules.length->∀at_,at_<=b.length->(rdW d.rules b i at_).2.2=0->Cst i (rdW d.rules b i at_).1 ((rdW d.rules b i at_).2.1 - at_):=by
 intro i
 induction i using Nat.strongRecOn with
 | _ i ih =>
  intro hi at_ ha hok;have hr:=a_S hv hi;obtain ⟨ks,e,hk⟩:=k_Z hv hi ha hok;have G:=m_Z (b:=b) hv hi ha;have hlt:=n_w hv i hi at_ ha hok;have hle:=hk.le;have hse:=hk.se;have hst:=hk.st.1
  cases i with
  | zero =>
   have:ks=[]:=by
    cases ks with
    | nil=>rfl
    | cons k ks=>have:=hr.kids k<|hk.kids k mS_;omega
   subst this;exact ⟨by omega,by omega,hk.ch.1⟩
  | succ i =>
   obtain ⟨Ls,a,b',c⟩:=m_I (m:=i) ks _ _ _ hk.ch (λk hkm p hp hok'=>by
    have hkk:=hr.kids k<|hk.kids k hkm;have h4:=n_w hv k.toNat (by omega) p hp hok'
    exact ⟨(ih k.toNat (by omega) (by omega) p hp hok').up (by omega),by omega⟩)
   exact ⟨by omega,by omega,Ls,a,by omega,c⟩
end
end Go.Vw
