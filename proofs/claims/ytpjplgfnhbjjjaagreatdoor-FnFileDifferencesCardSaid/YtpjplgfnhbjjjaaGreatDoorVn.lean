
import Derived.Test.YtpjplgfnhbjjjaaGreatDoorVk
import Derived.Test.YtpjplgfnhbjjjaaGreatDoorVm
namespace Go.Vw
open Go.RowKit Dat
def a_Z (r:d_)(L:Nat)(s:Str):Int:=match (List.range L).find? (λj=>(D_ r j).b==s.b && !(s.b==[])) with
 | some m=>(m:Int)
 | none=>-1
theorem l_i {r:d_}{L:Nat}{s:Str}(h:0<=a_Z r L s):∃m:Nat,a_Z r L s=(m:Int)/\m<L/\(D_ r m).b=s.b/\s.b ≠ []/\∀j,j<m->(D_ r j).b ≠ s.b:=by
 unfold a_Z at h ⊢
 cases hf:(List.range L).find? (λj=>(D_ r j).b==s.b && !(s.b==[])) with
 | none=>rw [hf] at h;simp at h
 | some m =>
  have h1:=List.mem_range.1<|List.mem_of_find?_eq_some hf;have h2:=List.find?_some hf
  simp only [aE_,beq_iff_eq,Bool.not_eq_true',beq_eq_false_iff_ne] at h2
  refine ⟨m,rfl,h1,h2.1,h2.2,λj hj he=>?_⟩;have:=List.find?_eq_some_iff_getElem.1 hf;obtain ⟨_,i,hi,hm,hno⟩:=this
  rw [List.getElem_range] at hm
  have:=hno j (by omega)
  rw [List.getElem_range] at this
  simp only [Bool.not_eq_true',Bool.and_eq_false_iff,beq_eq_false_iff_ne,Bool.not_eq_false',beq_iff_eq] at this
  rcases this with q | q
  .exact q he
  .exact h2.2 q
theorem n_Z {r:d_}{L:Nat}{s:Str}(h:¬0<=a_Z r L s):a_Z r L s = -1/\∀j,j<L->(D_ r j).b=s.b->s.b=[]:=by
 unfold a_Z at h ⊢
 cases hf:(List.range L).find? (λj=>(D_ r j).b==s.b && !(s.b==[])) with
 | some m=>rw [hf] at h;simp at h
 | none =>
  refine ⟨rfl,λj hj he=>?_⟩;have:=List.find?_eq_none.1 hf j<|List.mem_range.2 hj
  simp only [aE_,beq_iff_eq,Bool.not_eq_true',beq_eq_false_iff_ne,not_and,ne_eq,Decidable.not_not] at this
  exact this he
theorem r_C (l:List Str)(x:Str):∃f,e_u l x=some f:=by
 unfold e_u
 rcases c_U (σ:=Unit) (ρ:=Int) (body:=(λG=>(λ(_:Unit)=>bd (idx l ((G:Nat):Int)) λH=>bd (h_l H x) λI=>if I then some (.ret ((G:Nat):Int)) else some (.next ())))) (λ_ _=>True) (λ_=>True) (n:=l.length) (λk _ hk _=>by
  unfold h_l
  rw [ix_ hk,bd_some,bd_some]
  split
  .exact .inr ⟨_,rfl,trivial⟩
  .exact .inl ⟨_,rfl,trivial⟩) l.length 0 () (by omega) trivial with ⟨_,e,_⟩ | ⟨f,e,_⟩
 .rw [e,bd_some,el_inl];exact ⟨_,rfl⟩
 .rw [e,bd_some,el_inr];exact ⟨_,rfl⟩
section
variable {d:c_}{v:Val}
theorem h_t (hv:O_ d=true){i:Nat}(hi:i<d.rules.length)(h:Own d.rules d.rules[i] v):v.items.length<=40:=by
 have hr:=a_O hv hi;unfold Own at h
 rcases h with ⟨h,_,_,_,G⟩ | ⟨h,_,_,G⟩ | ⟨h,_,_,G⟩ | ⟨h,_,_,_,G⟩ | ⟨h,_,_,G⟩ | ⟨h,_,_,H,_⟩ | ⟨h,_,_,H⟩ | ⟨h,_,_,_,I,J⟩ | ⟨h,_,_,H⟩ | ⟨h,_,_,H⟩
 .rw [G];simp
 .rw [G];simp
 .rw [G];simp
 .rw [G];simp
 .rw [G];simp
 .omega
 .have:=f_y hr.kind h;omega
 .omega
 .omega
 .omega
theorem o_0 (hv:O_ d=true)(hd:SmD d){i:Nat}(hi:i<d.rules.length)(h40:v.items.length<=40)(s:Str){n:Nat}(hn:1000<=n):d_c n d (i:Int) v s=some (a_Z d.rules[i] v.items.length s):=by
 by_cases hf:0<=a_Z d.rules[i] v.items.length s
 .obtain ⟨m,e,hm,h1,h2,h3⟩:=l_i hf
  have hs:s=D_ d.rules[i] m:=by
   cases s;cases hq:D_ d.rules[i] m;rw [hq] at h1;simp only at h1;rw [h1]
  rw [e,hs]
  exact p_2 hv hd hi hm (by omega) (λj hj=>by rw [← hs];exact h3 j hj) (by rw [← hs];exact h2) hn
 .obtain ⟨e,hno⟩:=n_Z hf
  rw [e]
  unfold d_c
  rw [g_s n (by omega) d hd,hv,show a_V d (i:Int)=true by
   unfold a_V
   rw [dT_ (show (0:Int)<=(i:Int) by omega),dT_ (show (i:Int)<(d.rules.length:Int) by omega)];rfl]
  rw [bd_some,show (!(true && true))=false from rfl,iN_ (by simp),ix_ hi,bd_some]
  have key:∃z:Sum Int Int,bd (α:=Sum Int Int) (if (d.rules[i].kind==5) then bd2 (f_G s) λH I=>if (!I) then some (.inr (-1)) else some (.inl H) else bd (α:=Int) (if (d.rules[i].kind==6) then bd (e_u d.rules[i].names s) λJ=>some J else some 0) (λL=>some<|.inl L)) (λz=>some z)=some z/\∀q,z = .inr q->q = -1:=by
   by_cases h5:(d.rules[i].kind==5)=true
   .rw [iP_ h5,l_x,bd2_some]
    cases (d_i s).2
    .exact ⟨.inr (-1),rfl,λq hq=>by cases hq;rfl⟩
    .exact ⟨.inl _,rfl,λq hq=>by cases hq⟩
   .rw [iN_ h5]
    by_cases h6:(d.rules[i].kind==6)=true
    .obtain ⟨f,hf'⟩:=r_C d.rules[i].names s
     rw [iP_ h6,hf',bd_some,bd_some,bd_some]
     exact ⟨.inl f,rfl,λq hq=>by cases hq⟩
    .rw [iN_ h6,bd_some,bd_some]
     exact ⟨.inl 0,rfl,λq hq=>by cases hq⟩
  obtain ⟨z,hz,V⟩:=key;have O:∀{β:Type}(z:Option (Sum Int Int))(f:Sum Int Int->Option β),bd z f=bd (bd z<|λy=>some y) f:=λz f=>by cases z <;> rfl
  rw [O,show (bd _<|λy=>some y)=_ from hz,bd_some]
  cases z with
  | inr q=>rw [el_inr,V q rfl]
  | inl x =>
   rw [el_inl]
   by_cases G:x<0
   .rw [dT_ G,iP_ rfl,bd_some,iP_ rfl]
   rw [dF_ G,iN_ (by simp)]
   by_cases hxL:(v.items.length:Int)<=x
   .rw [dT_ hxL,iP_ rfl,bd_some,iP_ rfl]
   rw [dF_ hxL,iN_ (by simp)]
   obtain ⟨m,rfl⟩:∃m:Nat,x=(m:Int):=⟨x.toNat,by omega⟩
   rw [l_S hv hd (by omega) hi m,bd_some]
   by_cases hst:(D_ d.rules[i] m).b=s.b
   .rw [show ((D_ d.rules[i] m).b != s.b)=false by simpa using hst,iN_ (by simp),hno m (by omega) hst]
    rfl
   .rw [show ((D_ d.rules[i] m).b != s.b)=true by simpa using hst,iP_ rfl,bd_some,iP_ rfl]
theorem o_1 (hv:O_ d=true)(hd:SmD d){i:Nat}(hi:i<d.rules.length)(h40:v.items.length<=40)(s:Str){n:Nat}(hn:1000<=n):d_Y n d (i:Int) v s=some (a_Z d.rules[i] v.items.length s):=by
 unfold d_Y
 have V:d_q d (i:Int)=some true:=by
  rw [h_s d hd,hv,show a_V d (i:Int)=true by
   unfold a_V
   rw [dT_ (show (0:Int)<=(i:Int) by omega),dT_ (show (i:Int)<(d.rules.length:Int) by omega)];rfl];rfl
 have step:∀k,k<v.items.length->(λG=>bd (α:=Bool) (if (decide<|G<(v.items.length:Int)) then bd (d_q d (i:Int)) λI=>some I else some false) (λJ=>if J then bd (idx d.rules (i:Int)) λL=>bd (c_M n L G) λH=>bd (α:=Bool) (if (H.b != (⟨[]⟩:Str).b) then some (H.b==s.b) else some false) (λO=>if O then some (Out.ret G:Out Int Int) else some (.next<|i_ G 1)) else some (.brk G))) ((k:Nat):Int)=if (D_ d.rules[i] k).b=s.b/\s.b ≠ [] then some (Out.ret (k:Int)) else some (.next ((k+1:Nat):Int)):=λk hk=>by
  simp only
  rw [dT_ (show (k:Int)<(v.items.length:Int) by omega),iP_ rfl,V,bd_some,bd_some,iP_ rfl,ix_ hi,bd_some,e_L (by omega) _ k (by omega),bd_some,ia_ (by omega) (by omega)]
  by_cases he:(D_ d.rules[i] k).b=[]
  .rw [show ((D_ d.rules[i] k).b != ([]:Bt))=false by simpa using he,iN_ (by simp),bd_some,iN_ (by simp),iN_<|λh=>h.2<|h.1.symm.trans he]
   rfl
  .rw [show ((D_ d.rules[i] k).b != ([]:Bt))=true by simpa using he,iP_ rfl,bd_some]
   by_cases hs:(D_ d.rules[i] k).b=s.b
   .rw [show ((D_ d.rules[i] k).b==s.b)=true by simpa using hs,iP_ rfl,iP_ ⟨hs,λh=>he<|hs.trans h⟩]
   .rw [show ((D_ d.rules[i] k).b==s.b)=false by simpa using hs,iN_ (by simp),iN_<|λh=>hs h.1]
    rfl
 have stop:(λG=>bd (α:=Bool) (if (decide<|G<(v.items.length:Int)) then bd (d_q d (i:Int)) λI=>some I else some false) (λJ=>if J then bd (idx d.rules (i:Int)) λL=>bd (c_M n L G) λH=>bd (α:=Bool) (if (H.b != (⟨[]⟩:Str).b) then some (H.b==s.b) else some false) (λO=>if O then some (Out.ret G:Out Int Int) else some (.next<|i_ G 1)) else some (.brk G))) ((v.items.length:Nat):Int)=some (.brk (v.items.length:Int)):=by
  simp only
  rw [dF_ (show ¬(v.items.length:Int)<(v.items.length:Int) by omega),iN_ (by simp),bd_some,iN_ (by simp)]
 generalize hb:(λG=>bd (α:=Bool) (if (decide<|G<(v.items.length:Int)) then bd (d_q d (i:Int)) λI=>some I else some false) (λJ=>if J then bd (idx d.rules (i:Int)) λL=>bd (c_M n L G) λH=>bd (α:=Bool) (if (H.b != (⟨[]⟩:Str).b) then some (H.b==s.b) else some false) (λO=>if O then some (Out.ret G:Out Int Int) else some (.next<|i_ G 1)) else some (.brk G)))=body at step stop
 by_cases hf:0<=a_Z d.rules[i] v.items.length s
 .obtain ⟨m,e,hm,h1,h2,h3⟩:=l_i hf
  have run:∀c k f,k+c=m->c+1<=f->L_ body f (k:Int)=some (.inr (m:Int)):=by
   intro c
   induction c with
   | zero =>
    intro k f hk hf;obtain ⟨f',rfl⟩:∃f',f=f'+1:=⟨f - 1,by omega⟩;obtain rfl:k=m:=by omega
    unfold L_
    rw [step k hm,iP_ ⟨h1,h2⟩]
   | succ c ih =>
    intro k f hk hf;obtain ⟨f',rfl⟩:∃f',f=f'+1:=⟨f - 1,by omega⟩;unfold L_
    rw [step k (by omega),iN_<|λh=>h3 k (by omega) h.1]
    exact ih (k+1) f' (by omega) (by omega)
  rw [show (0:Int)=((0:Nat):Int) from rfl,run m 0 n (by omega) (by omega),bd_some,el_inr,e]
 .obtain ⟨e,hno⟩:=n_Z hf
  have run:∀c k f,k+c=v.items.length->c+1<=f->L_ body f (k:Int)=some (.inl (v.items.length:Int)):=by
   intro c
   induction c with
   | zero =>
    intro k f hk hf;obtain ⟨f',rfl⟩:∃f',f=f'+1:=⟨f - 1,by omega⟩;obtain rfl:k=v.items.length:=by omega
    unfold L_
    rw [stop]
   | succ c ih =>
    intro k f hk hf;obtain ⟨f',rfl⟩:∃f',f=f'+1:=⟨f - 1,by omega⟩;unfold L_
    rw [step k (by omega),iN_<|λh=>h.2<|hno k (by omega) h.1]
    exact ih (k+1) f' (by omega) (by omega)
  rw [show (0:Int)=((0:Nat):Int) from rfl,run v.items.length 0 n (by omega) (by omega),bd_some,el_inl,e]
end
end Go.Vw
