
import Derived.Test.YtnncfaaebnkcbaaGreatDoorVwP99
import Derived.Test.YtnncfaaebnkcbaaGreatDoorVwP86
namespace Go.Vw
open Go.RowKit Dat
def a_S (r:b_)(L:Nat)(s:Str):Int:=match (List.range L).find? (fun j=>(a_s r j).b==s.b && !(s.b==[])) with
 | some m=>(m:Int)
 | none=>-1
theorem j_H {r:b_}{L:Nat}{s:Str}(h:0<=a_S r L s):∃m:Nat,a_S r L s=(m:Int)/\m<L/\(a_s r m).b=s.b/\s.b ≠ []/\∀j,j<m->(a_s r j).b ≠ s.b:=by
 unfold a_S at h ⊢
 cases hf:(List.range L).find? (fun j=>(a_s r j).b==s.b && !(s.b==[])) with
 | none=>rw [hf] at h;simp at h
 | some m =>
  have h1:=List.mem_range.1<|List.mem_of_find?_eq_some hf;have h2:=List.find?_some hf
  simp only [aE_,beq_iff_eq,Bool.not_eq_true',beq_eq_false_iff_ne] at h2
  refine ⟨m,rfl,h1,h2.1,h2.2,fun j hj he=>?_⟩;have:=List.find?_eq_some_iff_getElem.1 hf;obtain ⟨_,i,hi,hm,hno⟩:=this
  rw [List.getElem_range] at hm
  have:=hno j (by omega)
  rw [List.getElem_range] at this
  simp only [Bool.not_eq_true',Bool.and_eq_false_iff,beq_eq_false_iff_ne,Bool.not_eq_false',beq_iff_eq] at this
  rcases this with q | q
  ·exact q he
  ·exact h2.2 q
theorem m_2 {r:b_}{L:Nat}{s:Str}(h:¬0<=a_S r L s):a_S r L s = -1/\∀j,j<L->(a_s r j).b=s.b->s.b=[]:=by
 unfold a_S at h ⊢
 cases hf:(List.range L).find? (fun j=>(a_s r j).b==s.b && !(s.b==[])) with
 | some m=>rw [hf] at h;simp at h
 | none =>
  refine ⟨rfl,fun j hj he=>?_⟩;have:=List.find?_eq_none.1 hf j<|List.mem_range.2 hj
  simp only [aE_,beq_iff_eq,Bool.not_eq_true',beq_eq_false_iff_ne,not_and,ne_eq,Decidable.not_not] at this
  exact this he
theorem p_p (l:List Str)(x:Str):∃f,d_r l x=some f:=by
 unfold d_r
 rcases c_I (σ:=Unit) (ρ:=Int) (body:=(fun G=>(fun (_:Unit)=>bd (idx l ((G:Nat):Int)) fun H=>bd (f_r H x) fun I=>if I=true then some (.ret ((G:Nat):Int)) else some (.next ())))) (fun _ _=>True) (fun _=>True) (n:=l.length) (fun k _ hk _=>by
  unfold f_r
  rw [ix_ hk,bd_some,bd_some]
  split
  ·exact .inr ⟨_,rfl,trivial⟩
  ·exact .inl ⟨_,rfl,trivial⟩) l.length 0 () (by omega) trivial with ⟨_,e,_⟩ | ⟨f,e,_⟩
 ·rw [e,bd_some,el_inl];exact ⟨_,rfl⟩
 ·rw [e,bd_some,el_inr];exact ⟨_,rfl⟩
section
variable {d:f_}{v:Val}
theorem j_I (hv:a_5 d=true){i:Nat}(hi:i<d.rules.length)(h:Own d.rules d.rules[i] v):v.items.length<=40:=by
 have hr:=b_X hv hi;unfold Own at h
 rcases h with ⟨h,_,_,_,G⟩ | ⟨h,_,_,G⟩ | ⟨h,_,_,G⟩ | ⟨h,_,_,_,G⟩ | ⟨h,_,_,G⟩ | ⟨h,_,_,H,_⟩ | ⟨h,_,_,H⟩ | ⟨h,_,_,_,I,J⟩ | ⟨h,_,_,H⟩ | ⟨h,_,_,H⟩
 ·rw [G];simp
 ·rw [G];simp
 ·rw [G];simp
 ·rw [G];simp
 ·rw [G];simp
 ·omega
 ·have:=g_G hr.kind h;omega
 ·omega
 ·omega
 ·omega
theorem p_q (hv:a_5 d=true)(hd:SmD d){i:Nat}(hi:i<d.rules.length)(W:v.items.length<=40)(s:Str){n:Nat}(hn:1000<=n):d_X n d (i:Int) v s=some (a_S d.rules[i] v.items.length s):=by
 by_cases hf:0<=a_S d.rules[i] v.items.length s
 ·obtain ⟨m,e,hm,h1,h2,h3⟩:=j_H hf
  have hs:s=a_s d.rules[i] m:=by
   cases s;cases hq:a_s d.rules[i] m;rw [hq] at h1;simp only at h1;rw [h1]
  rw [e,hs]
  exact q_H hv hd hi hm (by omega) (fun j hj=>by rw [← hs];exact h3 j hj) (by rw [← hs];exact h2) hn
 ·obtain ⟨e,hno⟩:=m_2 hf
  rw [e]
  unfold d_X
  rw [f_w n (by omega) d hd,hv,show a_Y d (i:Int)=true by
   unfold a_Y
   rw [dT_ (show (0:Int)<=(i:Int) by omega),dT_ (show (i:Int)<(d.rules.length:Int) by omega)];rfl]
  rw [bd_some,show (!(true && true))=false from rfl,iN_ (by simp),ix_ hi,bd_some]
  have key:∃z:Sum Int Int,bd (α:=Sum Int Int) (if (d.rules[i].kind==5)=true then bd2 (e_j s) fun H I=>if (!I)=true then some (.inr (-1)) else some (.inl H) else bd (α:=Int) (if (d.rules[i].kind==6)=true then bd (d_r d.rules[i].names s) fun J=>some J else some 0) (fun L=>some<|.inl L)) (fun z=>some z)=some z/\∀q,z = .inr q->q = -1:=by
   by_cases h5:(d.rules[i].kind==5)=true
   ·rw [iP_ h5,j_R,bd2_some]
    cases (c_J s).2
    ·exact ⟨.inr (-1),rfl,fun q hq=>by cases hq;rfl⟩
    ·exact ⟨.inl _,rfl,fun q hq=>by cases hq⟩
   ·rw [iN_ h5]
    by_cases h6:(d.rules[i].kind==6)=true
    ·obtain ⟨f,hf'⟩:=p_p d.rules[i].names s
     rw [iP_ h6,hf',bd_some,bd_some,bd_some]
     exact ⟨.inl f,rfl,fun q hq=>by cases hq⟩
    ·rw [iN_ h6,bd_some,bd_some]
     exact ⟨.inl 0,rfl,fun q hq=>by cases hq⟩
  obtain ⟨z,hz,V⟩:=key;have O:∀{β:Type}(z:Option (Sum Int Int))(f:Sum Int Int->Option β),bd z f=bd (bd z<|fun y=>some y) f:=fun z f=>by cases z <;> rfl
  rw [O,show (bd _<|fun y=>some y)=_ from hz,bd_some]
  cases z with
  | inr q=>rw [el_inr,V q rfl]
  | inl x =>
   rw [el_inl]
   by_cases G:x<0
   ·rw [dT_ G,iP_ rfl,bd_some,iP_ rfl]
   rw [dF_ G,iN_ (by simp)]
   by_cases hxL:(v.items.length:Int)<=x
   ·rw [dT_ hxL,iP_ rfl,bd_some,iP_ rfl]
   rw [dF_ hxL,iN_ (by simp)]
   obtain ⟨m,rfl⟩:∃m:Nat,x=(m:Int):=⟨x.toNat,by omega⟩
   rw [m_M hv hd (by omega) hi m,bd_some]
   by_cases hst:(a_s d.rules[i] m).b=s.b
   ·rw [show ((a_s d.rules[i] m).b != s.b)=false by simpa using hst,iN_ (by simp),hno m (by omega) hst]
    rfl
   ·rw [show ((a_s d.rules[i] m).b != s.b)=true by simpa using hst,iP_ rfl,bd_some,iP_ rfl]
theorem m_3 (hv:a_5 d=true)(hd:SmD d){i:Nat}(hi:i<d.rules.length)(W:v.items.length<=40)(s:Str){n:Nat}(hn:1000<=n):e_t n d (i:Int) v s=some (a_S d.rules[i] v.items.length s):=by
 unfold e_t
 have V:c_S d (i:Int)=some true:=by
  rw [i_h d hd,hv,show a_Y d (i:Int)=true by
   unfold a_Y
   rw [dT_ (show (0:Int)<=(i:Int) by omega),dT_ (show (i:Int)<(d.rules.length:Int) by omega)];rfl];rfl
 have step:∀k,k<v.items.length->(fun G=>bd (α:=Bool) (if (decide<|G<(v.items.length:Int))=true then bd (c_S d (i:Int)) fun I=>some I else some false) (fun J=>if J=true then bd (idx d.rules (i:Int)) fun L=>bd (e_h n L G) fun H=>bd (α:=Bool) (if (H.b != (⟨[]⟩:Str).b)=true then some (H.b==s.b) else some false) (fun O=>if O=true then some (Out.ret G:Out Int Int) else some (.next<|i_ G 1)) else some (.brk G))) ((k:Nat):Int)=if (a_s d.rules[i] k).b=s.b/\s.b ≠ [] then some (Out.ret (k:Int)) else some (.next ((k+1:Nat):Int)):=fun k hk=>by
  simp only
  rw [dT_ (show (k:Int)<(v.items.length:Int) by omega),iP_ rfl,V,bd_some,bd_some,iP_ rfl,ix_ hi,bd_some,q_K (by omega) _ k (by omega),bd_some,ia_ (by omega) (by omega)]
  by_cases he:(a_s d.rules[i] k).b=[]
  ·rw [show ((a_s d.rules[i] k).b != ([]:List UInt8))=false by simpa using he,iN_ (by simp),bd_some,iN_ (by simp),iN_<|fun h=>h.2<|h.1.symm.trans he]
   rfl
  ·rw [show ((a_s d.rules[i] k).b != ([]:List UInt8))=true by simpa using he,iP_ rfl,bd_some]
   by_cases hs:(a_s d.rules[i] k).b=s.b
   ·rw [show ((a_s d.rules[i] k).b==s.b)=true by simpa using hs,iP_ rfl,iP_ ⟨hs,fun h=>he<|hs.trans h⟩]
   ·rw [show ((a_s d.rules[i] k).b==s.b)=false by simpa using hs,iN_ (by simp),iN_<|fun h=>hs h.1]
    rfl
 have stop:(fun G=>bd (α:=Bool) (if (decide<|G<(v.items.length:Int))=true then bd (c_S d (i:Int)) fun I=>some I else some false) (fun J=>if J=true then bd (idx d.rules (i:Int)) fun L=>bd (e_h n L G) fun H=>bd (α:=Bool) (if (H.b != (⟨[]⟩:Str).b)=true then some (H.b==s.b) else some false) (fun O=>if O=true then some (Out.ret G:Out Int Int) else some (.next<|i_ G 1)) else some (.brk G))) ((v.items.length:Nat):Int)=some (.brk (v.items.length:Int)):=by
  simp only
  rw [dF_ (show ¬(v.items.length:Int)<(v.items.length:Int) by omega),iN_ (by simp),bd_some,iN_ (by simp)]
 generalize hb:(fun G=>bd (α:=Bool) (if (decide<|G<(v.items.length:Int))=true then bd (c_S d (i:Int)) fun I=>some I else some false) (fun J=>if J=true then bd (idx d.rules (i:Int)) fun L=>bd (e_h n L G) fun H=>bd (α:=Bool) (if (H.b != (⟨[]⟩:Str).b)=true then some (H.b==s.b) else some false) (fun O=>if O=true then some (Out.ret G:Out Int Int) else some (.next<|i_ G 1)) else some (.brk G)))=body at step stop
 by_cases hf:0<=a_S d.rules[i] v.items.length s
 ·obtain ⟨m,e,hm,h1,h2,h3⟩:=j_H hf
  have run:∀c k f,k+c=m->c+1<=f->H_ body f (k:Int)=some (.inr (m:Int)):=by
   intro c
   induction c with
   | zero =>
    intro k f hk hf;obtain ⟨f',rfl⟩:∃f',f=f'+1:=⟨f - 1,by omega⟩;obtain rfl:k=m:=by omega
    unfold H_
    rw [step k hm,iP_ ⟨h1,h2⟩]
   | succ c ih =>
    intro k f hk hf;obtain ⟨f',rfl⟩:∃f',f=f'+1:=⟨f - 1,by omega⟩;unfold H_
    rw [step k (by omega),iN_<|fun h=>h3 k (by omega) h.1]
    exact ih (k+1) f' (by omega) (by omega)
  rw [show (0:Int)=((0:Nat):Int) from rfl,run m 0 n (by omega) (by omega),bd_some,el_inr,e]
 ·obtain ⟨e,hno⟩:=m_2 hf
  have run:∀c k f,k+c=v.items.length->c+1<=f->H_ body f (k:Int)=some (.inl (v.items.length:Int)):=by
   intro c
   induction c with
   | zero =>
    intro k f hk hf;obtain ⟨f',rfl⟩:∃f',f=f'+1:=⟨f - 1,by omega⟩;obtain rfl:k=v.items.length:=by omega
    unfold H_
    rw [stop]
   | succ c ih =>
    intro k f hk hf;obtain ⟨f',rfl⟩:∃f',f=f'+1:=⟨f - 1,by omega⟩;unfold H_
    rw [step k (by omega),iN_<|fun h=>h.2<|hno k (by omega) h.1]
    exact ih (k+1) f' (by omega) (by omega)
  rw [show (0:Int)=((0:Nat):Int) from rfl,run v.items.length 0 n (by omega) (by omega),bd_some,el_inl,e]
end
end Go.Vw
