
import Derived.Test.YtbihpjgldkojoaaGreatDoorVwP25
namespace Go.Vw
open Go.RowKit Dat
def en2 (rd:Int->Nat->RR)(k:Int)(p:Nat):Nat:=(rd k p).2.1
theorem i_U {rd:Int->Nat->RR}{k:Int}{ks:List Int}{p:Nat}(h:(rd k p).2.2=0):(F_ rd (k::ks) p).2=(F_ rd ks (rd k p).2.1).2:=by
 rw [F_,iP_ h]
 split
 .rename_i h2
  exact Prod.ext rfl h2.symm
 .rfl
theorem m_q {rd:Int->Nat->RR}:∀(ks:List Int)(p:Nat),(F_ rd ks p).2.2=5->∃m,∃hm:m<ks.length,(∀t (ht:t<m),(rd (ks[t]'(by omega))<|a_D (en2 rd) ks p t).2.2=0)/\(rd ks[m] (a_D (en2 rd) ks p m)).2=(F_ rd ks p).2
 | [],p,h=>by simp [F_] at h
 | k::ks,p,h=>by
  by_cases G:(rd k p).2.2=0
  .have e:=i_U (ks:=ks) G
   rw [e] at h
   obtain ⟨m,hm,h1,h2⟩:=m_q ks _ h;refine ⟨m+1,by simp;omega,λt ht=>?_,?_⟩
   .cases t with
    | zero=>exact G
    | succ t=>rw [e_x];exact h1 t (by omega)
   .rw [e_x,e];exact h2
  .refine ⟨0,by simp,λt ht=>by omega,?_⟩
   rw [F_,iN_ G];rfl
theorem m_r {rd rd':Int->Nat->RR}:∀(m:Nat)(ks:List Int)(p:Nat)(hm:m<ks.length),(∀t (ht:t<m),(rd (ks[t]'(by omega))<|a_D (en2 rd) ks p t).2.2=0/\rd' (ks[t]'(by omega)) (a_D (en2 rd) ks p t)=rd (ks[t]'(by omega)) (a_D (en2 rd) ks p t))->(F_ rd' ks p).2=(F_ rd' (ks[m]::ks.drop (m+1))<|a_D (en2 rd) ks p m).2
 | 0,k::ks,p,hm,h=>rfl
 | m+1,k::ks,p,hm,h=>by
  obtain ⟨h1,h2⟩:=h 0 (by omega);have h1':(rd k p).2.2=0:=h1;have h2':rd' k p=rd k p:=h2
  rw [i_U (by rw [h2'];exact h1'),h2',e_x]
  exact m_r m ks _ (by simpa using hm) (λt ht=>by
   have:=h (t+1) (by omega)
   rw [e_x] at this;exact this)
theorem m_s {r:d_}{s:Str}{rd:Int->Nat->RR}:∀(m:Nat)(ks:List Int)(j p:Nat)(hm:m<ks.length),(∀t (ht:t<m),(rd (ks[t]'(by omega))<|a_D (en2 rd) ks p t).2.2=0)->(∀t,t<m->(a_4 r<|j+t).b ≠ s.b)->(a_4 r<|j+m).b=s.b->b_B r s rd ks j p=some (ks[m].toNat,a_D (en2 rd) ks p m)
 | 0,k::ks,j,p,hm,h1,h2,h3=>by
  unfold b_B
  rw [iP_ (show (a_4 r j).b=s.b from h3)];rfl
 | m+1,k::ks,j,p,hm,h1,h2,h3=>by
  have G:(rd k p).2.2=0:=h1 0 (by omega);unfold b_B
  rw [iN_ (show ¬(a_4 r j).b=s.b from h2 0 (by omega)),iP_ G,e_x]
  exact m_s m ks (j+1) _ (by simpa using hm) (λt ht=>by
   have:=h1 (t+1) (by omega)
   rw [e_x] at this;exact this) (λt ht=>by
   have:=h2 (t+1) (by omega)
   rw [show j+1+t=j+(t+1) by omega];exact this) (by rw [show j+1+m=j+(m+1) by omega];exact h3)
theorem f_t {rd:Int->Nat->RR}{L:Nat}{ks:List Int}(hle:∀k∈ks,∀p,p<=L->p<=(rd k p).2.1/\(rd k p).2.1<=L){p:Nat}(hp:p<=L):∀t,t<=ks.length->p<=a_D (en2 rd) ks p t/\a_D (en2 rd) ks p t<=L
 | 0,_=>⟨Nat.le_refl _,hp⟩
 | t+1,ht=>by
  obtain ⟨h1,h2⟩:=f_t hle hp t (by omega);have htk:t<ks.length:=by omega
  rw [i_E _ ks p t htk]
  have:=hle _ (gE_ htk) _ h2;exact ⟨Nat.le_trans h1 this.1,this.2⟩
theorem m_t {rd:Int->Nat->RR}{L:Nat}{ks:List Int}(hle:∀k∈ks,∀p,p<=L->p<=(rd k p).2.1/\(rd k p).2.1<=L){p:Nat}(hp:p<=L){t:Nat}:∀m,t<=m->m<=ks.length->a_D (en2 rd) ks p t<=a_D (en2 rd) ks p m
 | 0,h,_=>by rw [show t=0 by omega];exact Nat.le_refl _
 | m+1,h,hm=>by
  by_cases he:t=m+1
  .rw [he];exact Nat.le_refl _
  .have h1:=m_t (t:=t) hle hp m (by omega) (by omega);have h2:=(f_t hle hp m (by omega)).2;have hmk:m<ks.length:=by omega
   rw [i_E _ ks p m hmk]
   exact Nat.le_trans h1 (hle _ (gE_ hmk) _ h2).1
theorem q_m {rs:List d_}{b:Bt}{r:d_}{p:Nat}{c:Int}(h:Q_ rs b r p = .inl c):c ≠ 5:=by
 unfold Q_ at h
 split at h
 .split at h
  .cases h;decide
  .split at h <;> cases h;decide
 split at h
 .cases h
 split at h
 .split at h
  .cases h;decide
  .split at h <;> cases h;decide
 split at h
 .split at h
  .cases h;decide
  .split at h <;> cases h;decide
 .cases h
theorem q_n {b:Bt}{bs:Bt}{p:Nat}:(b_0 b bs p).2 ≠ 5:=by
 unfold b_0
 split
 .simp
 .split <;> simp
theorem m_u {b:Bt}{p:Nat}{n:Int}:(a_C b p n).2.2 ≠ 5:=by
 unfold a_C
 split <;> simp
theorem rdB5 {rs:List d_}{b:Bt}{r:d_}{p:Nat}{rd:Int->Nat->RR}(hk:a_y rs r=true)(h:(rdB rs b r p rd).2.2=5):(5<=r.kind/\r.kind<=9)/\∃num ks st,Q_ rs b r p = .inr (num,ks,st)/\(a_k b r num p<|F_ rd ks st).2.2=5:=by
 have hal:=e_1 hk;unfold rdB at h
 by_cases h1:r.kind=1
 .rw [h1] at h
  simp only [bQ_,fT_] at h
  cases hq:Y_ b r p with
  | none=>rw [hq] at h;cases h
  | some n=>rw [hq] at h;cases h
 rw [show (r.kind==1)=false by simpa using h1] at h
 by_cases h2:r.kind=2
 .rw [h2] at h;exact absurd h q_n
 rw [show (r.kind==2)=false by simpa using h2] at h
 by_cases h3:r.kind=3
 .rw [h3] at h;exact absurd h m_u
 rw [show (r.kind==3)=false by simpa using h3] at h
 by_cases h4:r.kind=4
 .rw [h4] at h
  simp only [bF_,fF_,bQ_,fT_] at h
  split at h
  .cases h
  .exact absurd h m_u
 rw [show (r.kind==4)=false by simpa using h4] at h
 by_cases G:r.kind=10
 .rw [G] at h
  simp only [bF_,fF_,bQ_,fT_] at h
  split at h <;> cases h
 rw [show (r.kind==10)=false by simpa using G] at h
 simp only [bF_,fF_] at h
 refine ⟨by omega,?_⟩
 cases hh:Q_ rs b r p with
 | inl c=>rw [hh] at h;exact absurd h<|q_m hh
 | inr x =>
  obtain ⟨num,ks,st⟩:=x
  rw [hh] at h
  exact ⟨num,ks,st,rfl,h⟩
theorem m_v {rs:List d_}{b:Bt}{r:d_}{p:Nat}{rd:Int->Nat->RR}(hk:5<=r.kind/\r.kind<=9){num:Int}{ks:List Int}{st:Nat}(h:Q_ rs b r p = .inr (num,ks,st)):rdB rs b r p rd=a_k b r num p (F_ rd ks st):=by
 unfold rdB
 rw [show (r.kind==1)=false by simp;omega,show (r.kind==2)=false by simp;omega,show (r.kind==3)=false by simp;omega,show (r.kind==4)=false by simp;omega,show (r.kind==10)=false by simp;omega,h]
 rfl
theorem fin5 {b:Bt}{r:d_}{num:Int}{p:Nat}{x:List Val×Nat×Int}(h:(a_k b r num p x).2.2=5):(x.2.2=5/\(a_k b r num p x).2=x.2)∨(r.kind=9/\x.2.2=0/\(∃c,b[x.2.1]? = some c/\byteI c ≠ a_J (piece b p x.2.1))/\(a_k b r num p x).2=(x.2.1,5)):=by
 unfold a_k at h ⊢
 by_cases G:x.2.2=0
 .rw [iP_ G] at h ⊢
  by_cases H:r.kind=9
  .rw [H] at h ⊢
   simp only [bQ_,fT_] at h ⊢
   cases hc:b[x.2.1]? with
   | none=>rw [hc] at h;cases h
   | some c =>
    rw [hc] at h
    simp only at h ⊢
    by_cases hs:byteI c=a_J (piece b p x.2.1)
    .rw [iP_ hs] at h;cases h
    .rw [iN_ hs]
     exact .inr ⟨trivial,G,⟨c,rfl,hs⟩,rfl⟩
  .rw [show (r.kind==9)=false by simpa using H] at h;cases h
 .rw [iN_ G] at h ⊢
  exact .inl ⟨h,rfl⟩
theorem m_w {b:Bt}{r:d_}{num:Int}{p:Nat}{x:List Val×Nat×Int}:x.2.1<=(a_k b r num p x).2.1:=by
 unfold a_k
 split
 .split
  .split
   .exact Nat.le_refl _
   .split
    .exact Nat.le_succ _
    .exact Nat.le_refl _
  .exact Nat.le_refl _
 .exact Nat.le_refl _
theorem q_o {b:Bt}{r:d_}{num:Int}{p:Nat}{x:List Val×Nat×Int}(h:x.2.2 ≠ 0):(a_k b r num p x).2=x.2:=by
 unfold a_k
 rw [iN_ h]
end Go.Vw
