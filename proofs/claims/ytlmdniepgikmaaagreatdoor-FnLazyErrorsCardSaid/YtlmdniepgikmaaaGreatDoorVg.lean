
import Derived.Test.YtlmdniepgikmaaaGreatDoorVe
namespace Go.Vw
open Go.RowKit Dat
section
variable {d:f_}{b b':Bt}{e:Nat}
theorem l_3 {r:d_}{s:Str}{rd:Int->Nat->RR}{B:Nat}:∀(ks:List Int)(j p:Nat),(∀k∈ks,∀p,p<=B->p<=(rd k p).2.1/\(rd k p).2.1<=B)->p<=B->∀i q,b_p r s rd ks j p=some (i,q)->p<=q
 | [],_,_,_,_,i,q,h=>by cases h
 | k::ks,j,p,hle,hp,i,q,h=>by
  have hk:=hle k mS_ p hp;unfold b_p at h
  split at h
  .cases h;exact Nat.le_refl _
  split at h
  .exact Nat.le_trans hk.1<|l_3 ks (j+1) _ (λk hk=>hle k<|mT_ _ hk) hk.2 i q h
  .cases h
theorem n_e {r:d_}{s:Str}{rd rd':Int->Nat->RR}{B:Nat}:∀(ks:List Int)(j p:Nat),(∀k∈ks,∀p,p<=B->p<=(rd k p).2.1/\(rd k p).2.1<=B)->(∀k∈ks,∀p,p<=B->(rd k p).2.2=0->(rd k p).2.1<=e->rd' k p=rd k p)->p<=B->∀i q,b_p r s rd ks j p=some (i,q)->q<=e->b_p r s rd' ks j p=some (i,q)
 | [],_,_,_,_,_,i,q,h,_=>by cases h
 | k::ks,j,p,hle,hr,hp,i,q,h,hq=>by
  have hk:=hle k mS_ p hp;unfold b_p at h ⊢
  by_cases hs:(a_c r j).b=s.b
  .rw [iP_ hs] at h ⊢;exact h
  .rw [iN_ hs] at h ⊢
   by_cases G:(rd k p).2.2=0
   .rw [iP_ G] at h
    have hm:=l_3 ks (j+1) _ (λk hk=>hle k<|mT_ _ hk) hk.2 i q h
    rw [hr k mS_ p hp G (by omega),iP_ G]
    exact n_e ks (j+1) _ (λk hk=>hle k<|mT_ _ hk) (λk hk=>hr k<|mT_ _ hk) hk.2 i q h hq
   .rw [iN_ G] at h;cases h
theorem r_E (hv:U_ d=true){i:Nat}(hi:i<d.rules.length){p:Nat}(hp:p<=b.length){s:Str}{k q:Nat}(h:a_X d.rules b d.rules[i] p s=some (k,q)):p<=q/\∀(b':Bt)(e:Nat),c_8 b b' e->q<=e->a_X d.rules b' d.rules[i] p s=some (k,q):=by
 have hr:=b_9 hv hi;unfold a_X at h ⊢
 by_cases hkk:5<=d.rules[i].kind/\d.rules[i].kind<=9
 .rw [iP_ hkk] at h
  simp only [iP_ hkk]
  cases hh:Q_ d.rules b d.rules[i] p with
  | inl c=>rw [hh] at h;cases h
  | inr y =>
   obtain ⟨num,ks,st⟩:=y
   rw [hh] at h
   simp only at h
   have hks:=e_n hr.kind hkk hp hh;have hpos:∀k∈ks,0<=k/\k<(i:Int):=λk hk=>hr.kids k<|hks.1 k hk
   have hmono:∀k∈ks,∀p,p<=b.length->p<=(rdK d.rules b k p).2.1/\(rdK d.rules b k p).2.1<=b.length:=λk hk p hp=>b_o hv k.toNat (by have:=hpos k hk;omega) p hp
   have hm:=l_3 ks 0 st hmono hks.2.2.1 k q h;refine ⟨by omega,λb' e hA hq=>?_⟩
   rw [n_b hA hr.kind hh (show st<=e by omega)]
   exact n_e (e:=e) ks 0 st hmono (λk hk p hp G he=>n_d hv hA k.toNat (by have:=hpos k hk;omega) p hp G he) hks.2.2.1 k q h hq
 .rw [iN_ hkk] at h;cases h
theorem n_f (hv:U_ d=true):∀(ss:List Str)(i p:Nat),i<d.rules.length->p<=b.length->∀k q,c_7 d b ss i p=some (k,q)->p<=q/\∀(b':Bt)(e:Nat),c_8 b b' e->q<=e->c_7 d b' ss i p=some (k,q)
 | [],i,p,hi,hp,k,q,h=>by
  cases h
  exact ⟨Nat.le_refl _,λb' e _ _=>rfl⟩
 | s::ss,i,p,hi,hp,k,q,h=>by
  unfold c_7 at h ⊢
  rw [k_U hi] at h ⊢
  cases hs:a_X d.rules b d.rules[i] p s with
  | none=>rw [hs] at h;cases h
  | some x =>
   obtain ⟨k',q'⟩:=x
   rw [hs] at h
   have h1:=k_S hv hi hp hs;have h2:=r_E hv hi hp hs;have h3:=n_f hv ss k' q' (by omega) h1.2 k q h;refine ⟨by omega,λb' e hA hq=>?_⟩
   rw [h2.2 b' e hA (by omega)]
   exact h3.2 b' e hA hq
theorem r_F {path:Str}{x:Nat×Nat}(hf:b_v d b path=some x)(hA:c_8 b b' x.2):b_v d b' path=if b'.length<=400/\(rdW d.rules b' x.1 x.2).2.2=0 then some x else none:=by
 unfold b_v at hf ⊢
 split at hf
 .rename_i hc
  have hl:=b_F hc.2.1
  cases hs:c_7 d b (c_s path).1 (d.rules.length - 1) 0 with
  | none=>rw [hs] at hf;cases hf
  | some y =>
   rw [hs] at hf
   simp only at hf
   split at hf
   .cases hf
    have:=(n_f hc.2.1 _ _ _ (by omega) (by omega) x.1 x.2 hs).2 b' x.2 hA (Nat.le_refl _)
    by_cases hb:b'.length<=400
    .rw [iP_ ⟨hc.1,hc.2.1,hb⟩,this]
     simp only [hb,true_and]
    .rw [iN_ (λh=>hb h.2.2),iN_<|λh=>hb h.1]
   .cases hf
 .cases hf
end
end Go.Vw
