
import Derived.Test.YtbihpjgldkojoaaGreatDoorVwP17
import Derived.Test.YtbihpjgldkojoaaGreatDoorVwP19
namespace Go.Vw
open Go.RowKit Dat
def b_B (r:d_)(s:Str)(rd:Int->Nat->RR):List Int->Nat->Nat->Option (Nat×Nat)
 | [],_,_=>none
 | k::ks,j,p=>if (a_4 r j).b=s.b then some (k.toNat,p) else if (rd k p).2.2=0 then b_B r s rd ks (j+1) (rd k p).2.1 else none
def rdK (rs:List d_)(b:Bt)(k:Int)(p:Nat):RR:=rdW rs b k.toNat p
def b_m (rs:List d_)(b:Bt)(r:d_)(at_:Nat)(s:Str):Option (Nat×Nat) :=
 if 5<=r.kind/\r.kind<=9 then (match Q_ rs b r at_ with | .inl _=>none | .inr x=>b_B r s (rdK rs b) x.2.1 0 x.2.2) else none
theorem g_D {r:d_}{s:Str}{rd:Int->Nat->RR}:∀(ks:List Int)(j p:Nat),(∀t,j<=t->t<j+ks.length->(a_4 r t).b ≠ s.b)->b_B r s rd ks j p=none
 | [],_,_,_=>rfl
 | k::ks,j,p,h=>by
  unfold b_B
  rw [iN_ (h j (Nat.le_refl _) (by simp)),g_D ks (j+1) _<|λt h1 h2=>h t (by omega) (by simp;omega)]
  split <;> rfl
theorem l_Y {r:d_}{s:Str}{rd:Int->Nat->RR}{B:Nat}:∀(ks:List Int)(j p:Nat),(∀k∈ks,∀p,p<=B->(rd k p).2.1<=B)->p<=B->∀i q,b_B r s rd ks j p=some (i,q)->q<=B/\∃k∈ks,i=k.toNat
 | [],_,_,_,_,i,q,h=>by cases h
 | k::ks,j,p,hle,hp,i,q,h=>by
  unfold b_B at h
  split at h
  .cases h;exact ⟨hp,k,by simp,rfl⟩
  split at h
  .obtain ⟨h1,k',h2,h3⟩:=l_Y ks (j+1) _ (λk hk=>hle k<|mT_ _ hk) (hle k mS_ p hp) i q h;exact ⟨h1,k',mT_ _ h2,h3⟩
  .cases h
theorem l_Z {ρ:Type}{r:d_}{s:Str}{rd:Int->Nat->RR}{body:Nat->Int->Option (Out Int ρ)}{g:Int->Option ρ}(fnd:Nat->Nat->ρ)(bad:ρ->Prop)(L:List Int)(B:Nat)(hle:∀k∈L,∀p,p<=B->(rd k p).2.1<=B)
  (hg:∀p,∃y,g p=some y/\bad y)
  (hb:∀j (hj:j<L.length) (p:Nat),p<=B->((a_4 r j).b=s.b->body j (p:Int)=some (.ret<|fnd L[j].toNat p))/\((a_4 r j).b ≠ s.b->(rd L[j] p).2.2=0->body j (p:Int)=some (.next ((rd L[j] p).2.1:Int)))/\((a_4 r j).b ≠ s.b->(rd L[j] p).2.2 ≠ 0->∃y,body j (p:Int)=some (.ret y)/\bad y)) :
  ∀(m j p:Nat),j+m=L.length->p<=B->∃y,bd (G_ body m j (p:Int)) (el g some)=some y/\(match b_B r s rd (L.drop j) j p with | some (k,q)=>y=fnd k q | none=>bad y)
 | 0,j,p,hj,hp=>by
  rw [List.drop_eq_nil_of_le (by omega)]
  exact hg p
 | m+1,j,p,hj,hp=>by
  have hlt:j<L.length:=by omega
  obtain ⟨h1,h2,h3⟩:=hb j hlt p hp
  rw [dC_ hlt]
  unfold b_B G_
  by_cases hs:(a_4 r j).b=s.b
  .rw [h1 hs,iP_ hs];exact ⟨_,rfl,rfl⟩
  .rw [iN_ hs]
   by_cases hc:(rd L[j] p).2.2=0
   .rw [h2 hs hc,iP_ hc]
    exact l_Z fnd bad L B hle hg hb m (j+1) _ (by omega)<|hle _ (gE_ hlt) p hp
   .obtain ⟨y,h4,h5⟩:=h3 hs hc
    rw [h4,iN_ hc];exact ⟨y,rfl,h5⟩
section
variable {d:g_}{b:Bt}
theorem p_M (hv:a_2 d=true){i:Nat}(hi:i<d.rules.length){at_:Nat}(ha:at_<=b.length){s:Str}{k q:Nat}(h:b_m d.rules b d.rules[i] at_ s=some (k,q)):k<i/\q<=b.length:=by
 have hr:=b_V hv hi;unfold b_m at h
 split at h
 .rename_i hkk
  cases hh:Q_ d.rules b d.rules[i] at_ with
  | inl c=>rw [hh] at h;cases h
  | inr y =>
   obtain ⟨num,ks,st⟩:=y
   rw [hh] at h
   simp only at h
   have hks:=e_A hr.kind hkk ha hh;have hpos:∀k∈ks,0<=k/\k<(i:Int):=λk hk=>hr.kids k<|hks.1 k hk
   obtain ⟨h1,k',h2,rfl⟩:=l_Y ks 0 st (λk hk p hp=>(b_D hv k.toNat (by have:=hpos k hk;omega) p hp).2) hks.2.2.1 k q h;have:=hpos k' h2;exact ⟨by omega,h1⟩
 .cases h
end
end Go.Vw
