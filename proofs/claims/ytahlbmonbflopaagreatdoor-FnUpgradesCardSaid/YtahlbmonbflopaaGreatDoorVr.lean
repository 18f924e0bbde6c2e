
import Derived.Test.YtahlbmonbflopaaGreatDoorVq
namespace Go.Vw
open Go.RowKit Dat
theorem e_U (v:Val):Val.mk v.number v.bytes v.items=v:=by cases v;rfl
theorem gather' {ρ β:Type}{body:Nat->List Val->Option (Out (List Val) ρ)}{n:Nat}{f:List Val->Option β}{g:ρ->Option β}{P:Option β->Prop}(W:Nat->Val×Bool)(r:Nat->ρ)(h:∀k,k<n->body k (a_Q W k)=some (if (W k).2 then .next (a_Q W<|k+1) else .ret (r k)))
  (h1:(∀j,j<n->(W j).2=true)->P (f<|a_Q W n)) (h2:∀k,k<n->(W k).2=false->P (g<|r k)):P (bd (y_ body n 0 [])<|el f g):=by
 rcases gather W r h with ⟨e,ha⟩ | ⟨k,hk,hf,e⟩
 .rw [e,bd_some,el_inl];exact h1 ha
 .rw [e,bd_some,el_inr];exact h2 k hk hf
theorem h_a (k:Int){n:Nat}(hn:n<=100000):e_k k (n:Int)=some (List.replicate n k):=by
 have hLIM:=a_7;unfold e_k
 have h:=e_X (ρ:=List Int) (s:=([]:List Int)) (n:=n) (body:=λI=>(λH=>bd (psh H k) λG=>some (.next G))) (λj=>List.replicate j k) rfl (λj hj=>by
  rw [Y_ (by rw [List.length_replicate];omega),bd_some,List.replicate_succ'])
 rw [tN_,h,bd_some,el_inl]
theorem j_z {W:Nat->Val×Bool}{k:Nat}(hk:k<100000):psh (a_Q W k) (W k).1=some (a_Q W<|k+1):=by
 rw [Y_ (by rw [j_x];have:=a_7;omega),p_Y]
theorem list_spec' {a b:c_}{rec:e_l}{q:Nat}{ka kb:Int}{l:List Val}{W:Nat->Val×Bool}(hl:l.length<=1000)(h:∀j (hj:j<l.length),rec.spec_l30Migrate a ka b kb l[j]=some (W j)) :
  ((∀j,j<l.length->(W j).2=true)/\g_H q rec a (List.replicate l.length ka) b (List.replicate l.length kb) l=some (a_Q W l.length,true))∨((∃j,j<l.length/\(W j).2=false)/\∃r,g_H q rec a (List.replicate l.length ka) b (List.replicate l.length kb) l=some (r,false)):=by
 unfold g_H;refine gather' (P:=λo=>((∀j,j<l.length->(W j).2=true)/\o=some (a_Q W l.length,true))∨((∃j,j<l.length/\(W j).2=false)/\∃r,o=some (r,false))) W (λk=>(a_Q W k,false)) (λk hk=>?_) (λha=>.inl ⟨ha,rfl⟩)<|λk hk hf=>.inr ⟨⟨k,hk,hf⟩,_,rfl⟩
 rw [ix_ (by rw [List.length_replicate];exact hk),bd_some,ix_ (by rw [List.length_replicate];exact hk),bd_some,ix_ hk,bd_some,List.getElem_replicate,List.getElem_replicate,h k hk]
 cases hw:(W k).2
 .rw [show W k=((W k).1,false) by rw [← hw],bd2_some,bd_some];rfl
 .rw [show W k=((W k).1,true) by rw [← hw],bd2_some,bd_some]
  simp only [un4,nT_,bF_,fF_,e_U,fT_]
  rw [j_z (by omega),bd_some]
theorem m_K {m:b_D}{rec:f_u}{q:Nat}{ka kb:Int}{v:Val}{W:Nat->Val×Bool}(hl:v.items.length<=1000)(h:∀j (hj:j<v.items.length),rec.impl_migrator_value m ka kb v.items[j]=some (W j)) :
  ((∀j,j<v.items.length->(W j).2=true)/\g_D q rec m ka kb v=some ((⟨0,[],a_Q W v.items.length⟩:Val),true))∨((∃j,j<v.items.length/\(W j).2=false)/\g_D q rec m ka kb v=some ((⟨0,[],[]⟩:Val),false)):=by
 unfold g_D;refine gather' (P:=λo=>((∀j,j<v.items.length->(W j).2=true)/\o=some ((⟨0,[],a_Q W v.items.length⟩:Val),true))∨((∃j,j<v.items.length/\(W j).2=false)/\o=some ((⟨0,[],[]⟩:Val),false))) W (λ_=>((⟨0,[],[]⟩:Val),false)) (λk hk=>?_) (λha=>.inl ⟨ha,rfl⟩)<|λk hk hf=>.inr ⟨⟨k,hk,hf⟩,rfl⟩
 rw [ix_ hk,bd_some,h k hk]
 cases hw:(W k).2
 .rw [show W k=((W k).1,false) by rw [← hw],bd2_some];rfl
 .rw [show W k=((W k).1,true) by rw [← hw],bd2_some]
  simp only [nT_,bF_,fF_,fT_]
  rw [j_z (by omega),bd_some]
theorem q_4 {rs:List b_}{r:b_}(h:a_2 rs r=true)(hk:r.kind=6){i j:Nat}(hi:i<r.names.length)(hj:j<r.names.length)(he:r.names[i]=r.names[j]):i=j:=by
 have lt:∀i j (hi:i<r.names.length) (hj:j<r.names.length),i<j->r.names[i] ≠ r.names[j]:=λi j hi hj hij he=>by
  refine m_E h hk hj ?_
  rw [← he]
  exact List.mem_iff_getElem.2 ⟨i,by rw [List.length_take];omega,by simp⟩
 rcases Nat.lt_trichotomy i j with h1 | h1 | h1
 .exact absurd he<|lt i j hi hj h1
 .exact h1
 .exact absurd he.symm<|lt j i hj hi h1
theorem str_b {s t:Str}:s.b=t.b ↔ s=t:=⟨λh=>by cases s;cases t;cases h;rfl,λh=>by rw [h]⟩
theorem q_5 (l:List Str)(s:Str):(∃k,∃hk:k<l.length,l[k]=s/\g_C l s=some (k:Int))∨((∀k (hk:k<l.length),l[k] ≠ s)/\g_C l s=some (-1)):=by
 unfold g_C
 rcases c_u (ρ:=Int) (σ:=Unit) (n:=l.length) (body:=λG=>(λ(_:Unit)=>bd (idx l ((G:Nat):Int)) λH=>bd (h_I H s) λI=>if I then some (.ret ((G:Nat):Int)) else some (.next ())))
  (λk _=>∀i (h:i<l.length),i<k->l[i] ≠ s) (λr=>∃k,∃hk:k<l.length,l[k]=s/\r=(k:Int)) (λk _ hk hi=>by
   rw [ix_ hk,bd_some]
   unfold h_I
   rw [bd_some]
   by_cases h:l[k]=s
   .right
    rw [iP_ (by rw [h];simp)]
    exact ⟨_,rfl,k,hk,h,rfl⟩
   .left
    rw [iN_ (by simpa [str_b] using h)]
    refine ⟨(),rfl,λi h1 h2=>?_⟩
    by_cases hik:i=k
    .subst hik;exact h
    .exact hi i h1 (by omega)) l.length 0 () (by omega) (λi _ hi=>by omega) with ⟨_,e,hs⟩ | ⟨r,e,k,hk,hs,rfl⟩
 .right
  rw [e,bd_some,el_inl]
  exact ⟨λk hk=>hs k hk hk,rfl⟩
 .left
  rw [e,bd_some,el_inr]
  exact ⟨k,hk,hs,rfl⟩
end Go.Vw
