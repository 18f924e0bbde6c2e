
import Derived.Test.YtahlbmonbflopaaGreatDoorVp
namespace Go.Vw
open Go.RowKit Dat
theorem m_J {m B:Nat}:∀{l:List Val},(∀x∈l,vsz m x<=B)->lsz m l<=l.length * (1+B)
 | [],_=>by unfold lsz;simp
 | v::l,h=>by
  have:=m_J (l:=l) λx hx=>h x<|mT_ _ hx
  have h1:=h v mS_
  rw [e_W,lC_,Nat.add_mul,Nat.one_mul];omega
theorem k_I {f:Int->Option Val}{l:List Int}(V:Nat->Val)(hl:l.length<=1000)(h:∀k (hk:k<l.length),f l[k]=some (V k)){ρ:Type}:y_ (σ:=List Val) (ρ:=ρ) (λk x=>bd (idx l ((k:Nat):Int)) λy=>bd (f y) λr=>bd (psh x r) λz=>some<|.next z) l.length 0 []=some (.inl<|(List.range l.length).map V):=by
 have hLIM:=a_7;refine e_X (λk=>(List.range k).map V) rfl λk hk=>?_
 rw [ix_ hk,bd_some,h k hk,bd_some,Y_ (by rw [List.length_map,List.length_range];omega),bd_some,List.range_succ,List.map_append]
 rfl
theorem g_e {m:Nat}(x:Int)(bs:Bt):vsz m ⟨x,bs,[]⟩=bs.length:=by cases m <;> rfl
theorem h_9 {m B:Nat}{x:Int}{l:List Val}(h:∀m,lsz m l<=B):vsz m ⟨x,[],l⟩<=B:=by
 cases m with
 | zero=>exact Nat.zero_le _
 | succ m =>
  show ([]:Bt).length+lsz m l<=B
  rw [List.length_nil,Nat.zero_add];exact h m
theorem q_3 {d:c_}(hv:R_ d=true){S g:Nat->Nat}(hw:WG d S g):∀j,j<d.rules.length->∃v,(∀n,j+2<=n->i_r n d (j:Int)=some v)/\(∀n,j+2<=n->e_i n d (j:Int)=some v)/\∀m,vsz m v<=S j:=by
 intro j
 induction j using Nat.strongRecOn with
 | _ j ih =>
  intro hj;have hr:=a_S hv hj;have hseq:=hw.seq j hj;have hone:=hw.one j hj;have hfix:=hw.fix j hj;have hi:=ix_ hj
  have hkd:∀t (ht:t<(d.rules[j]).kids.length),∃v,(∀n,j+1<=n->i_r n d (d.rules[j]).kids[t]=some v)/\(∀n,j+1<=n->e_i n d (d.rules[j]).kids[t]=some v)/\∀m,vsz m v<=S (j - 1):=λt ht=>by
   have hk:=hr.kids _<|gE_ ht;obtain ⟨v,I,J,L⟩:=ih ((d.rules[j]).kids[t]).toNat (by omega) (by omega)
   rw [show ((((d.rules[j]).kids[t]).toNat:Nat):Int)=(d.rules[j]).kids[t] by omega] at I J
   exact ⟨v,λn hn=>I n (by omega),λn hn=>J n (by omega),λm=>Nat.le_trans (L m)<|hw.sm _ _ (by omega)⟩
  have hkind:=hr.kind;generalize d.rules[j]=r at *
  obtain ⟨V,hV⟩:=h_j (β:=Val) (P:=λt v=>∀ht:t<r.kids.length,(∀n,j+1<=n->i_r n d r.kids[t]=some v)/\(∀n,j+1<=n->e_i n d r.kids[t]=some v)/\∀m,vsz m v<=S (j - 1)) r.kids.length<|λt ht=>(hkd t ht).imp λv h _=>h
  have body:∀v,(∀q,j+1<=q->e_5 q (e_6 q) d (j:Int)=some v)->(∀q,j+1<=q->d_L q (d_M q) d (j:Int)=some v)->(∀m,vsz m v<=S j)->∃v,(∀n,j+2<=n->i_r n d (j:Int)=some v)/\(∀n,j+2<=n->e_i n d (j:Int)=some v)/\∀m,vsz m v<=S j:=λv h1 h2 h3=>by
   refine ⟨v,λn hn=>?_,λn hn=>?_,h3⟩
   .obtain ⟨q,rfl⟩:∃q,n=q+1:=⟨n - 1,by omega⟩;exact h1 q (by omega)
   .obtain ⟨q,rfl⟩:∃q,n=q+1:=⟨n - 1,by omega⟩;exact h2 q (by omega)
  by_cases h3:r.kind=3
  .have hz:=d_s hkind h3;refine body ⟨0,List.replicate r.size.toNat 0,[]⟩ (λq hq=>?_) (λq hq=>?_) λm=>?_
   .unfold e_5
    rw [hi,bd_some,iP_ (by simpa using h3),j_W (by omega) (by have:=a_7;omega),bd_some]
   .unfold d_L
    rw [hi,bd_some,iP_ (by simpa using h3),j_W (by omega) (by have:=a_7;omega),bd_some]
   .rw [g_e,List.length_replicate];exact (hfix h3).1
  by_cases h6:r.kind=6
  .have hz:=d_t hkind h6;refine body ⟨0,[],(List.range r.kids.length).map V⟩ (λq hq=>?_) (λq hq=>?_) λm=>?_
   .unfold e_5
    rw [hi,bd_some,iN_ (by simpa using h3),iN_ (by simp [h6]),iP_ (by simpa using h6),bd_some,iP_ (by simpa using h6)]
    rw [k_I (f:=(e_6 q).spec_l9Default d) V (by omega) (λk hk=>(hV k hk hk).1 q hq),bd_some,el_inl]
   .unfold d_L
    rw [hi,bd_some,iN_ (by simpa using h3),iP_ (by simpa using h6)]
    rw [k_I (f:=(d_M q).impl_defaultValue d) V (by omega) (λk hk=>(hV k hk hk).2.1 q hq),bd_some,el_inl]
   .refine h_9 λm=>?_
    have:=m_J (m:=m) (B:=S<|j - 1) (l:=(List.range r.kids.length).map V) λx hx=>by
     obtain ⟨t,ht,rfl⟩:=List.mem_map.1 hx;have ht:=List.mem_range.1 ht;exact (hV t ht ht).2.2 m
    rw [List.length_map,List.length_range] at this
    exact Nat.le_trans this (hseq h6).1
  by_cases G:r.kind=7
  .have hz:=c_6 hkind G;have h1:1<r.kids.length:=by omega
   refine body ⟨r.tags[0]'(by omega),[],[V 1]⟩ (λq hq=>?_) (λq hq=>?_) λm=>?_
   .unfold e_5
    rw [hi,bd_some,iN_ (by simpa using h3),iP_ (by simpa using G),a_h (by omega),bd_some,e_4 h1,bd_some]
    rw [show (e_6 q).spec_l9Default d r.kids[1]=some (V 1) from (hV 1 h1 h1).1 q hq,bd_some]
   .unfold d_L
    rw [hi,bd_some,iN_ (by simpa using h3),iN_ (by simpa using h6),iP_ (by simpa using G),a_h (by omega),bd_some,e_4 h1,bd_some]
    rw [show (d_M q).impl_defaultValue d r.kids[1]=some (V 1) from (hV 1 h1 h1).2.1 q hq,bd_some]
   .refine h_9 λm=>?_
    have:=(hV 1 h1 h1).2.2 m;have h2:=hone<|.inl G
    rw [e_W,show lsz m []=0 from rfl];omega
  by_cases H:r.kind=9
  .have hz:=b_F hkind<|.inr H;have h1:0<r.kids.length:=by omega
   refine body ⟨0,[],[V 0]⟩ (λq hq=>?_) (λq hq=>?_) λm=>?_
   .unfold e_5
    rw [hi,bd_some,iN_ (by simpa using h3),iN_ (by simpa using G),iN_ (by simpa using h6),bd_some,iP_ (by simpa using H)]
    rw [k_I (f:=(e_6 q).spec_l9Default d) V (by omega) (λk hk=>(hV k hk hk).1 q hq),bd_some,el_inl,hz]
    rfl
   .unfold d_L
    rw [hi,bd_some,iN_ (by simpa using h3),iN_ (by simpa using h6),iN_ (by simpa using G),iP_ (by simpa using H),a_h h1,bd_some]
    rw [show (d_M q).impl_defaultValue d r.kids[0]=some (V 0) from (hV 0 h1 h1).2.1 q hq,bd_some]
   .refine h_9 λm=>?_
    have:=(hV 0 h1 h1).2.2 m;have h2:=hone<|.inr H
    rw [e_W,show lsz m []=0 from rfl];omega
  .refine body ⟨0,[],[]⟩ (λq hq=>?_) (λq hq=>?_) λm=>?_
   .unfold e_5
    rw [hi,bd_some,iN_ (by simpa using h3),iN_ (by simpa using G),iN_ (by simpa using h6),bd_some,iN_ (by simpa using H)]
   .unfold d_L
    rw [hi,bd_some,iN_ (by simpa using h3),iN_ (by simpa using h6),iN_ (by simpa using G),iN_ (by simpa using H)]
   .rw [g_e];exact Nat.zero_le _
end Go.Vw
