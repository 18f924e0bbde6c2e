
import Derived.Test.YtahlbmonbflopaaGreatDoorVs
namespace Go.Vw
open Go.RowKit Dat
open Classical in
theorem m_L {b:c_}(hv:R_ b=true)(hd:SmD b){rb:Nat}(hr:rb<b.rules.length){ok:Bool}{p o:Val}(hp:ok=true->p=o){n:Nat}(hn:rb+2<=n) :
  bd (α:=Bool) (if (!ok) then some true else bd (h_k n b (rb:Int) p) λr=>some (!r)) (λx=>if x then some ((⟨0,[],[]⟩:Val),false) else some (p,true))=some (if ok=true/\VP b.rules (rb+1) rb o then (o,true) else ((⟨0,[],[]⟩:Val),false)):=by
 cases ok with
 | false=>rfl
 | true =>
  obtain rfl:=hp rfl;obtain ⟨t,e,_,ht⟩:=l_1 hv hd rb hr p n hn
  rw [e]
  cases t with
  | false =>
   have hn:¬(true=true/\VP b.rules (rb+1) rb p):=λh=>by simpa using ht.2 h.2
   rw [iN_ hn];rfl
  | true =>
   have hn:true=true/\VP b.rules (rb+1) rb p:=⟨rfl,ht.1 rfl⟩
   rw [iP_ hn];rfl
open Classical in
theorem q_9 {b:c_}(hv:R_ b=true)(hd:SmD b){rb:Nat}(hr:rb<b.rules.length){ok:Bool}{p o:Val}(hp:ok=true->p=o){n:Nat}(hn:rb+2<=n) :
  bd (α:=Bool) (if (!ok) then some true else bd (h_A n (⟨b.rules⟩:c_) (rb:Int) p) λr=>some (!r)) (λx=>if x then some ((⟨0,[],[]⟩:Val),false) else some (p,true))=some (if ok=true/\VP b.rules (rb+1) rb o then (o,true) else ((⟨0,[],[]⟩:Val),false)):=by
 cases ok with
 | false=>rfl
 | true =>
  obtain rfl:=hp rfl;obtain ⟨t,_,e,ht⟩:=l_1 hv hd rb hr p n hn
  rw [show (⟨b.rules⟩:c_)=b from rfl,e]
  cases t with
  | false =>
   have hn:¬(true=true/\VP b.rules (rb+1) rb p):=λh=>by simpa using ht.2 h.2
   rw [iN_ hn];rfl
  | true =>
   have hn:true=true/\VP b.rules (rb+1) rb p:=⟨rfl,ht.1 rfl⟩
   rw [iP_ hn];rfl
def MigR (a b:c_)(g:Nat->Nat)(s ra rb:Nat)(v:Val):Prop :=
 ∃w:Val×Bool,(∀n,3 * s+2000<=n->g_I n a (ra:Int) b (rb:Int) v=some w)/\(∀n,3 * s+2000<=n->f_v n ⟨a,b⟩ (ra:Int) (rb:Int) v=some w) /\
  (w.2=true->VP b.rules (rb+1) rb w.1/\∀c L,Cst c v L->∀m,1+vsz m w.1<=L * g rb)/\(w.2=false->w.1=⟨0,[],[]⟩)
def AlR (a b:c_)(g:Nat->Nat)(s:Nat)(x y:b_)(rb:Nat)(v:Val):Prop :=
 ∃(ok ok':Bool)(o:Val),(∀n,3 * s+2002<=n->∃p,o_d n a x b y v=some (p,ok)/\(ok=true->p=o))/\(∀n,3 * s+2002<=n->∃p,o_c n ⟨a,b⟩ x y (rb:Int) v=some (p,ok')/\(ok'=true->p=o)) /\
  (ok'=true->ok=true)/\(ok'=false->ok=true->¬VP b.rules (rb+1) rb o)/\(ok=true->∀c L,Cst c v L->∀m,1+vsz m o<=L * g rb)
section
variable {a b:c_}{S g:Nat->Nat}
theorem q_a {s:Nat}(ih:∀(ra rb:Nat)(v:Val)(m:Nat),ra+rb<s->rb<b.rules.length->VP a.rules m ra v->MigR a b g s ra rb v){cx cy:Int}{ra rb:Nat}(hx:0<=cx/\cx<(ra:Int))(hy:0<=cy/\cy<(rb:Int))(hs:ra+rb<=s+1)(hrb:rb<b.rules.length){v:Val}(hl:v.items.length<=1000)
  (hV:∀j (hj:j<v.items.length),∃m,VP a.rules m cx.toNat v.items[j]) :
  ∃(ok:Bool)(ws:List Val),(∀n,3 * s+2001<=n->∃l,l_P n a (List.replicate v.items.length cx) b (List.replicate v.items.length cy) v.items=some (l,ok)/\(ok=true->l=ws))/\(∀n,3 * s+2001<=n->∃p,l_O n ⟨a,b⟩ cx cy v=some (p,ok)/\(ok=true->p=⟨0,[],ws⟩)) /\
   (ok=true->∀c L,Cst c v L->∀m num,1+vsz m ⟨num,[],ws⟩<=L * (g cy.toNat+1)):=by
 obtain ⟨W,hW⟩:=h_j (β:=Val×Bool) (P:=λj w=>∀hj:j<v.items.length,(∀n,3 * s+2000<=n->g_I n a cx b cy v.items[j]=some w)/\(∀n,3 * s+2000<=n->f_v n ⟨a,b⟩ cx cy v.items[j]=some w)/\(w.2=true->VP b.rules (cy.toNat+1) cy.toNat w.1/\∀c L,Cst c v.items[j] L->∀m,1+vsz m w.1<=L * g cy.toNat)) v.items.length (λj hj=>by
  obtain ⟨m,hm⟩:=hV j hj;obtain ⟨w,h1,h2,h3,_⟩:=ih cx.toNat cy.toNat v.items[j] m (by omega) (by omega) hm
  rw [show ((cx.toNat:Nat):Int)=cx by omega,show ((cy.toNat:Nat):Int)=cy by omega] at h1 h2
  exact ⟨w,λ_=>⟨h1,h2,h3⟩⟩)
 by_cases hall:∀j,j<v.items.length->(W j).2=true
 .refine ⟨true,a_Q W v.items.length,λn hn=>?_,λn hn=>?_,λ_ c L hc m num=>?_⟩
  .obtain ⟨q,rfl⟩:∃q,n=q+1:=⟨n - 1,by omega⟩
   rcases list_spec' (q:=q) (rec:=a_q q) hl (λj hj=>(hW j hj hj).1 q (by omega)) with ⟨_,e⟩ | ⟨⟨j,hj,hf⟩,_⟩
   .exact ⟨_,e,λ_=>rfl⟩
   .rw [hall j hj] at hf;cases hf
  .obtain ⟨q,rfl⟩:∃q,n=q+1:=⟨n - 1,by omega⟩
   rcases m_K (q:=q) (rec:=a_p q) (m:=⟨a,b⟩) hl (λj hj=>(hW j hj hj).2.1 q (by omega)) with ⟨_,e⟩ | ⟨⟨j,hj,hf⟩,_⟩
   .exact ⟨_,e,λ_=>rfl⟩
   .rw [hall j hj] at hf;cases hf
  .obtain ⟨Ls,k1,k2,k3⟩:=hc.parts
   have hv:=h_9 (m:=m) (x:=num) (l:=a_Q W v.items.length) (B:=Ls.sum * g cy.toNat) λm=>m_G _ Ls (by rw [j_x,k1]) λj h h'=>by
    have hj:j<v.items.length:=by rw [j_x] at h;exact h
    obtain ⟨m',hm'⟩:=k3 j hj h'
    rw [m_F]
    exact ((hW j hj hj).2.2 (hall j hj)).2 m' _ hm' m
   have h1:=hc.pos.1;have h2:=Nat.mul_le_mul_right (g cy.toNat) k2
   rw [Nat.mul_add,Nat.mul_one];omega
 .obtain ⟨j,hj⟩:=Classical.not_forall.1 hall;have hall':¬∀j,j<v.items.length->(W j).2=true:=hall;refine ⟨false,[],λn hn=>?_,λn hn=>?_,nofun⟩
  .obtain ⟨q,rfl⟩:∃q,n=q+1:=⟨n - 1,by omega⟩
   rcases list_spec' (q:=q) (rec:=a_q q) hl (λj hj=>(hW j hj hj).1 q (by omega)) with ⟨h,_⟩ | ⟨_,r,e⟩
   .exact absurd h hall'
   .exact ⟨_,e,nofun⟩
  .obtain ⟨q,rfl⟩:∃q,n=q+1:=⟨n - 1,by omega⟩
   rcases m_K (q:=q) (rec:=a_p q) (m:=⟨a,b⟩) hl (λj hj=>(hW j hj hj).2.1 q (by omega)) with ⟨h,_⟩ | ⟨_,e⟩
   .exact absurd h hall'
   .exact ⟨_,e,nofun⟩
theorem q_b {l:Bt}{z:Int}(I:0<=z)(hz:z<=1000)(hl:l.length<=1000){n:Nat}(hn:1100<=n){β:Type}{f:Bt->Option β}{g:Val×Bool->Option β} :
  bd (M_ (σ:=Bt) (ρ:=Val×Bool) (λG=>if (decide<|(G.length:Int)<z) then bd (psh G (0:UInt8)) λH=>some (.next H) else some (.brk G)) n l) (el f g)=f (l++List.replicate (z.toNat - l.length) 0):=by
 have hLIM:=a_7
 obtain ⟨s,e,hs⟩:=c_4 (σ:=Bt) (ρ:=Val×Bool) (step:=λG=>if (decide<|(G.length:Int)<z) then bd (psh G (0:UInt8)) λH=>some (.next H) else some (.brk G))
  (λs=>∃k,s=l++List.replicate k 0/\k<=z.toNat - l.length) (λs=>z.toNat - s.length) (λs=>s=l++List.replicate (z.toNat - l.length) 0) (by
   rintro s ⟨k,rfl,hk⟩;have hlen:(l++List.replicate k (0:UInt8)).length=l.length+k:=by simp
   by_cases h:((l++List.replicate k (0:UInt8)).length:Int)<z
   .left
    rw [dT_ h,iP_ rfl,Y_ (by omega),bd_some]
    refine ⟨_,rfl,⟨k+1,by rw [List.replicate_succ',List.append_assoc],by omega⟩,?_⟩
    rw [List.length_append,List.length_singleton];omega
   .right
    rw [dF_ h,iN_ (by simp)]
    exact ⟨_,rfl,by rw [show k=z.toNat - l.length by omega]⟩) n l ⟨0,by simp,Nat.zero_le _⟩ (by omega)
 rw [e,bd_some,el_inl,hs]
theorem q_c {l:Bt}{z:Nat}:cpy (List.replicate z 0) l=(l++List.replicate (z - l.length) 0).take z:=by
 unfold cpy
 rw [List.length_replicate,List.take_append,List.drop_replicate,List.take_replicate]
 congr 2
 omega
end
end Go.Vw
