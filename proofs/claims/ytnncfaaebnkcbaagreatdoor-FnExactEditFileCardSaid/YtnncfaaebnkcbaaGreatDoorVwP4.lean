
import Derived.Test.YtnncfaaebnkcbaaGreatDoorVwP3
namespace Go.Vw
open Go.RowKit Dat
abbrev RR:=Val×Nat×Int
def K_ (rs:List b_)(k:Int):b_:=rs.getD k.toNat default
def a_D (rs:List b_)(b:List UInt8)(r:b_)(at_:Nat):Sum Int (Int×List Int×Nat) :=
 if r.kind==5 then (match a_r b (K_ rs (s_ r)) at_ with
  | none=>.inl 1
  | some n=>if 40<n then .inl 6 else .inr (0,List.replicate n.toNat (r.kids.getD 1 0),at_+(K_ rs (s_ r)).size.toNat))
 else if r.kind==6 then .inr (0,r.kids,at_)
 else if r.kind==7 then (match a_r b (K_ rs (s_ r)) at_ with
  | none=>.inl 1
  | some n=>match b_1 r.tags n with
   | none=>.inl 3
   | some k=>.inr (n,[r.kids.getD (k+1) 0],at_+(K_ rs (s_ r)).size.toNat))
 else if r.kind==8 then (match b[at_]? with
  | none=>.inl 1
  | some c=>if 1<byteI c then .inl 4 else .inr (0,List.replicate c.toNat (r.kids.getD 0 0),at_+1))
 else .inr (0,[r.kids.getD 0 0],at_)
def a_a (rd:Int->Nat->RR):List Int->Nat->List Val×Nat×Int
 | [],p=>([],p,0)
 | k::ks,p=>if (rd k p).2.2=0 then (if (a_a rd ks (rd k p).2.1).2.2=0 then ((rd k p).1::(a_a rd ks (rd k p).2.1).1,(a_a rd ks (rd k p).2.1).2.1,0) else ([],(a_a rd ks (rd k p).2.1).2.1,(a_a rd ks (rd k p).2.1).2.2)) else ([],(rd k p).2.1,(rd k p).2.2)
def b_n (b:List UInt8)(r:b_)(num:Int)(at_:Nat)(x:List Val×Nat×Int):RR :=
 if x.2.2=0 then (if r.kind==9 then (match b[x.2.1]? with
  | none=>(zV,x.2.1,1)
  | some c=>if byteI c=c_6 (a_i b at_ x.2.1) then (⟨0,[],x.1⟩,x.2.1+1,0) else (zV,x.2.1,5)) else (⟨num,[],x.1⟩,x.2.1,0)) else (zV,x.2.1,x.2.2)
def rdB (rs:List b_)(b:List UInt8)(r:b_)(at_:Nat)(rd:Int->Nat->RR):RR :=
 if r.kind==1 then (match a_r b r at_ with | none=>(zV,at_,1) | some n=>(⟨n,[],[]⟩,at_+r.size.toNat,0))
 else if r.kind==2 then (zV,(b_m b r.bytes at_).1,(b_m b r.bytes at_).2)
 else if r.kind==3 then a_K b at_ r.size
 else if r.kind==4 then (match a_r b (K_ rs<|s_ r) at_ with | none=>(zV,at_,1) | some n=>a_K b (at_+(K_ rs<|s_ r).size.toNat) n)
 else if r.kind==10 then (match c_M b at_ (r.bytes.getD 0 0) with | none=>(zV,at_,1) | some (c,q)=>(⟨0,c,[]⟩,q,0))
 else match a_D rs b r at_ with
  | .inl c=>(zV,at_,c)
  | .inr (num,ks,st)=>b_n b r num at_<|a_a rd ks st
def rdW (rs:List b_)(b:List UInt8)(rule:Nat)(at_:Nat):RR :=
 rdB rs b (rs.getD rule default) at_ (fun k p=>if _h:k.toNat<rule then rdW rs b k.toNat p else (zV,p,0))
termination_by rule
structure ROk (rs:List b_)(i:Nat)(r:b_):Prop where
 kids:∀k∈r.kids,0<=k/\k<(i:Int)
 kind:a_p rs r=true
 name:b_l r.name=true
theorem c_N {d:f_}(h:a_5 d=true):1<=d.rules.length/\d.rules.length<=24:=by
 unfold a_5 at h
 simp only [aE_,dE_] at h
 omega
theorem b_X {d:f_}(h:a_5 d=true){i:Nat}(hi:i<d.rules.length):ROk d.rules i d.rules[i]:=by
 unfold a_5 at h
 rw [aE_] at h
 have h2:=h.2
 rw [Bool.not_eq_true',List.any_eq_false] at h2
 have h3:=h2 i<|List.mem_range.2 hi
 rw [Bool.not_eq_true',Bool.not_eq_false] at h3
 unfold d_a at h3
 rw [gG_ hi] at h3
 simp only [aE_,Bool.not_eq_true',List.any_eq_false] at h3
 obtain ⟨⟨h4,_⟩,_,h6,G⟩:=h3;refine ⟨fun k hk=>?_,G,h4⟩;have:=h6 k hk;unfold d_8 at this
 simp only [Bool.or_eq_true,dE_] at this
 omega
section
variable {rs:List b_}{r:b_}
theorem d_c {k:Int}(h:0<lim rs k):idx rs k=some (K_ rs k)/\e_Q (K_ rs k):=by
 unfold lim at h
 cases hr:idx rs k with
 | none=>rw [hr] at h;simp at h
 | some q =>
  rw [hr] at h
  simp only at h
  split at h
  ·rename_i hq
   obtain ⟨G,h1,_⟩:=a_o hr;have:K_ rs k=q:=by unfold K_;rw [gD_,h1];rfl
   rw [this]
   exact ⟨rfl,hq⟩
  ·omega
theorem e_S (h:a_p rs r=true)(hk:r.kind=1):e_Q r:=by
 unfold a_p at h
 rw [hk] at h
 simp only [bQ_,fT_,aE_,dE_] at h
 exact ⟨hk,h.2.1.1,h.2.1.2⟩
theorem m_B (h:a_p rs r=true)(hk:r.kind=2):1<=r.bytes.length/\r.bytes.length<=16:=by
 unfold a_p at h
 rw [hk] at h
 simp [] at h
 omega
theorem g_F (h:a_p rs r=true)(hk:r.kind=3):1<=r.size/\r.size<=64:=by
 unfold a_p at h
 rw [hk] at h
 simp [] at h
 omega
theorem e_T (h:a_p rs r=true)(hk:r.kind=4):0<lim rs (s_ r)/\r.kids.length=1:=by
 unfold a_p at h
 rw [hk] at h
 simp only [show ((4:Int)==1)=false from rfl,show ((4:Int)==2)=false from rfl,show ((4:Int)==3)=false from rfl,bF_,fF_,bQ_,fT_,aE_,dE_] at h
 have:=c_E h.1 (by omega);exact ⟨h.2,by omega⟩
theorem d_w (h:a_p rs r=true)(hk:r.kind=5):0<lim rs (s_ r)/\r.kids.length=2:=by
 unfold a_p at h
 rw [hk] at h
 simp only [show ((5:Int)==1)=false from rfl,show ((5:Int)==2)=false from rfl,show ((5:Int)==3)=false from rfl,show ((5:Int)==4)=false from rfl,bF_,fF_,bQ_,fT_,aE_,dE_] at h
 have:=c_E h.1 (by omega);exact ⟨h.2,by omega⟩
theorem g_G (h:a_p rs r=true)(hk:r.kind=6):r.kids.length=r.names.length/\1<=r.kids.length/\r.kids.length<=8/\∀s∈r.names,b_l s=true:=by
 unfold a_p at h
 rw [hk] at h
 simp only [show ((6:Int)==1)=false from rfl,show ((6:Int)==2)=false from rfl,show ((6:Int)==3)=false from rfl,show ((6:Int)==4)=false from rfl,show ((6:Int)==5)=false from rfl,bF_,fF_,bQ_,fT_,aE_,c_5,dE_] at h
 have h1:=c_E h.1 (by omega);refine ⟨by omega,by omega,by omega,fun s hs=>?_⟩;obtain ⟨k,hk',rfl⟩:=List.getElem_of_mem hs;have:=h.2.1
 rw [Bool.not_eq_true',List.any_eq_false] at this
 have:=this k<|List.mem_range.2 hk';unfold c_n at this
 rw [gG_ hk'] at this
 simp only [Bool.or_eq_true,Bool.not_eq_true',not_or] at this
 simpa using this.1
theorem e_U (h:a_p rs r=true)(hk:r.kind=7):0<lim rs (s_ r)/\r.kids.length=r.tags.length+1/\1<=r.tags.length/\r.tags.length<=8:=by
 unfold a_p at h
 rw [hk] at h
 simp only [show ((7:Int)==1)=false from rfl,show ((7:Int)==2)=false from rfl,show ((7:Int)==3)=false from rfl,show ((7:Int)==4)=false from rfl,show ((7:Int)==5)=false from rfl,show ((7:Int)==6)=false from rfl,bF_,fF_,bQ_,fT_,aE_,c_5,dE_] at h
 have h1:=c_E h.1 (by omega);refine ⟨?_,by omega,by omega,by omega⟩
 rcases l_X rs (s_ r) with hl | hl
 ·exfalso
  have:=h.2.2
  rw [Bool.not_eq_true',List.any_eq_false] at this
  have G:0<r.tags.length:=by omega
  have:=this 0<|List.mem_range.2 G
  rw [g_x G,hl] at this
  simp only [Bool.or_eq_true,Bool.not_eq_true',Bool.and_eq_false_iff,decide_eq_false_iff_not] at this
  omega
 ·exact hl
theorem d_d (h:a_p rs r=true)(hk:r.kind=8∨r.kind=9):r.kids.length=1:=by
 unfold a_p at h
 rcases hk with hk | hk
 ·rw [hk] at h
  simp only [show ((8:Int)==1)=false from rfl,show ((8:Int)==2)=false from rfl,show ((8:Int)==3)=false from rfl,show ((8:Int)==4)=false from rfl,show ((8:Int)==5)=false from rfl,show ((8:Int)==6)=false from rfl,show ((8:Int)==7)=false from rfl,bF_,fF_,bQ_,fT_] at h
  have:=c_E h (by omega)
  omega
 ·rw [hk] at h
  simp only [show ((9:Int)==1)=false from rfl,show ((9:Int)==2)=false from rfl,show ((9:Int)==3)=false from rfl,show ((9:Int)==4)=false from rfl,show ((9:Int)==5)=false from rfl,show ((9:Int)==6)=false from rfl,show ((9:Int)==7)=false from rfl,show ((9:Int)==8)=false from rfl,bF_,fF_,bQ_,fT_] at h
  have:=c_E h (by omega)
  omega
theorem j_Z (h:a_p rs r=true)(hk:r.kind=10):r.bytes.length=1:=by
 unfold a_p at h
 rw [hk] at h
 simp [] at h
 omega
theorem e_V (h:a_p rs r=true):1<=r.kind/\r.kind<=10:=by
 unfold a_p at h
 by_cases h1:r.kind=1
 ·omega
 by_cases h2:r.kind=2
 ·omega
 by_cases h3:r.kind=3
 ·omega
 by_cases h4:r.kind=4
 ·omega
 by_cases h5:r.kind=5
 ·omega
 by_cases h6:r.kind=6
 ·omega
 by_cases H:r.kind=7
 ·omega
 by_cases I:r.kind=8
 ·omega
 by_cases J:r.kind=9
 ·omega
 by_cases G:r.kind=10
 ·omega
 simp [h1,h2,h3,h4,h5,h6,H,I,J,G] at h
theorem c_O (h:a_p rs r=true):e_R r:=⟨fun hk=>(d_w h hk).2,fun hk=>(e_U h hk).2.1,fun hk=>d_d h<|.inl hk,fun hk=>d_d h<|.inr hk⟩
end
theorem c_P {l:List Int}{k:Nat}(h:k<l.length):l.getD k 0∈l:=by rw [a_7 h];exact gE_ h
theorem k_0 {ts:List Int}{n:Int}{k:Nat}(h:b_1 ts n=some k):k<ts.length:=by
 unfold b_1 at h;exact List.mem_range.1<|List.mem_of_find?_eq_some h
theorem k_1 {rs:List b_}{b:List UInt8}{r:b_}{at_:Nat}(h:a_p rs r=true)(hk:5<=r.kind/\r.kind<=9)(ha:at_<=b.length){num:Int}{ks:List Int}{st:Nat}(hh:a_D rs b r at_ = .inr (num,ks,st)) :
  (∀k∈ks,k∈r.kids)/\at_<=st/\st<=b.length/\ks.length<=40/\(st=at_->r.kind=6∨r.kind=9):=by
 unfold a_D at hh
 by_cases h5:r.kind=5
 ·rw [h5] at hh
  simp only [bQ_,fT_] at hh
  have hl:=d_w h h5
  cases hi:a_r b (K_ rs<|s_ r) at_ with
  | none=>rw [hi] at hh;cases hh
  | some n =>
   rw [hi] at hh
   have hr:=(d_c hl.1).2;have hb:=d_b hr hi;obtain ⟨_,hs,_⟩:=hr
   simp only at hh
   split at hh
   ·cases hh
   ·cases hh
    refine ⟨fun k hk=>?_,by omega,by omega,by simp;omega,by omega⟩
    rw [List.eq_of_mem_replicate hk]
    exact c_P (by omega)
 rw [show (r.kind==5)=false by simpa using h5] at hh
 by_cases h6:r.kind=6
 ·rw [h6] at hh
  simp only [bF_,fF_,bQ_,fT_] at hh
  cases hh
  exact ⟨fun k hk=>hk,Nat.le_refl _,ha,by have:=g_G h h6;omega,fun _=>.inl h6⟩
 rw [show (r.kind==6)=false by simpa using h6] at hh
 by_cases G:r.kind=7
 ·rw [G] at hh
  simp only [bF_,fF_,bQ_,fT_] at hh
  have hl:=e_U h G
  cases hi:a_r b (K_ rs<|s_ r) at_ with
  | none=>rw [hi] at hh;cases hh
  | some n =>
   rw [hi] at hh
   have hr:=(d_c hl.1).2;have hb:=d_b hr hi;obtain ⟨_,hs,_⟩:=hr
   simp only at hh
   cases ht:b_1 r.tags n with
   | none=>rw [ht] at hh;cases hh
   | some k =>
    rw [ht] at hh
    cases hh
    have:=k_0 ht;refine ⟨fun k' hk=>?_,by omega,by omega,by simp,by omega⟩
    rw [List.mem_singleton.1 hk]
    exact c_P (by omega)
 rw [show (r.kind==7)=false by simpa using G] at hh
 by_cases H:r.kind=8
 ·rw [H] at hh
  simp only [bF_,fF_,bQ_,fT_] at hh
  have hl:=d_d h<|.inl H
  cases hi:b[at_]? with
  | none=>rw [hi] at hh;cases hh
  | some c =>
   rw [hi] at hh
   simp only at hh
   have hlt:=(gS_.1 hi).1
   split at hh
   ·cases hh
   ·cases hh
    refine ⟨fun k hk=>?_,by omega,by omega,?_,by omega⟩
    ·rw [List.eq_of_mem_replicate hk]
     exact c_P (by omega)
    ·unfold byteI at *;simp;omega
 rw [show (r.kind==8)=false by simpa using H] at hh
 simp only [bF_,fF_] at hh
 cases hh
 have hl:=d_d h<|.inr (show r.kind=9 by omega);refine ⟨fun k hk=>?_,Nat.le_refl _,ha,by simp,fun _=>.inr (by omega)⟩
 rw [List.mem_singleton.1 hk]
 exact c_P (by omega)
theorem m_C {rd rd':Int->Nat->RR}:∀(ks:List Int)(p:Nat),(∀k∈ks,∀p,rd k p=rd' k p)->a_a rd ks p=a_a rd' ks p
 | [],_,_=>rfl
 | k::ks,p,h=>by
  unfold a_a
  rw [h k mS_ p,m_C ks _<|fun k hk=>h k<|mT_ _ hk]
theorem g_H {rd:Int->Nat->RR}{L:Nat}:∀(ks:List Int)(p:Nat),p<=L->(∀k∈ks,∀p,p<=L->p<=(rd k p).2.1/\(rd k p).2.1<=L)->p<=(a_a rd ks p).2.1/\(a_a rd ks p).2.1<=L
 | [],p,hp,_=>⟨Nat.le_refl _,hp⟩
 | k::ks,p,hp,h=>by
  have h1:=h k mS_ p hp;have h2:=g_H (rd:=rd) ks _ h1.2<|fun k hk=>h k<|mT_ _ hk;unfold a_a
  split
  ·split <;> exact ⟨by simp only;omega,by simp only;omega⟩
  ·exact h1
section
variable {d:f_}{b:List UInt8}
theorem g_I (hv:a_5 d=true){i:Nat}(hi:i<d.rules.length){at_:Nat}(ha:at_<=b.length):rdW d.rules b i at_=rdB d.rules b d.rules[i] at_ (fun k p=>rdW d.rules b k.toNat p):=by
 have hr:=b_X hv hi
 rw [rdW]
 have e:d.rules.getD i default=d.rules[i]:=by simp [hi]
 rw [e]
 have hal:=e_V hr.kind;unfold rdB
 by_cases hk:5<=d.rules[i].kind/\d.rules[i].kind<=9
 ·cases hh:a_D d.rules b d.rules[i] at_ with
  | inl c=>rfl
  | inr x =>
   obtain ⟨num,ks,st⟩:=x;have hks:=(k_1 hr.kind hk ha hh).1
   simp only
   rw [m_C ks st (fun k hk p=>by
    have:=hr.kids k<|hks k hk
    rw [dif_pos (by omega)])]
 ·have:d.rules[i].kind=1∨d.rules[i].kind=2∨d.rules[i].kind=3∨d.rules[i].kind=4∨d.rules[i].kind=10:=by omega
  rcases this with h | h | h | h | h <;> rw [h] <;> rfl
theorem d_e (hv:a_5 d=true):∀(i:Nat),i<d.rules.length->∀at_,at_<=b.length->at_<=(rdW d.rules b i at_).2.1/\(rdW d.rules b i at_).2.1<=b.length:=by
 intro i
 induction i using Nat.strongRecOn with
 | _ i ih =>
  intro hi at_ ha
  rw [g_I hv hi ha]
  have hr:=b_X hv hi;have hal:=e_V hr.kind;generalize hrr:d.rules[i]=r at *
  unfold rdB
  by_cases h1:r.kind=1
  ·rw [h1];simp only [bQ_,fT_]
   cases hd:a_r b r at_ with
   | none=>exact ⟨Nat.le_refl _,ha⟩
   | some n=>have:=d_b (e_S hr.kind h1) hd;exact ⟨by simp only;omega,by simp only;omega⟩
  rw [show (r.kind==1)=false by simpa using h1]
  by_cases h2:r.kind=2
  ·rw [h2];exact q_k ha _
  rw [show (r.kind==2)=false by simpa using h2]
  have hby:∀p n,p<=b.length->at_<=p->0<=n->at_<=(a_K b p n).2.1/\(a_K b p n).2.1<=b.length:=by
   intro p n hp hap hn;unfold a_K
   split
   ·exact ⟨hap,hp⟩
   ·exact ⟨by simp only;omega,by simp only;omega⟩
  by_cases h3:r.kind=3
  ·rw [h3];exact hby at_ r.size ha (Nat.le_refl _) (by have:=g_F hr.kind h3;omega)
  rw [show (r.kind==3)=false by simpa using h3]
  by_cases h4:r.kind=4
  ·rw [h4];simp only [bF_,fF_,bQ_,fT_]
   cases hd:a_r b (K_ d.rules<|s_ r) at_ with
   | none=>exact ⟨Nat.le_refl _,ha⟩
   | some n =>
    have:=d_b (d_c (e_T hr.kind h4).1).2 hd;exact hby _ n (by omega) (by omega) this.1
  rw [show (r.kind==4)=false by simpa using h4]
  by_cases G:r.kind=10
  ·rw [G];simp only [bF_,fF_,bQ_,fT_]
   cases hd:c_M b at_ (r.bytes.getD 0 0) with
   | none=>exact ⟨Nat.le_refl _,ha⟩
   | some x =>
    have:=i_r _ _ _ _ _ hd;exact ⟨by simp only;omega,by simp only;omega⟩
  rw [show (r.kind==10)=false by simpa using G]
  simp only [bF_,fF_]
  cases hh:a_D d.rules b r at_ with
  | inl c=>exact ⟨Nat.le_refl _,ha⟩
  | inr x =>
   obtain ⟨num,ks,st⟩:=x;have hks:=k_1 hr.kind (by omega) ha hh
   have hit:=g_H (rd:=fun k p=>rdW d.rules b k.toNat p) (L:=b.length) ks st hks.2.2.1 (fun k hk p hp=>by
    have:=hr.kids k<|hks.1 k hk
    exact ih k.toNat (by omega) (by omega) p hp)
   simp only
   generalize a_a (fun k p=>rdW d.rules b k.toNat p) ks st=x at hit
   unfold b_n
   split
   ·split
    ·cases hb:b[x.2.1]? with
     | none=>exact ⟨by simp only;omega,hit.2⟩
     | some c =>
      have:=(gS_.1 hb).1
      simp only
      split
      ·exact ⟨by simp only;omega,by simp only;omega⟩
      ·exact ⟨by simp only;omega,hit.2⟩
    ·exact ⟨by simp only;omega,hit.2⟩
   ·exact ⟨by simp only;omega,hit.2⟩
end
end Go.Vw
