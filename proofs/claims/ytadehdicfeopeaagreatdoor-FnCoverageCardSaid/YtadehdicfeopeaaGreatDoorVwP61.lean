
import Derived.Test.YtadehdicfeopeaaGreatDoorVwP60
namespace Go.Vw
open Go.RowKit Dat
section
variable {d:d_}{b:List UInt8}
theorem m_9 {f:Int->Nat->Str->List u_}{e:Int->Nat->Nat}{r:e_}{path:Str}{N:Int}:∀(ks:List Int)(i pos:Nat),(∀k∈ks,∀p q,∀x∈f k p q,0<=x.rule/\x.rule<N)->∀x∈ixL f e r path ks i pos,0<=x.rule/\x.rule<N
 | [],_,_,_,x,hx=>by cases hx
 | k::ks,i,pos,h,x,hx=>by
  unfold ixL at hx
  rcases List.mem_append.1 hx with hx | hx
  ·exact h k mS_ _ _ x hx
  ·exact m_9 ks _ _ (fun k hk=>h k<|mT_ _ hk) x hx
theorem p_Y {rs:List e_}{N:Int}:∀(i:Nat),(i:Int)<N->∀at_ path,∀x∈ixW rs b i at_ path,0<=x.rule/\x.rule<N:=by
 intro i
 induction i using Nat.strongRecOn with
 | _ i ih =>
  intro hi at_ path x hx
  rw [ixW] at hx
  rcases List.mem_cons.1 hx with rfl | hx
  ·exact ⟨by simp only;omega,hi⟩
  ·refine m_9 _ _ _ (fun k _ p q x hx=>?_) x hx
   split at hx
   ·rename_i hk;exact ih k.toNat hk (by omega) p q x hx
   ·cases hx
def countP (n:Nat)(l:List u_):List Int:=l.foldl (fun c x=>c.set x.rule.toNat<|g_ (c.getD x.rule.toNat 0) 1)<|List.replicate n 0
theorem m_a (n:Nat)(l:List u_):(countP n l).length=n:=by
 unfold countP
 have:∀(l:List u_)(c:List Int),(l.foldl (fun c x=>c.set x.rule.toNat<|g_ (c.getD x.rule.toNat 0) 1) c).length=c.length:=by
  intro l
  induction l with
  | nil=>intro c;rfl
  | cons x l ih=>intro c;rw [List.foldl_cons,ih];simp
 rw [this];simp
theorem p_Z {ρ:Type}{n:Nat}{l:List u_}(hl:∀x∈l,0<=x.rule/\x.rule<(n:Int))(body:Nat->List Int->Option (Out (List Int) ρ))
  (hbody:∀k (hk:k<l.length) (c:List Int),c.length=n->body k c=some (.next<|c.set l[k].rule.toNat (g_ (c.getD l[k].rule.toNat 0) 1))) :
  x_ (σ:=List Int) (ρ:=ρ) body l.length 0 (List.replicate n 0)=some (.inl<|countP n l):=by
 have h:=b_I (n:=l.length) (σ:=List Int) (ρ:=ρ) (body:=body) (fun k=>countP n (l.take k)) (fun j hj=>by
  rw [hbody j hj _ (m_a n _)]
  unfold countP
  rw [List.take_add_one,gG_ hj,Option.toList_some,List.foldl_append]
  rfl)
 simp only [List.take_zero,List.take_of_length_le<|Nat.le_refl _] at h
 exact h
theorem q_0 {l:List u_}{n:Nat}(hl:∀x∈l,0<=x.rule/\x.rule<(n:Int)){k:Nat}(hk:k<l.length){c:List Int}(hc:c.length=n):idx c l[k].rule=some (c.getD l[k].rule.toNat 0)/\∀y,upd c l[k].rule y=some (c.set l[k].rule.toNat y):=by
 have h:=hl _<|gE_ hk;refine ⟨?_,fun y=>i_H h.1 (by omega)⟩
 rw [c_8 h.1 (by omega),a_a (by omega)]
def e_g (d:d_)(b:List UInt8):List Int:=if okF d b=true then countP d.rules.length (a_B d b) else []
theorem m_b (h:okF d b=true):∀x∈a_B d b,0<=x.rule/\x.rule<(d.rules.length:Int):=by
 obtain ⟨_,_,hlt,_⟩:=e_U h;unfold a_B
 rw [iP_ h]
 exact p_Y _ (by omega) _ _
theorem q_1 (hd:SmD d){n:Nat}(hn:1000<=n):f_j n d b=some (e_g d b):=by
 have hr:=hd.rules;have hMX:=MXv;have hLIM:=a_p;unfold f_j e_g
 rw [l_k hd hn]
 cases h:okF d b
 ·rfl
 ·have hl:=m_b h;generalize a_B d b=l at *
  simp only [bd2_some,nT_,bF_,fF_,fT_]
  rw [m_n (by omega),bd_some]
  rw [p_Z hl _ (fun k hk c hc=>by
   have:=q_0 hl hk hc
   rw [ix_ hk,bd_some,this.1,bd_some,this.2,bd_some])]
  rfl
end
def sm:List Int->Int
 | []=>0
 | x::l=>x+sm l
theorem m_c (n:Nat):sm (List.replicate n 0)=0:=by
 induction n with
 | zero=>rfl
 | succ n ih=>rw [List.replicate_succ,sm,ih];rfl
theorem i_B:∀(l:List Int),(∀x∈l,0<=x)->0<=sm l
 | [],_=>Int.le_refl _
 | x::l,h=>by
  have h1:=i_B l<|fun y hy=>h y<|mT_ _ hy;have h2:=h x mS_
  rw [sm];omega
theorem k_8:∀(l:List Int),(∀x∈l,0<=x)->∀x∈l,x<=sm l
 | [],_,_,hx=>by cases hx
 | y::l,h,x,hx=>by
  have G:=fun y hy=>h y<|mT_ _ hy
  have h1:=i_B l G;have h2:=h y mS_
  rw [sm]
  rcases List.mem_cons.1 hx with rfl | hx
  ·omega
  ·have:=k_8 l G x hx;omega
theorem m_d:∀(l:List Int)(i:Nat)(y:Int)(h:i<l.length),sm (l.set i y)=sm l - l[i]+y
 | [],_,_,h=>by simp at h
 | x::l,0,y,h=>by simp only [List.set_cons_zero,sm,List.getElem_cons_zero];omega
 | x::l,i+1,y,h=>by
  simp only [List.set_cons_succ,sm,List.getElem_cons_succ]
  rw [m_d l i y (by simpa using h)];omega
theorem m_e:∀(l:List Int)(k:Nat)(h:k<l.length),sm (l.take<|k+1)=sm (l.take k)+l[k]
 | [],_,h=>by simp at h
 | x::l,0,h=>by simp [sm]
 | x::l,k+1,h=>by
  simp only [List.take_succ_cons,sm,List.getElem_cons_succ]
  rw [m_e l k (by simpa using h)];omega
theorem q_2 {l:List Int}(h:∀x∈l,0<=x):∀k,sm (l.take k)<=sm l:=by
 induction l with
 | nil=>intro k;simp [sm]
 | cons x l ih =>
  intro k;have h1:=i_B l<|fun y hy=>h y<|mT_ _ hy;have h2:=h x mS_
  cases k with
  | zero=>simp only [List.take_zero,sm];omega
  | succ k=>simp only [List.take_succ_cons,sm];have:=ih (fun y hy=>h y<|mT_ _ hy) k;omega
theorem q_3 {n:Nat}{l:List u_}(hl:∀x∈l,0<=x.rule/\x.rule<(n:Int))(hlen:l.length<=1000000):sm (countP n l)=l.length/\∀x∈countP n l,0<=x:=by
 unfold countP
 have key:∀(l:List u_)(c:List Int),(∀x∈l,0<=x.rule/\x.rule<(n:Int))->c.length=n->(∀x∈c,0<=x)->sm c+l.length<=1000000 ->
   sm (l.foldl (fun c x=>c.set x.rule.toNat<|g_ (c.getD x.rule.toNat 0) 1) c)=sm c+l.length/\∀x∈l.foldl (fun c x=>c.set x.rule.toNat<|g_ (c.getD x.rule.toNat 0) 1) c,0<=x:=by
  intro l
  induction l with
  | nil=>intro c _ _ hc _;exact ⟨by simp,hc⟩
  | cons x l ih =>
   intro c hl hcl hc hs;have hx:=hl x mS_;have hi:x.rule.toNat<c.length:=by omega
   have hg:c.getD x.rule.toNat 0=c[x.rule.toNat]:=a_a hi;have h1:=hc _<|gE_ hi;have h2:=k_8 c hc _<|gE_ hi
   simp only [lC_] at hs ⊢
   rw [List.foldl_cons,hg,ia_ (by omega) (by omega)]
   have hset:=m_d c x.rule.toNat (c[x.rule.toNat]+1) hi
   obtain ⟨G,H⟩:=ih (c.set x.rule.toNat (c[x.rule.toNat]+1)) (fun y hy=>hl y (mT_ _ hy)) (by simpa using hcl) (fun y hy=>by
    rcases List.mem_or_eq_of_mem_set hy with hy | rfl
    ·exact hc y hy
    ·omega) (by omega)
   exact ⟨by rw [G];omega,H⟩
 obtain ⟨G,H⟩:=key l (List.replicate n 0) hl (by simp) (fun x hx=>by rw [(List.mem_replicate.1 hx).2];exact Int.le_refl _) (by rw [m_c];omega)
 rw [m_c] at G
 exact ⟨by omega,H⟩
theorem q_4 {ρ:Type}{c:List Int}(hc:∀x∈c,0<=x)(hs:sm c<=1000000):x_ (σ:=Int) (ρ:=ρ) (fun G=>(fun H=>bd (idx c ((G:Nat):Int)) fun I=>some<|.next<|g_ H I)) c.length 0 0=some (.inl<|sm c):=by
 have h:=b_I (n:=c.length) (σ:=Int) (ρ:=ρ) (body:=fun G=>(fun H=>bd (idx c ((G:Nat):Int)) fun I=>some (.next (g_ H I)))) (fun k=>sm (c.take k)) (fun j hj=>by
  have h1:=i_B (c.take j)<|fun x hx=>hc x<|List.mem_of_mem_take hx;have h2:=q_2 hc j;have h3:=hc _<|gE_ hj;have h4:=k_8 c hc _<|gE_ hj
  rw [ix_ hj,bd_some,ia_ (by omega) (by omega),m_e c j hj])
 simpa [sm] using h
theorem kinds3 {β:Type}(a b c:Bool)(f:Bool->Option β):bd (α:=Bool) (if a=true then some a else bd (α:=Bool) (if b=true then some b else some c) (fun x=>some x)) f=f (a || (b || c)):=by
 cases a <;> cases b <;> cases c <;> rfl
theorem q_5 {d:d_}(hd:DrD d)(hs:SmD d){n:Nat}(hn:1000<=n):∃E,d_t n d=some E/\(∀e∈E,0<=e/\e<(d.rules.length:Int))/\0<E.length/\E.length<=6:=by
 have hf:=hd.few;have hp:=hd.some_;have hLIM:=a_p;unfold d_t
 rw [k_d hs,bd_some]
 unfold b_a
 rw [i_H (by omega) (by simp;omega),bd_some,bd_some]
 obtain ⟨r,hr⟩:∃r:Nat,r+1=d.rules.length:=⟨d.rules.length - 1,by omega⟩;have hrr:(d.rules.length:Int) - 1=(r:Int):=by omega
 rw [hrr]
 simp only [tN_]
 generalize hst:(un2 fun a8 a9=>_:List Bool×Int->Option (Out (List Bool×Int)<|List Int))=step
 obtain ⟨s,e,a5,J⟩:=c_R (σ:=(List Bool)×Int) (ρ:=List Int) (step:=step)
  (fun s=>s.1.length=24/\s.1[r]? = some true/\-1<=s.2/\s.2<=(r:Int)) (fun s=>(s.2+1).toNat) (fun s=>s.1.length=24/\s.1[r]? = some true)
  (by
   subst hst;rintro ⟨can,i⟩ ⟨I,g1,G,H⟩
   simp only at I g1 G H
   simp only [un2]
   by_cases hc:0<=i
   ·left
    rw [dT_ hc,iP_ rfl]
    obtain ⟨q,rfl⟩:∃q:Nat,i=q:=⟨i.toNat,by omega⟩;have hq:q<can.length:=by omega
    have hqd:q<d.rules.length:=by omega
    have hR:=hd.each q hqd
    rw [ix_ hq,bd_some,a_L (by omega) (by omega)]
    by_cases hb:can[q]=true
    ·rw [hb,iN_ (by simp),ix_ hqd,bd_some,bd_some,kinds3]
     have hK:∃K,(if (d.rules[q].kind==4 || (d.rules[q].kind==5 || d.rules[q].kind==7))=true then bd (slc d.rules[q].kids 1 (d.rules[q].kids.length:Int)) fun a0=>some a0 else some d.rules[q].kids)=some K/\∀k∈K,0<=k/\k<(q:Int):=by
      by_cases ht:(d.rules[q].kind==4 || (d.rules[q].kind==5 || d.rules[q].kind==7))=true
      ·have h1:1<=d.rules[q].kids.length:=by
        simp only [Bool.or_eq_true,beq_iff_eq] at ht
        rcases ht with h | h | h
        ·have:=hR.k4 h;omega
        ·have:=hR.k5 h;omega
        ·have:=(hR.k7 h).1;omega
       rw [iP_ ht,g_i (by omega) (by omega) (by omega),bd_some]
       exact ⟨_,rfl,fun k hk=>hR.kids k<|List.mem_of_mem_take<|List.mem_of_mem_drop hk⟩
      ·rw [iN_ ht]
       exact ⟨_,rfl,hR.kids⟩
     obtain ⟨K,a6,a7⟩:=hK
     rw [a6,bd_some]
     rcases c_p (σ:=List Bool) (ρ:=List Int) (body:=fun a1=>(fun a2=>bd (idx K ((a1:Nat):Int)) fun a3=>bd (upd a2 a3 true) fun a4=>some (.next a4))) (fun _ can=>can.length=24/\can[r]? = some true) (fun _=>False) (n:=K.length) (fun k can hk' ⟨g1,G⟩=>.inl (by
      have:=a7 _<|gE_ hk'
      rw [ix_ hk',bd_some,i_H this.1 (by omega),bd_some]
      refine ⟨_,rfl,by simpa using g1,?_⟩
      rw [List.getElem?_set]
      split
      ·rw [iP_ (by omega)]
      ·exact G)) K.length 0 can (by omega) ⟨I,g1⟩ with ⟨can',e',g5,g6⟩ | ⟨_,_,hf⟩
     ·rw [e',bd_some,el_inl,bd_some]
      simp only [el_inl]
      exact ⟨_,rfl,⟨g5,g6,by simp only;omega,by simp only;omega⟩,by simp only;omega⟩
     ·exact hf.elim
    ·rw [iP_ (by simpa using hb),bd_some]
     simp only [el_inl]
     exact ⟨_,rfl,⟨I,g1,by simp only;omega,by simp only;omega⟩,by simp only;omega⟩
   ·right
    rw [dF_ hc]
    exact ⟨_,rfl,I,g1⟩)
  n ((List.replicate 24 false).set r true,(r:Int)) ⟨by simp,by rw [List.getElem?_set_self (by simp;omega)],by simp only;omega,by simp only;omega⟩ (by simp only;omega)
 obtain ⟨can,i⟩:=s
 simp only at a5 J
 rw [e,bd_some,el_inl]
 simp only [un2]
 rcases c_p (σ:=List Int) (ρ:=List Int) (body:=fun L=>(fun O=>bd (idx can ((L:Nat):Int)) fun V=>bd (α:=List Int) (if V=true then bd (psh O ((L:Nat):Int)) fun W=>some W else some O)<|fun Y=>some<|.next Y))
  (fun k l=>l.length<=k/\(∀x∈l,0<=x/\x<(d.rules.length:Int))/\(r<k->0<l.length)) (fun _=>False) (n:=d.rules.length) (fun k l hk' ⟨g1,G,H⟩=>.inl (by
   have hkc:k<can.length:=by omega
   rw [ix_ hkc,bd_some]
   by_cases hb:can[k]=true
   ·rw [iP_ hb,a_s (by omega),bd_some,bd_some]
    refine ⟨_,rfl,by simp;omega,fun x hx=>?_,fun _=>by simp⟩
    rcases List.mem_append.1 hx with hx | hx
    ·exact G x hx
    ·rw [List.mem_singleton] at hx;subst hx;omega
   ·rw [iN_ hb,bd_some]
    refine ⟨_,rfl,by omega,G,fun hk=>?_⟩
    by_cases hrk:r=k
    ·subst hrk
     rw [gG_ hkc] at J
     exact absurd (Option.some.inj J) hb
    ·exact H (by omega))) d.rules.length 0 [] (by omega) ⟨Nat.le_refl _,fun x hx=>(by cases hx),fun h=>(by omega)⟩ with ⟨l,e,g1,G,H⟩ | ⟨_,_,hf⟩
 ·rw [e,bd_some,el_inl]
  exact ⟨l,rfl,G,H (by omega),by omega⟩
 ·exact hf.elim
theorem k_9 (c:List Int){e:Int}(G:0<=e):c_0 c e=some (c.getD e.toNat 0):=by
 unfold c_0
 rw [dF_ (show ¬e<0 by omega),iN_ (by simp),bd_some]
 by_cases h:(c.length:Int)<=e
 ·rw [dT_ h,iP_ rfl,gD_,gN_ (by omega)];rfl
 ·rw [dF_ h,iN_ (by simp),c_8 G (by omega),bd_some,a_a (by omega)]
def b_S (c:List Int)(e:Int):Bool:=decide<|0<c.getD e.toNat 0
def nmE (d:d_)(e:Int):Str:=match idx d.rules e with
 | some r=>r.name
 | none=>⟨[]⟩
section
variable {d:d_}{c E:List Int}{n:Nat}
theorem q_6 (hv:X_ d=true)(hs:SmD d)(hn:1000<=n)(hE:d_t n d=some E)(O:∀e∈E,0<=e/\e<(d.rules.length:Int))(hp:0<E.length)(h6:E.length<=6) :
  f_k n d c=some (100 * ((E.countP (b_S c):Nat):Int) / (E.length:Int)):=by
 unfold f_k
 rw [j_O n (by omega) d hs,hv,bd_some,iN_ (by simp),hE,bd_some]
 have hle:∀k,(E.take k).countP (b_S c)<=E.length:=fun k=>Nat.le_trans List.countP_le_length (by rw [List.length_take];omega)
 have h:=b_I (n:=E.length) (σ:=Int) (ρ:=Int) (body:=(fun H=>(fun G=>bd (idx E ((H:Nat):Int)) fun I=>bd (c_0 c I) fun J=>bd (α:=Int) (if (decide (0<J))=true then some (g_ G 1) else some G) (fun L=>some (.next L))))) (fun k=>(((E.take k).countP (b_S c):Nat):Int)) (fun j hj=>by
  have hx:=O _<|gE_ hj;have hk:=hle j
  rw [ix_ hj,bd_some,k_9 c hx.1,bd_some,List.take_add_one,gG_ hj,Option.toList_some,List.countP_append]
  by_cases hb:b_S c E[j]=true
  ·rw [show decide (0<c.getD E[j].toNat 0)=true from hb,iP_ rfl,bd_some,ia_ (by omega) (by omega)]
   simp [hb]
  ·rw [show decide (0<c.getD E[j].toNat 0)=false by simpa [b_S] using hb,iN_ (by simp),bd_some]
   simp [hb])
 simp only [List.take_zero,List.countP_nil,List.take_of_length_le<|Nat.le_refl _] at h
 have hk:=hle E.length
 rw [List.take_of_length_le (Nat.le_refl _)] at hk
 have h':x_ (σ:=Int) (ρ:=Int) (fun H=>(fun G=>bd (idx E ((H:Nat):Int)) fun I=>bd (c_0 c I) fun J=>bd (α:=Int) (if (decide<|0<J)=true then some (g_ G 1) else some G)<|fun L=>some<|.next L)) E.length 0 0=some (.inl ((E.countP (b_S c):Nat):Int)):=h
 rw [h',bd_some,el_inl,nz,iN_ (by omega),bd_some,c_V (by omega) (by omega),k_i (by omega) (by omega) (by omega)]
theorem q_7 (hv:X_ d=true)(hs:SmD d)(hn:1000<=n)(hE:d_t n d=some E)(W:∀e∈E,0<=e/\e<(d.rules.length:Int))(h6:E.length<=6) :
  f_l n d c=some ((E.filter<|fun e=>c.getD e.toNat 0==0).map (nmE d)):=by
 have hLIM:=a_p;unfold f_l
 rw [j_O n (by omega) d hs,hv,bd_some,iN_ (by simp),hE,bd_some]
 have h:=b_I (n:=E.length) (σ:=List Str) (ρ:=List Str) (body:=(fun I=>(fun G=>bd (idx E ((I:Nat):Int)) fun H=>bd (c_0 c H) fun J=>bd (α:=(List Str)) (if (J==0)=true then bd (idx d.rules H) fun L=>bd (psh G L.name) fun O=>some O else some G) (fun V=>some (.next V))))) (fun k=>(((E.take k).filter (fun e=>c.getD e.toNat 0==0)).map (nmE d))) (fun j hj=>by
  have hx:=W _<|gE_ hj
  rw [ix_ hj,bd_some,k_9 c hx.1,bd_some,List.take_add_one,gG_ hj,Option.toList_some,List.filter_append,List.map_append]
  by_cases hb:(c.getD E[j].toNat 0==0)=true
  ·rw [iP_ hb,c_8 hx.1 (by omega),bd_some,a_s (by
    have:=List.length_filter_le (fun e=>c.getD e.toNat 0==0)<|E.take j
    rw [List.length_map];rw [List.length_take] at this;omega),bd_some,bd_some]
   rw [show [E[j]].filter (fun e=>c.getD e.toNat 0==0)=[E[j]] from List.filter_cons_of_pos hb]
   simp only [List.map_cons,List.map_nil]
   unfold nmE
   rw [c_8 hx.1 (by omega)]
  ·rw [iN_ hb,bd_some]
   rw [show [E[j]].filter (fun e=>c.getD e.toNat 0==0)=[] from List.filter_cons_of_neg hb]
   simp)
 simp only [List.take_zero,List.filter_nil,List.map_nil,List.take_of_length_le<|Nat.le_refl _] at h
 rw [h,bd_some,el_inl]
theorem max_ok (x:Int):f_m x x=some x:=by
 unfold f_m h_9
 have:x_ (σ:=Int) (ρ:=Int) (fun L=>(fun H=>bd (idx [x] ((L:Nat):Int)) fun G=>bd (e_A G H) fun I=>bd (α:=Int) (if I=true then some G else some H)<|fun J=>some<|.next J)) [x].length 0 x=some (.inl x):=by
  have h:=b_I (n:=[x].length) (σ:=Int) (ρ:=Int) (body:=fun L=>(fun H=>bd (idx [x] ((L:Nat):Int)) fun G=>bd (e_A G H) fun I=>bd (α:=Int) (if I=true then some G else some H) (fun J=>some (.next J)))) (fun _=>x) (fun j hj=>by
   have O:j=0:=by simpa using hj
   subst O
   rw [ix_ hj,bd_some]
   unfold e_A
   simp)
  exact h
 rw [this,bd_some,el_inl,bd_some]
theorem q_8 (hc:c.length<=1000000):f_n c c=some (c.map<|fun x=>g_ x x):=by
 have hLIM:=a_p;unfold f_n
 rw [max_ok,bd_some,m_n (by omega),bd_some]
 have h:=b_I (n:=c.length) (σ:=List Int) (ρ:=List Int) (body:=fun G=>(fun H=>bd (c_0 c ((G:Nat):Int)) fun I=>bd (c_0 c ((G:Nat):Int)) fun J=>bd (upd H ((G:Nat):Int) (g_ I J)) fun L=>some (.next L))) (fun k=>(c.take k).map (fun x=>g_ x x)++List.replicate (c.length - k) 0) (fun j hj=>by
  rw [k_9 c (by omega),bd_some,bd_some,tN_,a_a hj,i_H (by omega) (by simp;omega),bd_some]
  congr 2
  rw [tN_,List.set_append_right _ _ (by simp;omega),List.take_add_one,gG_ hj,Option.toList_some,List.map_append]
  rw [show c.length - j=(c.length - (j+1))+1 by omega,List.replicate_succ]
  rw [show j - ((c.take j).map (fun x=>g_ x x)).length=0 by simp;omega,List.set_cons_zero]
  simp)
 simp only [List.take_zero,List.map_nil,Nat.sub_zero,List.nil_append,List.take_of_length_le<|Nat.le_refl _,Nat.sub_self,List.replicate_zero,List.append_nil] at h
 rw [show (List.replicate c.length (0:Int)).length=c.length by simp,h,bd_some,el_inl]
end
theorem q_9 (l:List Str):f_o l l=some true:=by
 unfold f_o
 rw [iN_ (by simp)]
 have h:=k_6 (ρ:=Bool) (n:=l.length) (body:=fun G=>(fun (_:Unit)=>bd (idx l ((G:Nat):Int)) fun H=>bd (idx l ((G:Nat):Int)) fun I=>if (H.b != I.b)=true then some (.ret false) else some (.next ()))) (fun j hj=>by
  rw [ix_ hj,bd_some,bd_some,iN_ (by simp)])
 rw [h,bd_some,el_inl]
theorem q_a {n:Nat}(hn:4000000<=n)(c:List UInt8):f_p n c=some true:=by
 have hMX:=MXv;unfold f_p h_d
 rw [bd_some]
 by_cases h1:(1048576:Int)<(c.length:Int)
 ·rw [dT_ h1];rfl
 rw [dF_ h1,iN_ (by simp)]
 obtain ⟨d,b,e1,hd,hb,hv⟩:=p_X (c:=c) (by omega) (n:=n) (by omega);have hs:=hd.sm
 rw [e1,bd3_some,q_1 hs (by omega),bd_some]
 obtain ⟨E,hE,G,hEp,H⟩:=q_5 hd hs (n:=n) (by omega);have hf:=hd.few;have hl:=indexP_len' (d:=d) (b:=b)
 -- the counts
 have hcs:sm (e_g d b)=(a_B d b).length/\(∀x∈e_g d b,0<=x)/\(e_g d b).length<=d.rules.length:=by
  unfold e_g
  cases h:okF d b
  ·rw [iN_ (by simp)]
   refine ⟨?_,fun x hx=>(by cases hx),Nat.zero_le _⟩;unfold a_B;rw [iN_ (by simp [h])];rfl
  ·rw [iP_ rfl]
   have:=q_3 (n:=d.rules.length) (m_b h) (by omega);exact ⟨this.1,this.2,by rw [m_a];exact Nat.le_refl _⟩
 obtain ⟨O,I,a7⟩:=hcs;generalize hcv:e_g d b=v at O I a7
 rw [q_4 I (by omega),bd_some,el_inl,q_6 hv hs (by omega) hE G hEp H,bd_some,q_7 hv hs (by omega) hE G H,bd_some]
 generalize hu:(E.filter<|fun e=>v.getD e.toNat 0==0).map (nmE d)=u
 have hul:E.countP (b_S v)+u.length=E.length:=by
  rw [← hu,List.length_map,← List.countP_eq_length_filter]
  have:=List.length_eq_countP_add_countP (b_S v) (l:=E)
  rw [this]
  congr 1
  refine List.countP_congr fun e he=>?_
  have h0:0<=v.getD e.toNat 0:=by
   rw [gD_]
   cases hg:v[e.toNat]? with
   | none=>exact Int.le_refl _
   | some x=>exact I x<|List.mem_of_getElem? hg
  unfold b_S;generalize v.getD e.toNat 0=y at h0
  simp only [dE_,beq_iff_eq]
  omega
 have hloop1:x_ (σ:=Unit) (ρ:=Bool) (fun J=>(fun (_:Unit)=>bd (α:=Bool) (bd (idx v ((J:Nat):Int)) fun a0=>if (decide<|0<a0)=true then bd (idx d.rules ((J:Nat):Int)) fun a1=>bd (d_N u a1.name) fun a2=>some a2 else some false) (fun a3=>if a3=true then some (.ret false) else some (.next ())))) v.length 0 ()=some (.inl ()):=by
  refine k_6 fun j hj=>?_
  rw [ix_ hj,bd_some]
  by_cases hp:0<v[j]
  ·have hjd:j<d.rules.length:=by omega
   rw [dT_ hp,iP_ rfl,ix_ hjd,bd_some,j_M,bd_some,bd_some]
   have:b_D u d.rules[j].name=false:=by
    rw [← Bool.not_eq_true]
    intro h;obtain ⟨x,hx,hxe⟩:=g_0.1 h
    rw [← hu] at hx
    obtain ⟨e,he,rfl⟩:=List.mem_map.1 hx;obtain ⟨heE,hez⟩:=List.mem_filter.1 he;have a8:=G e heE;unfold nmE at hxe
    rw [c_8 a8.1 (by omega)] at hxe
    have:=l_s hv (by omega) hjd hxe
    rw [this,a_a hj] at hez
    simp at hez
    omega
   rw [this,iN_ (by simp)]
  ·rw [dF_ hp,iN_ (by simp),bd_some,iN_ (by simp)]
 rw [hloop1,bd_some,el_inl,q_8 (by omega),bd_some]
 have hloop2:x_ (σ:=Unit) (ρ:=Bool) (fun L=>(fun (_:Unit)=>bd (α:=Bool) (if (((v.map<|fun x=>g_ x x).length:Int) != (v.length:Int))=true then some true else bd (idx (v.map<|fun x=>g_ x x) ((L:Nat):Int)) fun a4=>bd (idx v ((L:Nat):Int)) fun a5=>some<|a4 != (a_1 2 a5)) (fun a6=>if a6=true then some (.ret false) else some (.next ())))) v.length 0 ()=some (.inl ()):=by
  refine k_6 fun j hj=>?_
  rw [iN_ (by simp),ix_ (show j<(v.map<|fun x=>g_ x x).length by simpa using hj),bd_some,ix_ hj,bd_some,bd_some]
  rw [List.getElem_map,show g_ v[j] v[j]=a_1 2 v[j] by unfold g_ a_1;congr 1;omega]
  rw [iN_ (by simp)]
 rw [hloop2,bd_some,el_inl]
 have hle:E.countP (b_S v)<=E.length:=List.countP_le_length
 have hq:0<=100 * ((E.countP (b_S v):Nat):Int) / (E.length:Int)/\100 * ((E.countP (b_S v):Nat):Int) / (E.length:Int)<=100/\(100 * ((E.countP (b_S v):Nat):Int) / (E.length:Int)=100 ↔ u.length=0):=by
  generalize E.countP (b_S v)=k at hul hle
  generalize E.length=m at hul hle hEp H
  have hm:m=1∨m=2∨m=3∨m=4∨m=5∨m=6:=by omega
  rcases hm with rfl | rfl | rfl | rfl | rfl | rfl <;> omega
 obtain ⟨V,W,Y⟩:=hq;generalize 100 * ((E.countP (b_S v):Nat):Int) / (E.length:Int)=p at V W Y
 rw [show (sm v==((a_B d b).length:Int))=true by rw [O];simp,iP_ rfl,dT_ V,iP_ rfl,dT_ W,iP_ rfl]
 rw [show ((p==100)==((u.length:Int)==0))=true by
  have h3:(p==100)=((u.length:Int)==0):=by
   rw [Bool.eq_iff_iff]
   simp only [beq_iff_eq]
   rw [Y];omega
  rw [h3];simp]
 rw [iP_ rfl,p_q (by omega) hs,bd_some,p_p (by omega) hs,bd_some,q_9,bd_some,bd_some]
end Go.Vw
