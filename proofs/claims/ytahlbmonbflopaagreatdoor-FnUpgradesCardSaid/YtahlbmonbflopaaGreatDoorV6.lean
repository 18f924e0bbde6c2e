import Derived.Test.YtahlbmonbflopaaGreatDoorV5
namespace Go.Vw
open Go.RowKit Dat
theorem c_u {σ ρ:Type}{body:Nat->σ->Option (Out σ ρ)}(I:Nat->σ->Prop)(R:ρ->Prop){n:Nat}(h:∀k s,k<n->I k s->(∃s',body k s=some (.next s')/\I (k+1) s')∨(∃r,body k s=some (.ret r)/\R r)) :
  ∀m k s,k+m=n->I k s->(∃s',y_ body m k s=some (.inl s')/\I n s')∨(∃r,y_ body m k s=some (.inr r)/\R r)
 | 0,k,s,hk,hi=>.inl ⟨s,rfl,by rw [← hk];exact hi⟩
 | m+1,k,s,hk,hi=>by
  unfold y_
  rcases h k s (by omega) hi with ⟨s',h1,h2⟩ | ⟨r,h1,h2⟩
  .rw [h1];exact c_u I R h m (k+1) s' (by omega) h2
  .rw [h1];exact .inr ⟨r,rfl,h2⟩
theorem c_4 {σ ρ:Type}{step:σ->Option (Out σ ρ)}(I:σ->Prop)(μ:σ->Nat)(B:σ->Prop)(h:∀s,I s->(∃s',step s=some (.next s')/\I s'/\μ s'<μ s)∨(∃s',step s=some (.brk s')/\B s')) :
  ∀n s,I s->μ s<n->∃s',M_ step n s=some (.inl s')/\B s'
 | 0,s,_,hm=>by omega
 | n+1,s,hi,hm=>by
  unfold M_
  rcases h s hi with ⟨s',h1,h2,h3⟩ | ⟨s',h1,h2⟩
  .rw [h1];exact c_4 I μ B h n s' h2 (by omega)
  .rw [h1];exact ⟨s',rfl,h2⟩
end Go.Vw
namespace Go.Vw
open Go.RowKit Dat
theorem e_V (x:Nat):Lib.itoa x=Lib.decDigits x:=by unfold Lib.itoa;rw [iN_ (by omega)];simp
theorem k_N {α:Type}{l:List α}{k:Nat}(h:k<l.length):l.take (k+1)=l.take k++[l[k]]:=by rw [List.take_add_one,gG_ h];rfl
end Go.Vw
namespace Go.Vw
open Go.RowKit Dat
theorem q_s {l:List Str}{s:Str}:d_j l s=true ↔ ∃x∈l,x.b=s.b:=by
 unfold d_j;simp
theorem i_h {b:Bt}{r:b_}{num:Int}{at_:Nat}{x:List Val×Nat×Int}(G:(a_W b r num at_ x).2.2=0)(H:r.kind=9->num=0):(a_W b r num at_ x).1.items=x.1/\(a_W b r num at_ x).1.number=num/\x.2.2=0:=by
 unfold a_W at *
 by_cases hx:x.2.2=0
 .rw [iP_ hx] at *
  by_cases hk:r.kind=9
  .rw [show (r.kind==9)=true by simpa using hk] at *
   simp only [fT_] at *
   cases hb:b[x.2.1]? with
   | none=>rw [hb] at G;cases G
   | some c =>
    rw [hb] at G
    simp only at G ⊢
    by_cases hs:byteI c=b_E (b_5 b at_ x.2.1)
    .rw [iP_ hs];exact ⟨rfl,(H hk).symm,hx⟩
    .rw [iN_ hs] at G;cases G
  .rw [show (r.kind==9)=false by simpa using hk];exact ⟨rfl,rfl,hx⟩
 .rw [iN_ hx] at G;exact absurd G hx
section
variable {d:c_}{b:Bt}
end
end Go.Vw
namespace Go.Vw
open Go.RowKit Dat
section
variable {d:c_}{b:Bt}
theorem q_y (l:List Int)(x:Int):n_O l x=some (match a_H l x with | some k=>(k:Int) | none=>-1):=by
 unfold n_O n_N a_H
 rw [i_q (λk=>l.getD k 0==x) (λk=>(k:Int))]
 .cases (List.range l.length).find? (λk=>l.getD k 0==x) <;> rfl
 .intro k hk _
  rw [ix_ hk,bd_some,bd_some,a_8 hk]
  cases (l[k]==x) <;> rfl
end
end Go.Vw
namespace Go.Vw
open Go.RowKit Dat
variable {d:c_}{b:Bt}
theorem piece_len' (b:Bt)(p n:Nat):(b_5 b p<|p+n).length<=n:=by unfold b_5;simp;omega
theorem n_0 (p:Nat)(n:Int):(a_R b p n).1.bytes.length+p<=(a_R b p n).2.1:=by
 unfold a_R
 split
 .show 0+p<=p;omega
 .have:=piece_len' b p n.toNat
  show (b_5 b p<|p+n.toNat).length+p<=p+n.toNat
  omega
section
variable {b':Bt}{e:Nat}
end
end Go.Vw
namespace Go.Vw
open Go.RowKit Dat
def vsz:Nat->Val->Nat
 | 0,v=>v.bytes.length
 | m+1,v=>v.bytes.length+(v.items.map<|λx=>1+vsz m x).sum
def lsz (m:Nat)(l:List Val):Nat:=(l.map<|λx=>1+vsz m x).sum
theorem e_W (m:Nat)(v:Val)(l:List Val):lsz m (v::l)=1+vsz m v+lsz m l:=by unfold lsz;simp
theorem m_Y {m:Nat}{v:Val}:∀{l:List Val},v∈l->1+vsz m v<=lsz m l
 | a::l,h=>by
  rw [e_W]
  rcases List.mem_cons.1 h with rfl | h
  .omega
  .have:=m_Y (m:=m) h;omega
section
variable {d:c_}{b:Bt}
theorem k_Q {b:Bt}{t:UInt8}:∀f acc p c q,c_m b t f acc p=some (c,q)->c.length+p<=acc.length+q
 | 0,_,_,_,_,h=>by cases h
 | f+1,acc,p,c,q,h=>by
  unfold c_m at h
  by_cases hlt:p<b.length
  .rw [gG_ hlt] at h
   simp only at h
   split at h
   .cases h;omega
   .split at h
    .by_cases hl:p+1<b.length
     .rw [gG_ hl] at h
      have:=k_Q f _ _ _ _ h
      simp at this;omega
     .rw [gN_ (by omega)] at h
      cases h
    .have:=k_Q f _ _ _ _ h
     simp at this;omega
  .rw [gN_ (by omega)] at h
   cases h
theorem q_z {rs:List b_}{r:b_}{p:Nat}{rd:Int->Nat->RR}(h3:r.kind ≠ 3)(h4:r.kind ≠ 4)(G:r.kind ≠ 10):(rdB rs b r p rd).1.bytes=[]:=by
 unfold rdB
 split
 .split <;> rfl
 split
 .rfl
 rw [show (r.kind==3)=false by simpa using h3,show (r.kind==4)=false by simpa using h4,show (r.kind==10)=false by simpa using G]
 simp only [bF_,fF_]
 split
 .rfl
 .unfold a_W
  split
  .split
   .split
    .rfl
    .split <;> rfl
   .rfl
  .rfl
theorem m_Z (hv:R_ d=true){i:Nat}(hi:i<d.rules.length){at_:Nat}(ha:at_<=b.length):(rdW d.rules b i at_).1.bytes.length+at_<=(rdW d.rules b i at_).2.1:=by
 have hle:=(d_7 hv i hi at_ ha).1
 rw [h_d hv hi ha] at *
 generalize d.rules[i]=r at *
 by_cases h3:r.kind=3
 .clear hle;unfold rdB;rw [h3];exact n_0 _ _
 by_cases h4:r.kind=4
 .clear hle;unfold rdB;rw [h4]
  simp only [show ((4:Int)==1)=false from rfl,show ((4:Int)==2)=false from rfl,show ((4:Int)==3)=false from rfl,bF_,fF_,bQ_,fT_]
  cases hq:a_k b (O_ d.rules<|o_ r) at_ with
  | none=>show 0+at_<=at_;omega
  | some n=>simp only;have:=n_0 (b:=b) (at_+(O_ d.rules<|o_ r).size.toNat) n;omega
 by_cases G:r.kind=10
 .clear hle;unfold rdB;rw [G]
  simp only [show ((10:Int)==1)=false from rfl,show ((10:Int)==2)=false from rfl,show ((10:Int)==3)=false from rfl,show ((10:Int)==4)=false from rfl,bF_,fF_,bQ_,fT_]
  cases hq:c_w b at_ (r.bytes.getD 0 0) with
  | none=>show 0+at_<=at_;omega
  | some x =>
   obtain ⟨c,q⟩:=x;have:=k_Q _ _ _ _ _ hq
   show c.length+at_<=q
   simpa using this
 rw [q_z h3 h4 G]
 simpa using hle
end
theorem e_X {σ ρ:Type}{body:Nat->σ->Option (Out σ ρ)}(f:Nat->σ){n:Nat}{s:σ}(G:s=f 0)(h:∀j,j<n->body j (f j)=some (.next<|f<|j+1)):y_ body n 0 s=some (.inl<|f n):=by
 subst G;exact d_w f h
end Go.Vw
