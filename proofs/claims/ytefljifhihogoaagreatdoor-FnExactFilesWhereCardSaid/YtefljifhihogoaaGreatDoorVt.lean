import Derived.Test.YtefljifhihogoaaGreatDoorVs
namespace Go.Vw
set_option linter.unusedVariables false
open Go.RowKit Dat
variable {d:d_}{b:Bt}
theorem piece_len' (b:Bt)(p n:Nat):(a_v b p<|p+n).length<=n:=by grind [a_v]
theorem r_2 (p:Nat)(n:Int):(a_H b p n).1.bytes.length+p<=(a_H b p n).2.1:=by
 unfold a_H
 split
 .show 0+p<=p;omega
 .have:=piece_len' b p n.toNat
  show (a_v b p<|p+n.toNat).length+p<=p+n.toNat
  omega
section
variable {b':Bt}{e:Nat}
end
end Go.Vw
namespace Go.Vw
open Go.RowKit Dat
def dep:Nat->Val->Prop
 | 0,v=>v.items=[]
 | m+1,v=>∀x∈v.items,dep m x
def vsz:Nat->Val->Nat
 | 0,v=>v.bytes.length
 | m+1,v=>v.bytes.length+(v.items.map<|λx=>1+vsz m x).sum
def lsz (m:Nat)(l:List Val):Nat:=(l.map<|λx=>1+vsz m x).sum
theorem i_7 (m:Nat)(v:Val)(l:List Val):lsz m (v::l)=1+vsz m v+lsz m l:=by rfl
theorem n_T (m:Nat):∀l:List Val,l.length<=lsz m l
 | []=>by simp
 | v::l=>by rw [i_7,lC_];have:=n_T m l;omega
theorem n_U {m:Nat}{v:Val}:∀{l:List Val},v∈l->1+vsz m v<=lsz m l
 | a::l,h=>by
  rw [i_7]
  rcases QAV.1 h with rfl | h
  .omega
  .have:=n_U (m:=m) h;omega
theorem l_L:∀(k m:Nat)(v:Val),dep k v->k<=m->dep m v/\vsz m v=vsz k v
 | 0,0,v,h,_=>⟨h,rfl⟩
 | 0,m+1,v,h,_=>by
  have h':v.items=[]:=h;refine ⟨λx hx=>?_,?_⟩
  .grind
  grind [vsz]
 | k+1,m+1,v,h,hk=>by
  refine ⟨λx hx=>(l_L k m x (h x hx) (by omega)).1,?_⟩;unfold vsz
  congr 2
  exact List.map_congr_left λx hx=>by rw [(l_L k m x (h x hx) (by omega)).2]
section
variable {d:d_}{b:Bt}
theorem n_V {b:Bt}{t:UInt8}:∀f acc p c q,e_a b t f acc p=some (c,q)->c.length+p<=acc.length+q
 | 0,_,_,_,_,h=>by cases h
 | f+1,acc,p,c,q,h=>by
  unfold e_a at h
  by_cases hlt:p<b.length
  .rw [gG_ hlt] at h
   simp only at h
   split at h
   .grind
   .split at h
    .by_cases hl:p+1<b.length
     .rw [gG_ hl] at h
      have:=n_V f _ _ _ _ h
      grind
     grind
    .have:=n_V f _ _ _ _ h
     grind
  grind
theorem w_j {rs:List f_}{r:f_}{p:Nat}{rd:Int->Nat->RR}(h3:r.kind ≠ 3)(h4:r.kind ≠ 4)(G:r.kind ≠ 10):(rdB rs b r p rd).1.bytes=[]:=by
 unfold rdB
 split
 .split <;> rfl
 split
 .rfl
 rw [show (r.kind==3)=false by grind,show (r.kind==4)=false by grind,show (r.kind==10)=false by grind]
 simp only [bF_,fF_]
 split
 .rfl
 .unfold a_R
  split
  .split
   .split
    .rfl
    .split <;> rfl
   .rfl
  .rfl
theorem q_Y (hv:D_ d=true){i:Nat}(hi:i<d.rules.length){at_:Nat}(ha:at_<=b.length):(rdW d.rules b i at_).1.bytes.length+at_<=(rdW d.rules b i at_).2.1:=by
 have hle:=(c_9 hv i hi at_ ha).1
 rw [e_G hv hi ha] at *
 generalize d.rules[i]=r at *
 by_cases h3:r.kind=3
 .grind [rdB,r_2]
 by_cases h4:r.kind=4
 .clear hle;unfold rdB;rw [h4]
  simp only [show ((4:Int)==1)=false from rfl,show ((4:Int)==2)=false from rfl,show ((4:Int)==3)=false from rfl,bF_,fF_,bQ_,fT_]
  cases hq:U_ b (y_ d.rules<|p_ r) at_ with
  | none=>show 0+at_<=at_;omega
  | some n=>grind [y_,p_,r_2]
 by_cases G:r.kind=10
 .clear hle;unfold rdB;rw [G]
  simp only [show ((10:Int)==1)=false from rfl,show ((10:Int)==2)=false from rfl,show ((10:Int)==3)=false from rfl,show ((10:Int)==4)=false from rfl,bF_,fF_,bQ_,fT_]
  cases hq:d_D b at_ (r.bytes.getD 0 0) with
  | none=>show 0+at_<=at_;omega
  | some x =>
   obtain ⟨c,q⟩:=x;have:=n_V _ _ _ _ _ hq
   show c.length+at_<=q
   grind
 grind [w_j]
theorem q_Z {rd:Int->Nat->RR}{L C m:Nat}:∀(ks:List Int)(p:Nat)(vs:List Val)(e:Nat),e_g rd L ks p vs e->(∀k∈ks,∀p,p<=L->(rd k p).2.2=0->dep m (rd k p).1/\1+vsz m (rd k p).1<=C * ((rd k p).2.1 - p)/\p<=(rd k p).2.1)->(∀x∈vs,dep m x)/\lsz m vs<=C * (e - p)/\p<=e
 | [],p,vs,e,h,_=>by
  obtain ⟨rfl,rfl⟩:=h
  simp [lsz]
 | k::ks,p,vs,e,h,hk=>by
  obtain ⟨h1,h2,ws,rfl,h3⟩:=h;obtain ⟨g1,G,H⟩:=hk k mS_ p h1 h2;obtain ⟨I,J,O⟩:=q_Z ks _ ws e h3<|λk h=>hk k<|mT_ _ h;refine ⟨λx hx=>?_,?_,by omega⟩
  .grind
  .rw [i_7]
   have:C * (e - p)=C * ((rd k p).2.1 - p)+C * (e - (rd k p).2.1):=by rw [← Nat.mul_add];grind
   omega
theorem r_0 (hv:D_ d=true):∀(i:Nat),i<d.rules.length->∀at_,at_<=b.length->dep i (rdW d.rules b i at_).1/\((rdW d.rules b i at_).2.2=0->vsz i (rdW d.rules b i at_).1<=(2 * i+1) * ((rdW d.rules b i at_).2.1 - at_)):=by
 intro i
 induction i using Nat.strongRecOn with
 | _ i ih =>
  intro hi at_ ha
  by_cases hok:(rdW d.rules b i at_).2.2=0
  rotate_left
  .rw [s_H hok]
   refine ⟨?_,λh=>absurd h hok⟩
   cases i with
   | zero=>rfl
   | succ i=>intro x hx;cases hx
  have hr:=a_P hv hi;obtain ⟨ks,e,hk⟩:=f_i hv hi ha hok;have I:=q_Y hv hi ha;have hle:=hk.le;have hse:=hk.se;have hst:=hk.st.1
  cases i with
  | zero =>
   have:ks=[]:=by
    cases ks with
    | nil=>rfl
    | cons k ks=>have:=hr.kids k<|hk.kids k mS_;omega
   subst this;have G:=hk.ch.1;exact ⟨G,λ_=>by grind [vsz]⟩
  | succ i =>
   have hc:=q_Z (m:=i) (C:=2 * i+2) ks _ _ _ hk.ch (λk hkm p hp hok'=>by
    have hkk:=hr.kids k<|hk.kids k hkm;have h1:=ih k.toNat (by omega) (by omega) p hp;have h2:=h1.2 hok';have h3:=l_L k.toNat i _ h1.1 (by omega);have h4:=s_I hv k.toNat (by omega) p hp hok';refine ⟨h3.1,?_,by omega⟩
    rw [h3.2]
    have h5:(2 * k.toNat+1) * ((rdW d.rules b k.toNat p).2.1 - p)<=(2 * i+1) * ((rdW d.rules b k.toNat p).2.1 - p):=QAL _ (by omega);have h6:(2 * i+2) * ((rdW d.rules b k.toNat p).2.1 - p)=(2 * i+1) * ((rdW d.rules b k.toNat p).2.1 - p)+((rdW d.rules b k.toNat p).2.1 - p):=by rw [← QA2]
    omega)
   refine ⟨hc.1,λ_=>?_⟩;unfold vsz;have J:(2 * i+2) * (e - a_f d.rules d.rules[i+1] at_)<=(2 * i+2) * ((rdW d.rules b (i+1) at_).2.1 - at_):=Nat.mul_le_mul_left _ (by omega);have L:(2 * (i+1)+1) * ((rdW d.rules b (i+1) at_).2.1 - at_)=(2 * i+2) * ((rdW d.rules b (i+1) at_).2.1 - at_)+((rdW d.rules b (i+1) at_).2.1 - at_):=by rw [show 2 * (i+1)+1=(2 * i+2)+1 by omega,QA2]
   have H:=hc.2.1;unfold lsz at H
   omega
end
theorem j_s {σ ρ:Type}{body:Nat->σ->Option (Out σ ρ)}(f:Nat->σ){n:Nat}{s:σ}(G:s=f 0)(h:∀j,j<n->body j (f j)=some (.next<|f<|j+1)):k_ body n 0 s=some (.inl<|f n):=by
 simp_all [b_Z]
theorem r_1 (m:Nat):∀(l:List Val)(j:Nat)(hj:j<l.length),lsz m (l.take j)+1+vsz m l[j]<=lsz m l
 | v::l,0,_=>by simp [lsz]
 | v::l,j+1,hj=>by
  have:=r_1 m l j (by simpa using hj)
  rw [List.take_succ_cons,i_7,i_7]
  simp only [QA1]
  omega
end Go.Vw
