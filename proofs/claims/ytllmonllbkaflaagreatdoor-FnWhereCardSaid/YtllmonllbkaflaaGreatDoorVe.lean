
import Derived.Test.YtllmonllbkaflaaGreatDoorVd
namespace Go.Vw
open Go.RowKit Dat
def dep:Nat->Val->Prop
 | 0,v=>v.items=[]
 | m+1,v=>∀x∈v.items,dep m x
def vsz:Nat->Val->Nat
 | 0,v=>v.bytes.length
 | m+1,v=>v.bytes.length+(v.items.map<|λx=>1+vsz m x).sum
def lsz (m:Nat)(l:List Val):Nat:=(l.map<|λx=>1+vsz m x).sum
theorem g_8 (m:Nat)(v:Val)(l:List Val):lsz m (v::l)=1+vsz m v+lsz m l:=by unfold lsz;simp
theorem k_n (m:Nat):∀l:List Val,l.length<=lsz m l
 | []=>by simp
 | v::l=>by rw [g_8,lC_];have:=k_n m l;omega
theorem m_h {m:Nat}{v:Val}:∀{l:List Val},v∈l->1+vsz m v<=lsz m l
 | a::l,h=>by
  rw [g_8]
  rcases List.mem_cons.1 h with rfl | h
  .omega
  .have:=m_h (m:=m) h;omega
theorem k_o:∀(k m:Nat)(v:Val),dep k v->k<=m->dep m v/\vsz m v=vsz k v
 | 0,0,v,h,_=>⟨h,rfl⟩
 | 0,m+1,v,h,_=>by
  have h':v.items=[]:=h;refine ⟨λx hx=>?_,?_⟩
  .rw [h'] at hx;cases hx
  .unfold vsz;rw [h'];simp
 | k+1,m+1,v,h,hk=>by
  refine ⟨λx hx=>(k_o k m x (h x hx) (by omega)).1,?_⟩;unfold vsz
  congr 2
  exact List.map_congr_left λx hx=>by rw [(k_o k m x (h x hx) (by omega)).2]
section
variable {d:c_}{b:Bt}
theorem m_i {b:Bt}{t:UInt8}:∀f acc p c q,d_t b t f acc p=some (c,q)->c.length+p<=acc.length+q
 | 0,_,_,_,_,h=>by cases h
 | f+1,acc,p,c,q,h=>by
  unfold d_t at h
  by_cases hlt:p<b.length
  .rw [gG_ hlt] at h
   simp only at h
   split at h
   .cases h;omega
   .split at h
    .by_cases hl:p+1<b.length
     .rw [gG_ hl] at h
      have:=m_i f _ _ _ _ h
      simp at this;omega
     .rw [gN_ (by omega)] at h
      cases h
    .have:=m_i f _ _ _ _ h
     simp at this;omega
  .rw [gN_ (by omega)] at h
   cases h
theorem t_l {rs:List b_}{r:b_}{p:Nat}{rd:Int->Nat->RR}(h3:r.kind ≠ 3)(h4:r.kind ≠ 4)(G:r.kind ≠ 10):(rdB rs b r p rd).1.bytes=[]:=by
 unfold rdB
 split
 .split <;> rfl
 split
 .rfl
 rw [show (r.kind==3)=false by simpa using h3,show (r.kind==4)=false by simpa using h4,show (r.kind==10)=false by simpa using G]
 simp only [bF_,fF_]
 split
 .rfl
 .unfold a_N
  split
  .split
   .split
    .rfl
    .split <;> rfl
   .rfl
  .rfl
theorem o_y (hv:D_ d=true){i:Nat}(hi:i<d.rules.length){at_:Nat}(ha:at_<=b.length):(rdW d.rules b i at_).1.bytes.length+at_<=(rdW d.rules b i at_).2.1:=by
 have hle:=(b_M hv i hi at_ ha).1
 rw [e_3 hv hi ha] at *
 generalize d.rules[i]=r at *
 by_cases h3:r.kind=3
 .clear hle;unfold rdB;rw [h3];exact o_C _ _
 by_cases h4:r.kind=4
 .clear hle;unfold rdB;rw [h4]
  simp only [show ((4:Int)==1)=false from rfl,show ((4:Int)==2)=false from rfl,show ((4:Int)==3)=false from rfl,bF_,fF_,bQ_,fT_]
  cases hq:O_ b (w_ d.rules<|n_ r) at_ with
  | none=>show 0+at_<=at_;omega
  | some n=>simp only;have:=o_C (b:=b) (at_+(w_ d.rules<|n_ r).size.toNat) n;omega
 by_cases G:r.kind=10
 .clear hle;unfold rdB;rw [G]
  simp only [show ((10:Int)==1)=false from rfl,show ((10:Int)==2)=false from rfl,show ((10:Int)==3)=false from rfl,show ((10:Int)==4)=false from rfl,bF_,fF_,bQ_,fT_]
  cases hq:c_N b at_ (r.bytes.getD 0 0) with
  | none=>show 0+at_<=at_;omega
  | some x =>
   obtain ⟨c,q⟩:=x;have:=m_i _ _ _ _ _ hq
   show c.length+at_<=q
   simpa using this
 rw [t_l h3 h4 G]
 simpa using hle
theorem o_z {rd:Int->Nat->RR}{L C m:Nat}:∀(ks:List Int)(p:Nat)(vs:List Val)(e:Nat),d_w rd L ks p vs e->(∀k∈ks,∀p,p<=L->(rd k p).2.2=0->dep m (rd k p).1/\1+vsz m (rd k p).1<=C * ((rd k p).2.1 - p)/\p<=(rd k p).2.1)->(∀x∈vs,dep m x)/\lsz m vs<=C * (e - p)/\p<=e
 | [],p,vs,e,h,_=>by
  obtain ⟨rfl,rfl⟩:=h;exact ⟨λx hx=>(by cases hx),(by simp [lsz]),Nat.le_refl _⟩
 | k::ks,p,vs,e,h,hk=>by
  obtain ⟨h1,h2,ws,rfl,h3⟩:=h;obtain ⟨g1,H,I⟩:=hk k mS_ p h1 h2;obtain ⟨G,J,O⟩:=o_z ks _ ws e h3<|λk h=>hk k<|mT_ _ h;refine ⟨λx hx=>?_,?_,by omega⟩
  .rcases List.mem_cons.1 hx with rfl | hx
   .exact g1
   .exact G x hx
  .rw [g_8]
   have:C * (e - p)=C * ((rd k p).2.1 - p)+C * (e - (rd k p).2.1):=by rw [← Nat.mul_add];congr 1;omega
   omega
theorem o_A (hv:D_ d=true):∀(i:Nat),i<d.rules.length->∀at_,at_<=b.length->dep i (rdW d.rules b i at_).1/\((rdW d.rules b i at_).2.2=0->vsz i (rdW d.rules b i at_).1<=(2 * i+1) * ((rdW d.rules b i at_).2.1 - at_)):=by
 intro i
 induction i using Nat.strongRecOn with
 | _ i ih =>
  intro hi at_ ha
  by_cases hok:(rdW d.rules b i at_).2.2=0
  rotate_left
  .rw [p_s hok]
   refine ⟨?_,λh=>absurd h hok⟩
   cases i with
   | zero=>rfl
   | succ i=>intro x hx;cases hx
  have hr:=a_L hv hi;obtain ⟨ks,e,hk⟩:=e_x hv hi ha hok;have I:=o_y hv hi ha;have hle:=hk.le;have hse:=hk.se;have hst:=hk.st.1
  cases i with
  | zero =>
   have:ks=[]:=by
    cases ks with
    | nil=>rfl
    | cons k ks=>have:=hr.kids k<|hk.kids k mS_;omega
   subst this;have G:=hk.ch.1;exact ⟨G,λ_=>by unfold vsz;omega⟩
  | succ i =>
   have hc:=o_z (m:=i) (C:=2 * i+2) ks _ _ _ hk.ch (λk hkm p hp hok'=>by
    have hkk:=hr.kids k<|hk.kids k hkm;have h1:=ih k.toNat (by omega) (by omega) p hp;have h2:=h1.2 hok';have h3:=k_o k.toNat i _ h1.1 (by omega);have h4:=p_t hv k.toNat (by omega) p hp hok';refine ⟨h3.1,?_,by omega⟩
    rw [h3.2]
    have h5:(2 * k.toNat+1) * ((rdW d.rules b k.toNat p).2.1 - p)<=(2 * i+1) * ((rdW d.rules b k.toNat p).2.1 - p):=Nat.mul_le_mul_right _ (by omega);have h6:(2 * i+2) * ((rdW d.rules b k.toNat p).2.1 - p)=(2 * i+1) * ((rdW d.rules b k.toNat p).2.1 - p)+((rdW d.rules b k.toNat p).2.1 - p):=by rw [← Nat.succ_mul]
    omega)
   refine ⟨hc.1,λ_=>?_⟩;unfold vsz;have J:(2 * i+2) * (e - a_b d.rules d.rules[i+1] at_)<=(2 * i+2) * ((rdW d.rules b (i+1) at_).2.1 - at_):=Nat.mul_le_mul_left _ (by omega);have L:(2 * (i+1)+1) * ((rdW d.rules b (i+1) at_).2.1 - at_)=(2 * i+2) * ((rdW d.rules b (i+1) at_).2.1 - at_)+((rdW d.rules b (i+1) at_).2.1 - at_):=by rw [show 2 * (i+1)+1=(2 * i+2)+1 by omega,Nat.succ_mul]
   have H:=hc.2.1;unfold lsz at H
   omega
end
theorem i_h {σ ρ:Type}{body:Nat->σ->Option (Out σ ρ)}(f:Nat->σ){n:Nat}{s:σ}(G:s=f 0)(h:∀j,j<n->body j (f j)=some (.next<|f<|j+1)):p_ body n 0 s=some (.inl<|f n):=by
 subst G;exact d_y f h
theorem o_B (m:Nat):∀(l:List Val)(j:Nat)(hj:j<l.length),lsz m (l.take j)+1+vsz m l[j]<=lsz m l
 | v::l,0,_=>by rw [g_8];simp [lsz]
 | v::l,j+1,hj=>by
  have:=o_B m l j (by simpa using hj)
  rw [List.take_succ_cons,g_8,g_8]
  simp only [List.getElem_cons_succ]
  omega
end Go.Vw
