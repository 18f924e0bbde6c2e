
import Derived.Test.YtnncfaaebnkcbaaGreatDoorVwP24
namespace Go.Vw
open Go.RowKit Dat
def dep:Nat->Val->Prop
 | 0,v=>v.items=[]
 | m+1,v=>∀x∈v.items,dep m x
def vsz:Nat->Val->Nat
 | 0,v=>v.bytes.length
 | m+1,v=>v.bytes.length+(v.items.map<|fun x=>1+vsz m x).sum
def lsz (m:Nat)(l:List Val):Nat:=(l.map<|fun x=>1+vsz m x).sum
theorem b_V (m:Nat)(v:Val)(l:List Val):lsz m (v::l)=1+vsz m v+lsz m l:=by unfold lsz;simp
theorem g_E (m:Nat):∀l:List Val,l.length<=lsz m l
 | []=>by simp
 | v::l=>by rw [b_V,lC_];have:=g_E m l;omega
theorem e_5 {m:Nat}{v:Val}:∀{l:List Val},v∈l->1+vsz m v<=lsz m l
 | a::l,h=>by
  rw [b_V]
  rcases List.mem_cons.1 h with rfl | h
  ·omega
  ·have:=e_5 (m:=m) h;omega
theorem f_A:∀(k m:Nat)(v:Val),dep k v->k<=m->dep m v/\vsz m v=vsz k v
 | 0,0,v,h,_=>⟨h,rfl⟩
 | 0,m+1,v,h,_=>by
  have h':v.items=[]:=h;refine ⟨fun x hx=>?_,?_⟩
  ·rw [h'] at hx;cases hx
  ·unfold vsz;rw [h'];simp
 | k+1,m+1,v,h,hk=>by
  refine ⟨fun x hx=>(f_A k m x (h x hx) (by omega)).1,?_⟩;unfold vsz
  congr 2
  exact List.map_congr_left fun x hx=>by rw [(f_A k m x (h x hx) (by omega)).2]
section
variable {d:f_}{b:List UInt8}
theorem j_T {b:List UInt8}{t:UInt8}:∀f acc p c q,c_L b t f acc p=some (c,q)->c.length+p<=acc.length+q
 | 0,_,_,_,_,h=>by cases h
 | f+1,acc,p,c,q,h=>by
  unfold c_L at h
  by_cases hlt:p<b.length
  ·rw [gG_ hlt] at h
   simp only at h
   split at h
   ·cases h;omega
   ·split at h
    ·by_cases hl:p+1<b.length
     ·rw [gG_ hl] at h
      have:=j_T f _ _ _ _ h
      simp at this;omega
     ·rw [gN_ (by omega)] at h
      cases h
    ·have:=j_T f _ _ _ _ h
     simp at this;omega
  ·rw [gN_ (by omega)] at h
   cases h
theorem q_8 {rs:List b_}{r:b_}{p:Nat}{rd:Int->Nat->RR}(h3:r.kind ≠ 3)(h4:r.kind ≠ 4)(G:r.kind ≠ 10):(rdB rs b r p rd).1.bytes=[]:=by
 unfold rdB
 split
 ·split <;> rfl
 split
 ·rfl
 rw [show (r.kind==3)=false by simpa using h3,show (r.kind==4)=false by simpa using h4,show (r.kind==10)=false by simpa using G]
 simp only [bF_,fF_]
 split
 ·rfl
 ·unfold b_n
  split
  ·split
   ·split
    ·rfl
    ·split <;> rfl
   ·rfl
  ·rfl
theorem q_9 (hv:a_5 d=true){i:Nat}(hi:i<d.rules.length){at_:Nat}(ha:at_<=b.length):(rdW d.rules b i at_).1.bytes.length+at_<=(rdW d.rules b i at_).2.1:=by
 have hle:=(d_e hv i hi at_ ha).1
 rw [g_I hv hi ha] at *
 generalize d.rules[i]=r at *
 by_cases h3:r.kind=3
 ·clear hle;unfold rdB;rw [h3];exact m_y _ _
 by_cases h4:r.kind=4
 ·clear hle;unfold rdB;rw [h4]
  simp only [show ((4:Int)==1)=false from rfl,show ((4:Int)==2)=false from rfl,show ((4:Int)==3)=false from rfl,bF_,fF_,bQ_,fT_]
  cases hq:a_r b (K_ d.rules<|s_ r) at_ with
  | none=>show 0+at_<=at_;omega
  | some n=>simp only;have:=m_y (b:=b) (at_+(K_ d.rules<|s_ r).size.toNat) n;omega
 by_cases G:r.kind=10
 ·clear hle;unfold rdB;rw [G]
  simp only [show ((10:Int)==1)=false from rfl,show ((10:Int)==2)=false from rfl,show ((10:Int)==3)=false from rfl,show ((10:Int)==4)=false from rfl,bF_,fF_,bQ_,fT_]
  cases hq:c_M b at_ (r.bytes.getD 0 0) with
  | none=>show 0+at_<=at_;omega
  | some x =>
   obtain ⟨c,q⟩:=x;have:=j_T _ _ _ _ _ hq
   show c.length+at_<=q
   simpa using this
 rw [q_8 h3 h4 G]
 simpa using hle
theorem m_r {rd:Int->Nat->RR}{L C m:Nat}:∀(ks:List Int)(p:Nat)(vs:List Val)(e:Nat),g_J rd L ks p vs e->(∀k∈ks,∀p,p<=L->(rd k p).2.2=0->dep m (rd k p).1/\1+vsz m (rd k p).1<=C * ((rd k p).2.1 - p)/\p<=(rd k p).2.1)->(∀x∈vs,dep m x)/\lsz m vs<=C * (e - p)/\p<=e
 | [],p,vs,e,h,_=>by
  obtain ⟨rfl,rfl⟩:=h;exact ⟨fun x hx=>(by cases hx),(by simp [lsz]),Nat.le_refl _⟩
 | k::ks,p,vs,e,h,hk=>by
  obtain ⟨h1,h2,ws,rfl,h3⟩:=h;obtain ⟨g1,H,I⟩:=hk k mS_ p h1 h2;obtain ⟨G,J,O⟩:=m_r ks _ ws e h3<|fun k h=>hk k<|mT_ _ h;refine ⟨fun x hx=>?_,?_,by omega⟩
  ·rcases List.mem_cons.1 hx with rfl | hx
   ·exact g1
   ·exact G x hx
  ·rw [b_V]
   have:C * (e - p)=C * ((rd k p).2.1 - p)+C * (e - (rd k p).2.1):=by rw [← Nat.mul_add];congr 1;omega
   omega
theorem m_s (hv:a_5 d=true):∀(i:Nat),i<d.rules.length->∀at_,at_<=b.length->dep i (rdW d.rules b i at_).1/\((rdW d.rules b i at_).2.2=0->vsz i (rdW d.rules b i at_).1<=(2 * i+1) * ((rdW d.rules b i at_).2.1 - at_)):=by
 intro i
 induction i using Nat.strongRecOn with
 | _ i ih =>
  intro hi at_ ha
  by_cases hok:(rdW d.rules b i at_).2.2=0
  rotate_left
  ·rw [k_3 hok]
   refine ⟨?_,fun h=>absurd h hok⟩
   cases i with
   | zero=>rfl
   | succ i=>intro x hx;cases hx
  have hr:=b_X hv hi;obtain ⟨ks,e,hk⟩:=m_J hv hi ha hok;have I:=q_9 hv hi ha;have hle:=hk.le;have hse:=hk.se;have hst:=hk.st.1
  cases i with
  | zero =>
   have:ks=[]:=by
    cases ks with
    | nil=>rfl
    | cons k ks=>have:=hr.kids k<|hk.kids k mS_;omega
   subst this;have G:=hk.ch.1;exact ⟨G,fun _=>by unfold vsz;omega⟩
  | succ i =>
   have hc:=m_r (m:=i) (C:=2 * i+2) ks _ _ _ hk.ch (fun k hkm p hp hok'=>by
    have hkk:=hr.kids k<|hk.kids k hkm;have h1:=ih k.toNat (by omega) (by omega) p hp;have h2:=h1.2 hok';have h3:=f_A k.toNat i _ h1.1 (by omega);have h4:=rdW_lt hv k.toNat (by omega) p hp hok';refine ⟨h3.1,?_,by omega⟩
    rw [h3.2]
    have h5:(2 * k.toNat+1) * ((rdW d.rules b k.toNat p).2.1 - p)<=(2 * i+1) * ((rdW d.rules b k.toNat p).2.1 - p):=Nat.mul_le_mul_right _ (by omega);have h6:(2 * i+2) * ((rdW d.rules b k.toNat p).2.1 - p)=(2 * i+1) * ((rdW d.rules b k.toNat p).2.1 - p)+((rdW d.rules b k.toNat p).2.1 - p):=by rw [← Nat.succ_mul]
    omega)
   refine ⟨hc.1,fun _=>?_⟩;unfold vsz;have J:(2 * i+2) * (e - a_W d.rules d.rules[i+1] at_)<=(2 * i+2) * ((rdW d.rules b (i+1) at_).2.1 - at_):=Nat.mul_le_mul_left _ (by omega);have L:(2 * (i+1)+1) * ((rdW d.rules b (i+1) at_).2.1 - at_)=(2 * i+2) * ((rdW d.rules b (i+1) at_).2.1 - at_)+((rdW d.rules b (i+1) at_).2.1 - at_):=by rw [show 2 * (i+1)+1=(2 * i+2)+1 by omega,Nat.succ_mul]
   have H:=hc.2.1;unfold lsz at H
   omega
end
theorem e_6 {σ ρ:Type}{body:Nat->σ->Option (Out σ ρ)}(f:Nat->σ){n:Nat}{s:σ}(G:s=f 0)(h:∀j,j<n->body j (f j)=some (.next<|f<|j+1)):w_ body n 0 s=some (.inl<|f n):=by
 subst G;exact c_g f h
theorem q_a {n:Nat}{l:List Val}(h:∀x∈l,l_2 n x x=some true):n_t (n+1) l l=some true:=by
 show h_D n (c_9 n) l l=some true
 unfold h_D
 rw [iN_ (by simp),e_6 (fun _=>()) (n:=l.length) rfl (fun j hj=>by
  have:=h l[j] (gE_ hj)
  rw [ix_ hj,bd_some,bd_some,show (c_9 n).laws_eqValue l[j] l[j]=some true from this];rfl)]
 rfl
theorem m_t:∀(m n:Nat)(v:Val),dep m v->2 * m+2<=n->l_2 n v v=some true
 | m,n,v,h,hn=>by
  obtain ⟨n,rfl⟩:∃k,n=k+2:=⟨n - 2,by omega⟩
  have hitems:n_t (n+1) v.items v.items=some true:=q_a fun x hx=>by
   cases m with
   | zero=>have h':v.items=[]:=h;rw [h'] at hx;cases hx
   | succ m=>exact m_t m n x (h x hx) (by omega)
  show h_C (n+1) (c_9<|n+1) v v=some true
  unfold h_C
  rw [iN_ (by simp),j_L,bd_some,iN_ (by simp),show (c_9<|n+1).laws_eqValueS v.items v.items=some true from hitems]
  rfl
def d_u (n:Nat)(k:Int):List UInt8:=(List.range n).map (fun (i:Nat)=>mkB<|k+i)
def a_v (f:Val->Int->Val×Int):List Val->Int->List Val×Int
 | [],k=>([],k)
 | v::l,k=>((f v k).1::(a_v f l (f v k).2).1,(a_v f l (f v k).2).2)
def a_w:Nat->Val->Int->Val×Int
 | 0,v,k=>(⟨k,d_u v.bytes.length<|k+1,[]⟩,k+1+v.bytes.length)
 | m+1,v,k=>(⟨k,d_u v.bytes.length<|k+1,(a_v (a_w m) v.items<|k+1+v.bytes.length).1⟩,(a_v (a_w m) v.items<|k+1+v.bytes.length).2)
theorem m_u (f:Val->Int->Val×Int):∀(l m:List Val)(k:Int),a_v f (l++m) k=((a_v f l k).1++(a_v f m (a_v f l k).2).1,(a_v f m (a_v f l k).2).2)
 | [],m,k=>rfl
 | v::l,m,k=>by rw [List.cons_append,a_v,m_u f l m,a_v];rfl
theorem j_U (f:Val->Int->Val×Int):∀(l:List Val)(k:Int),(a_v f l k).1.length=l.length
 | [],k=>rfl
 | v::l,k=>by rw [a_v,lC_,j_U f l,lC_]
theorem i_s {m:Nat}(hf:∀v k,dep m v->(a_w m v k).2=k+1+vsz m v):∀(l:List Val)(k:Int),(∀x∈l,dep m x)->(a_v (a_w m) l k).2=k+lsz m l
 | [],k,_=>by simp [a_v,lsz]
 | v::l,k,h=>by
  rw [a_v,i_s hf l _<|fun x hx=>h x<|mT_ _ hx,hf v k<|h v mS_,b_V]
  omega
theorem j_V:∀(m:Nat)(v:Val)(k:Int),dep m v->(a_w m v k).2=k+1+vsz m v
 | 0,v,k,_=>rfl
 | m+1,v,k,h=>by
  unfold a_w vsz
  simp only
  rw [i_s (j_V m) v.items _ h]
  unfold lsz
  omega
theorem j_W {α:Type}{A R:List α}{v:α}{j:Nat}(h:A.length=j):idx (A++v::R) (j:Int)=some v:=by
 rw [ix_ (by simp;omega)];simp [← h]
theorem j_X {α:Type}{A R:List α}{v x:α}{j:Nat}(h:A.length=j):(A++v::R).set j x=A++x::R:=by
 subst h;simp
theorem q_b {α:Type}{A R:List α}{v x:α}{j:Nat}(h:A.length=j):upd (A++v::R) (j:Int) x=some (A++x::R):=by
 rw [c_f (by simp;omega),j_X h]
def b_W (f:Val->Int->Val×Int)(l:List Val)(k:Int)(j:Nat):Int:=(a_v f (l.take j) k).2
theorem q_c {f:Val->Int->Val×Int}{l:List Val}{k:Int}{j:Nat}(hj:j<l.length):b_W f l k (j+1)=(f l[j] (b_W f l k j)).2/\(a_v f (l.take<|j+1) k).1=(a_v f (l.take j) k).1++[(f l[j] (b_W f l k j)).1]:=by
 unfold b_W
 rw [c_o hj,m_u]
 exact ⟨rfl,rfl⟩
theorem m_v (m:Nat):∀(l:List Val)(j:Nat)(hj:j<l.length),lsz m (l.take j)+1+vsz m l[j]<=lsz m l
 | v::l,0,_=>by rw [b_V];simp [lsz]
 | v::l,j+1,hj=>by
  have:=m_v m l j (by simpa using hj)
  rw [List.take_succ_cons,b_V,b_V]
  simp only [List.getElem_cons_succ]
  omega
theorem q_d {m:Nat}{l:List Val}(h:∀x∈l,dep m x)(k:Int)(j:Nat):b_W (a_w m) l k j=k+lsz m (l.take j):=i_s (j_V m) _ k<|fun x hx=>h x<|List.mem_of_mem_take hx
theorem v_n (a:Int)(x:List UInt8)(l:List Val):(Val.mk a x l).number=a:=rfl
theorem v_b (a:Int)(x:List UInt8)(l:List Val):(Val.mk a x l).bytes=x:=rfl
theorem v_i (a:Int)(x:List UInt8)(l:List Val):(Val.mk a x l).items=l:=rfl
theorem q_e {n:Nat}(hn:2<=n)(k:Int):f_W n [] k=some (k,[]):=by
 obtain ⟨n,rfl⟩:∃m,n=m+2:=⟨n - 2,by omega⟩
 rfl
theorem m_w {m n:Nat}{l:List Val}{k:Int}(h:∀x∈l,dep m x)(h0:0<=k)(hk:k+lsz m l<=1152921504606846976)(hn:lsz m l<n)
  (hrec:∀x∈l,∀k:Int,0<=k->k+1+vsz m x<=1152921504606846976->∃y:List Val×Int,y.2=(a_w m x k).2/\y.1=(a_w m x k).1.items/\f_W n x.items (k+1+x.bytes.length)=some (y.2,y.1)) :
  f_W (n+1) l k=some ((a_v (a_w m) l k).2,(a_v (a_w m) l k).1):=by
 show h_E n (e_p n) l k=_
 unfold h_E;have hlen:=g_E m l
 have:=i_B (σ:=(List Val)×Int×Int) (ρ:=Int×(List Val)) (step:=un3 fun I J G=>if (decide<|G<(I.length:Int))=true then bd (idx I G) fun W=>bd (upd I G (⟨J,W.bytes,W.items⟩:Val)) fun L=>bd (idx L G) fun H=>bd2 (c_u n H.bytes<|i_ J 1) fun a0 Y=>bd (idx (L.set (G).toNat (⟨H.number,Y,H.items⟩:Val)) G) fun O=>bd2 ((e_p n).laws_markValueS O.items a0) fun a1 a2=>some (.next ((L.set (G).toNat (⟨H.number,Y,H.items⟩:Val)).set (G).toNat (⟨O.number,O.bytes,a2⟩:Val),a1,i_ G 1)) else some (.brk (I,J,G)))
  (fun j=>((a_v (a_w m) (l.take j) k).1++l.drop j,b_W (a_w m) l k j,((j:Nat):Int))) (s:=((a_v (a_w m) l k).1,(a_v (a_w m) l k).2,(l.length:Int))) (m:=n) (j0:=l.length) (by omega) (fun j hj=>by
   have hA:(a_v (a_w m) (l.take j) k).1.length=j:=by rw [j_U];simp;omega
   have hks:=q_d h k j;have hsz:=m_v m l j hj;have hmem:=gE_ hj;obtain ⟨y,y1,y2,y3⟩:=hrec l[j] hmem (b_W (a_w m) l k j) (by omega) (by omega);have hby:l[j].bytes.length<=vsz m l[j]:=by cases m with | zero=>exact Nat.le_refl _ | succ m=>unfold vsz;omega
   simp only [un3]
   rw [dC_ hj]
   rw [dT_ (by rw [List.length_append,hA,lC_];omega)]
   simp only [fT_,tN_]
   rw [j_W hA,bd_some,q_b hA,bd_some,j_W hA,bd_some]
   simp only [v_n,v_b,v_i]
   rw [ia_ (by omega) (by omega),g_A (l:=l[j].bytes) (by omega) (by omega) (by omega)]
   simp only [bd2_some]
   rw [j_X hA,j_W hA,bd_some]
   simp only [v_n,v_b,v_i]
   rw [show (e_p n).laws_markValueS l[j].items (b_W (a_w m) l k j+1+l[j].bytes.length)=some (y.2,y.1) from y3]
   simp only [bd2_some]
   rw [j_X hA,ia_ (x:=(j:Int)) (by omega) (by omega),y1,y2]
   obtain ⟨V,e2⟩:=q_c (f:=a_w m) (k:=k) hj
   rw [V,e2,List.append_assoc,List.singleton_append]
   have a3:(a_w m l[j] (b_W (a_w m) l k j)).1=⟨b_W (a_w m) l k j,d_u l[j].bytes.length (b_W (a_w m) l k j+1),(a_w m l[j] (b_W (a_w m) l k j)).1.items⟩:=by cases m <;> rfl
   rw [a3]
   rfl) (by
   have hA:(a_v (a_w m) l k).1.length=l.length:=j_U _ _ _
   simp only [un3,List.take_length,List.drop_length,List.append_nil]
   rw [dF_ (by omega)]
   simp only [bF_,fF_]
   unfold b_W
   rw [List.take_length])
 have e0:b_W (a_w m) l k 0=k:=by unfold b_W;rw [List.take_zero];rfl
 simp only [List.take_zero,List.drop_zero,Int.natCast_zero,e0] at this
 have V:(a_v (a_w m) [] k).1++l=l:=rfl
 rw [V] at this
 rw [this]
 rfl
theorem m_x:∀(m n:Nat)(l:List Val)(k:Int),(∀x∈l,dep m x)->0<=k->k+lsz m l<=1152921504606846976->lsz m l+m+3<=n->f_W n l k=some ((a_v (a_w m) l k).2,(a_v (a_w m) l k).1)
 | 0,n,l,k,h,G,hk,hn=>by
  obtain ⟨n,rfl⟩:∃m,n=m+1:=⟨n - 1,by omega⟩;refine m_w h G hk (by omega) fun x hx k' h0' hk'=>⟨([],k'+1+x.bytes.length),rfl,rfl,?_⟩
  rw [show x.items=[] from h x hx,q_e (by omega)]
 | m+1,n,l,k,h,G,hk,hn=>by
  obtain ⟨n,rfl⟩:∃m,n=m+1:=⟨n - 1,by omega⟩;refine m_w h G hk (by omega) fun x hx k' h0' hk'=>⟨((a_v (a_w m) x.items<|k'+1+x.bytes.length).1,(a_v (a_w m) x.items<|k'+1+x.bytes.length).2),rfl,rfl,?_⟩
  have hs:=e_5 (m:=m+1) hx;have hv:vsz (m+1) x=x.bytes.length+lsz m x.items:=rfl
  show f_W n x.items (k'+1+x.bytes.length)=_
  exact m_x m n x.items _ (h x hx) (by omega) (by omega) (by omega)
theorem q_f {m:Nat}{k:Int}(G:0<=k)(hk:k+m<=1152921504606846976):f_V (d_u m k) k=some (k+m):=by
 unfold f_V
 rw [e_6 (fun j=>k+(j:Int)) (n:=(d_u m k).length) (by simp) (fun j hj=>by
  rw [ix_ hj]
  unfold d_u at hj ⊢
  simp at hj
  simp only [bd_some,List.getElem_map,List.getElem_range]
  rw [ia_ (x:=k+(j:Int)) (by omega) (by omega)]
  simp only [bN_,bF_,fF_]
  congr 2
  omega)]
 unfold d_u
 simp
end Go.Vw
