
import Derived.Test.YtgpbbhplnbndeaaGreatDoorVp
import Derived.Test.YtgpbbhplnbndeaaGreatDoorVq
namespace Go.Vw
open Go.RowKit Dat
def SdI (s:Int):Prop:=0<=s/\s<=1000000000000
theorem m_b {s:Int}(h:SdI s):∃y,b_u s=some (y,y)/\1<=y/\SdI y:=by
 obtain ⟨y,e,h1,h2⟩:=r_1 h.1 h.2;exact ⟨y,e,h1,by unfold SdI;omega⟩
theorem k_I {s:Int}(h:SdI s){n:Int}(hn:n<=1000):∃l t,d_l s n=some (l,t)/\l.length=n.toNat/\SdI t:=by
 unfold d_l
 rcases c_e (ρ:=Bt×Int) (n:=n.toNat) (body:=λO=>(un2 λL G=>bd2 (b_u G) λH I=>bd (psh L (mkB (R_ H 256))) λJ=>some (.next (J,I)))) (λk s=>s.1.length=k/\SdI s.2) (λ_=>False) (by
   rintro k ⟨l,t⟩ hk ⟨h1,h2⟩;obtain ⟨y,e,_,h3⟩:=m_b h2;have hL:LIM=4294967296:=rfl
   simp only at h1
   refine .inl ⟨(l++[mkB (R_ y 256)],y),?_,by simp [h1],h3⟩
   simp only [un2]
   rw [e,bd2_some,a_d (by omega),bd_some]) n.toNat 0 ([],s) (by omega) ⟨rfl,h⟩ with ⟨⟨l,t⟩,e,h1,h2⟩ | ⟨_,_,hf⟩
 .rw [e,bd_some,el_inl];exact ⟨l,t,rfl,h1,h2⟩
 .exact hf.elim
def Bv:Nat->Nat
 | 0=>5
 | j+1=>if j+1<8 then 10+5 * Bv j else 6+Bv j
theorem q_3 (j:Nat):Bv j+6<=Bv (j+1):=by
 show _<=if j+1<8 then 10+5 * Bv j else 6+Bv j
 split <;> omega
theorem k_J {i j:Nat}(h:i<=j):Bv i<=Bv j:=by
 induction j with
 | zero =>
  have:i=0:=by omega
  subst this;exact Nat.le_refl _
 | succ j ih =>
  by_cases he:i=j+1
  .subst he;exact Nat.le_refl _
  .have:=ih (by omega);have:=q_3 j;omega
theorem q_4 (j:Nat):5<=Bv j:=by have:=k_J<|Nat.zero_le j;exact this
structure WV (d:b_):Prop where
 few:d.rules.length<=10
 seq:∀j (hj:j<d.rules.length),(d.rules[j]).kind=6->(d.rules[j]).kids.length<=5
 opt:∀j (hj:j<d.rules.length),8<=j->(d.rules[j]).kind=8
 fix:∀j (hj:j<d.rules.length),(d.rules[j]).kind=3->(d.rules[j]).size<=5
theorem sum_le {l:List Val}{m B:Nat}(h:∀v∈l,vsz m v<=B):(l.map<|λx=>1+vsz m x).sum<=l.length * (1+B):=by
 induction l with
 | nil=>simp
 | cons v l ih =>
  have h1:=h v<|mS_;have h2:=ih λv hv=>h v<|mT_ _ hv
  simp only [List.map_cons,List.sum_cons,lC_,Nat.add_mul,Nat.one_mul]
  omega
theorem q_5 {ts:List Int}{k:Nat}(hk:k<ts.length):∃q,a_y ts ts[k]=some q:=by
 cases h:a_y ts ts[k] with
 | some q=>exact ⟨q,rfl⟩
 | none =>
  unfold a_y at h
  have:=List.find?_eq_none.1 h k<|List.mem_range.2 hk
  simp [gG_ hk] at this
theorem q_6 {d:b_}(hv:I_ d=true)(hd:SmD d)(hw:WV d):∀(j:Nat)(_:j<d.rules.length)(n:Nat),j+1<=n->∀(s size:Int),SdI s->0<=size->size<=3->∃v t,j_D n d (j:Int) s size=some (v,t)/\SdI t/\∀m,vsz m v<=Bv j:=by
 intro j
 induction j using Nat.strongRecOn with
 | _ j ih =>
  intro hj n hn s size hs a1 a5;obtain ⟨n,rfl⟩:∃q,n=q+1:=⟨n - 1,by omega⟩;have hr:=a_R hv hj;have hseq:=hw.seq j hj;have hopt:=hw.opt j hj;have hfix:=hw.fix j hj;have hsm:=hd.rules
  show ∃v t,e_r n (b_s n) d (j:Int) s size=some (v,t)/\_
  unfold e_r
  rw [ix_ hj,bd_some]
  generalize d.rules[j]=r at hr hseq hopt hfix
  have hkk:=c_g hr.kind
  have items:∀(m:Int)(s' num:Int)(bs:Bt),SdI s'->bs.length<=5->0<=m->m<=5->(8<=j->m<=1)->(∀i:Nat,(i:Int)<m->0<=v_ r num i/\v_ r num i<(j:Int)) ->
    ∃v t,(bd (n_ (σ:=Int×(List Val)) (ρ:=Val×Int) (λJ=>un2 λG H=>bd (a_E r num ((J:Nat):Int)) λL=>bd2 ((b_s n).spec_l25Value d L G (b_9 size 2)) λO V=>bd (psh H O) λW=>some<|.next (V,W)) m.toNat 0 (s',([]:List Val)))<|el (un2 λG H=>some ((⟨num,bs,H⟩:Val),G))<|λa0=>some a0)=some (v,t)/\SdI t/\∀q,vsz q v<=Bv j:=by
   intro m s' num bs hs' hbs a6 a7 a8 hit;have hq:b_9 size 2=size / 2:=j_v a1 (by omega) (by decide)
   rcases c_e (ρ:=Val×Int) (n:=m.toNat) (body:=λJ=>(un2 λG H=>bd (a_E r num ((J:Nat):Int)) λL=>bd2 ((b_s n).spec_l25Value d L G (b_9 size 2)) λO V=>bd (psh H O) λW=>some (.next (V,W)))) (λk s=>SdI s.1/\s.2.length=k/\∀v∈s.2,∀q,vsz q v<=Bv (j - 1)) (λ_=>False) (by
     rintro k ⟨t,l⟩ hk ⟨h1,h2,h3⟩
     simp only at h1 h2 h3
     obtain ⟨g0,g1⟩:=hit k (by omega);have hL:LIM=4294967296:=rfl;obtain ⟨c,hc⟩:∃c:Nat,v_ r num k=c:=⟨(v_ r num k).toNat,by omega⟩;obtain ⟨v,t',e,h4,h5⟩:=ih c (by omega) (by omega) n (by omega) t (size / 2) h1 (by omega) (by omega);refine .inl ⟨(t',l++[v]),?_,h4,by simp [h2],λw hw' q=>?_⟩
     .simp only [un2]
      rw [d_B hkk,bd_some,hc,hq]
      have e':(b_s n).spec_l25Value d (c:Int) t (size / 2)=some (v,t'):=e
      rw [e',bd2_some,a_d (by omega),bd_some]
     .rcases List.mem_append.1 hw' with hw' | hw'
      .exact h3 w hw' q
      .obtain rfl:=List.mem_singleton.1 hw'
       exact Nat.le_trans (h5 q) (k_J (by omega))) m.toNat 0 (s',[]) (by omega) ⟨hs',rfl,λv hv=>by cases hv⟩ with ⟨⟨t,l⟩,e,h1,h2,h3⟩ | ⟨_,_,hf⟩
   .rw [e,bd_some,el_inl]
    refine ⟨_,t,rfl,h1,λq=>?_⟩
    simp only at h2 h3
    have a9:=q_4 j
    cases q with
    | zero=>show bs.length<=_;omega
    | succ q =>
     show bs.length+(l.map<|λx=>1+vsz q x).sum<=_
     have hsum:=sum_le (l:=l) (m:=q) (B:=Bv<|j - 1) λv hv=>h3 v hv q
     rw [h2] at hsum
     cases j with
     | zero =>
      have:m.toNat=0:=by
       rcases Nat.eq_zero_or_pos m.toNat with h | h
       .exact h
       .have:=hit 0 (by omega);omega
      rw [this] at hsum
      omega
     | succ j =>
      rw [Nat.add_sub_cancel] at hsum
      show _<=if j+1<8 then 10+5 * Bv j else 6+Bv j
      split
      .have:m.toNat * (1+Bv j)<=5 * (1+Bv j):=Nat.mul_le_mul_right _ (by omega)
       omega
      .have:m.toNat * (1+Bv j)<=1 * (1+Bv j):=Nat.mul_le_mul_right _ (by omega)
       omega
   .exact hf.elim
  have kid:∀(k:Nat),k<r.kids.length->0<=r.kids.getD k 0/\r.kids.getD k 0<(j:Int):=λk hk=>by
   rw [B_ hk];exact hr.kids _<|gE_ hk
  have hall:=c_A hr.kind;obtain ⟨y,ey,y1,hy⟩:=m_b hs;have hk:r.kind=1∨r.kind=2∨r.kind=3∨r.kind=4∨r.kind=5∨r.kind=6∨r.kind=7∨r.kind=8∨r.kind=9∨r.kind=10:=by omega
  have I:r.kind ≠ 8->¬8<=j:=λh h8=>h<|hopt h8
  rcases hk with hk | hk | hk | hk | hk | hk | hk | hk | hk | hk
  .-- an integer
   have hi:=c_N hr.kind hk;obtain ⟨x,ex,hx⟩:=k_W hi.2.1 hi.2.2
   have a2:x ≠ 0:=by
    rintro rfl
    have:(256:Int) ^ r.size.toNat=0:=by
     have:k_ 0 1 = -1:=by decide
     omega
    have h2:(0:Int)<256 ^ r.size.toNat:=Int.pow_pos (by decide)
    omega
   simp only [hk,ey,bd2_some,ex,bd_some,show nz x=some () by unfold nz;rw [iN_ a2],un4,bQ_,fT_]
   exact items 0 y _ [] hy (Nat.zero_le _) (by decide) (by decide) (by omega) (λi hi=>by omega)
  .-- constant bytes
   have a3:r.kids.length=0:=by
    have:=hr.kind;unfold O_ at this
    rw [hk] at this
    simp only [show ((2:Int)==1)=false from rfl,bF_,fF_,bQ_,fT_,aE_,dE_] at this
    have:=c_c this.1 (by omega)
    omega
   simp only [hk,un2,un3,un4,bd_some,show ((2:Int)==1)=false from rfl,show ((2:Int)==3)=false from rfl,show ((2:Int)==4)=false from rfl,show ((2:Int)==10)=false from rfl,show ((2:Int)==5)=false from rfl,show ((2:Int)==7)=false from rfl,show ((2:Int)==8)=false from rfl,bF_,fF_,a3]
   exact items 0 s 0 [] hs (Nat.zero_le _) (by decide) (by decide) (by omega) (λi hi=>by omega)
  .-- so many bytes
   have hz:=d_C hr.kind hk;obtain ⟨l,u,e,hl,hu⟩:=k_I hs (n:=r.size) (by omega);have:=hfix hk
   simp only [hk,e,bd2_some,un2,un3,un4,bd_some,show ((3:Int)==1)=false from rfl,show ((3:Int)==4)=false from rfl,show ((3:Int)==10)=false from rfl,show ((3:Int)==5)=false from rfl,show ((3:Int)==7)=false from rfl,show ((3:Int)==8)=false from rfl,bF_,fF_,bQ_,fT_]
   exact items 0 u 0 l hu (by omega) (by decide) (by decide) (by omega) (λi hi=>by omega)
  .-- bytes behind their number
   obtain ⟨hl,hn⟩:=c_z hr.kind hk
   have Y:idx r.kids 0=some (f_ r):=by
    rw [show (0:Int)=((0:Nat):Int) from rfl,ix_ (show 0<r.kids.length by omega)]
    unfold f_;rw [B_ (show 0<r.kids.length by omega)]
   have hm:0<=min (min size 400) (lim d.rules<|f_ r)/\min (min size 400) (lim d.rules<|f_ r)<=3:=by omega
   have ha:d_ (min (min size 400)<|lim d.rules<|f_ r) 1=min (min size 400) (lim d.rules<|f_ r)+1:=ia_ (by omega) (by omega);have hq:0<=y % (min (min size 400) (lim d.rules<|f_ r)+1)/\y % (min (min size 400) (lim d.rules<|f_ r)+1)<min (min size 400) (lim d.rules<|f_ r)+1:=⟨Int.emod_nonneg _ (by omega),Int.emod_lt_of_pos _ (by omega)⟩;obtain ⟨l,u,e,a4,hu⟩:=k_I hy (n:=y % (min (min size 400) (lim d.rules<|f_ r)+1)) (by omega)
   simp only [hk,ey,Y,g_x,e_7 d _ hsm,ha,a_W (show (0:Int)<=y by omega),show nz (min (min size 400) (lim d.rules<|f_ r)+1)=some () by unfold nz;rw [iN_ (by omega)],e,bd2_some,un2,un3,un4,bd_some,show ((4:Int)==1)=false from rfl,show ((4:Int)==3)=false from rfl,show ((4:Int)==10)=false from rfl,show ((4:Int)==5)=false from rfl,show ((4:Int)==7)=false from rfl,show ((4:Int)==8)=false from rfl,bF_,fF_,bQ_,fT_]
   exact items 0 u 0 l hu (by omega) (by decide) (by decide) (by omega) (λi hi=>by omega)
  .-- a row
   obtain ⟨hl,hn⟩:=b_x hr.kind hk
   have Y:idx r.kids 0=some (f_ r):=by
    rw [show (0:Int)=((0:Nat):Int) from rfl,ix_ (show 0<r.kids.length by omega)]
    unfold f_;rw [B_ (show 0<r.kids.length by omega)]
   have hm:0<=min (min size 40) (lim d.rules<|f_ r)/\min (min size 40) (lim d.rules<|f_ r)<=3:=by omega
   have ha:d_ (min (min size 40)<|lim d.rules<|f_ r) 1=min (min size 40) (lim d.rules<|f_ r)+1:=ia_ (by omega) (by omega);have hq:0<=y % (min (min size 40) (lim d.rules<|f_ r)+1)/\y % (min (min size 40) (lim d.rules<|f_ r)+1)<min (min size 40) (lim d.rules<|f_ r)+1:=⟨Int.emod_nonneg _ (by omega),Int.emod_lt_of_pos _ (by omega)⟩
   simp only [hk,ey,Y,g_x,e_7 d _ hsm,ha,a_W (show (0:Int)<=y by omega),show nz (min (min size 40) (lim d.rules<|f_ r)+1)=some () by unfold nz;rw [iN_ (by omega)],bd2_some,un2,un3,un4,bd_some,show ((5:Int)==1)=false from rfl,show ((5:Int)==3)=false from rfl,show ((5:Int)==4)=false from rfl,show ((5:Int)==10)=false from rfl,show ((5:Int)==7)=false from rfl,show ((5:Int)==8)=false from rfl,bF_,fF_,bQ_,fT_]
   refine items _ y 0 [] hy (Nat.zero_le _) hq.1 (by omega) (λh=>absurd h<|I (by omega))<|λi hi=>?_;have:v_ r 0 i=r.kids.getD 1 0:=by unfold v_;rw [hk];rfl
   rw [this];exact kid 1 (by omega)
  .-- a sequence
   have h5:=hseq hk
   simp only [hk,un2,un3,un4,bd_some,show ((6:Int)==1)=false from rfl,show ((6:Int)==3)=false from rfl,show ((6:Int)==4)=false from rfl,show ((6:Int)==10)=false from rfl,show ((6:Int)==5)=false from rfl,show ((6:Int)==7)=false from rfl,show ((6:Int)==8)=false from rfl,bF_,fF_]
   refine items _ s 0 [] hs (Nat.zero_le _) (by omega) (by omega) (λh=>absurd h<|I (by omega))<|λi hi=>?_;have:v_ r 0 i=r.kids.getD i 0:=by unfold v_;rw [hk,iN_ (by decide),iP_ (by decide),iP_ (by omega)]
   rw [this];exact kid i (by omega)
  .-- a choice
   obtain ⟨hl,hn,ht,_⟩:=b_U hr.kind hk;have hq:0<=y % (r.tags.length:Int)/\y % (r.tags.length:Int)<(r.tags.length:Int):=⟨Int.emod_nonneg _ (by omega),Int.emod_lt_of_pos _ (by omega)⟩;obtain ⟨q,hq'⟩:∃q:Nat,y % (r.tags.length:Int)=q:=⟨(y % (r.tags.length:Int)).toNat,by omega⟩;have hql:q<r.tags.length:=by omega
   simp only [hk,ey,a_W (show (0:Int)<=y by omega),hq',ix_ hql,show nz (r.tags.length:Int)=some () by unfold nz;rw [iN_ (by omega)],bd2_some,un2,un3,un4,bd_some,show ((7:Int)==1)=false from rfl,show ((7:Int)==3)=false from rfl,show ((7:Int)==4)=false from rfl,show ((7:Int)==10)=false from rfl,show ((7:Int)==5)=false from rfl,show ((7:Int)==8)=false from rfl,bF_,fF_,bQ_,fT_]
   refine items 1 y _ [] hy (Nat.zero_le _) (by decide) (by decide) (λh=>absurd h<|I (by omega))<|λi hi=>?_;obtain ⟨z,hz⟩:=q_5 hql;have hzl:=g_z hz;have:v_ r r.tags[q] i=r.kids.getD (z+1) 0:=by unfold v_;rw [hk,iN_ (by decide),iN_ (by decide),iP_ (by decide),hz]
   rw [this];exact kid (z+1) (by omega)
  .-- an option
   have hn:=b_d hr.kind<|.inl hk;have hq:0<=y % 2/\y % 2<=1:=by omega
   simp only [hk,ey,a_W (show (0:Int)<=y by omega),bd2_some,un2,un3,un4,bd_some,show ((8:Int)==1)=false from rfl,show ((8:Int)==3)=false from rfl,show ((8:Int)==4)=false from rfl,show ((8:Int)==10)=false from rfl,show ((8:Int)==5)=false from rfl,show ((8:Int)==7)=false from rfl,bF_,fF_,bQ_,fT_]
   refine items _ y 0 [] hy (Nat.zero_le _) hq.1 (by omega) (λ_=>hq.2)<|λi hi=>?_;have:v_ r 0 i=r.kids.getD 0 0:=by unfold v_;rw [hk];rfl
   rw [this];exact kid 0 (by omega)
  .-- a checked part
   have hn:=b_d hr.kind<|.inr hk
   simp only [hk,un2,un3,un4,bd_some,show ((9:Int)==1)=false from rfl,show ((9:Int)==3)=false from rfl,show ((9:Int)==4)=false from rfl,show ((9:Int)==10)=false from rfl,show ((9:Int)==5)=false from rfl,show ((9:Int)==7)=false from rfl,show ((9:Int)==8)=false from rfl,bF_,fF_]
   refine items _ s 0 [] hs (Nat.zero_le _) (by omega) (by omega) (λh=>absurd h<|I (by omega))<|λi hi=>?_;have:v_ r 0 i=r.kids.getD 0 0:=by unfold v_;rw [hk];rfl
   rw [this];exact kid 0 (by omega)
  .-- bytes and their end
   have hm:0<=min size 400/\min size 400<=3:=by omega
   have ha:d_ (min size 400) 1=min size 400+1:=ia_ (by omega) (by omega);have hq:0<=y % (min size 400+1)/\y % (min size 400+1)<min size 400+1:=⟨Int.emod_nonneg _ (by omega),Int.emod_lt_of_pos _ (by omega)⟩;obtain ⟨l,u,e,a4,hu⟩:=k_I hy (n:=y % (min size 400+1)) (by omega)
   simp only [hk,ey,g_x,ha,a_W (show (0:Int)<=y by omega),show nz (min size 400+1)=some () by unfold nz;rw [iN_ (by omega)],e,bd2_some,un2,un3,un4,bd_some,show ((10:Int)==1)=false from rfl,show ((10:Int)==3)=false from rfl,show ((10:Int)==4)=false from rfl,show ((10:Int)==5)=false from rfl,show ((10:Int)==7)=false from rfl,show ((10:Int)==8)=false from rfl,bF_,fF_,bQ_,fT_]
   exact items 0 u 0 l hu (by omega) (by decide) (by decide) (by omega) (λi hi=>by omega)
end Go.Vw
