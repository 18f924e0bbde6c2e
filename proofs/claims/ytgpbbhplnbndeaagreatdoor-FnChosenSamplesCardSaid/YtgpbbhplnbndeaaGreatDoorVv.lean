
import Derived.Test.YtgpbbhplnbndeaaGreatDoorVs
import Derived.Test.YtgpbbhplnbndeaaGreatDoorVu
namespace Go.Vw
open Go.RowKit Dat
theorem q_a {d:b_}(hv:I_ d=true)(hd:SmD d)(hw:WV d)(hE:DrE d):∀(j:Nat)(_:j<d.rules.length)(n n':Nat),j+1<=n->2 * j+2<=n'->∀(s size:Int),SdI s->0<=size->size<=3->∃v t,j_D n d (j:Int) s size=some (v,t)/\j_G n' d (j:Int) s size=some (v,t)/\SdI t:=by
 intro j
 induction j using Nat.strongRecOn with
 | _ j ih =>
  intro hj n n' hn hn' s size hs a6 ab;obtain ⟨n,rfl⟩:∃q,n=q+1:=⟨n - 1,by omega⟩;obtain ⟨q,rfl⟩:∃q,n'=q+1+1:=⟨n' - 2,by omega⟩;have hr:=a_R hv hj;have hseq:=hw.seq j hj;have hfix:=hw.fix j hj;have hsm:=hd.rules;have a7:=(hE.each j hj).k7;have hL:LIM=4294967296:=rfl
  show ∃v t,e_r n (b_s n) d (j:Int) s size=some (v,t)/\g_R (q+1) (b_B<|q+1) d (j:Int) s size=some (v,t)/\_
  unfold e_r g_R
  rw [ix_ hj,bd_some,bd_some]
  have hlim:b_Y d (j:Int)=some (lim d.rules j):=d_x d _
  have hlj:(d.rules[j]).kind=1->1<=(d.rules[j]).size->(d.rules[j]).size<=4->lim d.rules j=256 ^ (d.rules[j]).size.toNat - 1:=λh1 h2 h3=>by
   unfold lim;rw [ix_ hj];simp only [h1,h2,h3,and_self,fT_]
  generalize d.rules[j]=r at hr hseq hfix hlj a7 ⊢
  have hkk:=c_g hr.kind;have hq:b_9 size 2=size / 2:=j_v a6 (by omega) (by decide)
  -- one part
  have one:∀(k:Nat)(num num':Int)(bs:Bt)(t:Int)(l:List Val),SdI t->l.length<=1000->0<=v_ r num k->v_ r num k<(j:Int) ->
    ∃v t',(bd (a_E r num (k:Int)) λI=>bd2 ((b_s n).spec_l25Value d I t (b_9 size 2)) λJ L=>bd (psh l J) λO=>some (Out.next (L,O):Out (Int×List Val) (Val×Int)))=some (.next (t',l++[v])) /\
     (b_B<|q+1).impl_sample_1 (v_ r num k) ⟨num',bs,l⟩ d t size=some (l++[v],t')/\SdI t':=by
   intro k num num' bs t l ht hl g0 g1;obtain ⟨c,hc⟩:∃c:Nat,v_ r num k=c:=⟨(v_ r num k).toNat,by omega⟩;obtain ⟨v,t',e,G,h4⟩:=ih c (by omega) (by omega) n q (by omega) (by omega) t (size / 2) ht (by omega) (by omega);refine ⟨v,t',?_,?_,h4⟩
   .have e':(b_s n).spec_l25Value d (c:Int) t (size / 2)=some (v,t'):=e
    rw [d_B hkk,bd_some,hc,hq,e',bd2_some,a_d (by omega),bd_some]
   .rw [hc];exact q_9 G a6 (by omega) hl
  -- no parts
  have none_:∀(s' num:Int)(bs:Bt),(bd (n_ (σ:=Int×(List Val)) (ρ:=Val×Int) (λY=>un2 λV W=>bd (a_E r num ((Y:Nat):Int)) λI=>bd2 ((b_s n).spec_l25Value d I V (b_9 size 2)) λJ L=>bd (psh W J) λO=>some<|.next (L,O)) (0:Int).toNat 0 (s',([]:List Val)))<|el (un2 λV W=>some ((⟨num,bs,W⟩:Val),V))<|λa8=>some a8)=some (⟨num,bs,[]⟩,s'):=λs' num bs=>rfl
  -- many parts
  have many:∀(m:Nat)(s' num num':Int)(bs:Bt)(kidf:Nat->Option Int),SdI s'->m<=100->(∀i:Nat,i<m->kidf i=some (v_ r num i)/\0<=v_ r num i/\v_ r num i<(j:Int)) ->
    ∃t l,n_ (σ:=Int×(List Val)) (ρ:=Val×Int) (λY=>un2 λV W=>bd (a_E r num ((Y:Nat):Int)) λI=>bd2 ((b_s n).spec_l25Value d I V (b_9 size 2)) λJ L=>bd (psh W J) λO=>some<|.next (L,O)) m 0 (s',([]:List Val))=some (.inl (t,l)) /\
     n_ (σ:=Int×(List Val)) (ρ:=Val×Int) (λa0=>un2 λa1 a2=>bd (kidf a0) λa3=>bd2 ((b_B<|q+1).impl_sample_1 a3 (⟨num',bs,a2⟩:Val) d a1 size) λa4 a5=>some<|.next (a5,a4)) m 0 (s',([]:List Val))=some (.inl (t,l))/\SdI t:=by
   intro m s' num num' bs kidf hs' hm hit
   obtain ⟨⟨t,l⟩,H,G,h1,h2⟩:=k_K (ρ:=Val×Int) (n:=m) (b1:=λY=>un2 λV W=>bd (a_E r num ((Y:Nat):Int)) λI=>bd2 ((b_s n).spec_l25Value d I V (b_9 size 2)) λJ L=>bd (psh W J) λO=>some<|.next (L,O))
    (b2:=λa0=>un2 λa1 a2=>bd (kidf a0) λa3=>bd2 ((b_B<|q+1).impl_sample_1 a3 (⟨num',bs,a2⟩:Val) d a1 size) λa4 a5=>some<|.next (a5,a4))
    (λk s=>SdI s.1/\s.2.length=k) (by
     rintro k ⟨t,l⟩ hk ⟨h1,h2⟩
     simp only at h1 h2
     obtain ⟨g,g0,g1⟩:=hit k hk;obtain ⟨v,t',H,G,h3⟩:=one k num num' bs t l h1 (by omega) g0 g1;refine ⟨(t',l++[v]),H,?_,h3,by simp [h2]⟩
     simp only [un2]
     rw [g,bd_some,G,bd2_some]) m 0 (s',[]) (by omega) ⟨hs',rfl⟩
   exact ⟨t,l,H,G,h1⟩
  have single:∀(num s' t':Int)(v:Val),(bd (a_E r num ((0:Nat):Int)) λI=>bd2 ((b_s n).spec_l25Value d I s' (b_9 size 2)) λJ L=>bd (psh ([]:List Val) J) λO=>some (Out.next (L,O):Out (Int×List Val) (Val×Int)))=some (.next (t',[]++[v])) ->
    n_ (σ:=Int×(List Val)) (ρ:=Val×Int) (λY=>un2 λV W=>bd (a_E r num ((Y:Nat):Int)) λI=>bd2 ((b_s n).spec_l25Value d I V (b_9 size 2)) λJ L=>bd (psh W J) λO=>some<|.next (L,O)) 1 0 (s',([]:List Val))=some (.inl (t',[v])):=λnum s' t' v h=>by
   unfold n_;simp only [un2];rw [h];rfl
  have kid:∀(k:Nat),k<r.kids.length->0<=r.kids.getD k 0/\r.kids.getD k 0<(j:Int):=λk hk=>by
   rw [B_ hk];exact hr.kids _<|gE_ hk
  have hall:=c_A hr.kind;obtain ⟨y,ey,y1,hy,hnum⟩:=m_c hs;have hk:r.kind=1∨r.kind=2∨r.kind=3∨r.kind=4∨r.kind=5∨r.kind=6∨r.kind=7∨r.kind=8∨r.kind=9∨r.kind=10:=by omega
  rcases hk with hk | hk | hk | hk | hk | hk | hk | hk | hk | hk
  .-- an integer
   have hi:=c_N hr.kind hk;have hp:(0:Int)<256 ^ r.size.toNat:=Int.pow_pos (by decide)
   have hle:(256:Int) ^ r.size.toNat<=4294967296:=by
    have:r.size=1∨r.size=2∨r.size=3∨r.size=4:=by have:=hi.2;omega
    rcases this with h | h | h | h <;> rw [h] <;> decide
   have hx:d_ (lim d.rules j) 1=256 ^ r.size.toNat:=by
    rw [hlj hk hi.2.1 hi.2.2,ia_ (by omega) (by omega)];omega
   simp only [hk,ey,bd2_some,q_8 hi.2.1 hi.2.2,bd_some,show nz (256 ^ r.size.toNat:Int)=some () by unfold nz;rw [iN_ (by omega)],un4,bQ_,fT_,hlim,hx,hnum _ hp,el_inl,a_W (show (0:Int)<=y by omega)]
   exact ⟨_,_,none_ _ _ _,rfl,hy⟩
  .-- constant bytes
   have a9:r.kids.length=0:=by
    have:=hr.kind;unfold O_ at this
    rw [hk] at this
    simp only [show ((2:Int)==1)=false from rfl,bF_,fF_,bQ_,fT_,aE_,dE_] at this
    have:=c_c this.1 (by omega)
    omega
   simp only [hk,un2,un3,un4,bd_some,show ((2:Int)==1)=false from rfl,show ((2:Int)==3)=false from rfl,show ((2:Int)==4)=false from rfl,show ((2:Int)==10)=false from rfl,show ((2:Int)==5)=false from rfl,show ((2:Int)==7)=false from rfl,show ((2:Int)==8)=false from rfl,show ((2:Int)==6)=false from rfl,show ((2:Int)==9)=false from rfl,bF_,fF_,a9,el_inl]
   exact ⟨_,_,none_ _ _ _,rfl,hs⟩
  .-- so many bytes
   have hz:=d_C hr.kind hk;obtain ⟨l,u,e,G,hu⟩:=k_L hs (n:=r.size) (by omega) (by omega)
   simp only [hk,e,G,bd2_some,un2,un3,un4,bd_some,show ((3:Int)==1)=false from rfl,show ((3:Int)==4)=false from rfl,show ((3:Int)==10)=false from rfl,show ((3:Int)==5)=false from rfl,show ((3:Int)==7)=false from rfl,show ((3:Int)==8)=false from rfl,bF_,fF_,bQ_,fT_,el_inl]
   exact ⟨_,_,none_ _ _ _,rfl,hu⟩
  .-- bytes behind their number
   obtain ⟨hl,hn⟩:=c_z hr.kind hk
   have h0:idx r.kids 0=some (f_ r):=by
    rw [show (0:Int)=((0:Nat):Int) from rfl,ix_ (show 0<r.kids.length by omega)]
    unfold f_;rw [B_ (show 0<r.kids.length by omega)]
   have hm:0<=min (min size 400) (lim d.rules<|f_ r)/\min (min size 400) (lim d.rules<|f_ r)<=3:=by omega
   have ha:d_ (min (min size 400)<|lim d.rules<|f_ r) 1=min (min size 400) (lim d.rules<|f_ r)+1:=ia_ (by omega) (by omega);have hq:0<=y % (min (min size 400) (lim d.rules<|f_ r)+1)/\y % (min (min size 400) (lim d.rules<|f_ r)+1)<min (min size 400) (lim d.rules<|f_ r)+1:=⟨Int.emod_nonneg _ (by omega),Int.emod_lt_of_pos _ (by omega)⟩;obtain ⟨l,u,e,G,hu⟩:=k_L hy (n:=y % (min (min size 400) (lim d.rules<|f_ r)+1)) (by omega) (by omega)
   simp only [hk,ey,h0,g_x,e_7 d _ hsm,d_x,m_d,ha,a_W (show (0:Int)<=y by omega),show nz (min (min size 400) (lim d.rules<|f_ r)+1)=some () by unfold nz;rw [iN_ (by omega)],hnum _ (show 0<min (min size 400) (lim d.rules<|f_ r)+1 by omega),e,G,bd2_some,un2,un3,un4,bd_some,show ((4:Int)==1)=false from rfl,show ((4:Int)==3)=false from rfl,show ((4:Int)==10)=false from rfl,show ((4:Int)==5)=false from rfl,show ((4:Int)==7)=false from rfl,show ((4:Int)==8)=false from rfl,bF_,fF_,bQ_,fT_,el_inl]
   exact ⟨_,_,none_ _ _ _,rfl,hu⟩
  .-- a row
   obtain ⟨hl,hn⟩:=b_x hr.kind hk
   have h0:idx r.kids 0=some (f_ r):=by
    rw [show (0:Int)=((0:Nat):Int) from rfl,ix_ (show 0<r.kids.length by omega)]
    unfold f_;rw [B_ (show 0<r.kids.length by omega)]
   have hm:0<=min (min size 40) (lim d.rules<|f_ r)/\min (min size 40) (lim d.rules<|f_ r)<=3:=by omega
   have ha:d_ (min (min size 40)<|lim d.rules<|f_ r) 1=min (min size 40) (lim d.rules<|f_ r)+1:=ia_ (by omega) (by omega);have hq:0<=y % (min (min size 40) (lim d.rules<|f_ r)+1)/\y % (min (min size 40) (lim d.rules<|f_ r)+1)<min (min size 40) (lim d.rules<|f_ r)+1:=⟨Int.emod_nonneg _ (by omega),Int.emod_lt_of_pos _ (by omega)⟩
   simp only [hk,ey,h0,g_x,e_7 d _ hsm,d_x,m_d,ha,a_W (show (0:Int)<=y by omega),show nz (min (min size 40) (lim d.rules<|f_ r)+1)=some () by unfold nz;rw [iN_ (by omega)],hnum _ (show 0<min (min size 40) (lim d.rules<|f_ r)+1 by omega),bd2_some,un3,un4,bd_some,show ((5:Int)==1)=false from rfl,show ((5:Int)==3)=false from rfl,show ((5:Int)==4)=false from rfl,show ((5:Int)==10)=false from rfl,show ((5:Int)==7)=false from rfl,show ((5:Int)==8)=false from rfl,bF_,fF_,bQ_,fT_]
   have hit:∀i,v_ r 0 i=r.kids.getD 1 0:=λi=>by unfold v_;rw [hk];rfl
   obtain ⟨t,l,H,G,ht⟩:=many (y % (min (min size 40) (lim d.rules (f_ r))+1)).toNat y 0 0 [] (λ_=>idx r.kids 1) hy (by omega) (λi hi=>by
    rw [hit];exact ⟨by rw [j_w (show 1<r.kids.length by omega),B_ (show 1<r.kids.length by omega)],kid 1 (by omega)⟩)
   exact ⟨_,t,(congrArg (λz=>bd z _) H).trans rfl,by rw [G];rfl,ht⟩
  .-- a sequence
   have h5:=hseq hk
   simp only [hk,un3,un4,bd_some,show ((6:Int)==1)=false from rfl,show ((6:Int)==3)=false from rfl,show ((6:Int)==4)=false from rfl,show ((6:Int)==10)=false from rfl,show ((6:Int)==5)=false from rfl,show ((6:Int)==7)=false from rfl,show ((6:Int)==8)=false from rfl,bF_,fF_,bQ_,fT_]
   obtain ⟨t,l,H,G,ht⟩:=many r.kids.length s 0 0 [] (λk=>idx r.kids ((k:Nat):Int)) hs (by omega) (λi hi=>by
    have:v_ r 0 i=r.kids.getD i 0:=by unfold v_;rw [hk,iN_ (by decide),iP_ (by decide),iP_ (by omega)]
    rw [this];exact ⟨by rw [ix_ hi,B_ hi],kid i hi⟩)
   exact ⟨_,t,(congrArg (λz=>bd z _) H).trans rfl,by rw [G];rfl,ht⟩
  .-- a choice
   obtain ⟨hl,hn,ht,h8⟩:=b_U hr.kind hk;have hq:0<=y % (r.tags.length:Int)/\y % (r.tags.length:Int)<(r.tags.length:Int):=⟨Int.emod_nonneg _ (by omega),Int.emod_lt_of_pos _ (by omega)⟩;have hnq:=hnum (r.tags.length:Int) (by omega);obtain ⟨q',hq'⟩:∃q:Nat,y % (r.tags.length:Int)=q:=⟨(y % (r.tags.length:Int)).toNat,by omega⟩
   rw [hq'] at hnq
   have hql:q'<r.tags.length:=by omega
   have hit:v_ r r.tags[q'] 0=r.kids.getD (q'+1) 0:=by unfold v_;rw [hk,iN_ (by decide),iN_ (by decide),iP_ (by decide),q_K hql (a7 hk).2.2]
   have hkq:=kid (q'+1) (by omega)
   have hki:idx r.kids (d_ (q':Int) 1)=some (r.kids.getD (q'+1) 0):=by
    rw [ia_ (by omega) (by omega),show (q':Int)+1=((q'+1:Nat):Int) by omega,ix_ (show q'+1<r.kids.length by omega),B_ (show q'+1<r.kids.length by omega)]
   obtain ⟨v,t',H,G,h3⟩:=one 0 r.tags[q'] r.tags[q'] [] y [] hy (by decide) (by rw [hit];exact hkq.1) (by rw [hit];exact hkq.2)
   rw [hit] at G
   simp only [hk,ey,a_W (show (0:Int)<=y by omega),hq',ix_ hql,show nz (r.tags.length:Int)=some () by unfold nz;rw [iN_ (by omega)],hnq,hki,G,bd2_some,un3,un4,bd_some,show ((7:Int)==1)=false from rfl,show ((7:Int)==3)=false from rfl,show ((7:Int)==4)=false from rfl,show ((7:Int)==10)=false from rfl,show ((7:Int)==5)=false from rfl,show ((7:Int)==8)=false from rfl,bF_,fF_,bQ_,fT_]
   exact ⟨_,t',(congrArg (λz=>bd z _)<|single _ _ _ _ H).trans rfl,rfl,h3⟩
  .-- an option
   have hn:=b_d hr.kind<|.inl hk;have hq:y % 2=0∨y % 2=1:=by omega
   have hit:v_ r 0 0=r.kids.getD 0 0:=by unfold v_;rw [hk];rfl
   obtain ⟨v,t',H,G,h3⟩:=one 0 0 0 [] y [] hy (by decide) (by rw [hit];exact (kid 0 (by omega)).1) (by rw [hit];exact (kid 0 (by omega)).2)
   simp only [hk,ey,a_W (show (0:Int)<=y by omega),hnum 2 (by decide),bd2_some,un3,un4,bd_some,show ((8:Int)==1)=false from rfl,show ((8:Int)==3)=false from rfl,show ((8:Int)==4)=false from rfl,show ((8:Int)==10)=false from rfl,show ((8:Int)==5)=false from rfl,show ((8:Int)==7)=false from rfl,bF_,fF_,bQ_,fT_]
   rcases hq with hq | hq
   .rw [hq]
    exact ⟨_,_,none_ _ _ _,rfl,hy⟩
   .have aa:idx r.kids 0=some (r.kids.getD 0 0):=by rw [b_2 (show 0<r.kids.length by omega),B_ (show 0<r.kids.length by omega)]
    rw [hit] at G
    rw [hq]
    simp only [bQ_,fT_,aa,bd_some,G,bd2_some]
    exact ⟨_,t',(congrArg (λz=>bd z _)<|single _ _ _ _ H).trans rfl,rfl,h3⟩
  .-- a checked part
   have hn:=b_d hr.kind<|.inr hk
   simp only [hk,un3,un4,bd_some,show ((9:Int)==1)=false from rfl,show ((9:Int)==3)=false from rfl,show ((9:Int)==4)=false from rfl,show ((9:Int)==10)=false from rfl,show ((9:Int)==5)=false from rfl,show ((9:Int)==7)=false from rfl,show ((9:Int)==8)=false from rfl,show ((9:Int)==6)=false from rfl,bF_,fF_,bQ_,fT_]
   obtain ⟨t,l,H,G,ht⟩:=many r.kids.length s 0 0 [] (λk=>idx r.kids ((k:Nat):Int)) hs (by omega) (λi hi=>by
    obtain rfl:i=0:=by omega
    have:v_ r 0 0=r.kids.getD 0 0:=by unfold v_;rw [hk];rfl
    rw [this];exact ⟨by rw [ix_ hi,B_ hi],kid 0 hi⟩)
   exact ⟨_,t,(congrArg (λz=>bd z _) H).trans rfl,by rw [G];rfl,ht⟩
  .-- bytes and their end
   have hm:0<=min size 400/\min size 400<=3:=by omega
   have ha:d_ (min size 400) 1=min size 400+1:=ia_ (by omega) (by omega);have hq:0<=y % (min size 400+1)/\y % (min size 400+1)<min size 400+1:=⟨Int.emod_nonneg _ (by omega),Int.emod_lt_of_pos _ (by omega)⟩;obtain ⟨l,u,e,G,hu⟩:=k_L hy (n:=y % (min size 400+1)) (by omega) (by omega)
   simp only [hk,ey,g_x,e_g,ha,a_W (show (0:Int)<=y by omega),show nz (min size 400+1)=some () by unfold nz;rw [iN_ (by omega)],hnum _ (show 0<min size 400+1 by omega),e,G,bd2_some,un2,un3,un4,bd_some,show ((10:Int)==1)=false from rfl,show ((10:Int)==3)=false from rfl,show ((10:Int)==4)=false from rfl,show ((10:Int)==5)=false from rfl,show ((10:Int)==7)=false from rfl,show ((10:Int)==8)=false from rfl,bF_,fF_,bQ_,fT_,el_inl]
   exact ⟨_,_,none_ _ _ _,rfl,hu⟩
theorem q_b {d:b_}(hv:I_ d=true)(hd:SmD d)(hw:WV d)(hE:DrE d){n:Nat}(hn:1000<=n){s:Int}(hs:SdI s):∃w:Bt×Bool,d_L n d s 3=some w/\(d_m n d s 3=some w∨(d_m n d s 3=some ([],false)/\∃z,e_V n d (a_z d)=some z/\400<z))/\w.1.length<=400/\(w.2=true->∃(k:Nat)(v:Val),a_z d=(k:Int)/\VP d.rules (k+1) k v/\Prt d.rules (k+1) k v w.1):=by
 have hl:=b_5 hv;have H:Bv 9<=1120000:=by decide
 obtain ⟨z,hz⟩:=r_i hd (n:=n) (by omega)<|a_z d;obtain ⟨j,hj⟩:∃j:Nat,a_z d=(j:Int):=⟨d.rules.length - 1,by unfold a_z;omega⟩;have hjl:j<d.rules.length:=by unfold a_z at hj;omega
 have hroot:a_G d (a_z d)=true:=by rw [hj];unfold a_G;simp [hjl]
 obtain ⟨v,t,G,I,ht⟩:=q_a hv hd hw hE j hjl n n (by have:=hw.few;omega) (by have:=hw.few;omega) s 3 hs (by decide) (by decide);obtain ⟨v',t',e1',_,hb⟩:=q_6 hv hd hw j hjl n (by have:=hw.few;omega) s 3 hs (by decide) (by decide)
 have hbv:∀m,vsz m v<=Bv 9:=λm=>by
  rw [G] at e1'
  have:v=v':=by have:=Option.some.inj e1';exact (Prod.mk.inj this).1
  rw [this]
  exact Nat.le_trans (hb m)<|k_J (by have:=hw.few;omega)
 obtain ⟨w,J,L,O,V⟩:=q_2 hd (v:=v) hn λm _=>Nat.le_trans (hbv m) H
 refine ⟨w,?_,?_,O,λh=>?_⟩
 .unfold d_L i_o
  rw [h_t hd,bd_some,j_4 d hd,bd_some,hv,hroot]
  simp only [Bool.and_self,nT_,bF_,fF_]
  rw [show e_W 0 3=some 3 by decide,bd_some,hj,G,bd2_some,bd_some,J]
  rfl
 .unfold d_m i_s
  rw [j_t hd,bd_some,hz,bd_some]
  by_cases h:400<z
  .rw [dT_ h];exact .inr ⟨rfl,z,rfl,h⟩
  .rw [dF_ h]
   left
   rw [iN_ (by simp),bd_some,e_9 n (by omega) d hd,hv,hroot]
   simp only [Bool.and_self,nT_,bF_,fF_,bd_some]
   unfold i_p
   rw [bd_some,l_1,bd_some,show max (3:Int) 0=3 from rfl,hj,I,bd2_some,bd_some,L]
   rfl
 .obtain ⟨_,k,hk,h1,h2⟩:=V h;exact ⟨k,v,hk,h1,h2⟩
end Go.Vw
