
import Derived.Test.YtgpbbhplnbndeaaGreatDoorVr
namespace Go.Vw
open Go.RowKit Dat
theorem k_K {σ ρ:Type}{b1 b2:Nat->σ->Option (Out σ ρ)}(I:Nat->σ->Prop){n:Nat}(h:∀k s,k<n->I k s->∃s',b1 k s=some (.next s')/\b2 k s=some (.next s')/\I (k+1) s') :
  ∀m k s,k+m=n->I k s->∃s',n_ b1 m k s=some (.inl s')/\n_ b2 m k s=some (.inl s')/\I n s'
 | 0,k,s,hk,hi=>⟨s,rfl,rfl,by rw [← hk];exact hi⟩
 | m+1,k,s,hk,hi=>by
  obtain ⟨s',G,H,h'⟩:=h k s (by omega) hi;unfold n_
  rw [G,H]
  exact k_K I h m (k+1) s' (by omega) h'
theorem q_7 {s:Int}(h:SdI s):∃y,b_u s=some (y,y)/\g_Q s=some y/\1<=y/\SdI y:=by
 obtain ⟨L,h1⟩:=h;unfold b_u g_6 h_9 g_Q i_q b_z
 rw [b_r,bd_some]
 rw [show (!(decide ((1:Int)<=2147483647) && decide ((2147483647:Int)<=1000000000000)))=false by decide]
 simp only [bF_,fF_]
 rw [show nz (2147483647:Int)=some () by decide,bd_some,bd_some,bd_some]
 have O:R_ s 2147483647=s % 2147483647:=a_W L;have I:0<=s % 2147483647/\s % 2147483647<2147483647:=by omega
 rw [O,ia_ (by omega) (by omega),a_W (x:=s % 2147483647+2147483647) (by omega)]
 rw [show (s % 2147483647+2147483647) % 2147483647=s % 2147483647 by omega]
 rw [show decide (s % 2147483647<0)=false from dF_ (by omega)]
 generalize s % 2147483647=q at I
 have H:R_ (L_ q 48271) 2147483647=q * 48271 % 2147483647:=by rw [d_G (by omega) (by omega),a_W (by omega)]
 simp only [show decide ((1:Int)<=2147483647)=true by decide,show decide ((2147483647:Int)<=1000000000000)=true by decide,fT_,bd_some,nT_,bF_,fF_,H]
 have J:0<=q * 48271 % 2147483647/\q * 48271 % 2147483647<2147483647:=by omega
 clear H
 generalize q * 48271 % 2147483647=z at J ⊢
 unfold e_W SdI
 by_cases hz:z=0
 .subst hz;exact ⟨1,by simp,by simp,by omega,by omega⟩
 .by_cases G:(1:Int)<z
  .rw [dT_ G]
   exact ⟨z,by simp,by simp [hz],by omega,by omega⟩
  .rw [dF_ G]
   obtain rfl:z=1:=by omega
   exact ⟨1,by simp,by simp,by omega,by omega⟩
theorem m_c {s:Int}(h:SdI s):∃y,b_u s=some (y,y)/\1<=y/\SdI y/\∀m:Int,0<m->c_m m s=some (y % m,y):=by
 obtain ⟨y,G,H,h1,h2⟩:=q_7 h;refine ⟨y,G,h1,h2,λm hm=>?_⟩;unfold c_m
 rw [H,bd_some,show nz m=some () by unfold nz;rw [iN_ (by omega)],bd_some,a_W (by omega)]
theorem k_L {s:Int}(h:SdI s){n:Int}(h0:0<=n)(hn:n<=1000):∃l t,d_l s n=some (l,t)/\e_t s n=some (l,t)/\SdI t:=by
 have hL:LIM=4294967296:=rfl;unfold d_l e_t
 rw [n_e h0 (by omega),bd_some]
 obtain ⟨⟨l,t⟩,e1,e2,h1,h2⟩:=k_K (ρ:=Bt×Int) (n:=n.toNat) (b1:=λa0=>un2 λW H=>bd2 (b_u H) λI G=>bd (psh W<|mkB<|R_ I 256) λJ=>some<|.next (J,G))
  (b2:=λa1=>un2 λY L=>bd2 (c_m 256 L) λG O=>bd (psh Y<|mkB G) λV=>some<|.next (V,O))
  (λk s=>s.1.length=k/\SdI s.2) (by
   rintro k ⟨l,t⟩ hk ⟨h1,h2⟩;obtain ⟨y,e,h3,h4,h5⟩:=m_c h2
   simp only at h1
   refine ⟨(l++[mkB (R_ y 256)],y),?_,?_,by simp [h1],h4⟩
   .simp only [un2]
    rw [e,bd2_some,a_d (by omega),bd_some]
   .simp only [un2]
    rw [h5 256 (by decide),bd2_some,a_d (by omega),bd_some,a_W (by omega)]) n.toNat 0 ([],s) (by omega) ⟨rfl,h⟩
 rw [e1,e2]
 exact ⟨l,t,rfl,rfl,h2⟩
theorem m_d (x y z:Int):f_x x [y,z]=some (min (min x y) z):=by
 unfold f_x i_r
 have one:∀(a c:Int),(bd (α:=Int) (if decide (a<c) then some a else some c)<|λG=>some (Out.next G:Out Int Int))=some (.next<|min c a):=λa c=>by
  by_cases h:a<c
  .rw [dT_ h,iP_ rfl,bd_some,Int.min_def,iN_ (by omega)]
  .rw [dF_ h,iN_ (by simp),bd_some,Int.min_def,iP_ (by omega)]
 have h:=f_i (ρ:=Int) (s:=x) (n:=[y,z].length) (body:=λL=>(λH=>bd (idx [y,z] ((L:Nat):Int)) λI=>bd (some (decide (I<H))) λJ=>bd (α:=Int) (if J then some I else some H) (λG=>some (.next G)))) (λk=>if k=0 then x else if k=1 then min x y else min (min x y) z) rfl (λj hj=>by
  have O:j=0∨j=1:=by simp at hj;omega
  rcases O with rfl | rfl
  .rw [ix_ (by simp),bd_some,bd_some,one];rfl
  .rw [ix_ (by simp),bd_some,bd_some,one];rfl)
 rw [h]
 rfl
theorem q_8 {s:Int}(h1:1<=s)(h4:s<=4):c_R s=some (256 ^ s.toNat):=by
 rw [m_K h1 h4]
 have:s=1∨s=2∨s=3∨s=4:=by omega
 rcases this with rfl | rfl | rfl | rfl <;> decide
theorem q_9 {d:b_}{q:Nat}{kid s size num t:Int}{bs:Bt}{acc:List Val}{v:Val}(h:j_G q d kid s (size / 2)=some (v,t))(G:0<=size)(h1:size<=1000)(hl:acc.length<=1000) :
  (b_B<|q+1).impl_sample_1 kid ⟨num,bs,acc⟩ d s size=some (acc++[v],t):=by
 have hL:LIM=4294967296:=rfl
 show g_S q (b_B q) kid ⟨num,bs,acc⟩ d s size=_
 unfold g_S;have h':(b_B q).impl_sample d kid s (size / 2)=some (v,t):=h
 rw [j_v G (by omega) (by decide),h',bd2_some]
 show bd (bd (psh acc _) _) _=_
 rw [a_d (by omega),bd_some]
 show bd (bd (upd _ ((acc.length:Nat):Int) v) _) _=_
 rw [f_l (by simp),bd_some,bd_some,un2_mk,List.set_append_right _ _<|Nat.le_refl _,Nat.sub_self,List.set_cons_zero]
end Go.Vw
