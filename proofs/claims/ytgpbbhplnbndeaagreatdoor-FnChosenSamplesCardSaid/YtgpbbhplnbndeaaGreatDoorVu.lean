
import Derived.Test.YtgpbbhplnbndeaaGreatDoorVg
import Derived.Test.YtgpbbhplnbndeaaGreatDoorVt
namespace Go.Vw
open Go.RowKit Dat
section
variable {d:b_}{b:Bt}{r:c_}
theorem h_w {l:List Int}{i:Int}(G:0<=i)(h:i<l.length):∃z,idx l i=some z:=by
 unfold idx
 rw [iP_ G]
 exact ⟨_,gG_ (by omega)⟩
theorem l_0 {σ ρ β:Type}{body:Nat->σ->Option (Out σ ρ)}{n:Nat}{s:σ}{f:σ->Option β}{g:ρ->Option β}{P:β->Prop}(I:σ->Prop)(G:I s)(h:∀k s,k<n->I s->∃s',body k s=some (.next s')/\I s')(hf:∀s,I s->∃r,f s=some r/\P r):∃r,bd (n_ body n 0 s) (el f g)=some r/\P r:=by
 rcases c_e (body:=body) (λ_ s=>I s) (λ_=>False) (n:=n) (λk s hk hi=>.inl<|h k s hk hi) n 0 s (by omega) G with ⟨s',e,hi⟩ | ⟨_,_,h⟩
 .rw [e,bd_some,el_inl];exact hf s' hi
 .exact h.elim
theorem r_f {t:List Int}{r:c_}(ht:t.length=24)(hk:∀k∈r.kids,0<=k/\k<24):∃z,e_S t r=some z:=by
 unfold e_S;refine (λ⟨r,h,_⟩=>⟨r,h⟩)<|l_0 (P:=λ_=>True) (λ_=>True) trivial (λk s hk' _=>?_)<|λs _=>⟨_,rfl,trivial⟩;have hm:=hk _<|gE_ hk';obtain ⟨z,hz⟩:=h_w (l:=t) hm.1 (by omega)
 rw [ix_ hk',bd_some,hz,bd_some]
 exact ⟨_,rfl,trivial⟩
theorem r_g {t:List Int}{r:c_}(ht:t.length=24)(hk:∀k∈r.kids,0<=k/\k<24)(h2:2<=r.kids.length):∃z,e_T t r=some z:=by
 unfold e_T;have h1:=hk _<|gE_ (show 1<r.kids.length by omega);obtain ⟨z,hz⟩:=h_w (l:=t) h1.1 (by omega);have G:idx r.kids 1=some r.kids[1]:=ix_ (k:=1) (by omega)
 have H:slc r.kids 2 (r.kids.length:Int)=some (r.kids.drop 2):=by
  unfold slc
  rw [iP_ ⟨by omega,by omega,by omega⟩]
  simp
 rw [G,bd_some,hz,bd_some,H,bd_some]
 refine (λ⟨r,h,_⟩=>⟨r,h⟩)<|l_0 (P:=λ_=>True) (λ_=>True) trivial (λk s hk' _=>?_)<|λs _=>⟨_,rfl,trivial⟩;have hm:=hk _<|List.mem_of_mem_drop<|gE_ hk';obtain ⟨y,hy⟩:=h_w (l:=t) hm.1 (by omega)
 rw [ix_ hk',bd_some,hy,bd_some,e_g,bd_some]
 exact ⟨_,rfl,trivial⟩
theorem r_h (hv:I_ d=true):∃t,e_U d=some t/\t.length=24:=by
 have hl:=(b_5 hv).2;unfold e_U;refine l_0 (λs=>s.length=24) (by simp) ?_<|λs hs=>⟨s,rfl,hs⟩
 .intro k s hk hs;have hr:=a_R hv hk;have hkid:∀j∈d.rules[k].kids,0<=j/\j<24:=λj hj=>by have:=hr.kids j hj;omega
  have hkk:=c_A hr.kind
  have first:0<d.rules[k].kids.length->∃z y,idx d.rules[k].kids 0=some z/\idx s z=some y:=λG=>by
   have hm:=hkid _<|gE_ G;obtain ⟨y,hy⟩:=h_w (l:=s) hm.1 (by omega);exact ⟨_,y,ix_ (k:=0) G,hy⟩
  have fin:∀m:Int,∃s':List Int,(bd (c_l m 401) λH=>bd (upd s ((k:Nat):Int) H) λI=>some (Out.next I:Out (List Int) (List Int)))=some (.next s')/\s'.length=24:=λm=>by
   rw [e_g,bd_some,f_l (by omega),bd_some]
   exact ⟨_,rfl,by rw [List.length_set,hs]⟩
  rw [ix_ hk,bd_some]
  have hcase:d.rules[k].kind=1∨d.rules[k].kind=2∨d.rules[k].kind=3∨d.rules[k].kind=4∨d.rules[k].kind=5∨d.rules[k].kind=6∨d.rules[k].kind=7∨d.rules[k].kind=8∨d.rules[k].kind=9∨d.rules[k].kind=10:=by omega
  rcases hcase with h | h | h | h | h | h | h | h | h | h
  .simp only [h,show ((1:Int)==1)=true from rfl,fT_,bd_some];exact fin _
  .simp only [h,show ((2:Int)==1)=false from rfl,show ((2:Int)==3)=false from rfl,show ((2:Int)==2)=true from rfl,bF_,fT_,fF_,bd_some];exact fin _
  .simp only [h,show ((3:Int)==1)=false from rfl,show ((3:Int)==3)=true from rfl,bF_,fT_,fF_,bd_some];exact fin _
  .obtain ⟨z,y,h1,h2⟩:=first (by rw [(c_z hr.kind h).2];decide)
   simp only [h,show ((4:Int)==1)=false from rfl,show ((4:Int)==3)=false from rfl,show ((4:Int)==2)=false from rfl,show ((4:Int)==4)=true from rfl,bF_,fT_,fF_,bd_some,h1,h2];exact fin _
  .obtain ⟨z,y,h1,h2⟩:=first (by rw [(b_x hr.kind h).2];decide)
   simp only [h,show ((5:Int)==1)=false from rfl,show ((5:Int)==3)=false from rfl,show ((5:Int)==2)=false from rfl,show ((5:Int)==4)=false from rfl,show ((5:Int)==5)=true from rfl,bF_,fT_,fF_,bd_some,h1,h2];exact fin _
  .obtain ⟨z,hz⟩:=r_f (r:=d.rules[k]) hs hkid
   simp only [h,show ((6:Int)==1)=false from rfl,show ((6:Int)==3)=false from rfl,show ((6:Int)==2)=false from rfl,show ((6:Int)==4)=false from rfl,show ((6:Int)==5)=false from rfl,show ((6:Int)==6)=true from rfl,bF_,fT_,fF_,bd_some,hz];exact fin _
  .have hc:=b_U hr.kind h;obtain ⟨z,y,h1,h2⟩:=first (by omega);obtain ⟨u,hu⟩:=r_g (r:=d.rules[k]) hs hkid (by omega)
   simp only [h,show ((7:Int)==1)=false from rfl,show ((7:Int)==3)=false from rfl,show ((7:Int)==2)=false from rfl,show ((7:Int)==4)=false from rfl,show ((7:Int)==5)=false from rfl,show ((7:Int)==6)=false from rfl,show ((7:Int)==7)=true from rfl,bF_,fT_,fF_,bd_some,h1,h2,hu];exact fin _
  .simp only [h,show ((8:Int)==1)=false from rfl,show ((8:Int)==3)=false from rfl,show ((8:Int)==2)=false from rfl,show ((8:Int)==4)=false from rfl,show ((8:Int)==5)=false from rfl,show ((8:Int)==6)=false from rfl,show ((8:Int)==7)=false from rfl,show ((8:Int)==9)=false from rfl,bF_,fF_,bd_some];exact fin _
  .obtain ⟨z,y,h1,h2⟩:=first (by rw [b_d hr.kind (.inr h)];decide)
   simp only [h,show ((9:Int)==1)=false from rfl,show ((9:Int)==3)=false from rfl,show ((9:Int)==2)=false from rfl,show ((9:Int)==4)=false from rfl,show ((9:Int)==5)=false from rfl,show ((9:Int)==6)=false from rfl,show ((9:Int)==7)=false from rfl,show ((9:Int)==9)=true from rfl,bF_,fT_,fF_,bd_some,h1,h2];exact fin _
  .simp only [h,show ((10:Int)==1)=false from rfl,show ((10:Int)==3)=false from rfl,show ((10:Int)==2)=false from rfl,show ((10:Int)==4)=false from rfl,show ((10:Int)==5)=false from rfl,show ((10:Int)==6)=false from rfl,show ((10:Int)==7)=false from rfl,show ((10:Int)==9)=false from rfl,bF_,fF_,bd_some];exact fin _
theorem r_i (hd:SmD d){n:Nat}(hn:14<=n)(r:Int):∃z,e_V n d r=some z:=by
 unfold e_V
 rw [e_9 n hn d hd r,bd_some]
 cases h:I_ d && a_G d r
 .exact ⟨0,rfl⟩
 .rw [aE_] at h
  obtain ⟨t,ht,htl⟩:=r_h h.1;have hl:=(b_5 h.1).2;have hr:=h.2;unfold a_G at hr
  simp only [aE_,dE_] at hr
  obtain ⟨z,hz⟩:=h_w (l:=t) (i:=r) (by omega) (by omega)
  simp only [nT_,bF_,fF_,ht,bd_some,hz]
  exact ⟨z,rfl⟩
theorem l_1 (x y:Int):e_x x y=some (max x y):=by
 unfold e_x i_u i_t
 by_cases h:x<y
 .have:(if decide (x<y) then some y else some x)=some (max x y):=by
   rw [dT_ h,iP_ rfl,Int.max_def,iP_ (by omega)]
  simp only [lC_,List.length_nil,n_,idx,bd_some]
  simp [el,bd,Int.max_def,h,Int.le_of_lt h]
 .have h':y<=x:=by omega
  have:(if decide (x<y) then some y else some x)=some (max x y):=by
   rw [dF_ h,iN_ (by simp),Int.max_def]
   split
   .congr 1;omega
   .rfl
  have hm:max x y=x:=by rw [Int.max_def];split <;> omega
  simp only [lC_,List.length_nil,n_]
  simp [el,bd,idx,h,hm]
end
end Go.Vw
