
import Derived.Test.YtbihpjgldkojoaaGreatDoorVwP76
namespace Go.Vw
open Go.RowKit Dat
section
variable {d:g_}{b:Bt}
theorem k_y (hv:a_2 d=true)(hd:SmD d)(hb:b.length<=400){i:Nat}(hi:i<d.rules.length){p:Nat}(hp:p<=b.length)(hk:¬(5<=d.rules[i].kind/\d.rules[i].kind<=9)∨(∃c,Q_ d.rules b d.rules[i] p = .inl c)∨(d.rules[i].kind=8/\∃num st,Q_ d.rules b d.rules[i] p = .inr (num,[],st))){n:Nat}(hn:600<=n){rec:g_s}{path pa:Str}{ru:Int}:e_t n rec ⟨d,b,pa,ru⟩ path (i:Int) (p:Int)=some (path,(i:Int)):=by
 have hr:=b_V hv hi;have hMX:=MXv;unfold e_t
 simp only
 rw [ix_ hi,bd_some]
 generalize d.rules[i]=r at *
 have hkind:=hr.kind;have hal:=e_1 hkind;unfold Q_ at hk
 by_cases h6:r.kind=6
 .rw [h6] at hk
  rcases hk with h | ⟨c,h⟩ | ⟨h,_⟩
  .omega
  .cases h
  .omega
 by_cases V:r.kind=9
 .rw [V] at hk
  rcases hk with h | ⟨c,h⟩ | ⟨h,_⟩
  .omega
  .cases h
  .omega
 rw [show (r.kind==6)=false by simpa using h6] at hk ⊢
 rw [show (r.kind==9)=false by simpa using V]
 simp only [bF_,fF_,bd_some] at hk ⊢
 by_cases W:r.kind=8
 .rw [W] at hk ⊢
  simp only [show ((8:Int)==5)=false from rfl,show ((8:Int)==7)=false from rfl,bF_,fF_,bQ_,fT_] at hk ⊢
  cases hc:b[p]? with
  | none =>
   have:b.length<=p:=List.getElem?_eq_none_iff.1 hc
   rw [dF_ (show ¬(p:Int)<(b.length:Int) by omega)];rfl
  | some c =>
   have hlt:p<b.length:=(gS_.1 hc).1;have hbp:b[p]=c:=(gS_.1 hc).2;have hbc:byteI c=(c.toNat:Int):=rfl
   rw [hc] at hk
   simp only at hk
   have Y:byteI c ≠ 1:=by
    intro h1
    rw [iN_ (by omega)] at hk
    rcases hk with h | ⟨x,h⟩ | ⟨_,num,st,h⟩
    .omega
    .cases h
    .rw [Sum.inr.injEq,Prod.mk.injEq,Prod.mk.injEq,show c.toNat=1 by omega] at h
     have:=h.2.1
     simp at this
   rw [dT_ (show (p:Int)<(b.length:Int) by omega),iP_ rfl,ix_ hlt,bd_some,hbp,bd_some]
   rw [show (byteI c==byteI (1:UInt8))=false by simpa [show byteI (1:UInt8)=1 from rfl] using Y];rfl
 rw [show (r.kind==8)=false by simpa using W] at hk ⊢
 simp only [bF_,fF_] at hk ⊢
 by_cases h5:r.kind=5
 .have hl:=d_2 hkind h5;have hq:=b_i hl.1;obtain ⟨G,_,hkl⟩:=a_M hq.1
  rw [h5] at hk ⊢
  simp only [show ((5:Int)==7)=false from rfl,bF_,fF_,bQ_,fT_,bd_some] at hk ⊢
  rw [b_l (show 0<r.kids.length by omega),bd_some]
  cases hx:Y_ b (E_ d.rules<|D_ r) p with
  | none =>
   have e:=i_J hv G hkl hp hq.2;unfold rdK at e
   rw [hx] at e
   rw [e_C hv hd hb (by omega) G (by omega) hp,e,bd2_some];rfl
  | some m =>
   rw [hx] at hk
   simp only at hk
   have hrg:=b_k hq.2 hx
   have a0:40<m:=by
    by_cases h:40<m
    .exact h
    .rw [iN_ h] at hk
     rcases hk with h | ⟨x,h⟩ | ⟨h,_⟩
     .omega
     .cases h
     .omega
   obtain ⟨H,I,J,L⟩:=i_V hv hd hb (n:=n) (by omega) hl.1 hp hx
   rw [H,bd2_some]
   simp only [bN_,bF_,fF_]
   rw [I,bd_some,bd_some,J,bd_some,L,bd_some,bd_some,dF_ (show ¬m<=40 by omega)];rfl
 rw [show (r.kind==5)=false by simpa using h5] at hk ⊢
 simp only [bF_,fF_,bd_some] at hk ⊢
 by_cases O:r.kind=7
 .have hl:=d_u hkind O;have hq:=b_i hl.1;obtain ⟨G,_,hkl⟩:=a_M hq.1
  rw [O] at hk ⊢
  simp only [bQ_,fT_] at hk ⊢
  rw [b_l (show 0<r.kids.length by omega),bd_some]
  cases hx:Y_ b (E_ d.rules<|D_ r) p with
  | none =>
   have e:=i_J hv G hkl hp hq.2;unfold rdK at e
   rw [hx] at e
   rw [e_C hv hd hb (by omega) G (by omega) hp,e,bd2_some];rfl
  | some m =>
   rw [hx] at hk
   simp only at hk
   have hrg:=b_k hq.2 hx
   have ht:a_L r.tags m=none:=by
    cases h:a_L r.tags m with
    | none=>rfl
    | some k =>
     rw [h] at hk
     rcases hk with h | ⟨x,h⟩ | ⟨h,_⟩
     .omega
     .cases h
     .omega
   obtain ⟨H,I,J,L⟩:=i_V hv hd hb (n:=n) (by omega) hl.1 hp hx
   rw [H,bd2_some]
   simp only [bN_,bF_,fF_]
   rw [I,bd_some,bd_some,J,bd_some,L,bd_some,bd_some,m_x,bd_some,ht];rfl
 .rw [show (r.kind==7)=false by simpa using O];rfl
theorem q_r (hv:a_2 d=true)(hd:SmD d)(hb:b.length<=400):∀(i:Nat),i<d.rules.length->∀p,p<=b.length->∀(path:Str),path.b.length+22 * i<=MX->∀n,2 * i+610<=n->∀(pa:Str)(ru:Int),∃x,(a_Z n).impl_tracer_part ⟨d,b,pa,ru⟩ path (i:Int) (p:Int)=some x:=by
 have hMX:=MXv;have hLIM:=a_w;intro i
 induction i using Nat.strongRecOn with
 | _ i ih =>
  intro hi p hp path hpl n hn pa ru;have hr:=b_V hv hi;obtain ⟨n,rfl⟩:∃n2,n=n2+2:=⟨n - 2,by omega⟩
  by_cases hk:5<=d.rules[i].kind/\d.rules[i].kind<=9
  rotate_left
  .exact ⟨_,k_y hv hd hb hi hp (.inl hk) (n:=n+1) (by omega) (rec:=a_Z<|n+1)⟩
  cases hh:Q_ d.rules b d.rules[i] p with
  | inl c=>exact ⟨_,k_y hv hd hb hi hp (.inr<|.inl ⟨c,hh⟩) (n:=n+1) (by omega) (rec:=a_Z<|n+1)⟩
  | inr y =>
   obtain ⟨num,ks,st⟩:=y
   by_cases H:d.rules[i].kind=8/\ks=[]
   .exact ⟨_,k_y hv hd hb hi hp (.inr (.inr ⟨H.1,num,st,by rw [← H.2];exact hh⟩)) (n:=n+1) (by omega) (rec:=a_Z<|n+1)⟩
   obtain ⟨hkin,a6,O,a7,_⟩:=e_A hr.kind hk hp hh;have hks:∀k∈ks,0<=k/\k<(i:Int):=λk hk=>hr.kids k<|hkin k hk
   have hloop:∃a1 a2 x,(a_Z<|n+1).impl_tracer_kids ⟨d,b,path,(i:Int)⟩ path (i:Int) ks (st:Int)=some (a1,a2,x):=by
    show ∃a1 a2 x,d_r n (a_Z n) ⟨d,b,path,(i:Int)⟩ path (i:Int) ks (st:Int)=some (a1,a2,x)
    unfold d_r
    rcases d_V (σ:=Int) (ρ:=Int×Bool×Str×Int) (body:=λI=>(λG=>bd (idx ks ((I:Nat):Int)) λJ=>bd2 (c_M n (⟨d.rules⟩:g_) J b G) λV W=>if (W != 0) then bd (cat path (⟨[47]⟩:Str)) λY=>bd (e_g n (⟨d.rules⟩:g_) (i:Int) ((I:Nat):Int)) λa0=>bd (cat Y a0) λa3=>bd2 ((a_Z n).impl_tracer_part ⟨d,b,path,(i:Int)⟩ a3 J G) λa4 a5=>some (.ret (G,false,a4,a5)) else some (.next V))) (λ_ s=>∃q:Nat,s=(q:Int)/\q<=b.length) (λ_=>True) (n:=ks.length) (λt s ht hs=>by
     obtain ⟨q,rfl,hq⟩:=hs;have hkk:=hks _<|gE_ ht
     rw [ix_ ht,bd_some,e_C hv hd hb (by omega) hkk.1 (by omega) hq,bd2_some]
     by_cases L:(rdW d.rules b ks[t].toNat q).2.2=0
     .rw [iN_ (by simpa using L)]
      exact .inl ⟨_,rfl,_,rfl,(b_D hv _ (by omega) _ hq).2⟩
     .have hsl:(a_4 d.rules[i] t).b.length<=21:=m_J hr.kind t (by omega)
      rw [iP_ (by simpa using L),e_F (by simp only [lC_,List.length_nil];omega),bd_some]
      have hst:e_g n (⟨d.rules⟩:g_) (i:Int) ((t:Nat):Int)=some (a_4 d.rules[i] t):=m_H hv hd (by omega) hi t
      rw [hst,bd_some,e_F (by simp only [List.length_append,lC_,List.length_nil];omega),bd_some]
      obtain ⟨x,hx⟩:=ih ks[t].toNat (by omega) (by omega) q hq ⟨path.b++[47]++(a_4 d.rules[i] t).b⟩ (by simp only [List.length_append,lC_,List.length_nil];omega) n (by omega) path (i:Int)
      rw [show ((ks[t].toNat:Nat):Int)=ks[t] by omega] at hx
      refine .inr ⟨(((q:Nat):Int),false,x.1,x.2),?_,trivial⟩;refine (congrArg (λz=>bd2 z _) hx).trans ?_
      rfl) ks.length 0 (st:Int) (by omega) ⟨st,rfl,O⟩ with ⟨s,e,_⟩ | ⟨r,e,_⟩
    .exact ⟨s,true,(path,(i:Int)),(congrArg (λz=>bd z _) e).trans rfl⟩
    .exact ⟨r.1,r.2.1,r.2.2,(congrArg (λz=>bd z _) e).trans rfl⟩
   obtain ⟨a1,a2,x,hx⟩:=hloop;exact ⟨x,k_x hv hd hb hi hp hk hh (λh hn=>H ⟨h,hn⟩) (n:=n+1) (by omega) (rec:=a_Z<|n+1) (path:=path) (pa:=pa) (ru:=ru) (a1:=a1) (a2:=a2) hx⟩
end
end Go.Vw
