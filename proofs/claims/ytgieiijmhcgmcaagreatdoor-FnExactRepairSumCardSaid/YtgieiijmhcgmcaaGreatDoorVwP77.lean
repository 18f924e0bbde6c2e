
import Derived.Test.YtgieiijmhcgmcaaGreatDoorVwP76
namespace Go.Vw
open Go.RowKit Dat
section
variable {d:g_}{b:List UInt8}
theorem j_m (hv:P_ d=true)(hd:SmD d)(hb:b.length<=400){i:Nat}(hi:i<d.rules.length){p:Nat}(hp:p<=b.length)(hk:¬(5<=d.rules[i].kind/\d.rules[i].kind<=9)∨(∃c,E_ d.rules b d.rules[i] p = .inl c)∨(d.rules[i].kind=8/\∃num st,E_ d.rules b d.rules[i] p = .inr (num,[],st))){n:Nat}(hn:600<=n){rec:f_6}{path pa:Str}{ru:Int}:d_H n rec ⟨d,b,pa,ru⟩ path (i:Int) (p:Int)=some (path,(i:Int)):=by
 have hr:=b_q hv hi;have hMX:=MXv;unfold d_H
 simp only
 rw [ix_ hi,bd_some]
 generalize d.rules[i]=r at *
 have hkind:=hr.kind;have hal:=d_j hkind;unfold E_ at hk
 by_cases h6:r.kind=6
 ·rw [h6] at hk
  rcases hk with h | ⟨c,h⟩ | ⟨h,_⟩
  ·omega
  ·cases h
  ·omega
 by_cases V:r.kind=9
 ·rw [V] at hk
  rcases hk with h | ⟨c,h⟩ | ⟨h,_⟩
  ·omega
  ·cases h
  ·omega
 rw [show (r.kind==6)=false by simpa using h6] at hk ⊢
 rw [show (r.kind==9)=false by simpa using V]
 simp only [bF_,fF_,bd_some] at hk ⊢
 by_cases W:r.kind=8
 ·rw [W] at hk ⊢
  simp only [show ((8:Int)==5)=false from rfl,show ((8:Int)==7)=false from rfl,bF_,fF_,bQ_,fT_] at hk ⊢
  cases hc:b[p]? with
  | none =>
   have:b.length<=p:=List.getElem?_eq_none_iff.1 hc
   rw [dF_ (show ¬(p:Int)<(b.length:Int) by omega)];rfl
  | some c =>
   have hlt:p<b.length:=(gS_.1 hc).1;have hbp:b[p]=c:=(gS_.1 hc).2;have hbc:byteI c=(c.toNat:Int):=rfl
   rw [hc] at hk
   simp only at hk
   have Y:byteI c ≠ 1:=by
    intro h1
    rw [iN_ (by omega)] at hk
    rcases hk with h | ⟨x,h⟩ | ⟨_,num,st,h⟩
    ·omega
    ·cases h
    ·rw [Sum.inr.injEq,Prod.mk.injEq,Prod.mk.injEq,show c.toNat=1 by omega] at h
     have:=h.2.1
     simp at this
   rw [dT_ (show (p:Int)<(b.length:Int) by omega),iP_ rfl,ix_ hlt,bd_some,hbp,bd_some]
   rw [show (byteI c==byteI (1:UInt8))=false by simpa [show byteI (1:UInt8)=1 from rfl] using Y];rfl
 rw [show (r.kind==8)=false by simpa using W] at hk ⊢
 simp only [bF_,fF_] at hk ⊢
 by_cases h5:r.kind=5
 ·have hl:=c_q hkind h5;have hq:=a_P hl.1;obtain ⟨G,_,hkl⟩:=a_n hq.1
  rw [h5] at hk ⊢
  simp only [show ((5:Int)==7)=false from rfl,bF_,fF_,bQ_,fT_,bd_some] at hk ⊢
  rw [a_U (show 0<r.kids.length by omega),bd_some]
  cases hx:J_ b (t_ d.rules<|s_ r) p with
  | none =>
   have e:=h_d hv G hkl hp hq.2;unfold rdK at e
   rw [hx] at e
   rw [d_Q hv hd hb (by omega) G (by omega) hp,e,bd2_some];rfl
  | some m =>
   rw [hx] at hk
   simp only at hk
   have hrg:=a_S hq.2 hx
   have a0:40<m:=by
    by_cases h:40<m
    ·exact h
    ·rw [iN_ h] at hk
     rcases hk with h | ⟨x,h⟩ | ⟨h,_⟩
     ·omega
     ·cases h
     ·omega
   obtain ⟨H,I,J,L⟩:=h_i hv hd hb (n:=n) (by omega) hl.1 hp hx
   rw [H,bd2_some]
   simp only [bN_,bF_,fF_]
   rw [I,bd_some,bd_some,J,bd_some,L,bd_some,bd_some,dF_ (show ¬m<=40 by omega)];rfl
 rw [show (r.kind==5)=false by simpa using h5] at hk ⊢
 simp only [bF_,fF_,bd_some] at hk ⊢
 by_cases O:r.kind=7
 ·have hl:=c_K hkind O;have hq:=a_P hl.1;obtain ⟨G,_,hkl⟩:=a_n hq.1
  rw [O] at hk ⊢
  simp only [bQ_,fT_] at hk ⊢
  rw [a_U (show 0<r.kids.length by omega),bd_some]
  cases hx:J_ b (t_ d.rules<|s_ r) p with
  | none =>
   have e:=h_d hv G hkl hp hq.2;unfold rdK at e
   rw [hx] at e
   rw [d_Q hv hd hb (by omega) G (by omega) hp,e,bd2_some];rfl
  | some m =>
   rw [hx] at hk
   simp only at hk
   have hrg:=a_S hq.2 hx
   have ht:a_p r.tags m=none:=by
    cases h:a_p r.tags m with
    | none=>rfl
    | some k =>
     rw [h] at hk
     rcases hk with h | ⟨x,h⟩ | ⟨h,_⟩
     ·omega
     ·cases h
     ·omega
   obtain ⟨H,I,J,L⟩:=h_i hv hd hb (n:=n) (by omega) hl.1 hp hx
   rw [H,bd2_some]
   simp only [bN_,bF_,fF_]
   rw [I,bd_some,bd_some,J,bd_some,L,bd_some,bd_some,l_n,bd_some,ht];rfl
 ·rw [show (r.kind==7)=false by simpa using O];rfl
theorem p_o (hv:P_ d=true)(hd:SmD d)(hb:b.length<=400):∀(i:Nat),i<d.rules.length->∀p,p<=b.length->∀(path:Str),path.b.length+22 * i<=MX->∀n,2 * i+610<=n->∀(pa:Str)(ru:Int),∃x,(a_t n).impl_tracer_part ⟨d,b,pa,ru⟩ path (i:Int) (p:Int)=some x:=by
 have hMX:=MXv;have hLIM:=b_0;intro i
 induction i using Nat.strongRecOn with
 | _ i ih =>
  intro hi p hp path hpl n hn pa ru;have hr:=b_q hv hi;obtain ⟨n,rfl⟩:∃n2,n=n2+2:=⟨n - 2,by omega⟩
  by_cases hk:5<=d.rules[i].kind/\d.rules[i].kind<=9
  rotate_left
  ·exact ⟨_,j_m hv hd hb hi hp (.inl hk) (n:=n+1) (by omega) (rec:=a_t<|n+1)⟩
  cases hh:E_ d.rules b d.rules[i] p with
  | inl c=>exact ⟨_,j_m hv hd hb hi hp (.inr<|.inl ⟨c,hh⟩) (n:=n+1) (by omega) (rec:=a_t<|n+1)⟩
  | inr y =>
   obtain ⟨num,ks,st⟩:=y
   by_cases H:d.rules[i].kind=8/\ks=[]
   ·exact ⟨_,j_m hv hd hb hi hp (.inr (.inr ⟨H.1,num,st,by rw [← H.2];exact hh⟩)) (n:=n+1) (by omega) (rec:=a_t<|n+1)⟩
   obtain ⟨hkin,a6,O,a7,_⟩:=d_P hr.kind hk hp hh;have hks:∀k∈ks,0<=k/\k<(i:Int):=fun k hk=>hr.kids k<|hkin k hk
   have hloop:∃a1 a2 x,(a_t<|n+1).impl_tracer_kids ⟨d,b,path,(i:Int)⟩ path (i:Int) ks (st:Int)=some (a1,a2,x):=by
    show ∃a1 a2 x,c_I n (a_t n) ⟨d,b,path,(i:Int)⟩ path (i:Int) ks (st:Int)=some (a1,a2,x)
    unfold c_I
    rcases e_k (σ:=Int) (ρ:=Int×Bool×Str×Int) (body:=fun I=>(fun G=>bd (idx ks ((I:Nat):Int)) fun J=>bd2 (c_9 n (⟨d.rules⟩:g_) J b G) fun V W=>if (W != 0)=true then bd (cat path (⟨[47]⟩:Str)) fun Y=>bd (d_w n (⟨d.rules⟩:g_) (i:Int) ((I:Nat):Int)) fun a0=>bd (cat Y a0) fun a3=>bd2 ((a_t n).impl_tracer_part ⟨d,b,path,(i:Int)⟩ a3 J G) fun a4 a5=>some (.ret (G,false,a4,a5)) else some (.next V))) (fun _ s=>∃q:Nat,s=(q:Int)/\q<=b.length) (fun _=>True) (n:=ks.length) (fun t s ht hs=>by
     obtain ⟨q,rfl,hq⟩:=hs;have hkk:=hks _<|gE_ ht
     rw [ix_ ht,bd_some,d_Q hv hd hb (by omega) hkk.1 (by omega) hq,bd2_some]
     by_cases L:(rdW d.rules b ks[t].toNat q).2.2=0
     ·rw [iN_ (by simpa using L)]
      exact .inl ⟨_,rfl,_,rfl,(b_b hv _ (by omega) _ hq).2⟩
     ·have hsl:(R_ d.rules[i] t).b.length<=21:=l_x hr.kind t (by omega)
      rw [iP_ (by simpa using L),e_q (by simp only [lC_,List.length_nil];omega),bd_some]
      have hst:d_w n (⟨d.rules⟩:g_) (i:Int) ((t:Nat):Int)=some (R_ d.rules[i] t):=l_v hv hd (by omega) hi t
      rw [hst,bd_some,e_q (by simp only [List.length_append,lC_,List.length_nil];omega),bd_some]
      obtain ⟨x,hx⟩:=ih ks[t].toNat (by omega) (by omega) q hq ⟨path.b++[47]++(R_ d.rules[i] t).b⟩ (by simp only [List.length_append,lC_,List.length_nil];omega) n (by omega) path (i:Int)
      rw [show ((ks[t].toNat:Nat):Int)=ks[t] by omega] at hx
      refine .inr ⟨(((q:Nat):Int),false,x.1,x.2),?_,trivial⟩;refine (congrArg (fun z=>bd2 z _) hx).trans ?_
      rfl) ks.length 0 (st:Int) (by omega) ⟨st,rfl,O⟩ with ⟨s,e,_⟩ | ⟨r,e,_⟩
    ·exact ⟨s,true,(path,(i:Int)),(congrArg (fun z=>bd z _) e).trans rfl⟩
    ·exact ⟨r.1,r.2.1,r.2.2,(congrArg (fun z=>bd z _) e).trans rfl⟩
   obtain ⟨a1,a2,x,hx⟩:=hloop;exact ⟨x,j_l hv hd hb hi hp hk hh (fun h hn=>H ⟨h,hn⟩) (n:=n+1) (by omega) (rec:=a_t<|n+1) (path:=path) (pa:=pa) (ru:=ru) (a1:=a1) (a2:=a2) hx⟩
end
end Go.Vw
