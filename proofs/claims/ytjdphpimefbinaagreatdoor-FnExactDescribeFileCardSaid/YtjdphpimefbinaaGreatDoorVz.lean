
import Derived.Test.YtjdphpimefbinaaGreatDoorVw
namespace Go.Vw
open Go.RowKit Dat
theorem leastN {P:Nat->Prop}:∀m,P m->∃t,t<=m/\P t/\∀s,s<t->¬P s:=by
 intro m
 induction m using Nat.strongRecOn with
 | _ m ih =>
  intro h
  by_cases hq:∃t,t<m/\P t
  .obtain ⟨t,ht,hp⟩:=hq;obtain ⟨u,h1,h2,h3⟩:=ih t ht hp;exact ⟨u,by omega,h2,h3⟩
  .exact ⟨m,Nat.le_refl _,h,λs hs hp=>hq ⟨s,hs,hp⟩⟩
section
variable {d:c_}{b:Bt}
theorem t_Y (hv:G_ d=true)(hd:SmD d)(hb:b.length<=400){i:Nat}(hi:i<d.rules.length){ks:List Int}(hks:∀k∈ks,0<=k/\k<(i:Int)){p:Nat}(hp:p<=b.length)(G:∀t (ht:t<ks.length),(rdW d.rules b ks[t].toNat (a_x (en2<|λk p=>rdW d.rules b k.toNat p) ks p t)).2.2=0){n:Nat}(hn:600<=n){path pa:Str}{ru:Int} :
  ∃H,(b_w<|n+1).impl_tracer_kids ⟨d,b,pa,ru⟩ path (i:Int) ks (p:Int)=some (H,true,pa,ru):=by
 have hle:∀k∈ks,∀p,p<=b.length->p<=((λk p=>rdW d.rules b k.toNat p) k p:RR).2.1/\((λk p=>rdW d.rules b k.toNat p) k p:RR).2.1<=b.length:=λk hk p hp=>a_X hv k.toNat (by have:=hks k hk;omega) p hp
 refine ⟨((a_x (en2<|λk p=>rdW d.rules b k.toNat p) ks p ks.length:Nat):Int),?_⟩
 show f_f n (b_w n) ⟨d,b,pa,ru⟩ path (i:Int) ks (p:Int)=_
 unfold f_f;refine (congrArg (λz=>bd z _)<|b_A (λt=>((a_x (en2<|λk p=>rdW d.rules b k.toNat p) ks p t:Nat):Int)) (n:=ks.length)<|λt htk=>?_).trans ?_
 .have hkk:=hks _<|gE_ htk;have hpl:=g_f hle hp t (by omega)
  simp only
  rw [ix_ htk,bd_some,g_g hv hd hb (by omega) hkk.1 (by omega) hpl.2,bd2_some,G t htk,iN_ (by simp),g_a _ _ _ _ htk]
  rfl
 .rw [bd_some,el_inl]
theorem t_Z (hv:G_ d=true)(hd:SmD d)(hb:b.length<=400):∀(i:Nat),i<d.rules.length->∀p,p<=b.length->∀(path:Str),path.b.length+22 * i<=MX->∃x:Str×Int,
  (∃j:Nat,x.2=(j:Int)/\j<d.rules.length/\x.1.b.length+22 * j<=MX) /\
  (∀n,2 * i+610<=n->∀(pa:Str)(ru:Int),(b_w n).impl_tracer_part ⟨d,b,pa,ru⟩ path (i:Int) (p:Int)=some x)/\(∀n,i+1000<=n->(c_H n).spec_l28Find d (i:Int) b (p:Int) path=some x):=by
 have hMX:=MXv;have hLIM:=a_G;intro i
 induction i using Nat.strongRecOn with
 | _ i ih =>
  intro hi p hp path hpl;have hr:=a_r hv hi;have hlen:=(a_T hv).2
  -- no part of it is read: it is found itself
  have none_:(¬(5<=d.rules[i].kind/\d.rules[i].kind<=9)∨(∃c,H_ d.rules b d.rules[i] p = .inl c)∨(∃num st,H_ d.rules b d.rules[i] p = .inr (num,[],st)))->∀n,i+1000<=n->(c_H n).spec_l28Find d (i:Int) b (p:Int) path=some (path,(i:Int)):=λhc n hn=>by
   obtain ⟨n,rfl⟩:∃G,n=G+1:=⟨n - 1,by omega⟩;obtain ⟨a,m,x,h1,h2⟩:=k_c (d:=d) hb hr.kind hp hc
   show d_N n (c_H n) d (i:Int) b (p:Int) path=_
   unfold d_N
   rw [ix_ hi,bd_some,h1,bd3_some,h2]
   rfl
  have self:(¬(5<=d.rules[i].kind/\d.rules[i].kind<=9)∨(∃c,H_ d.rules b d.rules[i] p = .inl c)∨(d.rules[i].kind=8/\∃num st,H_ d.rules b d.rules[i] p = .inr (num,[],st)))->∃x:Str×Int,(∃j:Nat,x.2=(j:Int)/\j<d.rules.length/\x.1.b.length+22 * j<=MX) /\
    (∀n,2 * i+610<=n->∀(pa:Str)(ru:Int),(b_w n).impl_tracer_part ⟨d,b,pa,ru⟩ path (i:Int) (p:Int)=some x)/\(∀n,i+1000<=n->(c_H n).spec_l28Find d (i:Int) b (p:Int) path=some x):=λhc=>by
   refine ⟨(path,(i:Int)),⟨i,rfl,hi,hpl⟩,λn hn pa ru=>?_,none_<|hc.imp id<|Or.imp id<|λh=>h.2⟩;obtain ⟨n,rfl⟩:∃G,n=G+1:=⟨n - 1,by omega⟩;exact t_P hv hd hb hi hp hc (n:=n) (by omega) (rec:=b_w n)
  by_cases hk:5<=d.rules[i].kind/\d.rules[i].kind<=9
  rotate_left
  .exact self<|.inl hk
  cases hh:H_ d.rules b d.rules[i] p with
  | inl c=>exact self<|.inr<|.inl ⟨c,hh⟩
  | inr y =>
   obtain ⟨num,ks,st⟩:=y
   by_cases J:d.rules[i].kind=8/\ks=[]
   .exact self<|.inr (.inr ⟨J.1,num,st,by rw [← J.2];exact hh⟩)
   obtain ⟨hkin,Y,I,a0,_⟩:=e_D hr.kind hk hp hh;obtain ⟨hitem,hst,_⟩:=h_B hr.kind hk hh;have hks:∀k∈ks,0<=k/\k<(i:Int):=λk hk=>hr.kids k<|hkin k hk
   have hle:∀k∈ks,∀p,p<=b.length->p<=((λk p=>rdW d.rules b k.toNat p) k p:RR).2.1/\((λk p=>rdW d.rules b k.toNat p) k p:RR).2.1<=b.length:=λk hk p hp=>a_X hv k.toNat (by have:=hks k hk;omega) p hp
   have hread:∀t (ht:t<ks.length) n,500<=n->c_Q n d ks[t] b ((a_x (en2<|λk p=>rdW d.rules b k.toNat p) ks st t:Nat):Int)=some (a_Y<|rdW d.rules b ks[t].toNat (a_x (en2<|λk p=>rdW d.rules b k.toNat p) ks st t)):=λt ht n hn=>by
    have hkk:=hks _<|gE_ ht;have hpl:=g_f hle I t (by omega);have:=e_F (b:=b) hv hd hb ks[t].toNat (by omega) n (by omega) _ hpl.2
    rw [show ((ks[t].toNat:Nat):Int)=ks[t] by omega] at this
    exact this
   have hcast:∀{β:Type}(x:RR)(f:Val->Int->Int->Option β),bd3 (some<|a_Y x) f=f x.1 (x.2.1:Int) x.2.2:=λx f=>rfl
   by_cases hbad:∃m,∃hm:m<ks.length,(rdW d.rules b ks[m].toNat (a_x (en2<|λk p=>rdW d.rules b k.toNat p) ks st m)).2.2 ≠ 0
   .obtain ⟨W,V⟩:=hbad;obtain ⟨m,hmle,⟨hm,hmbad⟩,hmin⟩:=leastN (P:=λm=>∃hm:m<ks.length,(rdW d.rules b ks[m].toNat (a_x (en2<|λk p=>rdW d.rules b k.toNat p) ks st m)).2.2 ≠ 0) W V;have H:∀t (ht:t<m),(rdW d.rules b (ks[t]'(by omega)).toNat (a_x (en2<|λk p=>rdW d.rules b k.toNat p) ks st t)).2.2=0:=λt ht=>Classical.byContradiction λh=>hmin t ht ⟨by omega,h⟩
    have hkk:=hks _<|gE_ hm;have hpm:=g_f hle I m (by omega);have hsl:(a_5 d.rules[i] m).b.length<=21:=k_t hr.kind m (by omega);obtain ⟨x,hxj,L,O⟩:=ih ks[m].toNat (by omega) (by omega) _ hpm.2 ⟨path.b++[47]++(a_5 d.rules[i] m).b⟩ (by simp only [List.length_append,lC_,List.length_nil];omega)
    rw [show ((ks[m].toNat:Nat):Int)=ks[m] by omega] at L O
    refine ⟨x,hxj,λn hn pa ru=>?_,λn hn=>?_⟩
    .obtain ⟨n,rfl⟩:∃G,n=G+2:=⟨n - 2,by omega⟩;have hK:=t_O hv hd hb hi hks I hm H hmbad (n:=n) (by omega) (path:=path) (by omega) (pa:=path) (ru:=(i:Int)) hsl (by omega)<|L n (by omega) _ _;exact o_S hv hd hb hi hp hk hh (λh hn=>J ⟨h,hn⟩) (n:=n+1) (by omega) (rec:=b_w<|n+1) (path:=path) (pa:=pa) (ru:=ru) hK
    .obtain ⟨n,rfl⟩:∃G,n=G+1:=⟨n - 1,by omega⟩;have hE:=k_5 (d:=d) hb hr.kind hp (ks:=ks) (num:=num) ⟨by rw [hh,hst],hk.1,hk.2⟩ (λhn=>by rw [hn] at hm;simp at hm)<|λk hk=>(hks k hk).1
     rw [← hst] at hE
     show d_N n (c_H n) d (i:Int) b (p:Int) path=_
     unfold d_N
     rw [ix_ hi,bd_some,hE,bd3_some,tN_]
     refine (congrArg (λz=>bd z _)<|g_j (λt=>((a_x (en2<|λk p=>rdW d.rules b k.toNat p) ks st t:Nat):Int)) (r:=(x.1,x.2)) hm (λt ht=>?_) ?_).trans ?_
     .have htk:t<ks.length:=by omega
      rw [c_a (b_Q hr.kind),hitem t htk,bd_some,hread t htk n (by omega),hcast,H t ht,iN_ (by simp),g_a _ _ _ _ htk]
      rfl
     .rw [c_a (b_Q hr.kind),hitem m hm,bd_some,hread m hm n (by omega),hcast,iP_ (by simpa using hmbad),P_ (by simp only [lC_,List.length_nil];omega),bd_some,h_F (by omega) _ m (by omega),bd_some,P_ (by simp only [List.length_append,lC_,List.length_nil];omega),bd_some]
      rw [O n (by omega)]
      rfl
     .rw [bd_some,el_inr]
   .have H:∀t (ht:t<ks.length),(rdW d.rules b ks[t].toNat (a_x (en2<|λk p=>rdW d.rules b k.toNat p) ks st t)).2.2=0:=λt ht=>Classical.byContradiction λh=>hbad ⟨t,ht,h⟩
    refine ⟨(path,(i:Int)),⟨i,rfl,hi,hpl⟩,λn hn pa ru=>?_,λn hn=>?_⟩
    .obtain ⟨n,rfl⟩:∃G,n=G+2:=⟨n - 2,by omega⟩;obtain ⟨a1,hK⟩:=t_Y hv hd hb hi hks I H (n:=n) (by omega) (path:=path) (pa:=path) (ru:=(i:Int));exact o_S hv hd hb hi hp hk hh (λh hn=>J ⟨h,hn⟩) (n:=n+1) (by omega) (rec:=b_w<|n+1) (path:=path) (pa:=pa) (ru:=ru) (x:=(path,(i:Int))) hK
    .by_cases hne:ks=[]
     .exact none_ (.inr (.inr ⟨num,st,by rw [hh,hne]⟩)) n hn
     obtain ⟨n,rfl⟩:∃G,n=G+1:=⟨n - 1,by omega⟩;have hE:=k_5 (d:=d) hb hr.kind hp (ks:=ks) (num:=num) ⟨by rw [hh,hst],hk.1,hk.2⟩ hne<|λk hk=>(hks k hk).1
     rw [← hst] at hE
     show d_N n (c_H n) d (i:Int) b (p:Int) path=_
     unfold d_N
     rw [ix_ hi,bd_some,hE,bd3_some,tN_]
     refine (congrArg (λz=>bd z _)<|b_A (λt=>((a_x (en2<|λk p=>rdW d.rules b k.toNat p) ks st t:Nat):Int)) (n:=ks.length)<|λt htk=>?_).trans ?_
     .rw [c_a (b_Q hr.kind),hitem t htk,bd_some,hread t htk n (by omega),hcast,H t htk,iN_ (by simp),g_a _ _ _ _ htk]
      rfl
     .rw [bd_some,el_inl]
end
end Go.Vw
