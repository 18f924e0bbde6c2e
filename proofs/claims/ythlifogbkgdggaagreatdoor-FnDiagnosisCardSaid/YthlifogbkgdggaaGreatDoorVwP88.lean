
import Derived.Test.YthlifogbkgdggaaGreatDoorVwP77
namespace Go.Vw
open Go.RowKit Dat
theorem leastN {P:Nat->Prop}:∀m,P m->∃t,t<=m/\P t/\∀s,s<t->¬P s:=by
 intro m
 induction m using Nat.strongRecOn with
 | _ m ih =>
  intro h
  by_cases hq:∃t,t<m/\P t
  ·obtain ⟨t,ht,hp⟩:=hq;obtain ⟨u,h1,h2,h3⟩:=ih t ht hp;exact ⟨u,by omega,h2,h3⟩
  ·exact ⟨m,Nat.le_refl _,h,fun s hs hp=>hq ⟨s,hs,hp⟩⟩
section
variable {d:d_}{b:List UInt8}
theorem n_9 (hv:a_9 d=true)(hd:SmD d)(hb:b.length<=400){i:Nat}(hi:i<d.rules.length){ks:List Int}(hks:∀k∈ks,0<=k/\k<(i:Int)){p:Nat}(hp:p<=b.length)(G:∀t (ht:t<ks.length),(rdW d.rules b ks[t].toNat (a_J (en2<|fun k p=>rdW d.rules b k.toNat p) ks p t)).2.2=0){n:Nat}(hn:600<=n){path pa:Str}{ru:Int} :
  ∃H,(a_S<|n+1).impl_tracer_kids ⟨d,b,pa,ru⟩ path (i:Int) ks (p:Int)=some (H,true,pa,ru):=by
 have hle:∀k∈ks,∀p,p<=b.length->p<=((fun k p=>rdW d.rules b k.toNat p) k p:RR).2.1/\((fun k p=>rdW d.rules b k.toNat p) k p:RR).2.1<=b.length:=fun k hk p hp=>d_2 hv k.toNat (by have:=hks k hk;omega) p hp
 refine ⟨((a_J (en2<|fun k p=>rdW d.rules b k.toNat p) ks p ks.length:Nat):Int),?_⟩
 show d_x n (a_S n) ⟨d,b,pa,ru⟩ path (i:Int) ks (p:Int)=_
 unfold d_x;refine (congrArg (fun z=>bd z _)<|c_7 (fun t=>((a_J (en2<|fun k p=>rdW d.rules b k.toNat p) ks p t:Nat):Int)) (n:=ks.length)<|fun t htk=>?_).trans ?_
 ·have hkk:=hks _<|gE_ htk;have hpl:=e_g hle hp t (by omega)
  simp only
  rw [ix_ htk,bd_some,e_h hv hd hb (by omega) hkk.1 (by omega) hpl.2,bd2_some,G t htk,iN_ (by simp),f_b _ _ _ _ htk]
  rfl
 ·rw [bd_some,el_inl]
theorem n_a (hv:a_9 d=true)(hd:SmD d)(hb:b.length<=400):∀(i:Nat),i<d.rules.length->∀p,p<=b.length->∀(path:Str),path.b.length+22 * i<=MX->∃x:Str×Int,
  (∃j:Nat,x.2=(j:Int)/\j<d.rules.length/\x.1.b.length+22 * j<=MX) /\
  (∀n,2 * i+610<=n->∀(pa:Str)(ru:Int),(a_S n).impl_tracer_part ⟨d,b,pa,ru⟩ path (i:Int) (p:Int)=some x)/\(∀n,i+1000<=n->(b_L n).spec_l28Find d (i:Int) b (p:Int) path=some x):=by
 have hMX:=MXv;have hLIM:=a_v;intro i
 induction i using Nat.strongRecOn with
 | _ i ih =>
  intro hi p hp path hpl;have hr:=c_m hv hi;have hlen:=(c_4 hv).2
  -- no part of it is read: it is found itself
  have none_:(¬(5<=d.rules[i].kind/\d.rules[i].kind<=9)∨(∃c,O_ d.rules b d.rules[i] p = .inl c)∨(∃num st,O_ d.rules b d.rules[i] p = .inr (num,[],st)))->∀n,i+1000<=n->(b_L n).spec_l28Find d (i:Int) b (p:Int) path=some (path,(i:Int)):=fun hc n hn=>by
   obtain ⟨n,rfl⟩:∃G,n=G+1:=⟨n - 1,by omega⟩;obtain ⟨a,m,x,h1,h2⟩:=m_z (d:=d) hb hr.kind hp hc
   show c_z n (b_L n) d (i:Int) b (p:Int) path=_
   unfold c_z
   rw [ix_ hi,bd_some,h1,bd3_some,h2]
   rfl
  have self:(¬(5<=d.rules[i].kind/\d.rules[i].kind<=9)∨(∃c,O_ d.rules b d.rules[i] p = .inl c)∨(d.rules[i].kind=8/\∃num st,O_ d.rules b d.rules[i] p = .inr (num,[],st)))->∃x:Str×Int,(∃j:Nat,x.2=(j:Int)/\j<d.rules.length/\x.1.b.length+22 * j<=MX) /\
    (∀n,2 * i+610<=n->∀(pa:Str)(ru:Int),(a_S n).impl_tracer_part ⟨d,b,pa,ru⟩ path (i:Int) (p:Int)=some x)/\(∀n,i+1000<=n->(b_L n).spec_l28Find d (i:Int) b (p:Int) path=some x):=fun hc=>by
   refine ⟨(path,(i:Int)),⟨i,rfl,hi,hpl⟩,fun n hn pa ru=>?_,none_<|hc.imp id<|Or.imp id<|fun h=>h.2⟩;obtain ⟨n,rfl⟩:∃G,n=G+1:=⟨n - 1,by omega⟩;exact n_2 hv hd hb hi hp hc (n:=n) (by omega) (rec:=a_S n)
  by_cases hk:5<=d.rules[i].kind/\d.rules[i].kind<=9
  rotate_left
  ·exact self<|.inl hk
  cases hh:O_ d.rules b d.rules[i] p with
  | inl c=>exact self<|.inr<|.inl ⟨c,hh⟩
  | inr y =>
   obtain ⟨num,ks,st⟩:=y
   by_cases J:d.rules[i].kind=8/\ks=[]
   ·exact self<|.inr (.inr ⟨J.1,num,st,by rw [← J.2];exact hh⟩)
   obtain ⟨hkin,Y,I,a0,_⟩:=g_T hr.kind hk hp hh;obtain ⟨hitem,hst,_⟩:=k_k hr.kind hk hh;have hks:∀k∈ks,0<=k/\k<(i:Int):=fun k hk=>hr.kids k<|hkin k hk
   have hle:∀k∈ks,∀p,p<=b.length->p<=((fun k p=>rdW d.rules b k.toNat p) k p:RR).2.1/\((fun k p=>rdW d.rules b k.toNat p) k p:RR).2.1<=b.length:=fun k hk p hp=>d_2 hv k.toNat (by have:=hks k hk;omega) p hp
   have hread:∀t (ht:t<ks.length) n,500<=n->e_v n d ks[t] b ((a_J (en2<|fun k p=>rdW d.rules b k.toNat p) ks st t:Nat):Int)=some (b_v<|rdW d.rules b ks[t].toNat (a_J (en2<|fun k p=>rdW d.rules b k.toNat p) ks st t)):=fun t ht n hn=>by
    have hkk:=hks _<|gE_ ht;have hpl:=e_g hle I t (by omega);have:=k_3 (b:=b) hv hd hb ks[t].toNat (by omega) n (by omega) _ hpl.2
    rw [show ((ks[t].toNat:Nat):Int)=ks[t] by omega] at this
    exact this
   have hcast:∀{β:Type}(x:RR)(f:Val->Int->Int->Option β),bd3 (some<|b_v x) f=f x.1 (x.2.1:Int) x.2.2:=fun x f=>rfl
   by_cases hbad:∃m,∃hm:m<ks.length,(rdW d.rules b ks[m].toNat (a_J (en2<|fun k p=>rdW d.rules b k.toNat p) ks st m)).2.2 ≠ 0
   ·obtain ⟨W,V⟩:=hbad;obtain ⟨m,hmle,⟨hm,hmbad⟩,hmin⟩:=leastN (P:=fun m=>∃hm:m<ks.length,(rdW d.rules b ks[m].toNat (a_J (en2<|fun k p=>rdW d.rules b k.toNat p) ks st m)).2.2 ≠ 0) W V;have H:∀t (ht:t<m),(rdW d.rules b (ks[t]'(by omega)).toNat (a_J (en2<|fun k p=>rdW d.rules b k.toNat p) ks st t)).2.2=0:=fun t ht=>Classical.byContradiction fun h=>hmin t ht ⟨by omega,h⟩
    have hkk:=hks _<|gE_ hm;have hpm:=e_g hle I m (by omega);have hsl:(c_6 d.rules[i] m).b.length<=21:=n_f hr.kind m (by omega);obtain ⟨x,hxj,L,O⟩:=ih ks[m].toNat (by omega) (by omega) _ hpm.2 ⟨path.b++[47]++(c_6 d.rules[i] m).b⟩ (by simp only [List.length_append,lC_,List.length_nil];omega)
    rw [show ((ks[m].toNat:Nat):Int)=ks[m] by omega] at L O
    refine ⟨x,hxj,fun n hn pa ru=>?_,fun n hn=>?_⟩
    ·obtain ⟨n,rfl⟩:∃G,n=G+2:=⟨n - 2,by omega⟩;have hK:=n_1 hv hd hb hi hks I hm H hmbad (n:=n) (by omega) (path:=path) (by omega) (pa:=path) (ru:=(i:Int)) hsl (by omega)<|L n (by omega) _ _;exact k_i hv hd hb hi hp hk hh (fun h hn=>J ⟨h,hn⟩) (n:=n+1) (by omega) (rec:=a_S<|n+1) (path:=path) (pa:=pa) (ru:=ru) hK
    ·obtain ⟨n,rfl⟩:∃G,n=G+1:=⟨n - 1,by omega⟩;have hE:=j_T (d:=d) hb hr.kind hp (ks:=ks) (num:=num) ⟨by rw [hh,hst],hk.1,hk.2⟩ (fun hn=>by rw [hn] at hm;simp at hm)<|fun k hk=>(hks k hk).1
     rw [← hst] at hE
     show c_z n (b_L n) d (i:Int) b (p:Int) path=_
     unfold c_z
     rw [ix_ hi,bd_some,hE,bd3_some,tN_]
     refine (congrArg (fun z=>bd z _)<|h_4 (fun t=>((a_J (en2<|fun k p=>rdW d.rules b k.toNat p) ks st t:Nat):Int)) (r:=(x.1,x.2)) hm (fun t ht=>?_) ?_).trans ?_
     ·have htk:t<ks.length:=by omega
      rw [d_0 (d_C hr.kind),hitem t htk,bd_some,hread t htk n (by omega),hcast,H t ht,iN_ (by simp),f_b _ _ _ _ htk]
      rfl
     ·rw [d_0 (d_C hr.kind),hitem m hm,bd_some,hread m hm n (by omega),hcast,iP_ (by simpa using hmbad),a_C (by simp only [lC_,List.length_nil];omega),bd_some,n_c (by omega) _ m (by omega),bd_some,a_C (by simp only [List.length_append,lC_,List.length_nil];omega),bd_some]
      rw [O n (by omega)]
      rfl
     ·rw [bd_some,el_inr]
   ·have H:∀t (ht:t<ks.length),(rdW d.rules b ks[t].toNat (a_J (en2<|fun k p=>rdW d.rules b k.toNat p) ks st t)).2.2=0:=fun t ht=>Classical.byContradiction fun h=>hbad ⟨t,ht,h⟩
    refine ⟨(path,(i:Int)),⟨i,rfl,hi,hpl⟩,fun n hn pa ru=>?_,fun n hn=>?_⟩
    ·obtain ⟨n,rfl⟩:∃G,n=G+2:=⟨n - 2,by omega⟩;obtain ⟨a1,hK⟩:=n_9 hv hd hb hi hks I H (n:=n) (by omega) (path:=path) (pa:=path) (ru:=(i:Int));exact k_i hv hd hb hi hp hk hh (fun h hn=>J ⟨h,hn⟩) (n:=n+1) (by omega) (rec:=a_S<|n+1) (path:=path) (pa:=pa) (ru:=ru) (x:=(path,(i:Int))) hK
    ·by_cases hne:ks=[]
     ·exact none_ (.inr (.inr ⟨num,st,by rw [hh,hne]⟩)) n hn
     obtain ⟨n,rfl⟩:∃G,n=G+1:=⟨n - 1,by omega⟩;have hE:=j_T (d:=d) hb hr.kind hp (ks:=ks) (num:=num) ⟨by rw [hh,hst],hk.1,hk.2⟩ hne<|fun k hk=>(hks k hk).1
     rw [← hst] at hE
     show c_z n (b_L n) d (i:Int) b (p:Int) path=_
     unfold c_z
     rw [ix_ hi,bd_some,hE,bd3_some,tN_]
     refine (congrArg (fun z=>bd z _)<|c_7 (fun t=>((a_J (en2<|fun k p=>rdW d.rules b k.toNat p) ks st t:Nat):Int)) (n:=ks.length)<|fun t htk=>?_).trans ?_
     ·rw [d_0 (d_C hr.kind),hitem t htk,bd_some,hread t htk n (by omega),hcast,H t htk,iN_ (by simp),f_b _ _ _ _ htk]
      rfl
     ·rw [bd_some,el_inl]
end
end Go.Vw
