
import Derived.Test.YthlifogbkgdggaaGreatDoorVwP73
namespace Go.Vw
open Go.RowKit Dat
section
variable {d:d_}{b:List UInt8}
theorem e_h (hv:a_9 d=true)(hd:SmD d)(hb:b.length<=400){n:Nat}(hn:500<=n){k:Int}(G:0<=k)(hk:k<(d.rules.length:Int)){p:Nat}(hp:p<=b.length):c_N n (⟨d.rules⟩:d_) k b (p:Int)=some (((rdW d.rules b k.toNat p).2.1:Int),(rdW d.rules b k.toNat p).2.2):=by
 have h:=k_l (b:=b) hd hn k p;have hr:=m_s (d:=d) (b:=b) hv hb (i:=k.toNat) (p:=p) (by omega) hp
 rw [show ((k.toNat:Nat):Int)=k by omega] at hr
 rw [hr] at h
 exact h
theorem n_1 (hv:a_9 d=true)(hd:SmD d)(hb:b.length<=400){i:Nat}(hi:i<d.rules.length){ks:List Int}(hks:∀k∈ks,0<=k/\k<(i:Int)){p:Nat}(hp:p<=b.length){m:Nat}(hm:m<ks.length)(G:∀t (ht:t<m),(rdW d.rules b (ks[t]'(by omega)).toNat (a_J (en2<|fun k p=>rdW d.rules b k.toNat p) ks p t)).2.2=0)(hbad:(rdW d.rules b ks[m].toNat (a_J (en2<|fun k p=>rdW d.rules b k.toNat p) ks p m)).2.2 ≠ 0)
  {n:Nat} (hn:600<=n) {path:Str} (hpl:path.b.length+22<=MX) {x:Str×Int} {pa:Str} {ru:Int} (hS:(c_6 d.rules[i] m).b.length<=21) (H:m<=1000)
  (hx:(a_S n).impl_tracer_part ⟨d,b,pa,ru⟩ ⟨path.b++[47]++(c_6 d.rules[i] m).b⟩ ks[m] ((a_J (en2<|fun k p=>rdW d.rules b k.toNat p) ks p m:Nat):Int)=some x) :
  (a_S<|n+1).impl_tracer_kids ⟨d,b,pa,ru⟩ path (i:Int) ks (p:Int)=some (((a_J (en2<|fun k p=>rdW d.rules b k.toNat p) ks p m:Nat):Int),false,x.1,x.2):=by
 have hLIM:=a_v;have hMX:=MXv;have hle:∀k∈ks,∀p,p<=b.length->p<=((fun k p=>rdW d.rules b k.toNat p) k p:RR).2.1/\((fun k p=>rdW d.rules b k.toNat p) k p:RR).2.1<=b.length:=fun k hk p hp=>d_2 hv k.toNat (by have:=hks k hk;omega) p hp
 show d_x n (a_S n) ⟨d,b,pa,ru⟩ path (i:Int) ks (p:Int)=_
 unfold d_x;refine (congrArg (fun z=>bd z _)<|h_4 (fun t=>((a_J (en2<|fun k p=>rdW d.rules b k.toNat p) ks p t:Nat):Int)) (r:=(((a_J (en2<|fun k p=>rdW d.rules b k.toNat p) ks p m:Nat):Int),false,x.1,x.2)) hm (fun t ht=>?_) ?_).trans ?_
 ·have htk:t<ks.length:=by omega
  have hkk:=hks _<|gE_ htk;have hpl:=e_g hle hp t (by omega)
  simp only
  rw [ix_ htk,bd_some,e_h hv hd hb (by omega) hkk.1 (by omega) hpl.2,bd2_some,G t ht,iN_ (by simp),f_b _ _ _ _ htk]
  rfl
 ·have hkk:=hks _<|gE_ hm;have hpl:=e_g hle hp m (by omega)
  simp only
  rw [ix_ hm,bd_some,e_h hv hd hb (by omega) hkk.1 (by omega) hpl.2,bd2_some,iP_ (by simpa using hbad),a_C (by simp only [lC_,List.length_nil];omega),bd_some]
  have hst:e_y n (⟨d.rules⟩:d_) (i:Int) ((m:Nat):Int)=some (c_6 d.rules[i] m):=n_d hv hd (by omega) hi m
  rw [hst,bd_some,a_C (by simp only [List.length_append,lC_,List.length_nil];omega),bd_some]
  rw [hx]
  rfl
 ·rw [bd_some,el_inr]
end
end Go.Vw
