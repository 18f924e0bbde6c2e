
import Derived.Test.YtjdphpimefbinaaGreatDoorVt
namespace Go.Vw
open Go.RowKit Dat
section
variable {d:c_}{b:Bt}
theorem g_g (hv:G_ d=true)(hd:SmD d)(hb:b.length<=400){n:Nat}(hn:500<=n){k:Int}(G:0<=k)(hk:k<(d.rules.length:Int)){p:Nat}(hp:p<=b.length):d_d n (⟨d.rules⟩:c_) k b (p:Int)=some (((rdW d.rules b k.toNat p).2.1:Int),(rdW d.rules b k.toNat p).2.2):=by
 have h:=k_r (b:=b) hd hn k p;have hr:=m_3 (d:=d) (b:=b) hv hb (i:=k.toNat) (p:=p) (by omega) hp
 rw [show ((k.toNat:Nat):Int)=k by omega] at hr
 rw [hr] at h
 exact h
theorem t_O (hv:G_ d=true)(hd:SmD d)(hb:b.length<=400){i:Nat}(hi:i<d.rules.length){ks:List Int}(hks:∀k∈ks,0<=k/\k<(i:Int)){p:Nat}(hp:p<=b.length){m:Nat}(hm:m<ks.length)(G:∀t (ht:t<m),(rdW d.rules b (ks[t]'(by omega)).toNat (a_x (en2<|λk p=>rdW d.rules b k.toNat p) ks p t)).2.2=0)(hbad:(rdW d.rules b ks[m].toNat (a_x (en2<|λk p=>rdW d.rules b k.toNat p) ks p m)).2.2 ≠ 0)
  {n:Nat} (hn:600<=n) {path:Str} (hpl:path.b.length+22<=MX) {x:Str×Int} {pa:Str} {ru:Int} (hS:(a_5 d.rules[i] m).b.length<=21) (H:m<=1000)
  (hx:(b_w n).impl_tracer_part ⟨d,b,pa,ru⟩ ⟨path.b++[47]++(a_5 d.rules[i] m).b⟩ ks[m] ((a_x (en2<|λk p=>rdW d.rules b k.toNat p) ks p m:Nat):Int)=some x) :
  (b_w<|n+1).impl_tracer_kids ⟨d,b,pa,ru⟩ path (i:Int) ks (p:Int)=some (((a_x (en2<|λk p=>rdW d.rules b k.toNat p) ks p m:Nat):Int),false,x.1,x.2):=by
 have hLIM:=a_G;have hMX:=MXv;have hle:∀k∈ks,∀p,p<=b.length->p<=((λk p=>rdW d.rules b k.toNat p) k p:RR).2.1/\((λk p=>rdW d.rules b k.toNat p) k p:RR).2.1<=b.length:=λk hk p hp=>a_X hv k.toNat (by have:=hks k hk;omega) p hp
 show f_f n (b_w n) ⟨d,b,pa,ru⟩ path (i:Int) ks (p:Int)=_
 unfold f_f;refine (congrArg (λz=>bd z _)<|g_j (λt=>((a_x (en2<|λk p=>rdW d.rules b k.toNat p) ks p t:Nat):Int)) (r:=(((a_x (en2<|λk p=>rdW d.rules b k.toNat p) ks p m:Nat):Int),false,x.1,x.2)) hm (λt ht=>?_) ?_).trans ?_
 .have htk:t<ks.length:=by omega
  have hkk:=hks _<|gE_ htk;have hpl:=g_f hle hp t (by omega)
  simp only
  rw [ix_ htk,bd_some,g_g hv hd hb (by omega) hkk.1 (by omega) hpl.2,bd2_some,G t ht,iN_ (by simp),g_a _ _ _ _ htk]
  rfl
 .have hkk:=hks _<|gE_ hm;have hpl:=g_f hle hp m (by omega)
  simp only
  rw [ix_ hm,bd_some,g_g hv hd hb (by omega) hkk.1 (by omega) hpl.2,bd2_some,iP_ (by simpa using hbad),P_ (by simp only [lC_,List.length_nil];omega),bd_some]
  have hst:e_i n (⟨d.rules⟩:c_) (i:Int) ((m:Nat):Int)=some (a_5 d.rules[i] m):=o_Z hv hd (by omega) hi m
  rw [hst,bd_some,P_ (by simp only [List.length_append,lC_,List.length_nil];omega),bd_some]
  rw [hx]
  rfl
 .rw [bd_some,el_inr]
end
end Go.Vw
