
import Derived.Test.YtgieiijmhcgmcaaGreatDoorVwP73
namespace Go.Vw
open Go.RowKit Dat
section
variable {d:g_}{b:List UInt8}
structure e_n (d:g_)(b:List UInt8)(i p:Nat)(ss:List Str)(j st q:Nat):Prop where
 loc:locL d b ss i p=some (j,st)
 good:∀s∈ss,c_p s
 len:ss.length+j<=i
 ep:q=(rdW d.rules b i p).2.1
 le:st<=q
 pq:p<=q
 lt:q<b.length
 same:∀(b':List UInt8)(c:UInt8),b_9 b b' q->b'[q]? = some c->byteI c ≠ a_j (piece b st q)->(rdW d.rules b' i p).2=(q,5)
 other:∀(b':List UInt8)(c:UInt8),b_9 b b' q->b'[q]? = some c->byteI c=a_j (piece b st q)->q<(rdW d.rules b' i p).2.1
 tr:∀(path:Str),path.b.length+22 * ss.length<=MX->∀n,2 * i+600<=n->∀(pa:Str)(ru:Int),(a_t n).impl_tracer_part ⟨d,b,pa,ru⟩ path (i:Int) (p:Int)=some (⟨path.b++b_g ss⟩,(j:Int))
theorem d_Q (hv:P_ d=true)(hd:SmD d)(hb:b.length<=400){n:Nat}(hn:500<=n){k:Int}(G:0<=k)(hk:k<(d.rules.length:Int)){p:Nat}(hp:p<=b.length):c_9 n (⟨d.rules⟩:g_) k b (p:Int)=some (((rdW d.rules b k.toNat p).2.1:Int),(rdW d.rules b k.toNat p).2.2):=by
 have h:=j_o (b:=b) hd hn k p;have hr:=j_7 (d:=d) (b:=b) hv hb (i:=k.toNat) (p:=p) (by omega) hp
 rw [show ((k.toNat:Nat):Int)=k by omega] at hr
 rw [hr] at h
 exact h
theorem p_m (hv:P_ d=true)(hd:SmD d)(hb:b.length<=400){i:Nat}(hi:i<d.rules.length){ks:List Int}(hks:∀k∈ks,0<=k/\k<(i:Int)){p:Nat}(hp:p<=b.length){m:Nat}(hm:m<ks.length)(h:∀t (ht:t<m),(rdW d.rules b (ks[t]'(by omega)).toNat (a_g (en2<|fun k p=>rdW d.rules b k.toNat p) ks p t)).2.2=0)(hbad:(rdW d.rules b ks[m].toNat (a_g (en2<|fun k p=>rdW d.rules b k.toNat p) ks p m)).2.2 ≠ 0)
  {n:Nat} (hn:600<=n) {path:Str} (hpl:path.b.length+22<=MX) {x:Str×Int} {pa:Str} {ru:Int} (hS:(R_ d.rules[i] m).b.length<=21) (G:m<=1000)
  (hx:(a_t n).impl_tracer_part ⟨d,b,pa,ru⟩ ⟨path.b++[47]++(R_ d.rules[i] m).b⟩ ks[m] ((a_g (en2<|fun k p=>rdW d.rules b k.toNat p) ks p m:Nat):Int)=some x) :
  (a_t<|n+1).impl_tracer_kids ⟨d,b,pa,ru⟩ path (i:Int) ks (p:Int)=some (((a_g (en2<|fun k p=>rdW d.rules b k.toNat p) ks p m:Nat):Int),false,x.1,x.2):=by
 have hLIM:=b_0;have hMX:=MXv;have hle:∀k∈ks,∀p,p<=b.length->p<=((fun k p=>rdW d.rules b k.toNat p) k p:RR).2.1/\((fun k p=>rdW d.rules b k.toNat p) k p:RR).2.1<=b.length:=fun k hk p hp=>b_b hv k.toNat (by have:=hks k hk;omega) p hp
 show c_I n (a_t n) ⟨d,b,pa,ru⟩ path (i:Int) ks (p:Int)=_
 unfold c_I;refine (congrArg (fun z=>bd z _)<|f_n (fun t=>((a_g (en2<|fun k p=>rdW d.rules b k.toNat p) ks p t:Nat):Int)) (r:=(((a_g (en2<|fun k p=>rdW d.rules b k.toNat p) ks p m:Nat):Int),false,x.1,x.2)) hm (fun t ht=>?_) ?_).trans ?_
 ·have htk:t<ks.length:=by omega
  have hkk:=hks _<|gE_ htk;have hpl:=e_m hle hp t (by omega)
  simp only
  rw [ix_ htk,bd_some,d_Q hv hd hb (by omega) hkk.1 (by omega) hpl.2,bd2_some,h t ht,iN_ (by simp),h_8 _ _ _ _ htk]
  rfl
 ·have hkk:=hks _<|gE_ hm;have hpl:=e_m hle hp m (by omega)
  simp only
  rw [ix_ hm,bd_some,d_Q hv hd hb (by omega) hkk.1 (by omega) hpl.2,bd2_some,iP_ (by simpa using hbad),e_q (by simp only [lC_,List.length_nil];omega),bd_some]
  have hst:d_w n (⟨d.rules⟩:g_) (i:Int) ((m:Nat):Int)=some (R_ d.rules[i] m):=l_v hv hd (by omega) hi m
  rw [hst,bd_some,e_q (by simp only [List.length_append,lC_,List.length_nil];omega),bd_some]
  rw [hx]
  rfl
 ·rw [bd_some,el_inr]
end
end Go.Vw
