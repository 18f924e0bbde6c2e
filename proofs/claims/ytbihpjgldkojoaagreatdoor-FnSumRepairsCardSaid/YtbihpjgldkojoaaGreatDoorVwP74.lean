
import Derived.Test.YtbihpjgldkojoaaGreatDoorVwP73
namespace Go.Vw
open Go.RowKit Dat
section
variable {d:g_}{b:Bt}
structure f_u (d:g_)(b:Bt)(i p:Nat)(ss:List Str)(j st q:Nat):Prop where
 loc:locL d b ss i p=some (j,st)
 good:∀s∈ss,d_1 s
 len:ss.length+j<=i
 ep:q=(rdW d.rules b i p).2.1
 le:st<=q
 pq:p<=q
 lt:q<b.length
 same:∀(b':Bt)(c:UInt8),b_C b b' q->b'[q]? = some c->byteI c ≠ a_J (piece b st q)->(rdW d.rules b' i p).2=(q,5)
 other:∀(b':Bt)(c:UInt8),b_C b b' q->b'[q]? = some c->byteI c=a_J (piece b st q)->q<(rdW d.rules b' i p).2.1
 tr:∀(path:Str),path.b.length+22 * ss.length<=MX->∀n,2 * i+600<=n->∀(pa:Str)(ru:Int),(a_Z n).impl_tracer_part ⟨d,b,pa,ru⟩ path (i:Int) (p:Int)=some (⟨path.b++b_N ss⟩,(j:Int))
theorem e_C (hv:a_2 d=true)(hd:SmD d)(hb:b.length<=400){n:Nat}(hn:500<=n){k:Int}(G:0<=k)(hk:k<(d.rules.length:Int)){p:Nat}(hp:p<=b.length):c_M n (⟨d.rules⟩:g_) k b (p:Int)=some (((rdW d.rules b k.toNat p).2.1:Int),(rdW d.rules b k.toNat p).2.2):=by
 have h:=k_B (b:=b) hd hn k p;have hr:=k_f (d:=d) (b:=b) hv hb (i:=k.toNat) (p:=p) (by omega) hp
 rw [show ((k.toNat:Nat):Int)=k by omega] at hr
 rw [hr] at h
 exact h
theorem q_p (hv:a_2 d=true)(hd:SmD d)(hb:b.length<=400){i:Nat}(hi:i<d.rules.length){ks:List Int}(hks:∀k∈ks,0<=k/\k<(i:Int)){p:Nat}(hp:p<=b.length){m:Nat}(hm:m<ks.length)(G:∀t (ht:t<m),(rdW d.rules b (ks[t]'(by omega)).toNat (a_D (en2<|λk p=>rdW d.rules b k.toNat p) ks p t)).2.2=0)(hbad:(rdW d.rules b ks[m].toNat (a_D (en2<|λk p=>rdW d.rules b k.toNat p) ks p m)).2.2 ≠ 0)
  {n:Nat} (hn:600<=n) {path:Str} (hpl:path.b.length+22<=MX) {x:Str×Int} {pa:Str} {ru:Int} (hS:(a_4 d.rules[i] m).b.length<=21) (H:m<=1000)
  (hx:(a_Z n).impl_tracer_part ⟨d,b,pa,ru⟩ ⟨path.b++[47]++(a_4 d.rules[i] m).b⟩ ks[m] ((a_D (en2<|λk p=>rdW d.rules b k.toNat p) ks p m:Nat):Int)=some x) :
  (a_Z<|n+1).impl_tracer_kids ⟨d,b,pa,ru⟩ path (i:Int) ks (p:Int)=some (((a_D (en2<|λk p=>rdW d.rules b k.toNat p) ks p m:Nat):Int),false,x.1,x.2):=by
 have hLIM:=a_w;have hMX:=MXv;have hle:∀k∈ks,∀p,p<=b.length->p<=((λk p=>rdW d.rules b k.toNat p) k p:RR).2.1/\((λk p=>rdW d.rules b k.toNat p) k p:RR).2.1<=b.length:=λk hk p hp=>b_D hv k.toNat (by have:=hks k hk;omega) p hp
 show d_r n (a_Z n) ⟨d,b,pa,ru⟩ path (i:Int) ks (p:Int)=_
 unfold d_r;refine (congrArg (λz=>bd z _)<|g_P (λt=>((a_D (en2<|λk p=>rdW d.rules b k.toNat p) ks p t:Nat):Int)) (r:=(((a_D (en2<|λk p=>rdW d.rules b k.toNat p) ks p m:Nat):Int),false,x.1,x.2)) hm (λt ht=>?_) ?_).trans ?_
 .have htk:t<ks.length:=by omega
  have hkk:=hks _<|gE_ htk;have hpl:=f_t hle hp t (by omega)
  simp only
  rw [ix_ htk,bd_some,e_C hv hd hb (by omega) hkk.1 (by omega) hpl.2,bd2_some,G t ht,iN_ (by simp),i_E _ _ _ _ htk]
  rfl
 .have hkk:=hks _<|gE_ hm;have hpl:=f_t hle hp m (by omega)
  simp only
  rw [ix_ hm,bd_some,e_C hv hd hb (by omega) hkk.1 (by omega) hpl.2,bd2_some,iP_ (by simpa using hbad),e_F (by simp only [lC_,List.length_nil];omega),bd_some]
  have hst:e_g n (⟨d.rules⟩:g_) (i:Int) ((m:Nat):Int)=some (a_4 d.rules[i] m):=m_H hv hd (by omega) hi m
  rw [hst,bd_some,e_F (by simp only [List.length_append,lC_,List.length_nil];omega),bd_some]
  rw [hx]
  rfl
 .rw [bd_some,el_inr]
end
end Go.Vw
