
import Derived.Test.YtaccmlhgodgkaaaGreatDoorVd
import Derived.Test.YtaccmlhgodgkaaaGreatDoorVi
namespace Go.Vw
open Go.RowKit Dat
theorem DrD.sm {d:e_}(h:DrD d):SmD d:=by
 have hMX:=MXv;refine ⟨by have:=h.few;omega,λr hr=>?_⟩;obtain ⟨i,hi,rfl⟩:=List.getElem_of_mem hr;have g:=h.each i hi;have h1:=g.name;have h2:=g.bytes;have h3:=g.names.1;have h4:=g.tags;have h5:=g.kidn;exact ⟨by omega,by omega,by omega,by omega,by omega,λs hs=>by have:=g.names.2 s hs;omega⟩
section
variable {c:Bt}{i h:Int}
theorem r_k (G:0<=i)(h1:i<=(c.length:Int))(hb:c.length<=MX){d:e_}(hd:DrD d){v:Val}(hv:Mk d (d.rules.length - 1) v){n:Nat}(hn:50<=n):Dr c (g_M n ⟨c,i,h⟩ d v) (λs=>s.b.length<=300):=by
 have hLIM:=a_p;have hf:=hd.few;have hs:=hd.some_;unfold g_M;obtain ⟨l,e,hl,J,hls⟩:=r_j hd (d.rules.length - 1) v hv n (by omega) ⟨[]⟩ (by simp)
 rw [b_E (by omega) (by omega),show (d.rules.length:Int) - 1=((d.rules.length - 1:Nat):Int) by omega,e,bd_some]
 refine (b_2 G h1 hb (show (0:Int)<(l.length:Int) by omega)).bd λx i h hx G h1=>?_
 rw [e_F hx.1 (by omega),bd_some]
 have hsl:=hls _<|gE_ (l:=l) (n:=x.toNat) (by omega);generalize l[x.toNat]'(by omega)=s at hsl
 have hsl:s.b.length<=205:=by simp at hsl;omega
 refine (b_2 (n:=8) G h1 hb (by omega)).bd λy i h hy G h1=>?_
 by_cases H:(y==0)=true
 .rw [iP_ H]
  refine (j_u G h1 hb (by simp)).bd λt i h ht G h1=>?_
  have htl:t.b.length<=5:=by
   simp only [List.mem_cons,List.not_mem_nil,or_false] at ht
   rcases ht with rfl | rfl | rfl | rfl | rfl | rfl | rfl | rfl | rfl <;> decide
  rw [g_r (by omega),bd_some]
  exact ⟨_,_,_,rfl,G,h1,by simp;omega⟩
 .rw [iN_ H]
  by_cases I:(y==1)=true
  .rw [iP_ I]
   refine (j_u G h1 hb (by simp)).bd λt i h ht G h1=>?_
   have htl:t.b.length<=5:=by
    simp only [List.mem_cons,List.not_mem_nil,or_false] at ht
    rcases ht with rfl | rfl | rfl | rfl | rfl <;> decide
   exact ⟨_,_,_,rfl,G,h1,by omega⟩
  .rw [iN_ I]
   exact ⟨_,_,_,rfl,G,h1,by omega⟩
end
theorem r_l {ρ:Type}{body:Nat->Unit->Option (Out Unit ρ)}{n:Nat}(h:∀j,j<n->body j ()=some (.next ())):D_ body n 0 ()=some (.inl ()):=by
 have:=e_4 (body:=body) (λ_=>()) (n:=n) h;exact this
theorem r_m (b:Bt):g_N b b=some true:=by
 unfold g_N
 rw [show ((b.length:Int) != (b.length:Int))=false by simp,iN_ (by simp)]
 rw [r_l (body:=λG=>(λ(_:Unit)=>bd (idx b ((G:Nat):Int)) λH=>bd (idx b ((G:Nat):Int)) λI=>if ((byteI H) != (byteI I)) then some (.ret false) else some (.next ()))) (n:=b.length) (λk hk=>by
  rw [ix_ hk,bd_some,bd_some,show (byteI b[k] != byteI b[k])=false by simp,iN_ (by simp)])]
 rfl
end Go.Vw
