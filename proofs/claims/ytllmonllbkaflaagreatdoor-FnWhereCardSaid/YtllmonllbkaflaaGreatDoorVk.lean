
import Derived.Test.YtllmonllbkaflaaGreatDoorVe
import Derived.Test.YtllmonllbkaflaaGreatDoorVj
namespace Go.Vw
open Go.RowKit Dat
theorem DrD.sm {d:c_}(h:DrD d):SmD d:=by
 have hMX:=MXv;refine ⟨by have:=h.few;omega,λr hr=>?_⟩;obtain ⟨i,hi,rfl⟩:=List.getElem_of_mem hr;have g:=h.each i hi;have h1:=g.name;have h2:=g.bytes;have h3:=g.names.1;have h4:=g.tags;have h5:=g.kidn;exact ⟨by omega,by omega,by omega,by omega,by omega,λs hs=>by have:=g.names.2 s hs;omega⟩
section
variable {c:Bt}{i h:Int}
theorem t_S (G:0<=i)(h1:i<=(c.length:Int))(hb:c.length<=MX){d:c_}(hd:DrD d){v:Val}(hv:Mk d (d.rules.length - 1) v){n:Nat}(hn:50<=n):Dr c (h_K n ⟨c,i,h⟩ d v) (λs=>s.b.length<=300):=by
 have hLIM:=a_m;have hf:=hd.few;have hs:=hd.some_;unfold h_K;obtain ⟨l,e,hl,J,hls⟩:=t_R hd (d.rules.length - 1) v hv n (by omega) ⟨[]⟩ (by simp)
 rw [a_Y (by omega) (by omega),show (d.rules.length:Int) - 1=((d.rules.length - 1:Nat):Int) by omega,e,bd_some]
 refine (a_R G h1 hb (show (0:Int)<(l.length:Int) by omega)).bd λx i h hx G h1=>?_
 rw [e_y hx.1 (by omega),bd_some]
 have hsl:=hls _<|gE_ (l:=l) (n:=x.toNat) (by omega);generalize l[x.toNat]'(by omega)=s at hsl
 have hsl:s.b.length<=205:=by simp at hsl;omega
 refine (a_R (n:=8) G h1 hb (by omega)).bd λy i h hy G h1=>?_
 by_cases H:(y==0)=true
 .rw [iP_ H]
  refine (f_a G h1 hb (by simp)).bd λt i h ht G h1=>?_
  have htl:t.b.length<=5:=by
   simp only [List.mem_cons,List.not_mem_nil,or_false] at ht
   rcases ht with rfl | rfl | rfl | rfl | rfl | rfl | rfl | rfl | rfl <;> decide
  rw [a_6 (by omega),bd_some]
  exact ⟨_,_,_,rfl,G,h1,by simp;omega⟩
 .rw [iN_ H]
  by_cases I:(y==1)=true
  .rw [iP_ I]
   refine (f_a G h1 hb (by simp)).bd λt i h ht G h1=>?_
   have htl:t.b.length<=5:=by
    simp only [List.mem_cons,List.not_mem_nil,or_false] at ht
    rcases ht with rfl | rfl | rfl | rfl | rfl <;> decide
   exact ⟨_,_,_,rfl,G,h1,by omega⟩
  .rw [iN_ I]
   exact ⟨_,_,_,rfl,G,h1,by omega⟩
end
theorem p_1 {ρ:Type}{body:Nat->Unit->Option (Out Unit ρ)}{n:Nat}(h:∀j,j<n->body j ()=some (.next ())):p_ body n 0 ()=some (.inl ()):=by
 have:=d_y (body:=body) (λ_=>()) (n:=n) h;exact this
end Go.Vw
