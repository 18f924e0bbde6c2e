
import Derived.Test.YtpjplgfnhbjjjaaGreatDoorVd
import Derived.Test.YtpjplgfnhbjjjaaGreatDoorVh
namespace Go.Vw
open Go.RowKit Dat
theorem DrD.sm {d:c_}(h:DrD d):SmD d:=by
 have hMX:=MXv;refine ⟨by have:=h.few;omega,λr hr=>?_⟩;obtain ⟨i,hi,rfl⟩:=List.getElem_of_mem hr;have g:=h.each i hi;have h1:=g.name;have h2:=g.bytes;have h3:=g.names.1;have h4:=g.tags;have h5:=g.kidn;exact ⟨by omega,by omega,by omega,by omega,by omega,λs hs=>by have:=g.names.2 s hs;omega⟩
section
variable {c:Bt}{i h:Int}
theorem s_v (G:0<=i)(h1:i<=(c.length:Int))(hb:c.length<=MX){d:c_}(hd:DrD d){v:Val}(hv:Mk d (d.rules.length - 1) v){n:Nat}(hn:50<=n):Dr c (e_l n ⟨c,i,h⟩ d v) (λs=>s.b.length<=300):=by
 have hLIM:=X_;have hf:=hd.few;have hs:=hd.some_;unfold e_l;obtain ⟨l,e,hl,J,hls⟩:=s_u hd (d.rules.length - 1) v hv n (by omega) ⟨[]⟩ (by simp)
 rw [b_i (by omega) (by omega),show (d.rules.length:Int) - 1=((d.rules.length - 1:Nat):Int) by omega,e,bd_some]
 refine (b_6 G h1 hb (show (0:Int)<(l.length:Int) by omega)).bd λx i h hx G h1=>?_
 rw [e_N hx.1 (by omega),bd_some]
 have hsl:=hls _<|gE_ (l:=l) (n:=x.toNat) (by omega);generalize l[x.toNat]'(by omega)=s at hsl
 have hsl:s.b.length<=205:=by simp at hsl;omega
 refine (b_6 (n:=8) G h1 hb (by omega)).bd λy i h hy G h1=>?_
 by_cases H:(y==0)=true
 .rw [iP_ H]
  refine (g_y G h1 hb (by simp)).bd λt i h ht G h1=>?_
  have htl:t.b.length<=5:=by
   simp only [List.mem_cons,List.not_mem_nil,or_false] at ht
   rcases ht with rfl | rfl | rfl | rfl | rfl | rfl | rfl | rfl | rfl <;> decide
  rw [a_4 (by omega),bd_some]
  exact ⟨_,_,_,rfl,G,h1,by simp;omega⟩
 .rw [iN_ H]
  by_cases I:(y==1)=true
  .rw [iP_ I]
   refine (g_y G h1 hb (by simp)).bd λt i h ht G h1=>?_
   have htl:t.b.length<=5:=by
    simp only [List.mem_cons,List.not_mem_nil,or_false] at ht
    rcases ht with rfl | rfl | rfl | rfl | rfl <;> decide
   exact ⟨_,_,_,rfl,G,h1,by omega⟩
  .rw [iN_ I]
   exact ⟨_,_,_,rfl,G,h1,by omega⟩
end
theorem o_L {ρ:Type}{body:Nat->Unit->Option (Out Unit ρ)}{n:Nat}(h:∀j,j<n->body j ()=some (.next ())):n_ body n 0 ()=some (.inl ()):=by
 have:=e_O (body:=body) (λ_=>()) (n:=n) h;exact this
end Go.Vw
