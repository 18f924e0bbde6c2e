
import Derived.Test.YtgpbbhplnbndeaaGreatDoorVf
namespace Go.Vw
open Go.RowKit Dat
theorem DrE.sm {d:b_}(h:DrE d)(G:d.rules.length<=8):SmD d:=by
 have hMX:=MXv;refine ⟨by omega,λr hr=>?_⟩;obtain ⟨i,hi,rfl⟩:=List.getElem_of_mem hr;have g:=h.each i hi;have h1:=g.name;have h2:=g.bytes;have h3:=g.names.1;have h4:=g.tags;have h5:=g.kidn;exact ⟨by omega,by omega,by omega,by omega,by omega,λs hs=>by have:=g.names.2 s hs;omega⟩
theorem r_0 {x:Int}(G:0<=x)(_:x<=1000000000000):∃y,g_6 x=some y/\1<=y/\y<=2147483647:=by
 unfold g_6 h_9
 rw [b_r,bd_some]
 rw [show (!(decide ((1:Int)<=2147483647) && decide ((2147483647:Int)<=1000000000000)))=false by decide]
 simp only [bF_,fF_]
 rw [show nz (2147483647:Int)=some () by decide,bd_some,bd_some,bd_some]
 have H:R_ x 2147483647=x % 2147483647:=a_W G
 rw [H,ia_ (by omega) (by omega),a_W (x:=x % 2147483647+2147483647) (by omega)]
 generalize hq:(x % 2147483647+2147483647) % 2147483647=q;have I:0<=q/\q<2147483647:=by omega
 rw [d_G (by omega) (by omega),a_W (by omega)]
 unfold e_W
 split
 .rename_i h
  rw [bd_some]
  exact ⟨_,rfl,by simp only [dE_] at h;omega,by omega⟩
 .rw [bd_some]
  exact ⟨1,rfl,by omega,by omega⟩
theorem r_1 {x:Int}(G:0<=x)(h1:x<=1000000000000):∃y,b_u x=some (y,y)/\1<=y/\y<=2147483647:=by
 obtain ⟨y,e,h⟩:=r_0 G h1;unfold b_u
 rw [e,bd_some];exact ⟨y,rfl,h⟩
end Go.Vw
