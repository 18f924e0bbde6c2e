
import Derived.Test.YtbihpjgldkojoaaGreatDoorVwP62
namespace Go.Vw
open Go.RowKit Dat
theorem DrE.sm {d:g_}(h:DrE d)(G:d.rules.length<=8):SmD d:=by
 have hMX:=MXv;refine ⟨by omega,λr hr=>?_⟩;obtain ⟨i,hi,rfl⟩:=List.getElem_of_mem hr;have g:=h.each i hi;have h1:=g.name;have h2:=g.bytes;have h3:=g.names.1;have h4:=g.tags;have h5:=g.kidn;exact ⟨by omega,by omega,by omega,by omega,by omega,λs hs=>by have:=g.names.2 s hs;omega⟩
theorem q_B {x:Int}(G:0<=x)(h1:x<=1000000000000):∃y,g_b x=some y/\1<=y/\y<=2147483647:=by
 unfold g_b i_5
 rw [b_q,bd_some]
 rw [show (!(decide ((1:Int)<=2147483647) && decide ((2147483647:Int)<=1000000000000)))=false by decide]
 simp only [bF_,fF_]
 rw [show nz (2147483647:Int)=some () by decide,bd_some,bd_some,bd_some]
 have H:a_8 x 2147483647=x % 2147483647:=e_E G
 rw [H,ia_ (by omega) (by omega),e_E (x:=x % 2147483647+2147483647) (by omega)]
 generalize hq:(x % 2147483647+2147483647) % 2147483647=q;have I:0<=q/\q<2147483647:=by omega
 rw [d_x (by omega) (by omega),e_E (by omega)]
 unfold i_6
 split
 .rename_i h
  rw [bd_some]
  exact ⟨_,rfl,by simp only [dE_] at h;omega,by omega⟩
 .rw [bd_some]
  exact ⟨1,rfl,by omega,by omega⟩
theorem k_A {x:Int}(G:0<=x)(h1:x<=1000000000000):∃y,e_q x=some (y,y)/\1<=y/\y<=2147483647:=by
 obtain ⟨y,e,h⟩:=q_B G h1;unfold e_q
 rw [e,bd_some];exact ⟨y,rfl,h⟩
theorem mut_of {l x:Int}(H:0<=x)(h1:x<=1000000000000):∃m,f_6 l x=some m:=by
 unfold f_6
 rw [b_q,bd_some]
 by_cases hl:0<=l/\l<=400
 .rw [dT_ hl.1,dT_ hl.2]
  simp only [Bool.and_self,nT_,bF_,fF_]
  obtain ⟨y,I,O,a1⟩:=k_A H h1;obtain ⟨z,J,V,b1⟩:=k_A (x:=y) (by omega) (by omega);obtain ⟨u,L,W,Y⟩:=k_A (x:=z) (by omega) (by omega)
  rw [I,bd2_some,J,bd2_some,L,bd2_some]
  by_cases hz:l=0
  .subst hz
   simp only [bQ_,fT_,bd_some]
   rw [show ((2:Int)==1)=false from rfl,show nz (j_ 0 1)=some () by decide]
   exact ⟨_,rfl⟩
  .rw [show (l==0)=false by simpa using hz]
   simp only [bF_,fF_,bd_some]
   have hnz:nz l=some ():=by unfold nz;rw [iN_ hz]
   have G:nz (j_ l 1)=some ():=by rw [ia_ (by omega) (by omega)];unfold nz;rw [iN_ (by omega)]
   generalize j_ 1 (a_8 y 3)=k
   rw [hnz,G]
   by_cases k1:k=1
   .rw [k1];exact ⟨_,rfl⟩
   rw [show (k==1)=false by simpa using k1]
   by_cases k2:k=2
   .rw [k2];exact ⟨_,rfl⟩
   rw [show (k==2)=false by simpa using k2]
   exact ⟨_,rfl⟩
 .rw [show (!(decide (0<=l) && decide (l<=400)))=true by
   by_cases h:0<=l
   .rw [dT_ h,dF_<|λh2=>hl ⟨h,h2⟩];rfl
   .rw [dF_ h];rfl,iP_ rfl]
  exact ⟨_,rfl⟩
theorem q_C {x:Bt}(hx:x.length<=1000000)(m:c_R):∃y ok,f_7 x m=some (y,ok)/\y.length<=x.length+1:=by
 have hLIM:=a_w;have hMX:=MXv;unfold f_7
 rw [b_I (by simp;omega),bd_some,List.nil_append,b_q,b_q]
 simp only [bd_some]
 have same:∃y ok,(some (x,false):Option (Bt×Bool))=some (y,ok)/\y.length<=x.length+1:=⟨_,_,rfl,by omega⟩
 have sp:∀(a r:Int)(ins:Bt),ins.length<=1->∃y ok,(bd2 (c_h x a r ins) λG H=>some (G,H))=some (y,ok)/\y.length<=x.length+1:=λa r ins hi=>by
  rw [p_U (by omega) (by omega),bd2_some]
  exact ⟨_,_,rfl,by have:=p_S x a r ins;omega⟩
 have rest:∃y ok,(bd (α:=Bool) (if (m.kind==1) then some (decide<|m.at_<(x.length:Int)) else some false) (λW=>if W then bd2 (c_h x m.at_ 1 [mkB m.byte]) λG H=>some (G,H) else if (m.kind==2) then bd2 (c_h x m.at_ 0 [mkB m.byte]) λI J=>some (I,J) else bd (α:=Bool) (if (m.kind==3) then if (decide<|m.at_<(x.length:Int)) then some (m.byte==0) else some false else some false) (λL=>if L then bd2 (c_h x m.at_ 1 ([]:Bt)) λO V=>some (O,V) else some (x,false))))=some (y,ok)/\y.length<=x.length+1:=by
  have last:∀D:Bool,∃y ok,(if (m.kind==2) then bd2 (c_h x m.at_ 0 [mkB m.byte]) λI J=>some (I,J) else bd (α:=Bool) (if (m.kind==3) then if D then some (m.byte==0) else some false else some false) (λL=>if L then bd2 (c_h x m.at_ 1 ([]:Bt)) λO V=>some (O,V) else some (x,false)))=some (y,ok)/\y.length<=x.length+1:=by
   intro D
   split
   .exact sp _ _ _ (by simp)
   .split
    .split
     .rw [bd_some]
      split
      .exact sp _ _ _ (by simp)
      .exact same
     .rw [bd_some,iN_ (by simp)];exact same
    .rw [bd_some,iN_ (by simp)];exact same
  generalize decide (m.at_<(x.length:Int))=D;have hl:=last D
  split
  .rw [bd_some]
   cases D
   .rw [iN_ (by simp)];exact hl
   .rw [iP_ rfl];exact sp _ _ _ (by simp)
  .rw [bd_some,iN_ (by simp)];exact hl
 split
 .rw [bd_some,iP_ rfl];exact same
 .rw [bd_some]
  split
  .exact same
  .exact rest
theorem q_D {x:Bt}(hx:x.length<=983040){seed count:Int}(Y:0<=seed)(a0:seed<=1000){n:Nat}(hn:100<=n):∃y,g_c n x seed count=some y/\y.length<=x.length+20:=by
 have hLIM:=a_w;unfold g_c
 rw [b_I (by simp;omega),bd_some,List.nil_append]
 obtain ⟨s,e,hs⟩:=d_t (σ:=Bt×Int) (ρ:=Bt) (step:=un2 λH G=>bd (α:=Bool) (if (decide<|G<count) then if (decide<|G<20) then some (decide<|(x.length:Int)<=380) else some false else some false) (λI=>if I then bd (f_6 (H.length:Int)<|j_ seed G) λJ=>bd2 (f_7 H J) λL W=>some (.next (L,j_ G 1)) else some (.brk (H,G))))
  (λs=>0<=s.2/\s.2<=20/\(s.1.length:Int)<=x.length+s.2) (λs=>(20 - s.2).toNat) (λs=>s.1.length<=x.length+20)
  (by
   rintro ⟨y,k⟩ ⟨V,h1,h2⟩
   simp only at V h1 h2
   simp only [un2]
   have brk:(∃s',(some (.brk (y,k)):Option (Out (Bt×Int)<|Bt))=some (.next s')/\(0<=s'.2/\s'.2<=20/\(s'.1.length:Int)<=x.length+s'.2)/\(20 - s'.2).toNat<(20 - k).toNat)∨(∃s',(some (.brk (y,k)):Option (Out (Bt×Int)<|Bt))=some (.brk s')/\s'.1.length<=x.length+20):=.inr ⟨_,rfl,by simp only;omega⟩
   split
   .split
    .rename_i O
     simp only [dE_] at O
     rw [bd_some]
     split
     .rw [ia_ (x:=seed) (by omega) (by omega)]
      obtain ⟨m,em⟩:=mut_of (l:=(y.length:Int)) (x:=seed+k) (by omega) (by omega);obtain ⟨z,ok,ez,hz⟩:=q_C (x:=y) (by omega) m
      rw [em,bd_some,ez,bd2_some,ia_ (by omega) (by omega)]
      exact .inl ⟨_,rfl,⟨by simp only;omega,by simp only;omega,by simp only;omega⟩,by simp only;omega⟩
     .exact brk
    .rw [bd_some,iN_ (by simp)];exact brk
   .rw [bd_some,iN_ (by simp)];exact brk)
  n (x,0) ⟨by simp only;omega,by simp only;omega,by simp only;omega⟩ (by simp only;omega)
 rw [e,bd_some,el_inl]
 exact ⟨_,rfl,hs⟩
end Go.Vw
