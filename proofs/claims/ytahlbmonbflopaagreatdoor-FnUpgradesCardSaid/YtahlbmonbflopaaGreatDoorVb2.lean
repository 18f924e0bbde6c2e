
import Derived.Test.YtahlbmonbflopaaGreatDoorVb0
import Derived.Test.YtahlbmonbflopaaGreatDoorVb1
namespace Go.Vw
open Go.RowKit Dat
structure WRl (t j:Nat)(r:b_):Prop where
 name:r.name.b.length<=40
 bytes:r.bytes.length<=3
 names:r.names.length<=3+t/\∀s∈r.names,s.b.length<=40
 tags:r.tags.length<=8
 kids:r.kids.length<=9+t
 k6:r.kind=6->r.names.length=r.kids.length/\r.kids.length<=3+t
 k7:r.kind=7->0<r.tags.length/\r.kids.length<=r.tags.length+1
 opt:8<=j->r.kind=8
 fix:r.kind=3->r.size<=5
structure WD (t:Nat)(d:c_):Prop where
 pos:0<d.rules.length
 few:d.rules.length<=8+t
 each:∀j (hj:j<d.rules.length),WRl t j d.rules[j]
theorem WRl.mono {t u j:Nat}{r:b_}(h:WRl t j r)(hu:t<=u):WRl u j r:=by
 obtain ⟨H,a2,⟨V,a3'⟩,I,W,G,J,L,O⟩:=h;exact ⟨H,a2,⟨by omega,a3'⟩,I,by omega,λq=>⟨(G q).1,by have:=(G q).2;omega⟩,J,L,O⟩
theorem WD.mono {t u:Nat}{d:c_}(h:WD t d)(hu:t<=u):WD u d:=⟨h.pos,Nat.le_trans h.few (by omega),λj hj=>(h.each j hj).mono hu⟩
theorem WD.sm {t:Nat}{d:c_}(h:WD t d)(ht:t<=10):SmD d:=by
 have hMX:=MXv;have:=h.few;refine ⟨by omega,λr hr=>?_⟩;obtain ⟨i,hi,rfl⟩:=List.getElem_of_mem hr;obtain ⟨G,a2,⟨H,a3'⟩,I,J,_⟩:=h.each i hi;exact ⟨by omega,by omega,by omega,by omega,by omega,λs hs=>by have:=a3' s hs;omega⟩
theorem WD.of {d:c_}(h:DrE d)(H:d.rules.length<=8):WD 0 d:=by
 refine ⟨h.some_,H,λj hj=>?_⟩;have g:=h.each j hj;have g1:=g.bytes;have G:=g.names;have I:=g.tags;have J:=g.kidn;exact ⟨g.name,g1,⟨by have:=G.1;omega,G.2⟩,by omega,by omega,λq=>⟨(g.k6 q).1,by have:=(g.k6 q).2;omega⟩,λq=>⟨(g.k7 q).2.1,by have:=(g.k7 q).1;omega⟩,λq=>by omega,λq=>by have:=(g.size3 q).2;omega⟩
theorem WD.wv {d:c_}(h:WD 2 d):WV d:=by
 refine ⟨h.few,λj hj q=>?_,λj hj q=>(h.each j hj).opt q,λj hj q=>(h.each j hj).fix q⟩;have:=((h.each j hj).k6 q).2
 omega
theorem WD.set {t k:Nat}{rs:List b_}{r:b_}(h:WD t ⟨rs⟩)(hr:WRl t k r):WD t ⟨rs.set k r⟩:=by
 refine ⟨by have:=h.pos;simpa using this,by have:=h.few;simpa using this,λj hj=>?_⟩
 simp only [List.length_set] at hj
 simp only [List.getElem_set]
 split
 .rename_i he
  rw [← he];exact hr
 .exact h.each j hj
section
variable {b:Bt}{i h:Int}
theorem m_D (h0:0<=i)(h1:i<=(b.length:Int))(hb:b.length<=MX){n:Nat}(hn:100<=n){t:Nat}(ht:t<=5){d:c_}(hd:WD t d):Dr b (e_d n ⟨b,i,h⟩ d) (λd'=>WD t d'):=by
 have hL:LIM=4294967296:=rfl;unfold e_d
 rw [q_N (hd.sm (by omega)),bd_some]
 obtain ⟨s,hs,hB⟩:=c_4 (ρ:=c_×Int×Int) (step:=un4 λG V W J=>if (decide<|G<(J.length:Int)) then bd (α:=Int×Int×(List b_)) (bd (idx J G) λY=>bd (α:=Bool×Int×Int) (if (Y.kind != 7) then some (true,V,W) else if (decide<|8<=(Y.tags.length:Int)) then some (true,V,W) else bd3 (b_R (⟨b,V,W⟩:m_) 4) λa5 a6 a7=>some (a5,a6,a7)) (un3 λa8 a0 a3=>if a8 then some (a0,a3,J) else bd (idx Y.tags<|j_ (Y.tags.length:Int) 1) λa9=>bd3 (a_0 (⟨b,a0,a3⟩:m_) 3) λaa ab ad=>bd (α:=List b_) (bd (idx J G) λH=>bd (psh H.tags<|h_ (h_ a9 1) aa) λae=>some<|J.set (G).toNat (⟨H.name,H.kind,H.size,H.little,H.bytes,H.names,ae,H.kids⟩:b_))<|λa4=>bd (α:=Int×Int×(List b_)) (bd (idx a4 G) λI=>bd3 (a_0 (⟨b,ab,ad⟩:m_) G) λaf ah ai=>bd (psh I.kids af) λaj=>some (ah,ai,a4.set (G).toNat (⟨I.name,I.kind,I.size,I.little,I.bytes,I.names,I.tags,aj⟩:b_)))<|un3 λak al am=>some (ak,al,am))) (un3 λan ap aq=>some<|.next (h_ G 1,an,ap,aq)) else some (.brk (G,V,W,J)))
  (λs=>0<=s.1/\(0<=s.2.1/\s.2.1<=(b.length:Int))/\WD t ⟨s.2.2.2⟩) (λs=>(20 - s.1).toNat) (λs=>(0<=s.2.1/\s.2.1<=(b.length:Int))/\WD t ⟨s.2.2.2⟩) (by
   rintro ⟨k,ci,ch,rs⟩ ⟨ar,⟨L,O⟩,hw⟩
   simp only at ar L O hw
   have hfew:=hw.few
   simp only at hfew
   by_cases hk:k<(rs.length:Int)
   .left
    obtain ⟨k,rfl⟩:∃q:Nat,k=q:=⟨k.toNat,by omega⟩;have hkl:k<rs.length:=by omega
    have hr:WRl t k rs[k]:=hw.each k hkl
    simp only [un4]
    rw [dT_ hk,iP_ rfl,ix_ hkl,bd_some]
    have fin:∀(ci' ch':Int)(rs':List b_),0<=ci'->ci'<=(b.length:Int)->WD t ⟨rs'⟩->∃s',(some (.next (h_ (k:Int) 1,ci',ch',rs')):Option (Out (Int×Int×Int×(List b_))<|c_×Int×Int))=some (.next s')/\(0<=s'.1/\(0<=s'.2.1/\s'.2.1<=(b.length:Int))/\WD t ⟨s'.2.2.2⟩)/\(20 - s'.1).toNat<(20 - (k:Int)).toNat:=by
     intro ci' ch' rs' q0 q1 q2;have hi:h_ (k:Int) 1=(k:Int)+1:=ia_ (by omega) (by omega);exact ⟨_,rfl,⟨by simp only [hi];omega,⟨q0,q1⟩,q2⟩,by simp only [hi];omega⟩
    generalize hre:rs[k]=r at hr
    by_cases h7:r.kind=7
    .rw [show (r.kind != 7)=false by simp [h7],iN_ (by simp)]
     by_cases h8:(8:Int)<=(r.tags.length:Int)
     .rw [dT_ h8,iP_ rfl,bd_some,un3,iP_ rfl,bd_some,un3]
      exact fin ci ch rs L O hw
     .rw [dF_ h8,iN_ (by simp)]
      obtain ⟨o,i2,g2,e2,a1,a2,_⟩:=e_0 (h:=ch) L O hb 4
      rw [e2,bd3_some,bd_some,un3]
      cases o with
      | true=>rw [iP_ rfl,bd_some,un3];exact fin i2 g2 rs a1 a2 hw
      | false =>
       obtain ⟨t1,t2⟩:=hr.k7 h7
       rw [iN_ (by simp),a_C (by omega) (by omega),show (r.tags.length:Int) - 1=((r.tags.length - 1:Nat):Int) by omega,ix_ (show r.tags.length - 1<r.tags.length by omega),bd_some]
       obtain ⟨x,i3,g3,e3,b1,b2,_⟩:=h_e (h:=g2) a1 a2 hb 3
       rw [e3,bd3_some,bd_some,Y_ (by omega),bd_some,bd_some]
       simp only [tN_]
       rw [ix_ (show k<(rs.set k _).length by simpa using hkl),bd_some]
       obtain ⟨y,i4,g4,e4,c1,c2,_⟩:=h_e (h:=g3) b1 b2 hb (k:Int)
       rw [e4,bd3_some]
       simp only [List.getElem_set_self]
       have hkk:=hr.kids
       rw [Y_ (by omega),bd_some,bd_some,un3,bd_some,un3]
       refine fin i4 g4 _ c1 c2 ?_
       rw [List.set_set]
       refine hw.set ⟨hr.name,hr.bytes,hr.names,by simp only [List.length_append,lC_,List.length_nil];omega,?_,λq=>by simp only at q;omega,λ_=>?_,hr.opt,λq=>by simp only at q;omega⟩
       .simp only [List.length_append,lC_,List.length_nil];omega
       .simp only [List.length_append,lC_,List.length_nil];omega
    .rw [show (r.kind != 7)=true by simp [h7],iP_ rfl,bd_some,un3,iP_ rfl,bd_some,un3]
     exact fin ci ch rs L O hw
   .right
    exact ⟨_,by simp only [un4];rw [dF_ hk,iN_ (by simp)],⟨L,O⟩,hw⟩) n (0,i,h,d.rules) ⟨Int.le_refl _,⟨h0,h1⟩,hd⟩ (by simp only;omega)
 rw [hs,bd_some,el_inl]
 obtain ⟨k,ci,ch,rs⟩:=s;exact ⟨_,ci,ch,rfl,hB.1.1,hB.1.2,hB.2⟩
end
end Go.Vw
