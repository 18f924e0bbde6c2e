
import Derived.Test.YtahlbmonbflopaaGreatDoorVc
namespace Go.Vw
open Go.RowKit Dat
theorem bd_un3' {A B C:Type}(o:Option (A×B×C)):bd o (un3 λx y z=>some (x,y,z))=o:=by
 rcases o with _ | ⟨x,y,z⟩ <;> rfl
theorem sm_set {rs:List b_}{r:b_}{k:Nat}(hd:SmD ⟨rs⟩)(hr:SmR r):SmD ⟨rs.set k r⟩ :=
 ⟨by simpa using hd.rules,λx hx=>(List.mem_or_eq_of_mem_set hx).elim (hd.each x) (λh=>h ▸ hr)⟩
def e_2 (d:c_):Prop:=SmD d/\d.rules.length<=6/\∀r∈d.rules,r.names.length<=4
theorem f_1 {rs:List b_}{r:b_}{k:Nat}(hd:e_2 ⟨rs⟩)(hn:r.names.length<=4)(hr:SmR r):e_2 ⟨rs.set k r⟩ :=
 ⟨sm_set hd.1 hr,by have:=hd.2.1;simpa using this,λx hx=>(List.mem_or_eq_of_mem_set hx).elim (hd.2.2 x) (λh=>h ▸ hn)⟩
section
variable {b:Bt}{i h:Int}
theorem r_b (G:0<=i)(h1:i<=(b.length:Int))(hb:b.length<=MX){x:Bt}(hx:x.length<=1000000):Dr b (g_L ⟨b,i,h⟩ x) (λy=>y.length<=x.length+1):=by
 have hLIM:=a_7;unfold g_L
 rw [a_T (by simp;omega),bd_some,List.nil_append]
 simp only [bd_un3']
 refine (a_i (n:=6) G h1 hb (by omega)).bd λr i h hr G h1=>?_
 by_cases H:(r==0)=true
 .rw [iP_ H]
  by_cases hp:(0:Int)<(x.length:Int)
  .rw [dT_ hp,iP_ rfl]
   refine (a_i G h1 hb hp).bd λk i h hk G h1=>?_
   refine (a_i (n:=256) G h1 hb (by omega)).bd λy i h hy G h1=>?_
   rw [n_E hk.1 hk.2,bd_some]
   exact ⟨_,_,_,rfl,G,h1,by simp⟩
  .rw [dF_ hp]
   exact ⟨_,_,_,rfl,G,h1,by omega⟩
 .rw [iN_ H]
  by_cases I:(r==1)=true
  .rw [iP_ I,ia_ (by omega) (by omega)]
   refine (a_i G h1 hb (show (0:Int)<(x.length:Int)+1 by omega)).bd λk i h hk G h1=>?_
   rw [g_f (by omega) (by omega) (by omega),bd_some]
   exact ⟨_,_,_,rfl,G,h1,by simp;omega⟩
  .rw [iN_ I]
   by_cases J:(r==2)=true
   .rw [iP_ J]
    refine (d_u G h1 hb (by simp)).bd λk i h hk G h1=>?_
    rw [Y_ (by omega),bd_some]
    exact ⟨_,_,_,rfl,G,h1,by simp⟩
   .rw [iN_ J]
    exact ⟨_,_,_,rfl,G,h1,by omega⟩
theorem r_c (G:0<=i)(h1:i<=(b.length:Int))(hb:b.length<=MX){n:Nat}(hn:30<=n):Dr b (h_T n ⟨b,i,h⟩) e_2:=by
 have hLIM:=a_7;have hMX:=MXv;unfold h_T;refine (q_R G h1 hb hn).bd λd i h hd G h1=>?_
 have hf:=hd.few;have hp:=hd.some_;have hs:=hd.sm;refine (a_i G h1 hb (show (0:Int)<(d.rules.length:Int) by omega)).bd λk i h hk G h1=>?_
 refine (a_i (n:=16) G h1 hb (by omega)).bd λr i h hr G h1=>?_
 obtain ⟨q,rfl⟩:∃q:Nat,k=q:=⟨k.toNat,by omega⟩;have hq:q<d.rules.length:=by omega
 have hR:=hs.each _<|gE_ hq;have hD:=hd.each q hq;have g1:=hD.name;have g2:=hD.bytes;have g3:=hD.names.1;have g4:=hD.tags;have g5:=hD.kidn;have hi:=ix_ hq;have hu:∀y,upd d.rules (q:Int) y=some (d.rules.set q y):=λy=>by rw [n_E (by omega) (by omega)];simp
 have hdQ:e_2 ⟨d.rules⟩:=⟨hs,hf,λr hr=>by obtain ⟨j,hj,rfl⟩:=List.getElem_of_mem hr;have:=(hd.each j hj).names.1;simp only;omega⟩
 simp only [hi,hu,bd_some,tN_]
 by_cases W:r=0
 .subst W
  rw [iP_ (show ((0:Int)==0)=true by decide)]
  obtain ⟨s,V,h2,J,H,I,L⟩:=h_f (h:=h) (l:=[(⟨[]⟩:Str),(⟨[65]⟩:Str),(d.rules[0]).name,(⟨[118,101,114,121,108,111,110,103,110,97,109,101,105,110,100,101,101,100]⟩:Str)]) G h1 hb (by simp)
  have a0:s.b.length<=40:=by
   have:=(hd.each 0 hp).name
   simp only [List.mem_cons,List.not_mem_nil,or_false] at L
   rcases L with rfl | rfl | rfl | rfl
   .decide
   .decide
   .exact this
   .decide
  rw [a_h hp,bd_some,J]
  simp only [bd_some,bd3_some,el_inl]
  exact ⟨_,_,_,rfl,H,I,f_1 hdQ (by simp only;first | omega | (simp;omega)) ⟨(by simp only;omega),(by simp only;omega),(by simp only;omega),(by simp only;omega),(by simp only;omega),hR.each⟩⟩
 by_cases Y:r=1
 .subst Y
  rw [iN_ (show ¬((1:Int)==0)=true by decide),iP_ (show ((1:Int)==1)=true by decide)]
  obtain ⟨s,V,h2,J,H,I,L⟩:=a_i (h:=h) (n:=13) G h1 hb (by omega)
  rw [J]
  simp only [bd_some,bd3_some,el_inl]
  exact ⟨_,_,_,rfl,H,I,f_1 hdQ (by simp only;first | omega | (simp;omega)) ⟨(by simp only;omega),(by simp only;omega),(by simp only;omega),(by simp only;omega),(by simp only;omega),hR.each⟩⟩
 by_cases q2:r=2
 .subst q2
  rw [iN_ (show ¬((2:Int)==0)=true by decide),iN_ (show ¬((2:Int)==1)=true by decide),iP_ (show ((2:Int)==2)=true by decide)]
  obtain ⟨s,V,h2,J,H,I,L⟩:=d_u (h:=h) (l:=[(-1),0,1,4,5,64,65]) G h1 hb (by simp)
  rw [J]
  simp only [bd_some,bd3_some,el_inl]
  exact ⟨_,_,_,rfl,H,I,f_1 hdQ (by simp only;first | omega | (simp;omega)) ⟨(by simp only;omega),(by simp only;omega),(by simp only;omega),(by simp only;omega),(by simp only;omega),hR.each⟩⟩
 by_cases q3:r=3
 .subst q3
  rw [iN_ (show ¬((3:Int)==0)=true by decide),iN_ (show ¬((3:Int)==1)=true by decide),iN_ (show ¬((3:Int)==2)=true by decide),iP_ (show ((3:Int)==3)=true by decide)]
  have H:=G;have I:=h1
  simp only [bd_some,el_inl]
  exact ⟨_,_,_,rfl,H,I,f_1 hdQ (by simp only;first | omega | (simp;omega)) ⟨(by simp only;omega),(by simp only;omega),(by simp only;omega),(by simp only;omega),(by simp only;omega),hR.each⟩⟩
 by_cases q4:r=4
 .subst q4
  rw [iN_ (show ¬((4:Int)==0)=true by decide),iN_ (show ¬((4:Int)==1)=true by decide),iN_ (show ¬((4:Int)==2)=true by decide),iN_ (show ¬((4:Int)==3)=true by decide),iP_ (show ((4:Int)==4)=true by decide)]
  obtain ⟨s,V,h2,J,H,I,L⟩:=a_i (h:=h) (n:=8) G h1 hb (by omega);have O:psh d.rules[q].kids (j_ s 1)=some (d.rules[q].kids++[j_ s 1]):=Y_ (by omega)
  rw [J]
  simp only [O,bd_some,bd3_some,el_inl]
  exact ⟨_,_,_,rfl,H,I,f_1 hdQ (by simp only;first | omega | (simp;omega)) ⟨(by simp only;omega),(by simp only;omega),(by simp only;omega),(by simp only;omega),(by simp;omega),hR.each⟩⟩
 by_cases q5:r=5
 .subst q5
  rw [iN_ (show ¬((5:Int)==0)=true by decide),iN_ (show ¬((5:Int)==1)=true by decide),iN_ (show ¬((5:Int)==2)=true by decide),iN_ (show ¬((5:Int)==3)=true by decide),iN_ (show ¬((5:Int)==4)=true by decide),iP_ (show ((5:Int)==5)=true by decide)]
  obtain ⟨s,V,h2,J,H,I,L⟩:=d_u (h:=h) (l:=[0,92]) G h1 hb (by simp);have O:psh d.rules[q].bytes (mkB s)=some (d.rules[q].bytes++[mkB s]):=Y_ (by omega)
  rw [J]
  simp only [O,bd_some,bd3_some,el_inl]
  exact ⟨_,_,_,rfl,H,I,f_1 hdQ (by simp only;first | omega | (simp;omega)) ⟨(by simp only;omega),(by simp;omega),(by simp only;omega),(by simp only;omega),(by simp only;omega),hR.each⟩⟩
 by_cases q6:r=6
 .subst q6
  rw [iN_ (show ¬((6:Int)==0)=true by decide),iN_ (show ¬((6:Int)==1)=true by decide),iN_ (show ¬((6:Int)==2)=true by decide),iN_ (show ¬((6:Int)==3)=true by decide),iN_ (show ¬((6:Int)==4)=true by decide),iN_ (show ¬((6:Int)==5)=true by decide),iP_ (show ((6:Int)==6)=true by decide)]
  obtain ⟨s,V,h2,J,H,I,L⟩:=h_f (h:=h) (l:=[(⟨[112,49]⟩:Str),(⟨[81]⟩:Str),(⟨[122]⟩:Str)]) G h1 hb (by simp)
  have a0:s.b.length<=40:=by
   simp only [List.mem_cons,List.not_mem_nil,or_false] at L
   rcases L with rfl | rfl | rfl <;> decide
  have O:psh d.rules[q].names s=some (d.rules[q].names++[s]):=Y_ (by omega)
  rw [J]
  simp only [O,bd_some,bd3_some,el_inl]
  exact ⟨_,_,_,rfl,H,I,f_1 hdQ (by simp only;first | omega | (simp;omega)) ⟨(by simp only;omega),(by simp only;omega),(by simp;omega),(by simp only;omega),(by simp only;omega),(λt ht=>(List.mem_append.1 ht).elim (hR.each t) (λh=>by rw [List.mem_singleton] at h;subst h;omega))⟩⟩
 by_cases q7:r=7
 .subst q7
  rw [iN_ (show ¬((7:Int)==0)=true by decide),iN_ (show ¬((7:Int)==1)=true by decide),iN_ (show ¬((7:Int)==2)=true by decide),iN_ (show ¬((7:Int)==3)=true by decide),iN_ (show ¬((7:Int)==4)=true by decide),iN_ (show ¬((7:Int)==5)=true by decide),iN_ (show ¬((7:Int)==6)=true by decide),iP_ (show ((7:Int)==7)=true by decide)]
  obtain ⟨s,V,h2,J,H,I,L⟩:=d_u (h:=h) (l:=[(-1),0,5,256,70000]) G h1 hb (by simp);have O:psh d.rules[q].tags s=some (d.rules[q].tags++[s]):=Y_ (by omega)
  rw [J]
  simp only [O,bd_some,bd3_some,el_inl]
  exact ⟨_,_,_,rfl,H,I,f_1 hdQ (by simp only;first | omega | (simp;omega)) ⟨(by simp only;omega),(by simp only;omega),(by simp only;omega),(by simp;omega),(by simp only;omega),hR.each⟩⟩
 by_cases q8:r=8
 .subst q8
  rw [iN_ (show ¬((8:Int)==0)=true by decide),iN_ (show ¬((8:Int)==1)=true by decide),iN_ (show ¬((8:Int)==2)=true by decide),iN_ (show ¬((8:Int)==3)=true by decide),iN_ (show ¬((8:Int)==4)=true by decide),iN_ (show ¬((8:Int)==5)=true by decide),iN_ (show ¬((8:Int)==6)=true by decide),iN_ (show ¬((8:Int)==7)=true by decide),iP_ (show ((8:Int)==8)=true by decide)]
  simp only [bd_some,el_inr]
  exact ⟨_,_,_,rfl,G,h1,⟨by simp,λx hx=>(by cases hx)⟩,by simp,λr hr=>(by cases hr)⟩
 rw [iN_ (show ¬(r==0)=true by simpa using W),iN_ (show ¬(r==1)=true by simpa using Y),iN_ (show ¬(r==2)=true by simpa using q2),iN_ (show ¬(r==3)=true by simpa using q3),iN_ (show ¬(r==4)=true by simpa using q4),iN_ (show ¬(r==5)=true by simpa using q5),iN_ (show ¬(r==6)=true by simpa using q6),iN_ (show ¬(r==7)=true by simpa using q7),iN_ (show ¬(r==8)=true by simpa using q8)]
 simp only [bd_some,el_inl]
 exact ⟨_,_,_,rfl,G,h1,hdQ⟩
end
end Go.Vw
