
import Derived.Test.YtefljifhihogoaaGreatDoorVg
namespace Go.Vw
set_option linter.unusedVariables false
open Go.RowKit Dat
structure LnA (a:H_):Prop where
 len:a.registry.versions.length<=LEN
 each:∀d∈a.registry.versions,LnD d
 bytes:a.log.bytes.length<=LEN
theorem s_8 {a:Bt}{left:Int}(hl:a_Y left)(ha:a.length<=LEN):∃r,j_J a left=some r/\(r<0∨(a_Y r/\a.length<=MX/\r+a.length<=left)):=by
 have:=MXv;refine ⟨_,q_g a hl ha,?_⟩
 grind [a_Y]
theorem s_9 {a:List Int}{left:Int}(hl:a_Y left)(ha:a.length<=LEN):∃r,j_L a left=some r/\(r<0∨(a_Y r/\a.length<=MX/\r+a.length<=left)):=by
 have:=MXv;refine ⟨_,q_g a hl ha,?_⟩
 grind [a_Y]
theorem x_s {a:List Str}{left:Int}(hl:a_Y left)(ha:a.length<=LEN)(he:∀s∈a,s.b.length<=LEN):∃r,j_K a left=some r/\(r<0∨(a_Y r/\a.length<=MX/\(∀s∈a,s.b.length<=MX)/\r+a.length<=left)):=by
 have hMX:=MXv;have hLEN:=LENv;unfold j_K;unfold a_Y at *
 rw [a_L (by omega) (by omega)]
 by_cases h:left<a.length
 .grind
 .rw [dF_ (by omega)]
  simp only [bF_,fF_]
  rcases h_f (σ:=Int) (ρ:=Int) (body:=(λI=>(λG=>bd (idx a ((I:Nat):Int)) λH=>if (decide<|(w_ G (H.b.length:Int))<0) then some (.ret (-1)) else some (.next<|w_ G (H.b.length:Int)))))
   (λk s=>(0<=s/\s<=left - a.length)/\∀j (hj:j<a.length),j<k->a[j].b.length<=MX) (λr=>r<0) (n:=a.length) (λk s hk hi=>by
    have hx:=he _<|gE_ hk
    rw [ix_ hk,a_,a_L (by omega) (by omega)]
    grind) a.length 0 (left - a.length) (by omega) ⟨by omega,λj _ h=>by omega⟩ with ⟨s,h1,h2⟩ | ⟨r,h1,h2⟩
  .rw [h1]
   exact ⟨s,rfl,.inr ⟨by omega,by omega,λt ht=>by
    obtain ⟨j,hj,rfl⟩:=QAc ht
    grind,by omega⟩⟩
  simp_all
theorem x_t {a:f_}{left:Int}(hl:a_Y left)(ha:LnR a):∃r,i_n a left=some r/\(r<0∨(a_Y r/\SmR a/\r+mR a<=left+4)):=by
 have hMX:=MXv;have hLEN:=LENv;have hn:=ha.name;unfold i_n
 rw [a_L (by grind [a_Y]) (by grind [a_Y])]
 by_cases h:left - (a.name.b.length:Int)<0
 .grind
 rw [dF_ h]
 have J:a_Y (left - (a.name.b.length:Int)):=by grind [a_Y]
 obtain ⟨r1,L,g1⟩:=s_8 (a:=a.bytes) J ha.bytes
 simp only [bF_,fF_]
 rw [L,a_]
 by_cases k1:r1<0
 .grind
 rw [dF_ k1]
 have g1:=g1.resolve_left k1;obtain ⟨r2,O,G⟩:=x_s (a:=a.names) g1.1 ha.names ha.each
 simp only [bF_,fF_]
 rw [O,a_]
 by_cases k2:r2<0
 .grind
 rw [dF_ k2]
 have G:=G.resolve_left k2;obtain ⟨r3,V,H⟩:=s_9 (a:=a.tags) G.1 ha.tags
 simp only [bF_,fF_]
 rw [V,a_]
 by_cases k3:r3<0
 .grind
 rw [dF_ k3]
 have H:=H.resolve_left k3;obtain ⟨W,Y,I⟩:=s_9 (a:=a.kids) H.1 ha.kids
 simp only [bF_,fF_]
 rw [Y,a_]
 by_cases k4:W<0
 .grind
 rw [dF_ k4]
 have I:=I.resolve_left k4
 exact ⟨_,rfl,.inr ⟨I.1,⟨by grind [a_Y],g1.2.1,G.2.1,H.2.1,I.2.1,G.2.2.1⟩,by
  grind [mR]⟩⟩
theorem x_u {d:d_}{left:Int}(hl:a_Y left)(hd:LnD d):∃r,i_o d left=some r/\(r<0∨(a_Y r/\SmD d/\4 * r+mD d<=4 * left)):=by
 have hMX:=MXv;have hLEN:=LENv;have hr:=hd.rules;have hl':=hl;unfold a_Y at hl'
 unfold i_o m_j
 rw [a_L (by omega) (by omega)]
 by_cases h:left - (d.rules.length:Int)<0
 .simp_all
 rw [dF_ h]
 simp only [bF_,fF_]
 rcases h_f (σ:=Int) (ρ:=Int) (body:=(λI=>(λJ=>bd (idx d.rules ((I:Nat):Int)) λL=>bd (i_n L J) λG=>if (decide<|G<0) then some (.ret (-1)) else some (.next G))))
   (λk s=>(a_Y s/\s+(((d.rules.take k).map mR).sum:Nat)<=left - d.rules.length+4 * (k:Int)/\s<=left - d.rules.length)/\∀j (hj:j<d.rules.length),j<k->SmR d.rules[j]) (λr=>r<0) (n:=d.rules.length) (λk s hk hi=>by
    obtain ⟨r,e,g⟩:=x_t hi.1.1<|hd.each _<|gE_ hk
    rw [ix_ hk,a_,e,a_]
    by_cases H:r<0
    .grind
    .rw [dF_ H]
     have g:=g.resolve_left H;have O:=g.2.2;have h4:4<=mR d.rules[k]:=by grind [mR]
     refine .inl ⟨_,rfl,⟨g.1,?_,by omega⟩,λj hj hjk=>?_⟩
     .grind [m_0]
     grind) d.rules.length 0 (left - d.rules.length) (by omega) ⟨⟨by grind [a_Y],by simp,by omega⟩,λj _ h=>by omega⟩ with ⟨s,h1,h2⟩ | ⟨r,h1,h2⟩
 .rw [h1]
  simp only [a_,W_]
  obtain ⟨⟨h3,h4,h5⟩,h6⟩:=h2
  rw [QAY] at h4
  rw [dF_ (by have:=h3.1;omega)]
  exact ⟨s,rfl,.inr ⟨h3,⟨by omega,λr hr=>by
   obtain ⟨j,hj,rfl⟩:=QAc hr
   grind⟩,by grind [mD]⟩⟩
 simp_all
theorem x_v {l:List d_}{left:Int}(hl:a_Y left)(hn:l.length<=LEN)(hd:∀d∈l,LnD d):∃r,k_C l left=some r/\(r<0∨(a_Y r/\l.length<=MX/\(∀d∈l,SmD d)/\4 * r+((l.map mD).sum:Nat)<=4 * left)):=by
 have hMX:=MXv;have hLEN:=LENv;have hl':=hl;unfold a_Y at hl'
 unfold k_C
 rw [a_L (by omega) (by omega)]
 by_cases h:left - (l.length:Int)<0
 .grind
 rw [dF_ h]
 simp only [bF_,fF_]
 rcases h_f (σ:=Int) (ρ:=Int) (body:=(λJ=>(λL=>bd (idx l ((J:Nat):Int)) λI=>bd (i_o I L) λG=>if (decide<|G<0) then some (.ret (-1)) else some (.next G))))
   (λk s=>(a_Y s/\4 * s+(((l.take k).map mD).sum:Nat)<=4 * (left - l.length))/\∀j (hj:j<l.length),j<k->SmD l[j]) (λr=>r<0) (n:=l.length) (λk s hk hi=>by
    obtain ⟨r,e,g⟩:=x_u hi.1.1<|hd _<|gE_ hk
    rw [ix_ hk,a_,e,a_]
    by_cases H:r<0
    .grind
    .rw [dF_ H]
     have g:=g.resolve_left H;have O:=g.2.2;refine .inl ⟨_,rfl,⟨g.1,?_⟩,λj hj hjk=>?_⟩
     .grind [m_0]
     grind) l.length 0 (left - l.length) (by omega) ⟨⟨by grind [a_Y],by simp⟩,λj _ h=>by omega⟩ with ⟨s,h1,h2⟩ | ⟨r,h1,h2⟩
 .rw [h1]
  obtain ⟨⟨h3,h4⟩,h6⟩:=h2
  rw [QAY] at h4
  exact ⟨s,rfl,.inr ⟨h3,by omega,λr hr=>by
   obtain ⟨j,hj,rfl⟩:=QAc hr
   grind,by omega⟩⟩
 simp_all
def mA (a:H_):Nat:=(a.registry.versions.map mD).sum+a.log.bytes.length
theorem x_w {a:H_}(ha:LnA a):∃r,k_D a 1048576=some r/\(r<0∨(a_Y r/\SmA a/\a.log.bytes.length<=MX/\mA a<=4194304)):=by
 have hMX:=MXv;have hML:=MLv;obtain ⟨r1,H,g1⟩:=x_v (l:=a.registry.versions) (left:=1048576) ⟨by omega,by omega⟩ ha.len ha.each;unfold k_D m_x m_y
 simp only
 rw [H,a_]
 by_cases h1:r1<0
 .simp_all
 have g1:=g1.resolve_left h1;obtain ⟨r2,I,G⟩:=s_8 (a:=a.log.bytes) g1.1 ha.bytes
 rw [dF_ h1]
 simp only [bF_,fF_,a_]
 rw [dF_ h1]
 simp only [bF_,fF_,I,a_]
 by_cases h2:r2<0
 .simp_all
 have G:=G.resolve_left h2
 rw [dF_ h2]
 simp only [bF_,fF_,a_]
 rw [dF_ h2]
 exact ⟨_,rfl,.inr ⟨G.1,⟨g1.2.1,g1.2.2.1,by omega⟩,G.2.1,by
  grind [mA]⟩⟩
theorem x_x {l:List d_}(hl:l.length<=MX)(hd:∀d∈l,SmD d):k_E l=some l:=by
 have:=MXv;have:=a_7;unfold k_E
 rw [g_k (by omega),a_,j_o _ (λk hk c hc=>by grind [b_E,a_,v_J,List.getElem_mem,c_P])];rfl
theorem x_y {a:H_}(ha:SmA a)(hb:a.log.bytes.length<=MX):g_C a=some a:=by
 unfold g_C m_z m_A
 simp only [x_x ha.len ha.each,q_h hb,a_]
theorem x_z (l:List d_):k_Y l l=some true:=by
 unfold k_Y
 rw [b_Z (λ_=>()) (n:=l.length) (λj hj=>by simp_all [a_,v_L,ix_])]
 simp
theorem x_A (a:H_):k_Z a a=some true:=by
 unfold k_Z m_F m_G
 simp_all [x_z,q_j,a_]
def j_z (n:Nat)(a:H_)(k:Int):H_×Int :=
 (⟨⟨mkL (fD n) a.registry.versions k⟩,⟨(List.range a.log.bytes.length).map (λ(i:Nat)=>mkB<|mkK (fD n) a.registry.versions k+i),a.log.stored⟩⟩,mkK (fD n) a.registry.versions k+a.log.bytes.length)
theorem x_B (n:Nat)(a:H_)(k:Int):(j_z n a k).2=k+mA a:=by
 grind [mD,j_z,mA,i_e,o_h]
theorem x_C {a:H_}(ha:SmA a){n:Nat}(hn:1100000<=n){k:Int}(G:0<=k)(hk:k+mA a<=1152921504606846976):l_1 n a k=some ((j_z n a k).2,(j_z n a k).1.registry.versions,(j_z n a k).1.log.bytes):=by
 have hMX:=MXv;have hML:=MLv;have hb:=ha.bytes;unfold mA at hk
 unfold l_1 m_J m_I
 simp only
 rw [x_q ha.len ha.each (by omega) G (by omega)]
 simp only [a_b]
 have hx:=i_e _ mD (o_h n) a.registry.versions k
 rw [q_n (by omega) (by omega) (by omega)]
 rfl
end Go.Vw
