
import Derived.Test.YtahlbmonbflopaaGreatDoorVb2
namespace Go.Vw
open Go.RowKit Dat
section
variable {b:Bt}{i h:Int}
theorem drU {α β:Type}{o:Option (Int×Int×α)}{P:Int->Int->α->Prop}{Q:β->Prop}{f:Int->Int->α->Option (β×Int×Int)}(d:∃ci ch x,o=some (ci,ch,x)/\P ci ch x)(k:∀ci ch x,P ci ch x->Dr b (f ci ch x) Q):Dr b (bd o<|un3 f) Q:=by
 obtain ⟨ci,ch,x,rfl,hp⟩:=d;exact k ci ch x hp
theorem p_W (G:0<=i)(h1:i<=(b.length:Int))(hb:b.length<=MX){n:Nat}(hn:100<=n){t:Nat}(ht:t<=4){d:c_}(hd:WD t d):Dr b (f_q n ⟨b,i,h⟩ d) (λd'=>WD (t+1) d'):=by
 have hL:LIM=4294967296:=rfl;unfold f_q;refine (m_D G h1 hb hn (by omega) hd).bd λO i h hw G h1=>?_
 have hpos:=hw.pos;have hfew:=hw.few;refine (a_i G h1 hb (n:=(O.rules.length:Int)) (by omega)).bd λk i h hk G h1=>?_
 obtain ⟨k,rfl⟩:∃q:Nat,k=q:=⟨k.toNat,by omega⟩;have hkl:k<O.rules.length:=by omega
 rw [ix_ hkl,bd_some]
 have hr:=hw.each k hkl;have a0:=hr.mono<|Nat.le_succ t
 have fin:∀r',WRl (t+1) k r'->WD (t+1) ⟨O.rules.set ((k:Int)).toNat r'⟩/\(O.rules.set ((k:Int)).toNat r').length<=8+t:=λr' h'=>by
  rw [tN_]
  exact ⟨(hw.mono<|Nat.le_succ t).set h',by simpa using hfew⟩
 generalize O.rules[k]=r at hr a0
 obtain ⟨V,a2,⟨a3,a3'⟩,W,a5,a6,a7,Y,a9⟩:=hr;refine drU (P:=λci ch rs=>(0<=ci/\ci<=(b.length:Int))/\WD (t+1) ⟨rs⟩/\rs.length<=8+t) ?_ ?_
 .by_cases h3:r.kind=3
  .rw [iP_ (by simp [h3])]
   obtain ⟨x,H,L,e,I,J,hx⟩:=a_i (h:=h) G h1 hb (n:=5) (by decide)
   rw [e,bd3_some]
   have hi:h_ 1 x=1+x:=ia_ (by omega) (by omega);exact ⟨_,_,_,rfl,⟨I,J⟩,fin _ ⟨V,a2,⟨by simp only;omega,a3'⟩,W,by simp only;omega,λq=>by simp only at q;omega,λq=>by simp only at q;omega,Y,λ_=>by simp only [hi];omega⟩⟩
  rw [iN_ (by simp [h3])]
  by_cases h6:r.kind=6
  .obtain ⟨b1,b2⟩:=a6 h6
   rw [iP_ (by simp [h6])]
   have flag:∃(o:Bool)(H L:Int),(if (decide<|(r.names.length:Int)<8) then bd3 (b_R (⟨b,i,h⟩:m_) 2) λab ad ae=>some (ab,ad,ae) else some (false,i,h))=some (o,H,L)/\0<=H/\H<=(b.length:Int):=by
    by_cases hs:(r.names.length:Int)<8
    .obtain ⟨o,H,L,e,x1,x2,_⟩:=e_0 (h:=h) G h1 hb 2;exact ⟨o,H,L,by rw [dT_ hs,iP_ rfl,e,bd3_some],x1,x2⟩
    .exact ⟨false,i,h,by rw [dF_ hs,iN_ (by simp)],G,h1⟩
   obtain ⟨o,H,L,e,I,J⟩:=flag
   rw [e,bd_some,un3]
   cases o with
   | true =>
    rw [iP_ rfl,Y_ (by omega),bd_some]
    obtain ⟨y,i3,g3,e3,c1,c2,_⟩:=h_e (h:=L) I J hb (k:Int)
    rw [e3,bd3_some,Y_ (by omega),bd_some,bd_some,un3,bd_some]
    refine ⟨_,_,_,rfl,⟨c1,c2⟩,fin _ ⟨V,a2,⟨?_,?_⟩,W,?_,λ_=>⟨?_,?_⟩,λq=>by simp only at q;omega,Y,λq=>by simp only at q;omega⟩⟩
    .simp only [List.length_append,lC_,List.length_nil];omega
    .intro s hs
     rcases List.mem_append.1 hs with hs | hs
     .exact a3' s hs
     .obtain rfl:=List.mem_singleton.1 hs;exact by decide
    .simp only [List.length_append,lC_,List.length_nil];omega
    .simp only [List.length_append,lC_,List.length_nil];omega
    .simp only [List.length_append,lC_,List.length_nil];omega
   | false =>
    rw [iN_ (by simp)]
    by_cases h2:(1:Int)<(r.names.length:Int)
    .rw [dT_ h2,iP_ rfl,g_f (by decide) (by omega)<|Int.le_refl _,bd_some,g_f (by decide) (by omega)<|Int.le_refl _,bd_some,bd_some,bd_some,un3,bd_some]
     refine ⟨_,_,_,rfl,⟨I,J⟩,fin _ ⟨V,a2,⟨?_,?_⟩,W,?_,λ_=>⟨?_,?_⟩,λq=>by simp only at q;omega,Y,λq=>by simp only at q;omega⟩⟩
     .simp only [List.length_drop,List.length_take,tN_];omega
     .intro s hs;exact a3' s<|List.mem_of_mem_take<|List.mem_of_mem_drop hs
     .simp only [List.length_drop,List.length_take,tN_];omega
     .simp only [List.length_drop,List.length_take,tN_];omega
     .simp only [List.length_drop,List.length_take,tN_];omega
    .rw [dF_ h2,iN_ (by simp),bd_some,bd_some,un3,bd_some]
     exact ⟨_,_,_,rfl,⟨I,J⟩,fin _ a0⟩
  rw [iN_ (by simp [h6])]
  by_cases aa:r.kind=10
  .rw [iP_ (by simp [aa])]
   simp only [bd_some,un3]
   exact ⟨_,_,_,rfl,⟨G,h1⟩,fin _ ⟨V,by simp,⟨by simp only;omega,a3'⟩,W,by simp only;omega,λq=>by simp only at q;omega,λq=>by simp only at q;omega,Y,λq=>by simp only at q;omega⟩⟩
  rw [iN_ (by simp [aa])]
  by_cases h1':r.kind=1
  .rw [iP_ (by simp [h1'])]
   by_cases hs:r.size<3
   .rw [dT_ hs,iP_ rfl]
    simp only [bd_some,un3]
    exact ⟨_,_,_,rfl,⟨G,h1⟩,fin _ ⟨V,a2,⟨by simp only;omega,a3'⟩,W,by simp only;omega,λq=>by simp only at q;omega,λq=>by simp only at q;omega,Y,λq=>by simp only at q;omega⟩⟩
   .rw [dF_ hs,iN_ (by simp)]
    simp only [bd_some,un3]
    exact ⟨_,_,_,rfl,⟨G,h1⟩,fin _ a0⟩
  .rw [iN_ (by simp [h1'])]
   simp only [bd_some,un3]
   exact ⟨_,_,_,rfl,⟨G,h1⟩,fin _ a0⟩
 .rintro ci ch rs ⟨⟨I,J⟩,hW,hlen⟩;refine (e_0 I J hb 4).bd λo i h _ G h1=>?_
  have hp:0<rs.length:=hW.pos
  cases o with
  | false =>
   rw [iN_ (by simp),bd_some]
   exact ⟨_,_,_,rfl,G,h1,hW⟩
  | true =>
   rw [iP_ rfl,Y_ (by omega),bd_some,bd_some]
   refine ⟨_,_,_,rfl,G,h1,by simp,by simp only [List.length_append,lC_,List.length_nil];omega,λj hj=>?_⟩
   simp only [List.length_append,lC_,List.length_nil] at hj
   by_cases hjl:j<rs.length
   .simp only [List.getElem_append_left hjl]
    exact hW.each j hjl
   .have:j=rs.length:=by omega
    subst this
    simp only [List.getElem_concat_length]
    exact ⟨Nat.le_of_ble_eq_true rfl,Nat.zero_le _,⟨Nat.zero_le _,λs hs=>by cases hs⟩,Nat.zero_le _,by simp only [lC_,List.length_nil];omega,λq=>by simp at q,λq=>by simp at q,λ_=>rfl,λq=>by simp at q⟩
end
end Go.Vw
