
import Derived.Test.YtajhmimbhplkfaaGreatDoorVwP24
set_option linter.unusedVariables false
namespace Go.Vw
open Go.RowKit Dat
section
variable {d:f_} {b b':List UInt8} {e:Nat}
theorem k_4 {r:e_} {s:Str} {rd:Int→Nat→RR} {B:Nat} : ∀ (ks:List Int) (j p:Nat),(∀ k∈ks,∀ p,p≤B→p≤(rd k p).2.1∧(rd k p).2.1≤B)→p≤B → ∀ i q,b_g r s rd ks j p=some (i,q)→p≤q
 | [],_,_,_,_,i,q,h=>by cases h
 | k::ks,j,p,hle,hp,i,q,h=>by
  have hk:=hle k mS_ p hp;unfold b_g at h
  split at h
  ·cases h;exact Nat.le_refl _
  split at h
  ·exact Nat.le_trans hk.1<|k_4 ks (j+1) _ (fun k hk=>hle k<|mT_ _ hk) hk.2 i q h
  ·cases h
theorem l_W {r:e_} {s:Str} {rd rd':Int→Nat→RR} {B:Nat} : ∀ (ks:List Int) (j p:Nat),(∀ k∈ks,∀ p,p≤B→p≤(rd k p).2.1∧(rd k p).2.1≤B)→(∀ k∈ks,∀ p,p≤B→(rd k p).2.2=0→(rd k p).2.1≤e→rd' k p=rd k p)→p≤B → ∀ i q,b_g r s rd ks j p=some (i,q)→q≤e→b_g r s rd' ks j p=some (i,q)
 | [],_,_,_,_,_,i,q,h,_=>by cases h
 | k::ks,j,p,hle,hr,hp,i,q,h,hq=>by
  have hk:=hle k mS_ p hp;unfold b_g at h ⊢
  by_cases hs:(a_z r j).b=s.b
  ·rw [iP_ hs] at h ⊢;exact h
  ·rw [iN_ hs] at h ⊢
   by_cases h0:(rd k p).2.2=0
   ·rw [iP_ h0] at h
    have hm:=k_4 ks (j+1) _ (fun k hk=>hle k<|mT_ _ hk) hk.2 i q h
    rw [hr k mS_ p hp h0 (by omega),iP_ h0]
    exact l_W ks (j+1) _ (fun k hk=>hle k<|mT_ _ hk) (fun k hk=>hr k<|mT_ _ hk) hk.2 i q h hq
   ·rw [iN_ h0] at h;cases h
theorem p_t (hv:S_ d=true) {i:Nat} (hi:i<d.rules.length) {p:Nat} (hp:p≤b.length) {s:Str} {k q:Nat} (h:a_N d.rules b d.rules[i] p s=some (k,q)):p≤q ∧ ∀ (b':List UInt8) (e:Nat),c_7 b b' e→q≤e→a_N d.rules b' d.rules[i] p s=some (k,q):=by
 have hr:=b_a hv hi;unfold a_N at h ⊢
 by_cases hkk:5≤d.rules[i].kind∧d.rules[i].kind≤9
 ·rw [iP_ hkk] at h
  simp only [iP_ hkk]
  cases hh:M_ d.rules b d.rules[i] p with
  | inl c=>rw [hh] at h;cases h
  | inr y =>
   obtain ⟨num,ks,st⟩:=y
   rw [hh] at h
   simp only at h
   have hks:=e_v hr.kind hkk hp hh;have hpos : ∀ k∈ks,0≤k∧k<(i:Int):=fun k hk=>hr.kids k<|hks.1 k hk
   have hmono : ∀ k∈ks,∀ p,p≤b.length→p≤(rdK d.rules b k p).2.1∧(rdK d.rules b k p).2.1≤b.length:=fun k hk p hp=>a_X hv k.toNat (by have:=hpos k hk;omega) p hp
   have hm:=k_4 ks 0 st hmono hks.2.2.1 k q h;refine ⟨by omega,fun b' e hA hq=>?_⟩
   rw [l_U hA hr.kind hh (show st≤e by omega)]
   exact l_W (e:=e) ks 0 st hmono (fun k hk p hp h0 he=>p_s hv hA k.toNat (by have:=hpos k hk;omega) p hp h0 he) hks.2.2.1 k q h hq
 ·rw [iN_ hkk] at h;cases h
theorem l_X (hv:S_ d=true) : ∀ (ss:List Str) (i p:Nat),i<d.rules.length→p≤b.length → ∀ k q,b_U d b ss i p=some (k,q)→p≤q ∧ ∀ (b':List UInt8) (e:Nat),c_7 b b' e→q≤e→b_U d b' ss i p=some (k,q)
 | [],i,p,hi,hp,k,q,h=>by
  cases h
  exact ⟨Nat.le_refl _,fun b' e _ _=>rfl⟩
 | s::ss,i,p,hi,hp,k,q,h=>by
  unfold b_U at h ⊢
  rw [k_1 hi] at h ⊢
  cases hs:a_N d.rules b d.rules[i] p s with
  | none=>rw [hs] at h;cases h
  | some x =>
   obtain ⟨k',q'⟩:=x
   rw [hs] at h
   have h1:=j_Z hv hi hp hs;have h2:=p_t hv hi hp hs;have h3:=l_X hv ss k' q' (by omega) h1.2 k q h;refine ⟨by omega,fun b' e hA hq=>?_⟩
   rw [h2.2 b' e hA (by omega)]
   exact h3.2 b' e hA hq
theorem l_Y {path:Str} {x:Nat×Nat} (hf:b_x d b path=some x) (hA:c_7 b b' x.2):b_x d b' path=if b'.length≤400∧(rdW d.rules b' x.1 x.2).2.2=0 then some x else none:=by
 unfold b_x at hf ⊢
 split at hf
 ·rename_i hc
  have hl:=b_V hc.2.1
  cases hs:b_U d b (c_J path).1 (d.rules.length - 1) 0 with
  | none=>rw [hs] at hf;cases hf
  | some y =>
   rw [hs] at hf
   simp only at hf
   split at hf
   ·cases hf
    have:=(l_X hc.2.1 _ _ _ (by omega) (by omega) x.1 x.2 hs).2 b' x.2 hA (Nat.le_refl _)
    by_cases hb:b'.length≤400
    ·rw [iP_ ⟨hc.1,hc.2.1,hb⟩,this]
     simp only [hb,true_and]
    ·rw [iN_ (fun h=>hb h.2.2),iN_<|fun h=>hb h.1]
   ·cases hf
 ·cases hf
def b_y (b:List UInt8) (p en:Nat) (ins:List UInt8):List UInt8:=b.take p++ins++b.drop en
def g_j (d:f_) (b:List UInt8) (path:Str) (ins:List UInt8):List UInt8×Bool:=match b_x d b path with
 | none=>(b,false)
 | some x =>
  if (b_x d (b_y b x.2 (rdW d.rules b x.1 x.2).2.1 ins) path).isSome=true∧okF d (b_y b x.2 (rdW d.rules b x.1 x.2).2.1 ins)=true∧(rdW d.rules (b_y b x.2 (rdW d.rules b x.1 x.2).2.1 ins) x.1 x.2).2.1=x.2+ins.length then (b_y b x.2 (rdW d.rules b x.1 x.2).2.1 ins,true) else (b,false)
theorem p_u {p en:Nat} {ins:List UInt8}:(b_y b p en ins).length≤b.length+ins.length+b.length:=by unfold b_y;simp;omega
theorem l_Z {p en:Nat} {ins:List UInt8} (hp:p≤b.length):c_7 b (b_y b p en ins) p:=by
 refine ⟨hp,by unfold b_y;simp;omega,?_⟩;unfold b_y
 rw [List.append_assoc,List.take_append_of_le_length (by simp;omega),List.take_take,Nat.min_self]
theorem p_v {p en:Nat} {ins:List UInt8} (hp:p≤b.length):piece (b_y b p en ins) p (p+ins.length)=ins:=by
 unfold piece b_y;have:(b.take p++ins).length=p+ins.length:=by simp;omega
 rw [← this,List.take_left',List.drop_append_of_le_length (by simp;omega)]
 ·rw [List.drop_of_length_le (by simp;omega)];rfl
 ·rfl
theorem k_5 {p en:Nat} {ins:List UInt8} (h1:p≤en) (h2:en≤b.length):f_7 b p ((en:Int) - p) ins=(b_y b p en ins,true):=by
 unfold f_7 b_y
 rw [iP_ (by omega),show ((p:Int)+((en:Int) - p)).toNat=en by omega,tN_]
theorem p_w (hd:SmD d) (hb:b.length≤MX) {n:Nat} (hn:1048600≤n) {path:Str} (hp:path.b.length≤MX) {ins:List UInt8} (hi:ins.length≤MX):g_J n d b path ins=some (g_j d b path ins):=by
 have hMX:=MXv;unfold g_J g_j
 rw [g_i hb,bd_some,i_o hd hn hp]
 unfold c_6
 cases hf:b_x d b path with
 | none=>rfl
 | some x =>
  obtain ⟨hv,hb4,h1,h2,h0⟩:=i_n hf;have hle:=a_X hv x.1 h1 x.2 h2
  simp only [bd2_some,nT_,bF_,fF_]
  rw [a_r (by omega) (by omega),l_R hb hi,k_5 hle.1 hle.2]
  simp only [bd2_some]
  rw [i_o hd hn hp]
  have hA:=l_Z (b:=b) (p:=x.2) (en:=(rdW d.rules b x.1 x.2).2.1) (ins:=ins) h2;have hfp:=l_Y hf hA;generalize b_y b x.2 (rdW d.rules b x.1 x.2).2.1 ins=u at *
  unfold c_6
  rw [hfp]
  by_cases hc:u.length≤400∧(rdW d.rules u x.1 x.2).2.2=0
  ·rw [iP_ hc]
   have hl2:=hA.l2;have hle':=a_X hv x.1 h1 x.2 (b:=u) hl2
   simp only [bd2_some,nT_,bF_,fF_,i_f hd (show 500≤n by omega),bd_some,Option.isSome_some,true_and,bN_]
   rw [ia_ (by omega) (by omega)]
   cases okF d u with
   | false=>rfl
   | true =>
    simp only [nT_,bF_,fF_,bd_some,true_and]
    by_cases he:(rdW d.rules u x.1 x.2).2.1=x.2+ins.length
    ·rw [iP_ he,he]
     simp
    ·rw [iN_ he,iP_ (by simp;omega)]
  ·rw [iN_ hc];rfl
theorem p_x (hd:SmD d) {n:Nat} (hn:500≤n):h_a n d b=some (okF d b):=by
 unfold h_a okF
 rw [q_9 hd hn];rfl
theorem p_y {p en:Nat} (h1:p≤en) (h2:en≤b.length) (hb:b.length≤4194304) {path:Str} {i:Int}:h_b b ⟨path,i,p,en⟩=some (piece b p en):=by
 unfold h_b
 simp only
 rw [dF_ (show ¬ (p:Int)<0 by omega),dF_ (show ¬ (en:Int)<(p:Int) by omega),dF_ (show ¬ (b.length:Int)<(en:Int) by omega)]
 simp only [bF_,fF_,bd_some]
 rw [c_e h1 h2,bd_some,c_g (by rw [a_x,c_K h2];simp;omega)]
 rfl
theorem p_z (x y:List UInt8):i_L x y=some (x==y):=rfl
theorem p_A (hd:SmD d) (hb:b.length≤MX) {n:Nat} (hn:1048600≤n) {path:Str} (hp:path.b.length≤MX) {ins:List UInt8} (hi:ins.length≤MX):h_c n d b path ins=some (g_j d b path ins):=by
 have hMX:=MXv;unfold h_c g_j
 rw [l_O hd hn hp]
 unfold c_6
 cases hf:b_x d b path with
 | none =>
  simp only [bd2_some,bF_,fF_,bd_some,el_inl,g_i hb]
 | some x =>
  obtain ⟨hv,hb4,h1,h2,h0⟩:=i_n hf;have hle:=a_X hv x.1 h1 x.2 h2
  simp only [bd2_some,fT_]
  rw [a_r (by omega) (by omega),p_o hb hi,k_5 hle.1 hle.2]
  simp only [bd2_some]
  rw [l_O hd hn hp]
  have hA:=l_Z (b:=b) (p:=x.2) (en:=(rdW d.rules b x.1 x.2).2.1) (ins:=ins) h2;have hpc:=p_v (b:=b) (p:=x.2) (en:=(rdW d.rules b x.1 x.2).2.1) (ins:=ins) h2;have hnl:=p_u (b:=b) (p:=x.2) (en:=(rdW d.rules b x.1 x.2).2.1) (ins:=ins);have hfp:=l_Y hf hA;generalize b_y b x.2 (rdW d.rules b x.1 x.2).2.1 ins=u at *
  unfold c_6
  rw [hfp]
  by_cases hc:u.length≤400∧(rdW d.rules u x.1 x.2).2.2=0
  ·rw [iP_ hc]
   have hl2:=hA.l2;have hle':=a_X hv x.1 h1 x.2 (b:=u) hl2
   simp only [bd2_some,fT_,p_x hd (show 500≤n by omega),bd_some,Option.isSome_some,true_and]
   rw [p_y hle'.1 hle'.2 (by omega),bd_some,p_z]
   have hiff:(piece u x.2 (rdW d.rules u x.1 x.2).2.1==ins)=decide ((rdW d.rules u x.1 x.2).2.1=x.2+ins.length):=by
    by_cases he:(rdW d.rules u x.1 x.2).2.1=x.2+ins.length
    ·rw [dT_ he,he,hpc];simp
    ·rw [dF_ he,beq_eq_false_iff_ne]
     intro h;have:=congrArg List.length h
     rw [c_K hle'.2] at this
     omega
   rw [hiff]
   cases okF d u with
   | false =>
    simp only [bF_,fF_,bd_some,el_inl,g_i hb,false_and]
   | true =>
    simp only [fT_,bd_some,true_and]
    by_cases he:(rdW d.rules u x.1 x.2).2.1=x.2+ins.length
    ·rw [dT_ he,iP_ he];rfl
    ·rw [dF_ he,iN_ he]
     simp only [bF_,fF_,bd_some,el_inl,g_i hb]
  ·rw [iN_ hc]
   simp only [bd2_some,bF_,fF_,bd_some,el_inl,g_i hb,Option.isSome_none,false_and]
end
end Go.Vw
