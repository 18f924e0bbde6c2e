
import Derived.Test.YtdgimlkkidpmmaaGreatDoorVz
import Derived.Test.YtdgimlkkidpmmaaGreatDoorVf
namespace Go.Vw
open Go.RowKit Dat
theorem o_t:∀(n:Nat)(s:Bt)(m:Nat),s.length<=n ->
  (G_<|s.take m).2<=m/\(G_<|s.take m).2<=s.length/\G_ (s.take (G_<|s.take m).2)=G_ (s.take m)/\(∃t,(G_ s).1=(G_<|s.take m).1++t)/\∀t,t<=m->b_y s t=true->t<=(G_<|s.take m).2
 | n,s,m,hn=>by
  cases hd:a_z (s.take m) with
  | none =>
   rw [d_O hd]
   refine ⟨Nat.zero_le _,Nat.zero_le _,rfl,⟨_,rfl⟩,λt ht hh=>?_⟩
   rcases Nat.eq_zero_or_pos t with rfl | G
   .exact Nat.le_refl _
   cases H:a_z s with
   | none=>rw [p_g H G] at hh;cases hh
   | some x =>
    obtain ⟨r,k⟩:=x
    rw [m_R H G,aE_,dE_] at hh
    rw [m_E H (Nat.le_trans hh.1 ht)] at hd
    cases hd
  | some x =>
   obtain ⟨r,k⟩:=x;obtain ⟨h1,h2⟩:=k_w hd;have hp:=g_e h1
   match n,hn with
   | 0,hn=>omega
   | n+1,hn =>
    obtain ⟨a,a',b,⟨t,c⟩,d⟩:=o_t n (s.drop k) (m - k) (by rw [List.length_drop];omega);have he:G_ (s.take m)=(r::(G_<|(s.drop k).take (m - k)).1,k+(G_<|(s.drop k).take (m - k)).2):=by rw [d_P hd,List.drop_take]
    rw [List.length_drop] at a'
    rw [he]
    simp only
    generalize G_ ((s.drop k).take (m - k))=q at *
    refine ⟨by omega,by omega,?_,⟨t,by rw [d_P h1,c];rfl⟩,λt ht hh=>?_⟩
    .rw [d_P (m_E h1 (show k<=k+q.2 by omega)),List.drop_take,Nat.add_sub_cancel_left,b]
    .rcases Nat.eq_zero_or_pos t with rfl | G
     .exact Nat.zero_le _
     rw [m_R h1 G,aE_,dE_] at hh
     have:=d (t - k) (by omega) hh.2
     omega
theorem m_g:∀(n:Nat)(s c:Bt),s.length<=n->(G_ s).2=s.length->G_ (s++c)=((G_ s).1++(G_ c).1,s.length+(G_ c).2)
 | n,s,c,hn,hf=>by
  cases hd:a_z s with
  | none =>
   rw [d_O hd] at hf
   obtain rfl:=List.eq_nil_of_length_eq_zero hf.symm
   rw [d_O hd,List.nil_append,List.nil_append,List.length_nil,Nat.zero_add]
  | some x =>
   obtain ⟨r,k⟩:=x;have hp:=g_e hd
   match n,hn with
   | 0,hn=>omega
   | n+1,hn =>
    have h2:a_z (s++c)=some (r,k):=by
     refine (k_w (m:=s.length) ?_).1
     rw [List.take_left];exact hd
    rw [d_P hd] at hf ⊢
    rw [d_P h2,List.drop_append_of_le_length hp.2]
    simp only at hf ⊢
    rw [m_g n (s.drop k) c (by rw [List.length_drop];omega) (by rw [List.length_drop];omega)]
    rw [List.length_drop]
    simp only [List.cons_append,Prod.mk.injEq,true_and]
    omega
theorem s_x (l:List w_)(r:m_):(c_r l r).length<=l.length+1:=o_W
theorem o_u:∀(rs:List m_)(l:List w_),(rs.foldl c_r l).length<=l.length+rs.length
 | [],l=>Nat.le_refl _
 | r::rs,l=>by
  rw [List.foldl_cons]
  have h1:=o_u rs<|c_r l r;have h2:=s_x l r
  simp only [lC_];omega
theorem o_v (s:Bt):(b_T s).length<=(G_ s).1.length:=by have:=o_u (G_ s).1 [];simpa [b_T] using this
def b_Q (l:Log)(k:Int):Nat:=(G_<|l.bytes.take (min (max k l.stored) (l.bytes.length:Int)).toNat).2
def e_g (l:Log)(k:Int):Log:=if a_q l then ⟨l.bytes.take<|b_Q l k,(b_Q l k:Int)⟩ else l
def c_a (l:Log):Log:=if a_q l then ⟨l.bytes,(l.bytes.length:Int)⟩ else l
theorem h_s {l:Log}(h:a_q l=true):0<=l.stored/\l.stored<=(l.bytes.length:Int)/\(G_ l.bytes).2=l.bytes.length/\b_y l.bytes l.stored.toNat=true:=by
 unfold a_q at h
 simp only [aE_,dE_,beq_iff_eq] at h
 exact ⟨h.1.1,h.1.2,h.2.1,h.2.2⟩
theorem m_h {l:Log}(G:0<=l.stored)(h1:l.stored<=(l.bytes.length:Int))(h2:(G_ l.bytes).2=l.bytes.length)(h3:b_y l.bytes l.stored.toNat=true):a_q l=true:=by
 unfold a_q
 simp only [aE_,dE_,beq_iff_eq]
 exact ⟨⟨G,h1⟩,h2,h3⟩
theorem m_i {l:Log}(h:a_q l=true):a_q (c_a l)=true:=by
 obtain ⟨G,h1,h2,h3⟩:=h_s h;unfold c_a
 rw [iP_ h]
 refine m_h (by simp) (by simp) h2 ?_;unfold b_y
 simp [h2]
theorem m_j {l:Log}(h:a_q l=true)(k:Int):b_Q l k<=l.bytes.length/\l.stored<=(b_Q l k:Int)/\G_ (l.bytes.take<|b_Q l k)=G_ (l.bytes.take (min (max k l.stored) (l.bytes.length:Int)).toNat)/\(∃t,(G_ l.bytes).1=(G_<|l.bytes.take<|b_Q l k).1++t)/\a_q (e_g l k)=true:=by
 obtain ⟨G,h1,h2,h3⟩:=h_s h;obtain ⟨a,a',b,⟨t,c⟩,d⟩:=o_t _ l.bytes (min (max k l.stored) (l.bytes.length:Int)).toNat (Nat.le_refl _);have hs:=d l.stored.toNat (by omega) h3;have he:b_Q l k=(G_<|l.bytes.take (min (max k l.stored) (l.bytes.length:Int)).toNat).2:=rfl
 rw [← he] at a a' b hs
 refine ⟨a',by omega,b,⟨t,by rw [b];exact c⟩,?_⟩;unfold e_g
 rw [iP_ h]
 have hl:(l.bytes.take<|b_Q l k).length=b_Q l k:=by rw [List.length_take];omega
 refine m_h (by simp) (by simp only;rw [hl];exact Int.le_refl _) (by simp only;rw [hl,b];exact he.symm) ?_;unfold b_y
 simp only [tN_,List.take_take,Nat.min_self]
 rw [b,← he];exact bQ_ _
theorem s_y (x y:Int):i_i x y=some (max x y):=by
 unfold i_i j_R j_Q
 by_cases h:x<y
 .have:(if decide (x<y) then some y else some x)=some (max x y):=by
   rw [dT_ h,iP_ rfl,Int.max_def,iP_ (by omega)]
  simp only [lC_,List.length_nil,t_,idx,bd_some]
  simp [el,bd,Int.max_def,h,Int.le_of_lt h]
 .have h':y<=x:=by omega
  have:(if decide (x<y) then some y else some x)=some (max x y):=by
   rw [dF_ h,iN_ (by simp),Int.max_def]
   split
   .congr 1;omega
   .rfl
  have hm:max x y=x:=by rw [Int.max_def];split <;> omega
  simp only [lC_,List.length_nil,t_]
  simp [el,bd,idx,h,hm]
theorem s_z {l:Log}(hb:l.bytes.length<=ML)(k:Int){n:Nat}(hn:1060100<=n):i_9 n l k=some (e_g l k):=by
 unfold i_9
 rw [k_J hb,bd_some,m_S hb hn,bd_some]
 unfold e_g
 cases h:a_q l with
 | false=>simp
 | true =>
  obtain ⟨G,h1,h2,h3⟩:=h_s h;have hm:(min (max k l.stored) (l.bytes.length:Int))=(((min (max k l.stored) (l.bytes.length:Int)).toNat:Nat):Int):=by omega
  simp only [nT_,bF_,fF_,fT_]
  rw [s_y,bd_some,o_X,bd_some,hm,h_r (by omega),bd_some,m_Q (by rw [List.length_take];omega) hn,bd2_some]
  have he:=(m_j h k).1;have:slc l.bytes 0 ((G_<|l.bytes.take (min (max k l.stored) (l.bytes.length:Int)).toNat).2:Int)=some (l.bytes.take<|b_Q l k):=h_r he
  rw [this,bd_some];rfl
theorem s_A {l:Log}(hb:l.bytes.length<=ML){n:Nat}(hn:1060100<=n):i_7 n l=some (c_a l):=by
 unfold i_7 c_a
 rw [k_J hb,bd_some,m_S hb hn,bd_some]
 cases h:a_q l <;> simp
theorem s_B {l:Log}(hb:l.bytes.length<=ML){n:Nat}(hn:1060100<=n):i_3 n l=some (c_a l):=by
 unfold i_3 c_a
 rw [m_Y hb,bd_some,k_C hb hn,bd_some]
 cases h:a_q l <;> simp
def e_h (a:n_)(k:Int):n_:=⟨a.registry,e_g a.log k⟩
def c_0 (a:n_):n_:=⟨a.registry,c_a a.log⟩
theorem o_w {a:n_}(h:SmA a)(k:Int){n:Nat}(hn:1060100<=n):f_l n a k=some (e_h a k):=by
 unfold f_l
 rw [p_r h,bd_some,s_z (l:=⟨a.log.bytes,a.log.stored⟩) h.bytes k hn,bd_some];rfl
theorem s_C {a:n_}(h:SmA a){n:Nat}(hn:1060100<=n):i_8 n a=some (c_0 a):=by
 unfold i_8
 rw [p_r h,bd_some,s_A (l:=⟨a.log.bytes,a.log.stored⟩) h.bytes hn,bd_some];rfl
theorem s_D {a:n_}(h:SmA a){n:Nat}(hn:1060100<=n):g_E n a=some (c_0 a):=by
 unfold g_E
 rw [m_Z h,bd_some,s_B (l:=⟨a.log.bytes,a.log.stored⟩) h.bytes hn,bd_some];rfl
end Go.Vw
