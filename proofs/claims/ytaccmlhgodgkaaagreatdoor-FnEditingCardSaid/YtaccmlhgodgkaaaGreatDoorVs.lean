
import Derived.Test.YtaccmlhgodgkaaaGreatDoorVl
import Derived.Test.YtaccmlhgodgkaaaGreatDoorVr
namespace Go.Vw
open Go.RowKit Dat
theorem q_2 (x:Int):a_h .i64 (a_h .i64 x 8) 8=a_h .i64 x 16/\a_h .i64 (a_h .i64 x 16) 8=a_h .i64 x 24:=by
 unfold a_h
 rw [show (2:Int) ^ (min (Int.toNat 8) IntKind.i64.bits)=256 from rfl,show (2:Int) ^ (min (Int.toNat 16) IntKind.i64.bits)=65536 from rfl,show (2:Int) ^ (min (Int.toNat 24) IntKind.i64.bits)=16777216 from rfl]
 rw [Int.fdiv_eq_ediv_of_nonneg _ (show (0:Int)<=256 by decide),Int.fdiv_eq_ediv_of_nonneg _ (show (0:Int)<=256 by decide),Int.fdiv_eq_ediv_of_nonneg _ (show (0:Int)<=65536 by decide),Int.fdiv_eq_ediv_of_nonneg _ (show (0:Int)<=256 by decide),Int.fdiv_eq_ediv_of_nonneg _ (show (0:Int)<=16777216 by decide)]
 omega
def beP (s x:Int):Bt:=if s=1 then [mkB x] else if s=2 then [mkB (a_h .i64 x 8),mkB x] else if s=3 then [mkB (a_h .i64 x 16),mkB<|a_h .i64 x 8,mkB x] else [mkB (a_h .i64 x 24),mkB<|a_h .i64 x 16,mkB<|a_h .i64 x 8,mkB x]
theorem m_q (s x:Int):(beP s x).length<=4:=by
 unfold beP
 split
 .simp
 .split
  .simp
  .split <;> simp
theorem q_3 {x s:Int}(h1:1<=s)(h4:s<=4)(G:0<=x)(hx:x<=256 ^ s.toNat - 1){n:Nat}(hn:10<=n):f_B n x s=some (beP s x)/\f_9 n x s=some (beP s x):=by
 obtain ⟨J,H⟩:=g_c h1 h4;obtain ⟨p,g1,I⟩:=n_h h1 h4;obtain ⟨s1,s2⟩:=q_2 x;have hs:s=1∨s=2∨s=3∨s=4:=by omega
 have hsh:b_y .i64 1 (a_3 8 s)=256 ^ s.toNat:=by rcases hs with rfl | rfl | rfl | rfl <;> rfl
 unfold f_B f_9
 rw [b_K,b_V,g1,H]
 simp only [dT_ h1,dT_ h4,Bool.and_self,nT_,bF_,fF_,bd_some,b_K,I,dT_ G,dT_ hx,dF_ (show ¬x<0 by omega),hsh,dF_ (show ¬(256:Int) ^ s.toNat<=x by omega)]
 obtain ⟨m,rfl⟩:∃m,n=m+5:=⟨n - 5,by omega⟩
 rcases hs with rfl | rfl | rfl | rfl
 .rw [show beP 1 x=[mkB x] from rfl]
  constructor
  .simp [R_,un2,el,bd,psh,j_s,show y_ 1 1=0 from rfl,show y_ 0 1 = -1 from rfl,show a_3 8 0=0 from rfl,show nn 0=some () from rfl,a_p]
  .simp [R_,un3,el,bd,upd,mk0,show y_ 1 1=0 from rfl,show y_ 0 1 = -1 from rfl,a_p]
 .rw [show beP 2 x=[mkB (a_h .i64 x 8),mkB x] from rfl]
  constructor
  .simp [R_,un2,el,bd,psh,j_s,show y_ 2 1=1 from rfl,show y_ 1 1=0 from rfl,show y_ 0 1 = -1 from rfl,show a_3 8 0=0 from rfl,show a_3 8 1=8 from rfl,show nn 0=some () from rfl,show nn 8=some () from rfl,a_p]
  .simp [R_,un3,el,bd,upd,mk0,List.replicate,show y_ 2 1=1 from rfl,show y_ 1 1=0 from rfl,show y_ 0 1 = -1 from rfl,a_p]
 .rw [show beP 3 x=[mkB (a_h .i64 x 16),mkB<|a_h .i64 x 8,mkB x] from rfl]
  constructor
  .simp [R_,un2,el,bd,psh,j_s,show y_ 3 1=2 from rfl,show y_ 2 1=1 from rfl,show y_ 1 1=0 from rfl,show y_ 0 1 = -1 from rfl,show a_3 8 0=0 from rfl,show a_3 8 1=8 from rfl,show a_3 8 2=16 from rfl,show nn 0=some () from rfl,show nn 8=some () from rfl,show nn 16=some () from rfl,a_p]
  .simp [R_,un3,el,bd,upd,mk0,List.replicate,s1,show y_ 3 1=2 from rfl,show y_ 2 1=1 from rfl,show y_ 1 1=0 from rfl,show y_ 0 1 = -1 from rfl,a_p]
 .rw [show beP 4 x=[mkB (a_h .i64 x 24),mkB<|a_h .i64 x 16,mkB<|a_h .i64 x 8,mkB x] from rfl]
  constructor
  .simp [R_,un2,el,bd,psh,j_s,show y_ 4 1=3 from rfl,show y_ 3 1=2 from rfl,show y_ 2 1=1 from rfl,show y_ 1 1=0 from rfl,show y_ 0 1 = -1 from rfl,show a_3 8 0=0 from rfl,show a_3 8 1=8 from rfl,show a_3 8 2=16 from rfl,show a_3 8 3=24 from rfl,show nn 0=some () from rfl,show nn 8=some () from rfl,show nn 16=some () from rfl,show nn 24=some () from rfl,a_p]
  .simp [R_,un3,el,bd,upd,mk0,List.replicate,s1,s2,show y_ 4 1=3 from rfl,show y_ 3 1=2 from rfl,show y_ 2 1=1 from rfl,show y_ 1 1=0 from rfl,show y_ 0 1 = -1 from rfl,a_p]
theorem list4 {α:Type}{l:List α}(h:l.length<=4):l=[]∨(∃a,l=[a])∨(∃a b,l=[a,b])∨(∃a b c,l=[a,b,c])∨∃a b c e,l=[a,b,c,e]:=by
 match l,h with
 | [],_=>exact .inl rfl
 | [a],_=>exact .inr<|.inl ⟨a,rfl⟩
 | [a,b],_=>exact .inr<|.inr<|.inl ⟨a,b,rfl⟩
 | [a,b,c],_=>exact .inr<|.inr<|.inr<|.inl ⟨a,b,c,rfl⟩
 | [a,b,c,e],_=>exact .inr<|.inr<|.inr<|.inr ⟨a,b,c,e,rfl⟩
 | a::b::c::e::f::l,h=>simp at h
theorem q_4 {x s:Int}{l:Bt}{n:Nat}(hn:10<=n)(hl:l.length<=4)(h1:f_B n x s=some l)(h2:f_9 n x s=some l):g_K n x s=some l.reverse/\h_3 n x s=some l.reverse:=by
 unfold g_K h_3
 rw [h1,h2,bd_some,bd_some]
 clear h1 h2
 obtain ⟨m,rfl⟩:∃m,n=m+5:=⟨n - 5,by omega⟩
 rcases list4 hl with rfl | ⟨a,rfl⟩ | ⟨a,b,rfl⟩ | ⟨a,b,c,rfl⟩ | ⟨a,b,c,e,rfl⟩
 .constructor
  .simp [R_,un2,el,bd,show y_ 0 1 = -1 from rfl]
  .simp [R_,un3,el,bd,show y_ 0 1 = -1 from rfl]
 .constructor
  .simp [R_,un2,el,bd,psh,idx,show y_ 1 1=0 from rfl,show y_ 0 1 = -1 from rfl,a_p]
  .simp [R_,un3,el,bd,show y_ 1 1=0 from rfl]
 .constructor
  .simp [R_,un2,el,bd,psh,idx,show y_ 2 1=1 from rfl,show y_ 1 1=0 from rfl,show y_ 0 1 = -1 from rfl,a_p]
  .simp [R_,un3,el,bd,idx,upd,show y_ 2 1=1 from rfl,show y_ 1 1=0 from rfl,show o_ 0 1=1 from rfl]
 .constructor
  .simp [R_,un2,el,bd,psh,idx,show y_ 3 1=2 from rfl,show y_ 2 1=1 from rfl,show y_ 1 1=0 from rfl,show y_ 0 1 = -1 from rfl,a_p]
  .simp [R_,un3,el,bd,idx,upd,show y_ 3 1=2 from rfl,show y_ 2 1=1 from rfl,show o_ 0 1=1 from rfl]
 .constructor
  .simp [R_,un2,el,bd,psh,idx,show y_ 4 1=3 from rfl,show y_ 3 1=2 from rfl,show y_ 2 1=1 from rfl,show y_ 1 1=0 from rfl,show y_ 0 1 = -1 from rfl,a_p]
  .simp [R_,un3,el,bd,idx,upd,show y_ 4 1=3 from rfl,show y_ 3 1=2 from rfl,show y_ 2 1=1 from rfl,show o_ 0 1=1 from rfl,show o_ 1 1=2 from rfl]
def b_9 (r:f_)(x:Int):Bt:=if r.little then (beP r.size x).reverse else beP r.size x
theorem j_e (r:f_)(x:Int):(b_9 r x).length<=4:=by
 have:=m_q r.size x;unfold b_9
 split
 .rw [List.length_reverse];exact this
 .exact this
theorem k_M {r:f_}(hr:e_z r){x:Int}(I:0<=x)(hx:x<=256 ^ r.size.toNat - 1){n:Nat}(hn:10<=n):d_E n r x=some (b_9 r x)/\f_a n r x=some (b_9 r x):=by
 obtain ⟨_,h1,h4⟩:=hr;obtain ⟨G,H⟩:=q_3 h1 h4 I hx hn;unfold d_E f_a b_9
 cases r.little with
 | true =>
  obtain ⟨J,L⟩:=q_4 hn (m_q _ _) G H
  rw [iP_ rfl,iP_ rfl,J,L,bd_some]
  exact ⟨rfl,rfl⟩
 | false =>
  rw [iN_ (by simp),iN_ (by simp),G,H,bd_some]
  exact ⟨rfl,rfl⟩
end Go.Vw
