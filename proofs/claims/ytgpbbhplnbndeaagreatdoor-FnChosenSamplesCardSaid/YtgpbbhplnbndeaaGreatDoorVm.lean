
import Derived.Test.YtgpbbhplnbndeaaGreatDoorVh
import Derived.Test.YtgpbbhplnbndeaaGreatDoorVl
namespace Go.Vw
open Go.RowKit Dat
theorem p_T (x:Int):a_h .i64 (a_h .i64 x 8) 8=a_h .i64 x 16/\a_h .i64 (a_h .i64 x 16) 8=a_h .i64 x 24:=by
 unfold a_h
 rw [show (2:Int) ^ (min (Int.toNat 8) IntKind.i64.bits)=256 from rfl,show (2:Int) ^ (min (Int.toNat 16) IntKind.i64.bits)=65536 from rfl,show (2:Int) ^ (min (Int.toNat 24) IntKind.i64.bits)=16777216 from rfl]
 rw [Int.fdiv_eq_ediv_of_nonneg _ (show (0:Int)<=256 by decide),Int.fdiv_eq_ediv_of_nonneg _ (show (0:Int)<=256 by decide),Int.fdiv_eq_ediv_of_nonneg _ (show (0:Int)<=65536 by decide),Int.fdiv_eq_ediv_of_nonneg _ (show (0:Int)<=256 by decide),Int.fdiv_eq_ediv_of_nonneg _ (show (0:Int)<=16777216 by decide)]
 omega
def beP (s x:Int):Bt:=if s=1 then [mkB x] else if s=2 then [mkB (a_h .i64 x 8),mkB x] else if s=3 then [mkB (a_h .i64 x 16),mkB<|a_h .i64 x 8,mkB x] else [mkB (a_h .i64 x 24),mkB<|a_h .i64 x 16,mkB<|a_h .i64 x 8,mkB x]
theorem m_8 (s x:Int):(beP s x).length<=4:=by
 unfold beP
 split
 .simp
 .split
  .simp
  .split <;> simp
theorem p_U {x s:Int}(h1:1<=s)(h4:s<=4)(G:0<=x)(hx:x<=256 ^ s.toNat - 1){n:Nat}(hn:10<=n):f_t n x s=some (beP s x)/\e_Y n x s=some (beP s x):=by
 obtain ⟨I,H⟩:=g_s h1 h4;obtain ⟨p,g1,g2⟩:=k_W h1 h4;obtain ⟨s1,s2⟩:=p_T x;have hs:s=1∨s=2∨s=3∨s=4:=by omega
 have hsh:b_h .i64 1 (L_ 8 s)=256 ^ s.toNat:=by rcases hs with rfl | rfl | rfl | rfl <;> rfl
 unfold f_t e_Y
 rw [b_r,b_v,g1,H]
 simp only [dT_ h1,dT_ h4,Bool.and_self,nT_,bF_,fF_,bd_some,b_r,g2,dT_ G,dT_ hx,dF_ (show ¬x<0 by omega),hsh,dF_ (show ¬(256:Int) ^ s.toNat<=x by omega)]
 obtain ⟨m,rfl⟩:∃m,n=m+5:=⟨n - 5,by omega⟩
 rcases hs with rfl | rfl | rfl | rfl
 .rw [show beP 1 x=[mkB x] from rfl]
  constructor
  .simp [G_,un2,el,bd,psh,j_m,show k_ 1 1=0 from rfl,show k_ 0 1 = -1 from rfl,show L_ 8 0=0 from rfl,show nn 0=some () from rfl,a_9]
  .simp [G_,un3,el,bd,upd,mk0,show k_ 1 1=0 from rfl,show k_ 0 1 = -1 from rfl,a_9]
 .rw [show beP 2 x=[mkB (a_h .i64 x 8),mkB x] from rfl]
  constructor
  .simp [G_,un2,el,bd,psh,j_m,show k_ 2 1=1 from rfl,show k_ 1 1=0 from rfl,show k_ 0 1 = -1 from rfl,show L_ 8 0=0 from rfl,show L_ 8 1=8 from rfl,show nn 0=some () from rfl,show nn 8=some () from rfl,a_9]
  .simp [G_,un3,el,bd,upd,mk0,List.replicate,show k_ 2 1=1 from rfl,show k_ 1 1=0 from rfl,show k_ 0 1 = -1 from rfl,a_9]
 .rw [show beP 3 x=[mkB (a_h .i64 x 16),mkB<|a_h .i64 x 8,mkB x] from rfl]
  constructor
  .simp [G_,un2,el,bd,psh,j_m,show k_ 3 1=2 from rfl,show k_ 2 1=1 from rfl,show k_ 1 1=0 from rfl,show k_ 0 1 = -1 from rfl,show L_ 8 0=0 from rfl,show L_ 8 1=8 from rfl,show L_ 8 2=16 from rfl,show nn 0=some () from rfl,show nn 8=some () from rfl,show nn 16=some () from rfl,a_9]
  .simp [G_,un3,el,bd,upd,mk0,List.replicate,s1,show k_ 3 1=2 from rfl,show k_ 2 1=1 from rfl,show k_ 1 1=0 from rfl,show k_ 0 1 = -1 from rfl,a_9]
 .rw [show beP 4 x=[mkB (a_h .i64 x 24),mkB<|a_h .i64 x 16,mkB<|a_h .i64 x 8,mkB x] from rfl]
  constructor
  .simp [G_,un2,el,bd,psh,j_m,show k_ 4 1=3 from rfl,show k_ 3 1=2 from rfl,show k_ 2 1=1 from rfl,show k_ 1 1=0 from rfl,show k_ 0 1 = -1 from rfl,show L_ 8 0=0 from rfl,show L_ 8 1=8 from rfl,show L_ 8 2=16 from rfl,show L_ 8 3=24 from rfl,show nn 0=some () from rfl,show nn 8=some () from rfl,show nn 16=some () from rfl,show nn 24=some () from rfl,a_9]
  .simp [G_,un3,el,bd,upd,mk0,List.replicate,s1,s2,show k_ 4 1=3 from rfl,show k_ 3 1=2 from rfl,show k_ 2 1=1 from rfl,show k_ 1 1=0 from rfl,show k_ 0 1 = -1 from rfl,a_9]
theorem list4 {α:Type}{l:List α}(h:l.length<=4):l=[]∨(∃a,l=[a])∨(∃a b,l=[a,b])∨(∃a b c,l=[a,b,c])∨∃a b c e,l=[a,b,c,e]:=by
 match l,h with
 | [],_=>exact .inl rfl
 | [a],_=>exact .inr<|.inl ⟨a,rfl⟩
 | [a,b],_=>exact .inr<|.inr<|.inl ⟨a,b,rfl⟩
 | [a,b,c],_=>exact .inr<|.inr<|.inr<|.inl ⟨a,b,c,rfl⟩
 | [a,b,c,e],_=>exact .inr<|.inr<|.inr<|.inr ⟨a,b,c,e,rfl⟩
 | a::b::c::e::f::l,h=>simp at h
theorem p_V {x s:Int}{l:Bt}{n:Nat}(hn:10<=n)(hl:l.length<=4)(h1:f_t n x s=some l)(h2:e_Y n x s=some l):h_5 n x s=some l.reverse/\h_b n x s=some l.reverse:=by
 unfold h_5 h_b
 rw [h1,h2,bd_some,bd_some]
 clear h1 h2
 obtain ⟨m,rfl⟩:∃m,n=m+5:=⟨n - 5,by omega⟩
 rcases list4 hl with rfl | ⟨a,rfl⟩ | ⟨a,b,rfl⟩ | ⟨a,b,c,rfl⟩ | ⟨a,b,c,e,rfl⟩
 .constructor
  .simp [G_,un2,el,bd,show k_ 0 1 = -1 from rfl]
  .simp [G_,un3,el,bd,show k_ 0 1 = -1 from rfl]
 .constructor
  .simp [G_,un2,el,bd,psh,idx,show k_ 1 1=0 from rfl,show k_ 0 1 = -1 from rfl,a_9]
  .simp [G_,un3,el,bd,show k_ 1 1=0 from rfl]
 .constructor
  .simp [G_,un2,el,bd,psh,idx,show k_ 2 1=1 from rfl,show k_ 1 1=0 from rfl,show k_ 0 1 = -1 from rfl,a_9]
  .simp [G_,un3,el,bd,idx,upd,show k_ 2 1=1 from rfl,show k_ 1 1=0 from rfl,show d_ 0 1=1 from rfl]
 .constructor
  .simp [G_,un2,el,bd,psh,idx,show k_ 3 1=2 from rfl,show k_ 2 1=1 from rfl,show k_ 1 1=0 from rfl,show k_ 0 1 = -1 from rfl,a_9]
  .simp [G_,un3,el,bd,idx,upd,show k_ 3 1=2 from rfl,show k_ 2 1=1 from rfl,show d_ 0 1=1 from rfl]
 .constructor
  .simp [G_,un2,el,bd,psh,idx,show k_ 4 1=3 from rfl,show k_ 3 1=2 from rfl,show k_ 2 1=1 from rfl,show k_ 1 1=0 from rfl,show k_ 0 1 = -1 from rfl,a_9]
  .simp [G_,un3,el,bd,idx,upd,show k_ 4 1=3 from rfl,show k_ 3 1=2 from rfl,show k_ 2 1=1 from rfl,show d_ 0 1=1 from rfl,show d_ 1 1=2 from rfl]
def b_0 (r:c_)(x:Int):Bt:=if r.little then (beP r.size x).reverse else beP r.size x
theorem j_5 (r:c_)(x:Int):(b_0 r x).length<=4:=by
 have:=m_8 r.size x;unfold b_0
 split
 .rw [List.length_reverse];exact this
 .exact this
theorem k_H {r:c_}(hr:d_A r){x:Int}(I:0<=x)(hx:x<=256 ^ r.size.toNat - 1){n:Nat}(hn:10<=n):d_p n r x=some (b_0 r x)/\e_Z n r x=some (b_0 r x):=by
 obtain ⟨_,h1,h4⟩:=hr;obtain ⟨G,H⟩:=p_U h1 h4 I hx hn;unfold d_p e_Z b_0
 cases r.little with
 | true =>
  obtain ⟨J,L⟩:=p_V hn (m_8 _ _) G H
  rw [iP_ rfl,iP_ rfl,J,L,bd_some]
  exact ⟨rfl,rfl⟩
 | false =>
  rw [iN_ (by simp),iN_ (by simp),G,H,bd_some]
  exact ⟨rfl,rfl⟩
end Go.Vw
