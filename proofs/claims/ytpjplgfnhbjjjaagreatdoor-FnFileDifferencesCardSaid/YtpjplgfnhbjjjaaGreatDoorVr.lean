
import Derived.Test.YtpjplgfnhbjjjaaGreatDoorVk
import Derived.Test.YtpjplgfnhbjjjaaGreatDoorVq
namespace Go.Vw
open Go.RowKit Dat
theorem r_v (x:Int):a_t .i64 (a_t .i64 x 8) 8=a_t .i64 x 16/\a_t .i64 (a_t .i64 x 16) 8=a_t .i64 x 24:=by
 unfold a_t
 rw [show (2:Int) ^ (min (Int.toNat 8) IntKind.i64.bits)=256 from rfl,show (2:Int) ^ (min (Int.toNat 16) IntKind.i64.bits)=65536 from rfl,show (2:Int) ^ (min (Int.toNat 24) IntKind.i64.bits)=16777216 from rfl]
 rw [Int.fdiv_eq_ediv_of_nonneg _ (show (0:Int)<=256 by decide),Int.fdiv_eq_ediv_of_nonneg _ (show (0:Int)<=256 by decide),Int.fdiv_eq_ediv_of_nonneg _ (show (0:Int)<=65536 by decide),Int.fdiv_eq_ediv_of_nonneg _ (show (0:Int)<=256 by decide),Int.fdiv_eq_ediv_of_nonneg _ (show (0:Int)<=16777216 by decide)]
 omega
def beP (s x:Int):Bt:=if s=1 then [mkB x] else if s=2 then [mkB (a_t .i64 x 8),mkB x] else if s=3 then [mkB (a_t .i64 x 16),mkB<|a_t .i64 x 8,mkB x] else [mkB (a_t .i64 x 24),mkB<|a_t .i64 x 16,mkB<|a_t .i64 x 8,mkB x]
theorem n_V (s x:Int):(beP s x).length<=4:=by
 unfold beP
 split
 .simp
 .split
  .simp
  .split <;> simp
theorem r_w {x s:Int}(h1:1<=s)(h4:s<=4)(G:0<=x)(hx:x<=256 ^ s.toNat - 1){n:Nat}(hn:10<=n):g_V n x s=some (beP s x)/\i_i n x s=some (beP s x):=by
 obtain ⟨J,H⟩:=h_q h1 h4;obtain ⟨p,g1,I⟩:=l_F h1 h4;obtain ⟨s1,s2⟩:=r_v x;have hs:s=1∨s=2∨s=3∨s=4:=by omega
 have hsh:b_I .i64 1 (W_ 8 s)=256 ^ s.toNat:=by rcases hs with rfl | rfl | rfl | rfl <;> rfl
 unfold g_V i_i
 rw [b_L,a_Y,g1,H]
 simp only [dT_ h1,dT_ h4,Bool.and_self,nT_,bF_,fF_,bd_some,b_L,I,dT_ G,dT_ hx,dF_ (show ¬x<0 by omega),hsh,dF_ (show ¬(256:Int) ^ s.toNat<=x by omega)]
 obtain ⟨m,rfl⟩:∃m,n=m+5:=⟨n - 5,by omega⟩
 rcases hs with rfl | rfl | rfl | rfl
 .rw [show beP 1 x=[mkB x] from rfl]
  constructor
  .simp [L_,un2,el,bd,psh,k_i,show l_ 1 1=0 from rfl,show l_ 0 1 = -1 from rfl,show W_ 8 0=0 from rfl,show nn 0=some () from rfl,X_]
  .simp [L_,un3,el,bd,upd,mk0,show l_ 1 1=0 from rfl,show l_ 0 1 = -1 from rfl,X_]
 .rw [show beP 2 x=[mkB (a_t .i64 x 8),mkB x] from rfl]
  constructor
  .simp [L_,un2,el,bd,psh,k_i,show l_ 2 1=1 from rfl,show l_ 1 1=0 from rfl,show l_ 0 1 = -1 from rfl,show W_ 8 0=0 from rfl,show W_ 8 1=8 from rfl,show nn 0=some () from rfl,show nn 8=some () from rfl,X_]
  .simp [L_,un3,el,bd,upd,mk0,List.replicate,show l_ 2 1=1 from rfl,show l_ 1 1=0 from rfl,show l_ 0 1 = -1 from rfl,X_]
 .rw [show beP 3 x=[mkB (a_t .i64 x 16),mkB<|a_t .i64 x 8,mkB x] from rfl]
  constructor
  .simp [L_,un2,el,bd,psh,k_i,show l_ 3 1=2 from rfl,show l_ 2 1=1 from rfl,show l_ 1 1=0 from rfl,show l_ 0 1 = -1 from rfl,show W_ 8 0=0 from rfl,show W_ 8 1=8 from rfl,show W_ 8 2=16 from rfl,show nn 0=some () from rfl,show nn 8=some () from rfl,show nn 16=some () from rfl,X_]
  .simp [L_,un3,el,bd,upd,mk0,List.replicate,s1,show l_ 3 1=2 from rfl,show l_ 2 1=1 from rfl,show l_ 1 1=0 from rfl,show l_ 0 1 = -1 from rfl,X_]
 .rw [show beP 4 x=[mkB (a_t .i64 x 24),mkB<|a_t .i64 x 16,mkB<|a_t .i64 x 8,mkB x] from rfl]
  constructor
  .simp [L_,un2,el,bd,psh,k_i,show l_ 4 1=3 from rfl,show l_ 3 1=2 from rfl,show l_ 2 1=1 from rfl,show l_ 1 1=0 from rfl,show l_ 0 1 = -1 from rfl,show W_ 8 0=0 from rfl,show W_ 8 1=8 from rfl,show W_ 8 2=16 from rfl,show W_ 8 3=24 from rfl,show nn 0=some () from rfl,show nn 8=some () from rfl,show nn 16=some () from rfl,show nn 24=some () from rfl,X_]
  .simp [L_,un3,el,bd,upd,mk0,List.replicate,s1,s2,show l_ 4 1=3 from rfl,show l_ 3 1=2 from rfl,show l_ 2 1=1 from rfl,show l_ 1 1=0 from rfl,show l_ 0 1 = -1 from rfl,X_]
theorem list4 {α:Type}{l:List α}(h:l.length<=4):l=[]∨(∃a,l=[a])∨(∃a b,l=[a,b])∨(∃a b c,l=[a,b,c])∨∃a b c e,l=[a,b,c,e]:=by
 match l,h with
 | [],_=>exact .inl rfl
 | [a],_=>exact .inr<|.inl ⟨a,rfl⟩
 | [a,b],_=>exact .inr<|.inr<|.inl ⟨a,b,rfl⟩
 | [a,b,c],_=>exact .inr<|.inr<|.inr<|.inl ⟨a,b,c,rfl⟩
 | [a,b,c,e],_=>exact .inr<|.inr<|.inr<|.inr ⟨a,b,c,e,rfl⟩
 | a::b::c::e::f::l,h=>simp at h
theorem r_x {x s:Int}{l:Bt}{n:Nat}(hn:10<=n)(hl:l.length<=4)(h1:g_V n x s=some l)(h2:i_i n x s=some l):i_9 n x s=some l.reverse/\l_6 n x s=some l.reverse:=by
 unfold i_9 l_6
 rw [h1,h2,bd_some,bd_some]
 clear h1 h2
 obtain ⟨m,rfl⟩:∃m,n=m+5:=⟨n - 5,by omega⟩
 rcases list4 hl with rfl | ⟨a,rfl⟩ | ⟨a,b,rfl⟩ | ⟨a,b,c,rfl⟩ | ⟨a,b,c,e,rfl⟩
 .constructor
  .simp [L_,un2,el,bd,show l_ 0 1 = -1 from rfl]
  .simp [L_,un3,el,bd,show l_ 0 1 = -1 from rfl]
 .constructor
  .simp [L_,un2,el,bd,psh,idx,show l_ 1 1=0 from rfl,show l_ 0 1 = -1 from rfl,X_]
  .simp [L_,un3,el,bd,show l_ 1 1=0 from rfl]
 .constructor
  .simp [L_,un2,el,bd,psh,idx,show l_ 2 1=1 from rfl,show l_ 1 1=0 from rfl,show l_ 0 1 = -1 from rfl,X_]
  .simp [L_,un3,el,bd,idx,upd,show l_ 2 1=1 from rfl,show l_ 1 1=0 from rfl,show i_ 0 1=1 from rfl]
 .constructor
  .simp [L_,un2,el,bd,psh,idx,show l_ 3 1=2 from rfl,show l_ 2 1=1 from rfl,show l_ 1 1=0 from rfl,show l_ 0 1 = -1 from rfl,X_]
  .simp [L_,un3,el,bd,idx,upd,show l_ 3 1=2 from rfl,show l_ 2 1=1 from rfl,show i_ 0 1=1 from rfl]
 .constructor
  .simp [L_,un2,el,bd,psh,idx,show l_ 4 1=3 from rfl,show l_ 3 1=2 from rfl,show l_ 2 1=1 from rfl,show l_ 1 1=0 from rfl,show l_ 0 1 = -1 from rfl,X_]
  .simp [L_,un3,el,bd,idx,upd,show l_ 4 1=3 from rfl,show l_ 3 1=2 from rfl,show l_ 2 1=1 from rfl,show i_ 0 1=1 from rfl,show i_ 1 1=2 from rfl]
def c_u (r:d_)(x:Int):Bt:=if r.little then (beP r.size x).reverse else beP r.size x
theorem k_4 (r:d_)(x:Int):(c_u r x).length<=4:=by
 have:=n_V r.size x;unfold c_u
 split
 .rw [List.length_reverse];exact this
 .exact this
theorem l_h {r:d_}(hr:f_w r){x:Int}(I:0<=x)(hx:x<=256 ^ r.size.toNat - 1){n:Nat}(hn:10<=n):e_k n r x=some (c_u r x)/\i_j n r x=some (c_u r x):=by
 obtain ⟨_,h1,h4⟩:=hr;obtain ⟨G,H⟩:=r_w h1 h4 I hx hn;unfold e_k i_j c_u
 cases r.little with
 | true =>
  obtain ⟨J,L⟩:=r_x hn (n_V _ _) G H
  rw [iP_ rfl,iP_ rfl,J,L,bd_some]
  exact ⟨rfl,rfl⟩
 | false =>
  rw [iN_ (by simp),iN_ (by simp),G,H,bd_some]
  exact ⟨rfl,rfl⟩
end Go.Vw
