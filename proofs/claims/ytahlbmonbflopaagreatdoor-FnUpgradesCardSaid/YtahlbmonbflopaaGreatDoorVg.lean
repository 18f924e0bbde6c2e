
import Derived.Test.YtahlbmonbflopaaGreatDoorVf
namespace Go.Vw
open Go.RowKit Dat
theorem p_H (x:Int):a_g .i64 (a_g .i64 x 8) 8=a_g .i64 x 16/\a_g .i64 (a_g .i64 x 16) 8=a_g .i64 x 24:=by
 unfold a_g
 rw [show (2:Int) ^ (min (Int.toNat 8) IntKind.i64.bits)=256 from rfl,show (2:Int) ^ (min (Int.toNat 16) IntKind.i64.bits)=65536 from rfl,show (2:Int) ^ (min (Int.toNat 24) IntKind.i64.bits)=16777216 from rfl]
 rw [Int.fdiv_eq_ediv_of_nonneg _ (show (0:Int)<=256 by decide),Int.fdiv_eq_ediv_of_nonneg _ (show (0:Int)<=256 by decide),Int.fdiv_eq_ediv_of_nonneg _ (show (0:Int)<=65536 by decide),Int.fdiv_eq_ediv_of_nonneg _ (show (0:Int)<=256 by decide),Int.fdiv_eq_ediv_of_nonneg _ (show (0:Int)<=16777216 by decide)]
 omega
def beP (s x:Int):Bt:=if s=1 then [mkB x] else if s=2 then [mkB (a_g .i64 x 8),mkB x] else if s=3 then [mkB (a_g .i64 x 16),mkB<|a_g .i64 x 8,mkB x] else [mkB (a_g .i64 x 24),mkB<|a_g .i64 x 16,mkB<|a_g .i64 x 8,mkB x]
theorem m_x (s x:Int):(beP s x).length<=4:=by
 unfold beP
 split
 .simp
 .split
  .simp
  .split <;> simp
theorem p_I {x s:Int}(h1:1<=s)(h4:s<=4)(G:0<=x)(hx:x<=256 ^ s.toNat - 1){n:Nat}(hn:10<=n):e_8 n x s=some (beP s x)/\g_1 n x s=some (beP s x):=by
 obtain ⟨J,H⟩:=h_2 h1 h4;obtain ⟨p,g1,I⟩:=k_Y h1 h4;obtain ⟨s1,s2⟩:=p_H x;have hs:s=1∨s=2∨s=3∨s=4:=by omega
 have hsh:b_w .i64 1 (a_5 8 s)=256 ^ s.toNat:=by rcases hs with rfl | rfl | rfl | rfl <;> rfl
 unfold e_8 g_1
 rw [b_u,b_4,g1,H]
 simp only [dT_ h1,dT_ h4,Bool.and_self,nT_,bF_,fF_,bd_some,b_u,I,dT_ G,dT_ hx,dF_ (show ¬x<0 by omega),hsh,dF_ (show ¬(256:Int) ^ s.toNat<=x by omega)]
 obtain ⟨m,rfl⟩:∃m,n=m+5:=⟨n - 5,by omega⟩
 rcases hs with rfl | rfl | rfl | rfl
 .rw [show beP 1 x=[mkB x] from rfl]
  constructor
  .simp [M_,un2,el,bd,psh,j_I,show j_ 1 1=0 from rfl,show j_ 0 1 = -1 from rfl,show a_5 8 0=0 from rfl,show nn 0=some () from rfl,a_7]
  .simp [M_,un3,el,bd,upd,mk0,show j_ 1 1=0 from rfl,show j_ 0 1 = -1 from rfl,a_7]
 .rw [show beP 2 x=[mkB (a_g .i64 x 8),mkB x] from rfl]
  constructor
  .simp [M_,un2,el,bd,psh,j_I,show j_ 2 1=1 from rfl,show j_ 1 1=0 from rfl,show j_ 0 1 = -1 from rfl,show a_5 8 0=0 from rfl,show a_5 8 1=8 from rfl,show nn 0=some () from rfl,show nn 8=some () from rfl,a_7]
  .simp [M_,un3,el,bd,upd,mk0,List.replicate,show j_ 2 1=1 from rfl,show j_ 1 1=0 from rfl,show j_ 0 1 = -1 from rfl,a_7]
 .rw [show beP 3 x=[mkB (a_g .i64 x 16),mkB<|a_g .i64 x 8,mkB x] from rfl]
  constructor
  .simp [M_,un2,el,bd,psh,j_I,show j_ 3 1=2 from rfl,show j_ 2 1=1 from rfl,show j_ 1 1=0 from rfl,show j_ 0 1 = -1 from rfl,show a_5 8 0=0 from rfl,show a_5 8 1=8 from rfl,show a_5 8 2=16 from rfl,show nn 0=some () from rfl,show nn 8=some () from rfl,show nn 16=some () from rfl,a_7]
  .simp [M_,un3,el,bd,upd,mk0,List.replicate,s1,show j_ 3 1=2 from rfl,show j_ 2 1=1 from rfl,show j_ 1 1=0 from rfl,show j_ 0 1 = -1 from rfl,a_7]
 .rw [show beP 4 x=[mkB (a_g .i64 x 24),mkB<|a_g .i64 x 16,mkB<|a_g .i64 x 8,mkB x] from rfl]
  constructor
  .simp [M_,un2,el,bd,psh,j_I,show j_ 4 1=3 from rfl,show j_ 3 1=2 from rfl,show j_ 2 1=1 from rfl,show j_ 1 1=0 from rfl,show j_ 0 1 = -1 from rfl,show a_5 8 0=0 from rfl,show a_5 8 1=8 from rfl,show a_5 8 2=16 from rfl,show a_5 8 3=24 from rfl,show nn 0=some () from rfl,show nn 8=some () from rfl,show nn 16=some () from rfl,show nn 24=some () from rfl,a_7]
  .simp [M_,un3,el,bd,upd,mk0,List.replicate,s1,s2,show j_ 4 1=3 from rfl,show j_ 3 1=2 from rfl,show j_ 2 1=1 from rfl,show j_ 1 1=0 from rfl,show j_ 0 1 = -1 from rfl,a_7]
theorem list4 {α:Type}{l:List α}(h:l.length<=4):l=[]∨(∃a,l=[a])∨(∃a b,l=[a,b])∨(∃a b c,l=[a,b,c])∨∃a b c e,l=[a,b,c,e]:=by
 match l,h with
 | [],_=>exact .inl rfl
 | [a],_=>exact .inr<|.inl ⟨a,rfl⟩
 | [a,b],_=>exact .inr<|.inr<|.inl ⟨a,b,rfl⟩
 | [a,b,c],_=>exact .inr<|.inr<|.inr<|.inl ⟨a,b,c,rfl⟩
 | [a,b,c,e],_=>exact .inr<|.inr<|.inr<|.inr ⟨a,b,c,e,rfl⟩
 | a::b::c::e::f::l,h=>simp at h
theorem p_J {x s:Int}{l:Bt}{n:Nat}(hn:10<=n)(hl:l.length<=4)(h1:e_8 n x s=some l)(h2:g_1 n x s=some l):f_A n x s=some l.reverse/\i_1 n x s=some l.reverse:=by
 unfold f_A i_1
 rw [h1,h2,bd_some,bd_some]
 clear h1 h2
 obtain ⟨m,rfl⟩:∃m,n=m+5:=⟨n - 5,by omega⟩
 rcases list4 hl with rfl | ⟨a,rfl⟩ | ⟨a,b,rfl⟩ | ⟨a,b,c,rfl⟩ | ⟨a,b,c,e,rfl⟩
 .constructor
  .simp [M_,un2,el,bd,show j_ 0 1 = -1 from rfl]
  .simp [M_,un3,el,bd,show j_ 0 1 = -1 from rfl]
 .constructor
  .simp [M_,un2,el,bd,psh,idx,show j_ 1 1=0 from rfl,show j_ 0 1 = -1 from rfl,a_7]
  .simp [M_,un3,el,bd,show j_ 1 1=0 from rfl]
 .constructor
  .simp [M_,un2,el,bd,psh,idx,show j_ 2 1=1 from rfl,show j_ 1 1=0 from rfl,show j_ 0 1 = -1 from rfl,a_7]
  .simp [M_,un3,el,bd,idx,upd,show j_ 2 1=1 from rfl,show j_ 1 1=0 from rfl,show h_ 0 1=1 from rfl]
 .constructor
  .simp [M_,un2,el,bd,psh,idx,show j_ 3 1=2 from rfl,show j_ 2 1=1 from rfl,show j_ 1 1=0 from rfl,show j_ 0 1 = -1 from rfl,a_7]
  .simp [M_,un3,el,bd,idx,upd,show j_ 3 1=2 from rfl,show j_ 2 1=1 from rfl,show h_ 0 1=1 from rfl]
 .constructor
  .simp [M_,un2,el,bd,psh,idx,show j_ 4 1=3 from rfl,show j_ 3 1=2 from rfl,show j_ 2 1=1 from rfl,show j_ 1 1=0 from rfl,show j_ 0 1 = -1 from rfl,a_7]
  .simp [M_,un3,el,bd,idx,upd,show j_ 4 1=3 from rfl,show j_ 3 1=2 from rfl,show j_ 2 1=1 from rfl,show h_ 0 1=1 from rfl,show h_ 1 1=2 from rfl]
def b_a (r:b_)(x:Int):Bt:=if r.little then (beP r.size x).reverse else beP r.size x
theorem j_t (r:b_)(x:Int):(b_a r x).length<=4:=by
 have:=m_x r.size x;unfold b_a
 split
 .rw [List.length_reverse];exact this
 .exact this
theorem k_E {r:b_}(hr:d_p r){x:Int}(I:0<=x)(hx:x<=256 ^ r.size.toNat - 1){n:Nat}(hn:10<=n):c_S n r x=some (b_a r x)/\g_2 n r x=some (b_a r x):=by
 obtain ⟨_,h1,h4⟩:=hr;obtain ⟨G,H⟩:=p_I h1 h4 I hx hn;unfold c_S g_2 b_a
 cases r.little with
 | true =>
  obtain ⟨J,L⟩:=p_J hn (m_x _ _) G H
  rw [iP_ rfl,iP_ rfl,J,L,bd_some]
  exact ⟨rfl,rfl⟩
 | false =>
  rw [iN_ (by simp),iN_ (by simp),G,H,bd_some]
  exact ⟨rfl,rfl⟩
end Go.Vw
