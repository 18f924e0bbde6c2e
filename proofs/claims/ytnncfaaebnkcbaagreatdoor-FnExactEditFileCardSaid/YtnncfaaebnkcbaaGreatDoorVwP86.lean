
import Derived.Test.YtnncfaaebnkcbaaGreatDoorVwP82
namespace Go.Vw
open Go.RowKit Dat
section
variable {d:f_}{b:List UInt8}
theorem q_G (l:List Str)(x:Str){m:Nat}(hm:m<l.length)(he:l[m].b=x.b)(hf:∀j (hj:j<m),(l[j]'(by omega)).b ≠ x.b):d_r l x=some (m:Int):=by
 unfold d_r f_r;refine (congrArg (fun z=>bd z _)<|k_a (st:=fun _=>()) (r:=(m:Int)) hm (fun j hj=>?_) ?_).trans ?_
 ·rw [ix_ (show j<l.length by omega),bd_some,bd_some,iN_ (by simpa using hf j hj)]
 ·rw [ix_ hm,bd_some,bd_some,iP_ (by simpa using he)]
 ·rw [bd_some,el_inr]
theorem q_H (hv:a_5 d=true)(hd:SmD d){i:Nat}(hi:i<d.rules.length){v:Val}{m:Nat}(hm:m<v.items.length)(V:m<=1000000)(hinj:∀j,j<m->(a_s d.rules[i] j).b ≠ (a_s d.rules[i] m).b)(hne:(a_s d.rules[i] m).b ≠ []){n:Nat}(hn:1000<=n) :
  d_X n d i v (a_s d.rules[i] m)=some (m:Int):=by
 unfold d_X;have hst:=m_M hv hd (n:=n) (by omega) hi m
 rw [f_w n (by omega) d hd,hv,show a_Y d (i:Int)=true by
  unfold a_Y
  rw [dT_ (show (0:Int)<=(i:Int) by omega),dT_ (show (i:Int)<(d.rules.length:Int) by omega)];rfl]
 rw [bd_some,show (!(true && true))=false from rfl,iN_ (by simp),ix_ hi,bd_some]
 have key:bd (α:=Sum Int Int) (if (d.rules[i].kind==5)=true then bd2 (e_j<|a_s d.rules[i] m) fun G H=>if (!H)=true then some (.inr (-1)) else some (.inl G) else bd (α:=Int) (if (d.rules[i].kind==6)=true then bd (d_r d.rules[i].names (a_s d.rules[i] m)) fun I=>some I else some 0) (fun J=>some<|.inl J)) (fun z=>some z)=some (.inl (m:Int)):=by
  generalize d.rules[i]=r at hinj hne ⊢
  by_cases h5:(r.kind==5)=true
  ·have e:a_s r m=⟨Lib.itoa m⟩:=by unfold a_s;rw [iP_ h5]
   rw [iP_ h5,e,j_R,p_S m (by omega),bd2_some]
   rfl
  ·rw [iN_ h5]
   by_cases h6:(r.kind==6)=true
   ·rw [iP_ h6]
    have k6:r.kind=6:=by simpa using h6
    have hlt:m<r.names.length:=by
     refine Classical.byContradiction fun hc=>hne ?_
     unfold a_s
     rw [k6,dF_ hc]
     rfl
    have e:∀j (hj:j<r.names.length),a_s r j=r.names[j]:=fun j hj=>by
     unfold a_s
     rw [iN_ h5,h6,dT_ hj,show (true && true)=true from rfl,iP_ rfl]
     simp [gG_ hj]
    rw [q_G r.names (a_s r m) hlt (by rw [e m hlt]) (fun j hj=>by rw [← e j (by omega)];exact hinj j hj),bd_some,bd_some,bd_some]
   ·rw [iN_ h6]
    have O:m=0:=by
     refine Classical.byContradiction fun hc=>hne ?_
     unfold a_s
     rw [iN_ h5,Bool.eq_false_iff.2 h6,show (m==0)=false by simpa using hc]
     simp
    subst O
    rfl
 have L:∀{β:Type}(z:Option (Sum Int Int))(f:Sum Int Int->Option β),bd z f=bd (bd z<|fun y=>some y) f:=fun z f=>by cases z <;> rfl
 rw [L,show (bd _<|fun y=>some y)=_ from key,bd_some,el_inl]
 rw [dF_ (show ¬(m:Int)<0 by omega),iN_ (by simp),dF_ (show ¬(v.items.length:Int)<=(m:Int) by omega),iN_ (by simp),hst,bd_some,bN_,iN_ (by simp),bd_some]
 rw [iN_ (by simpa using hne)]
theorem m_L:∀(m:Nat)(v:Val),dep m v->vsz m v<=1100000->∀n,m+1<=n->d_2 n v=some v:=by
 have hLIM:=a_k;intro m
 induction m with
 | zero =>
  intro v h hz n hn;obtain ⟨n,rfl⟩:∃k,n=k+1:=⟨n - 1,by omega⟩;have G:v.items=[]:=h;have hz':v.bytes.length<=1100000:=hz
  show e_L n (d_Y n) v=_
  unfold e_L
  rw [b_C (by simp;omega),bd_some,G]
  obtain ⟨a,b,c⟩:=v;subst G
  rfl
 | succ m ih =>
  intro v h hz n hn;obtain ⟨n,rfl⟩:∃k,n=k+1:=⟨n - 1,by omega⟩;have hz':v.bytes.length+lsz m v.items<=1100000:=hz;have hl:=g_E m v.items
  show e_L n (d_Y n) v=_
  unfold e_L
  rw [b_C (by simp;omega),bd_some,e_Y (show v.items.length<=LIM by omega),bd_some,bd_some]
  simp only [un3]
  refine (congrArg (fun z=>bd z _)<|e_6 (fun k=>v.items.take k) (n:=v.items.length) rfl<|fun k hk=>?_).trans ?_
  ·have hm:=gE_ hk;have hs:=e_5 (m:=m) hm;have:=ih v.items[k] (h _ hm) (by omega) n (by omega)
   rw [ix_ hk,bd_some,show (d_Y n).impl_CopyValue v.items[k]=some v.items[k] from this,bd_some,a_Z (by rw [List.length_take];omega),bd_some,c_o hk]
  ·rw [bd_some,el_inl,List.take_length,List.nil_append,e_W]
end
end Go.Vw
