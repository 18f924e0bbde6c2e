
import Derived.Test.YtbhbfaljeoeciaaGreatDoorVi
namespace Go.Vw
open Go.RowKit Dat
theorem m_S (b:List UInt8):d_e b b=some true:=by
 unfold d_e
 rw [bN_,iN_ (by simp)]
 rw [d_8 (l:=b) (p:=fun _=>false) (r:=false) (fun k hk=>by rw [ix_ hk,bd_some,bd_some];simp)]
 simp
theorem eqv_ok:∀(m:Nat)(v:Val),dep m v->∀n,m+1<=n->f_Z n v v=some true:=by
 intro m
 induction m with
 | zero =>
  intro v h n hn;obtain ⟨n,rfl⟩:∃k,n=k+1:=⟨n - 1,by omega⟩;have G:v.items=[]:=h
  show c_d n (c_m n) v v=_
  unfold c_d
  rw [bN_,iN_ (by simp),m_S,bd_some,G]
  rfl
 | succ m ih =>
  intro v h n hn;obtain ⟨n,rfl⟩:∃k,n=k+1:=⟨n - 1,by omega⟩
  show c_d n (c_m n) v v=_
  unfold c_d
  rw [bN_,iN_ (by simp),m_S,bd_some,show (!true)=false from rfl,iN_ (by simp),bN_,bd_some,iN_ (by simp)]
  rw [d_8 (l:=v.items) (p:=fun _=>false) (r:=false) (fun k hk=>by
   have:=ih v.items[k] (h _<|gE_ hk) n (by omega)
   rw [ix_ hk,bd_some,bd_some,show (c_m n).spec_EqualValues v.items[k] v.items[k]=some true from this,bd_some]
   simp)]
  simp
section
variable {d:c_}{b:List UInt8}
end
end Go.Vw
