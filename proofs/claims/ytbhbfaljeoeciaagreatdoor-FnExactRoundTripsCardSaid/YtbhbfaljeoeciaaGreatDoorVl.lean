
import Derived.Test.YtbhbfaljeoeciaaGreatDoorVk
namespace Go.Vw
open Go.RowKit Dat
section
variable {d:c_}{b:List UInt8}
theorem m_T (b:List UInt8):f_r b b=some true:=by
 rw [g_D,bQ_]
theorem q_t:∀(m:Nat)(v:Val),dep m v->∀n,m+1<=n->g_i n v v=some true:=by
 intro m
 induction m with
 | zero =>
  intro v h n hn;obtain ⟨n,rfl⟩:∃k,n=k+1:=⟨n - 1,by omega⟩;have G:v.items=[]:=h
  show c_f n (c_q n) v v=_
  unfold c_f
  rw [bN_,iN_ (by simp),m_T,bd_some,G]
  rfl
 | succ m ih =>
  intro v h n hn;obtain ⟨n,rfl⟩:∃k,n=k+1:=⟨n - 1,by omega⟩
  show c_f n (c_q n) v v=_
  unfold c_f
  rw [bN_,iN_ (by simp),m_T,bd_some,show (!true)=false from rfl,iN_ (by simp),bN_,bd_some,iN_ (by simp)]
  rw [d_8 (l:=v.items) (p:=fun _=>false) (r:=false) (fun k hk=>by
   have:=ih v.items[k] (h _<|gE_ hk) n (by omega)
   rw [ix_ hk,bd_some,bd_some,show (c_q n).impl_EqualValues v.items[k] v.items[k]=some true from this,bd_some]
   simp)]
  simp
end
end Go.Vw
