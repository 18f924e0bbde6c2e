
import Derived.Test.YtaccmlhgodgkaaaGreatDoorVk
namespace Go.Vw
open Go.RowKit Dat
theorem h_D:∀(m:Nat)(v:Val),dep m v->vsz m v<=1100000->∀n,m+1<=n->e_h n v=some v:=by
 have hLIM:=a_p;intro m
 induction m with
 | zero =>
  intro v h hz n hn;obtain ⟨n,rfl⟩:∃k,n=k+1:=⟨n - 1,by omega⟩;have G:v.items=[]:=h;have hz':v.bytes.length<=1100000:=hz
  show f_1 n (e_g n) v=_
  unfold f_1
  rw [b_F (by simp;omega),bd_some,bd_some,G]
  obtain ⟨a,b,c⟩:=v;subst G
  rfl
 | succ m ih =>
  intro v h hz n hn;obtain ⟨n,rfl⟩:∃k,n=k+1:=⟨n - 1,by omega⟩;have hz':v.bytes.length+lsz m v.items<=1100000:=hz;have hl:=j_o m v.items
  show f_1 n (e_g n) v=_
  unfold f_1
  rw [b_F (by simp;omega),bd_some,bd_some]
  simp only [un3]
  refine (congrArg (λz=>bd z _)<|h_v (λk=>v.items.take k) (n:=v.items.length) rfl<|λk hk=>?_).trans ?_
  .have hm:=gE_ hk;have hs:=f_p (m:=m) hm;have:=ih v.items[k] (h _ hm) (by omega) n (by omega)
   rw [ix_ hk,bd_some,show (e_g n).spec_CopyValue v.items[k]=some v.items[k] from this,bd_some,a_w (by rw [List.length_take];omega),bd_some,d_X hk]
  .rw [bd_some,el_inl,List.take_length,List.nil_append,d_x]
theorem n_k (b:Bt):i_j b b=some true:=by
 unfold i_j
 rw [bN_,iN_ (by simp)]
 rw [e_H (l:=b) (p:=λ_=>false) (r:=false) (λk hk=>by rw [ix_ hk,bd_some,bd_some];simp)]
 simp
theorem eqv_ok:∀(m:Nat)(v:Val),dep m v->∀n,m+1<=n->l_G n v v=some true:=by
 intro m
 induction m with
 | zero =>
  intro v h n hn;obtain ⟨n,rfl⟩:∃k,n=k+1:=⟨n - 1,by omega⟩;have G:v.items=[]:=h
  show f_2 n (e_i n) v v=_
  unfold f_2
  rw [bN_,iN_ (by simp),n_k,bd_some,G]
  rfl
 | succ m ih =>
  intro v h n hn;obtain ⟨n,rfl⟩:∃k,n=k+1:=⟨n - 1,by omega⟩
  show f_2 n (e_i n) v v=_
  unfold f_2
  rw [bN_,iN_ (by simp),n_k,bd_some,show (!true)=false from rfl,iN_ (by simp),bN_,bd_some,iN_ (by simp)]
  rw [e_H (l:=v.items) (p:=λ_=>false) (r:=false) (λk hk=>by
   have:=ih v.items[k] (h _<|gE_ hk) n (by omega)
   rw [ix_ hk,bd_some,bd_some,show (e_i n).spec_EqualValues v.items[k] v.items[k]=some true from this,bd_some]
   simp)]
  simp
section
variable {d:e_}{b:Bt}
theorem n_l {rd:Int->Nat->RR}{L:Nat}:∀{ks:List Int}{p:Nat}{vs:List Val}{e:Nat},e_E rd L ks p vs e->∀m (hm:m<ks.length) (hm':m<vs.length),vs[m]=(rd ks[m] (c_3 (λk p=>(rd k p).2.1) ks p m)).1
 | k::ks,p,vs,e,h,0,_,hm'=>by
  obtain ⟨_,_,ws,rfl,_⟩:=h
  rfl
 | k::ks,p,vs,e,h,m+1,hm,hm'=>by
  obtain ⟨_,_,ws,rfl,h3⟩:=h;have:=n_l h3 m (by simpa using hm) (by simpa using hm')
  rw [k_Y]
  simpa using this
end
end Go.Vw
