
import Derived.Test.YtaccmlhgodgkaaaGreatDoorVm
namespace Go.Vw
open Go.RowKit Dat
section
variable {d:e_}{b:Bt}
theorem r_y (l:List Str)(x:Str){m:Nat}(hm:m<l.length)(he:l[m].b=x.b)(hf:∀j (hj:j<m),(l[j]'(by omega)).b ≠ x.b):d_Q l x=some (m:Int):=by
 unfold d_Q g_1;refine (congrArg (λz=>bd z _)<|j_B (st:=λ_=>()) (r:=(m:Int)) hm (λj hj=>?_) ?_).trans ?_
 .rw [ix_ (show j<l.length by omega),bd_some,bd_some,iN_ (by simpa using hf j hj)]
 .rw [ix_ hm,bd_some,bd_some,iP_ (by simpa using he)]
 .rw [bd_some,el_inr]
theorem r_z (hv:X_ d=true)(hd:SmD d){i:Nat}(hi:i<d.rules.length){v:Val}{m:Nat}(hm:m<v.items.length)(V:m<=1000000)(hinj:∀j,j<m->(a_2 d.rules[i] j).b ≠ (a_2 d.rules[i] m).b)(hne:(a_2 d.rules[i] m).b ≠ []){n:Nat}(hn:1000<=n) :
  e_q n d i v (a_2 d.rules[i] m)=some (m:Int):=by
 unfold e_q;have hst:=n_n hv hd (n:=n) (by omega) hi m
 rw [g_e n (by omega) d hd,hv,show b_f d (i:Int)=true by
  unfold b_f
  rw [dT_ (show (0:Int)<=(i:Int) by omega),dT_ (show (i:Int)<(d.rules.length:Int) by omega)];rfl]
 rw [bd_some,show (!(true && true))=false from rfl,iN_ (by simp),ix_ hi,bd_some]
 have key:bd (α:=Sum Int Int) (if (d.rules[i].kind==5) then bd2 (e_M<|a_2 d.rules[i] m) λG H=>if (!H) then some (.inr (-1)) else some (.inl G) else bd (α:=Int) (if (d.rules[i].kind==6) then bd (d_Q d.rules[i].names (a_2 d.rules[i] m)) λI=>some I else some 0) (λJ=>some<|.inl J)) (λz=>some z)=some (.inl (m:Int)):=by
  generalize d.rules[i]=r at hinj hne ⊢
  by_cases h5:(r.kind==5)=true
  .have e:a_2 r m=⟨Lib.itoa m⟩:=by unfold a_2;rw [iP_ h5]
   rw [iP_ h5,e,l_0,m_L m (by omega),bd2_some]
   rfl
  .rw [iN_ h5]
   by_cases h6:(r.kind==6)=true
   .rw [iP_ h6]
    have k6:r.kind=6:=by simpa using h6
    have hlt:m<r.names.length:=by
     refine Classical.byContradiction λhc=>hne ?_
     unfold a_2
     rw [k6,dF_ hc]
     rfl
    have e:∀j (hj:j<r.names.length),a_2 r j=r.names[j]:=λj hj=>by
     unfold a_2
     rw [iN_ h5,h6,dT_ hj,show (true && true)=true from rfl,iP_ rfl]
     simp [gG_ hj]
    rw [r_y r.names (a_2 r m) hlt (by rw [e m hlt]) (λj hj=>by rw [← e j (by omega)];exact hinj j hj),bd_some,bd_some,bd_some]
   .rw [iN_ h6]
    have O:m=0:=by
     refine Classical.byContradiction λhc=>hne ?_
     unfold a_2
     rw [iN_ h5,Bool.eq_false_iff.2 h6,show (m==0)=false by simpa using hc]
     simp
    subst O
    rfl
 have L:∀{β:Type}(z:Option (Sum Int Int))(f:Sum Int Int->Option β),bd z f=bd (bd z<|λy=>some y) f:=λz f=>by cases z <;> rfl
 rw [L,show (bd _<|λy=>some y)=_ from key,bd_some,el_inl]
 rw [dF_ (show ¬(m:Int)<0 by omega),iN_ (by simp),dF_ (show ¬(v.items.length:Int)<=(m:Int) by omega),iN_ (by simp),hst,bd_some,bN_,iN_ (by simp),bd_some]
 rw [iN_ (by simpa using hne)]
theorem n_m:∀(m:Nat)(v:Val),dep m v->vsz m v<=1100000->∀n,m+1<=n->d_o n v=some v:=by
 have hLIM:=a_p;intro m
 induction m with
 | zero =>
  intro v h hz n hn;obtain ⟨n,rfl⟩:∃k,n=k+1:=⟨n - 1,by omega⟩;have G:v.items=[]:=h;have hz':v.bytes.length<=1100000:=hz
  show f_g n (e_r n) v=_
  unfold f_g
  rw [b_F (by simp;omega),bd_some,G]
  obtain ⟨a,b,c⟩:=v;subst G
  rfl
 | succ m ih =>
  intro v h hz n hn;obtain ⟨n,rfl⟩:∃k,n=k+1:=⟨n - 1,by omega⟩;have hz':v.bytes.length+lsz m v.items<=1100000:=hz;have hl:=j_o m v.items
  show f_g n (e_r n) v=_
  unfold f_g
  rw [b_F (by simp;omega),bd_some,n_q (show v.items.length<=LIM by omega),bd_some,bd_some]
  simp only [un3]
  refine (congrArg (λz=>bd z _)<|h_v (λk=>v.items.take k) (n:=v.items.length) rfl<|λk hk=>?_).trans ?_
  .have hm:=gE_ hk;have hs:=f_p (m:=m) hm;have:=ih v.items[k] (h _ hm) (by omega) n (by omega)
   rw [ix_ hk,bd_some,show (e_r n).impl_CopyValue v.items[k]=some v.items[k] from this,bd_some,a_w (by rw [List.length_take];omega),bd_some,d_X hk]
  .rw [bd_some,el_inl,List.take_length,List.nil_append,d_x]
end
end Go.Vw
