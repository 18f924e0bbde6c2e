
import Derived.Test.YtdgimlkkidpmmaaGreatDoorVs
namespace Go.Vw
open Go.RowKit Dat
theorem i_O {σ ρ:Type}{body:Nat->σ->Option (Out σ ρ)}(f:Nat->σ){n:Nat}{s:σ}(G:s=f 0)(h:∀j,j<n->body j (f j)=some (.next<|f<|j+1)):t_ body n 0 s=some (.inl<|f n):=by
 subst G;exact d_g f h
theorem p_i {α:Type}(l:List α)(p:α->Bool)(q:Nat->Bool)(h:∀k (hk:k<l.length),q k=p l[k]):(List.range l.length).find? q=l.findIdx? p:=by
 cases hf:(List.range l.length).find? q with
 | none =>
  symm
  rw [List.findIdx?_eq_none_iff]
  intro x hx;obtain ⟨k,hk,rfl⟩:=List.getElem_of_mem hx;have:=List.find?_eq_none.1 hf k<|List.mem_range.2 hk
  rw [h k hk] at this;simpa using this
 | some k =>
  symm
  obtain ⟨hp,as,bs,hl,has⟩:=List.find?_eq_some_iff_append.1 hf;have hk:=List.mem_range.1<|List.mem_of_find?_eq_some hf
  rw [List.findIdx?_eq_some_iff_getElem]
  refine ⟨hk,by rw [← h k hk];exact hp,λj hj=>?_⟩
  have h1:as.length=k:=by
   have h2:(List.range l.length)[as.length]? = some k:=by rw [hl];simp
   have h3:as.length<l.length:=by
    have:=congrArg List.length hl;simp at this;omega
   rw [List.getElem?_range h3] at h2
   exact Option.some.inj h2
  have h2:(List.range l.length)[j]? = some (as[j]'(by omega)):=by rw [hl,List.getElem?_append_left (by omega)];simp
  rw [List.getElem?_range (by omega)] at h2
  have h3:=has (as[j]'(by omega))<|gE_ _
  rw [← Option.some.inj h2,h j (by omega)] at h3
  simpa using h3
theorem t_E (l:List w_)(r:m_):j_F l r=some (match l.findIdx? (λf=>f.name.b==r.name.b) with | some k=>(k:Int) | none=>-1):=by
 unfold j_F l_0
 rw [h_B (λk=>if hk:k<l.length then l[k].name.b==r.name.b else false) (λk=>(k:Int)) (λk hk _=>by
  rw [ix_ hk,bd_some,bd_some,dif_pos hk]
  cases (l[k].name.b==r.name.b) <;> rfl)]
 rw [p_i l (λf=>f.name.b==r.name.b) _ (λk hk=>by rw [dif_pos hk])]
 cases l.findIdx? (λf=>f.name.b==r.name.b) <;> rfl
def d_c (rs:List m_)(k:Nat):List w_:=(rs.take k).foldl c_r []
theorem m_T {rs:List m_}{k:Nat}(hk:k<rs.length):d_c rs (k+1)=c_r (d_c rs k) rs[k]:=by
 unfold d_c
 rw [List.take_add_one,gG_ hk,Option.toList_some,List.foldl_append];rfl
theorem m_U (rs:List m_):∀k,k<=rs.length->(d_c rs k).length<=k/\d_v (d_c rs k)
 | 0,_=>⟨Nat.le_refl _,by simp [d_c,d_v]⟩
 | k+1,hk=>by
  obtain ⟨h1,h2⟩:=m_U rs k (by omega)
  rw [m_T (by omega)]
  have:=o_W (l:=d_c rs k) (r:=rs[k]);exact ⟨by omega,t_j h2⟩
theorem p_j (rs:List m_):d_c rs rs.length=rs.foldl c_r []:=by unfold d_c;rw [List.take_length]
theorem t_F {a:n_}(hb:a.log.bytes.length<=ML){n:Nat}(hn:1060100<=n):j_G n a=some (b_T a.log.bytes):=by
 have hML:=MLv;have hMX:=MXv;have hLIM:=W_;unfold j_G b_T
 rw [m_Q hb hn,bd2_some]
 have hle:=i_M _ _<|Nat.le_refl a.log.bytes.length;generalize (G_ a.log.bytes).1=rs at hle
 refine (congrArg (λz=>bd z _)<|i_O (d_c rs) (n:=rs.length) rfl<|λk hk=>?_).trans (by rw [bd_some,el_inl,p_j]);have hl:=(m_U rs k (by omega)).1;have hv:=e_X<|hle.2.2 _<|gE_ hk
 rw [ix_ hk,bd_some,t_E,bd_some,m_T hk]
 generalize d_c rs k=l at hl
 generalize rs[k]=r at hv
 unfold c_r
 cases hf:l.findIdx? (λf=>f.name.b==r.name.b) with
 | some j =>
  obtain ⟨hj,_⟩:=List.findIdx?_eq_some_iff_getElem.1 hf
  simp only
  by_cases h1:r.kind=1
  .rw [show (r.kind==1)=true by simpa using h1,iP_ rfl,dT_ (by omega),bd_some,iP_ rfl,n_c hj,bd_some,bd_some,iP_ h1];rfl
  .rw [show (r.kind==1)=false by simpa using h1,iN_ (by simp),bd_some,iN_ (by simp),iN_ (by simp),dT_ (by omega),iP_ rfl,iN_ h1]
   rw [e_p (by omega) (by omega) (by omega),bd_some,ia_ (by omega) (by omega),show ((j:Int)+1)=((j+1:Nat):Int) by omega,e_p (by omega) (by omega) (by omega),bd_some,a_A (by simp only [List.length_drop,List.length_take];omega),bd_some,bd_some,bd_some]
   simp only [tN_,Int.toNat_zero,List.drop_zero,List.take_length]
   rw [List.eraseIdx_eq_take_drop_succ];rfl
 | none =>
  simp only
  by_cases h1:r.kind=1
  .rw [show (r.kind==1)=true by simpa using h1,iP_ rfl,show decide ((0:Int) <= -1)=false from rfl,bd_some,iN_ (by simp),iP_ rfl,O_ (by omega),bd_some,bd_some,bd_some,iP_ h1];rfl
  .rw [show (r.kind==1)=false by simpa using h1,iN_ (by simp),bd_some,iN_ (by simp),iN_ (by simp),show decide ((0:Int) <= -1)=false from rfl,iN_ (by simp),bd_some,bd_some,iN_ h1];rfl
theorem t_G {l:List w_}{r:m_}(hl:l.length<=ML)(hd:r.data.length<=ML)(hn:d_v l):j_x l r=some (c_r l r):=by
 have hML:=MLv;have hMX:=MXv;have hLIM:=W_;unfold j_x
 rw [a_A (by simp only [List.length_nil];omega),bd_some,bd_some,List.nil_append]
 simp only [un3]
 have hlen:∀k,k<=l.length->((l.take k).flatMap (b_s r)).length<=k:=by
  intro k
  induction k with
  | zero=>intro _;simp
  | succ k ih =>
   intro hk;have:=ih (by omega)
   rw [List.take_add_one,gG_ (by omega),Option.toList_some,List.flatMap_append,List.length_append]
   have h1:(List.flatMap (b_s r) [l[k]]).length<=1:=by
    simp only [List.flatMap_cons,List.flatMap_nil,List.append_nil,b_s]
    split
    .simp
    .split <;> simp
   omega
 refine (congrArg (λz=>bd z _)<|i_O (λk=>((l.take k).flatMap (b_s r),(l.take k).any λf=>f.name.b==r.name.b && r.kind==1)) (n:=l.length) rfl<|λk hk=>?_).trans ?_
 rotate_left
 .rw [bd_some,el_inl]
  simp only [un2,List.take_length]
  have hs:=t_i (r:=r) hn;unfold sapR at hs
  have hln:=hlen l.length<|Nat.le_refl _
  rw [List.take_length] at hln
  by_cases h1:r.kind=1
  .rw [show (r.kind==1)=true by simpa using h1,iP_ rfl]
   simp only [Bool.and_true,bd_some]
   rw [← hs]
   cases ha:l.any λf=>f.name.b==r.name.b with
   | true=>simp [h1]
   | false =>
    simp only [Bool.not_false,fT_]
    rw [O_ (by omega),bd_some,bd_some,iP_ (by simp [h1])];rfl
  .rw [show (r.kind==1)=false by simpa using h1,iN_ (by simp),bd_some,iN_ (by simp),bd_some,← hs,iN_<|λh=>h1 h.1,List.append_nil]
 .simp only [un2]
  have h2:=hlen k (by omega)
  rw [ix_ hk,bd_some,bd_some]
  have H:(l.take<|k+1).flatMap (b_s r)=(l.take k).flatMap (b_s r)++b_s r l[k]:=by
   rw [List.take_add_one,gG_ hk,Option.toList_some,List.flatMap_append];simp
  have I:((l.take<|k+1).any λf=>f.name.b==r.name.b && r.kind==1)=(((l.take k).any λf=>f.name.b==r.name.b && r.kind==1) || (l[k].name.b==r.name.b && r.kind==1)):=by
   rw [List.take_add_one,gG_ hk,Option.toList_some,List.any_append];simp
  rw [H,I]
  generalize (l.take k).flatMap (b_s r)=F at h2
  generalize ((l.take k).any λf=>f.name.b==r.name.b && r.kind==1)=A
  cases hx:l[k].name.b != r.name.b with
  | true =>
   have G:(l[k].name.b==r.name.b)=false:=by rw [beq_eq_false_iff_ne];simpa using hx
   have hs:b_s r l[k]=[l[k]]:=by unfold b_s;rw [iP_ hx]
   rw [iP_ rfl,O_ (by omega),bd_some,bd_some,hs,G];simp [un2]
  | false =>
   have G:(l[k].name.b==r.name.b)=true:=by rw [beq_iff_eq];simpa using hx
   rw [iN_ (by simp),G]
   by_cases h1:r.kind=1
   .have hs:b_s r l[k]=[d_u r]:=by unfold b_s;rw [iN_ (by rw [hx];simp),iP_ h1]
    rw [show (r.kind==1)=true by simpa using h1,iP_ rfl,O_ (by omega),bd_some,bd_some,hs];simp [un2,d_u,bd_some]
   .have hs:b_s r l[k]=[]:=by unfold b_s;rw [iN_ (by rw [hx];simp),iN_ h1]
    rw [show (r.kind==1)=false by simpa using h1,iN_ (by simp),bd_some,hs];simp [un2,bd_some]
theorem p_k {b:Bt}(hb:b.length<=ML){n:Nat}(hn:1060100<=n):h_T n b=some (b_T b):=by
 have hML:=MLv;have hMX:=MXv;have hLIM:=W_;unfold h_T b_T
 rw [k_B hb hn,bd2_some]
 have hle:=i_M _ _<|Nat.le_refl b.length;generalize (G_ b).1=rs at hle
 refine (congrArg (λz=>bd z _)<|i_O (d_c rs) (n:=rs.length) rfl<|λk hk=>?_).trans (by rw [bd_some,el_inl,p_j]);have hl:=m_U rs k (by omega);have hv:=e_X<|hle.2.2 _<|gE_ hk
 rw [ix_ hk,bd_some,t_G (by omega) (by omega) hl.2,bd_some,m_T hk]
end Go.Vw
