
import Derived.Test.YtgpgenigfncgeaaGreatDoorVk
namespace Go.Vw
open Go.RowKit Dat
theorem m_U {σ ρ:Type}{body:Nat->σ->Option (Out σ ρ)}(f:Nat->σ){n:Nat}{s:σ}(G:s=f 0)(h:∀j,j<n->body j (f j)=some (.next<|f<|j+1)):u_ body n 0 s=some (.inl<|f n):=by
 subst G;exact b_M f h
theorem m_V {α:Type}(l:List α)(p:α->Bool)(q:Nat->Bool)(h:∀k (hk:k<l.length),q k=p l[k]):(List.range l.length).find? q=l.findIdx? p:=by
 cases hf:(List.range l.length).find? q with
 | none =>
  symm
  rw [List.findIdx?_eq_none_iff]
  intro x hx;obtain ⟨k,hk,rfl⟩:=List.getElem_of_mem hx;have:=List.find?_eq_none.1 hf k<|List.mem_range.2 hk
  rw [h k hk] at this;simpa using this
 | some k =>
  symm
  obtain ⟨hp,as,bs,hl,has⟩:=List.find?_eq_some_iff_append.1 hf;have hk:=List.mem_range.1<|List.mem_of_find?_eq_some hf
  rw [List.findIdx?_eq_some_iff_getElem]
  refine ⟨hk,by rw [← h k hk];exact hp,λj hj=>?_⟩
  have h1:as.length=k:=by
   have h2:(List.range l.length)[as.length]? = some k:=by rw [hl];simp
   have h3:as.length<l.length:=by
    have:=congrArg List.length hl;simp at this;omega
   rw [List.getElem?_range h3] at h2
   exact Option.some.inj h2
  have h2:(List.range l.length)[j]? = some (as[j]'(by omega)):=by rw [hl,List.getElem?_append_left (by omega)];simp
  rw [List.getElem?_range (by omega)] at h2
  have h3:=has (as[j]'(by omega))<|gE_ _
  rw [← Option.some.inj h2,h j (by omega)] at h3
  simpa using h3
theorem u_L (l:List r_)(r:p_):j_u l r=some (match l.findIdx? (λf=>f.name.b==r.name.b) with | some k=>(k:Int) | none=>-1):=by
 unfold j_u l_u
 rw [f_3 (λk=>if hk:k<l.length then l[k].name.b==r.name.b else false) (λk=>(k:Int)) (λk hk _=>by
  rw [ix_ hk,bd_some,bd_some,dif_pos hk]
  cases (l[k].name.b==r.name.b) <;> rfl)]
 rw [m_V l (λf=>f.name.b==r.name.b) _ (λk hk=>by rw [dif_pos hk])]
 cases l.findIdx? (λf=>f.name.b==r.name.b) <;> rfl
def d_b (rs:List p_)(k:Nat):List r_:=(rs.take k).foldl b_V []
theorem m_W {rs:List p_}{k:Nat}(hk:k<rs.length):d_b rs (k+1)=b_V (d_b rs k) rs[k]:=by
 unfold d_b
 rw [List.take_add_one,gG_ hk,Option.toList_some,List.foldl_append];rfl
theorem k_Z (rs:List p_):∀k,k<=rs.length->(d_b rs k).length<=k/\d_z (d_b rs k)
 | 0,_=>⟨Nat.le_refl _,by simp [d_b,d_z]⟩
 | k+1,hk=>by
  obtain ⟨h1,h2⟩:=k_Z rs k (by omega)
  rw [m_W (by omega)]
  have:=u_k (l:=d_b rs k) (r:=rs[k]);exact ⟨by omega,u_j h2⟩
theorem m_X (rs:List p_):d_b rs rs.length=rs.foldl b_V []:=by unfold d_b;rw [List.take_length]
theorem p_X {a:J_}(hb:a.log.bytes.length<=ML){n:Nat}(hn:1060100<=n):h_g n a=some (c_k a.log.bytes):=by
 have hML:=MLv;have hMX:=MXv;have hLIM:=a_o;unfold h_g c_k
 rw [p_S hb hn,bd2_some]
 have hle:=f_A _ _<|Nat.le_refl a.log.bytes.length;generalize (a_w a.log.bytes).1=rs at hle
 refine (congrArg (λz=>bd z _)<|m_U (d_b rs) (n:=rs.length) rfl<|λk hk=>?_).trans (by rw [bd_some,el_inl,m_X]);have hl:=(k_Z rs k (by omega)).1;have hv:=e_W<|hle.2.2 _<|gE_ hk
 rw [ix_ hk,bd_some,u_L,bd_some,m_W hk]
 generalize d_b rs k=l at hl
 generalize rs[k]=r at hv
 unfold b_V
 cases hf:l.findIdx? (λf=>f.name.b==r.name.b) with
 | some j =>
  obtain ⟨hj,_⟩:=List.findIdx?_eq_some_iff_getElem.1 hf
  simp only
  by_cases h1:r.kind=1
  .rw [show (r.kind==1)=true by simpa using h1,iP_ rfl,dT_ (by omega),bd_some,iP_ rfl,c_a hj,bd_some,bd_some,iP_ h1];rfl
  .rw [show (r.kind==1)=false by simpa using h1,iN_ (by simp),bd_some,iN_ (by simp),iN_ (by simp),dT_ (by omega),iP_ rfl,iN_ h1]
   rw [d_e (by omega) (by omega) (by omega),bd_some,ia_ (by omega) (by omega),show ((j:Int)+1)=((j+1:Nat):Int) by omega,d_e (by omega) (by omega) (by omega),bd_some,c_4 (by simp only [List.length_drop,List.length_take];omega),bd_some,bd_some,bd_some]
   simp only [tN_,Int.toNat_zero,List.drop_zero,List.take_length]
   rw [List.eraseIdx_eq_take_drop_succ];rfl
 | none =>
  simp only
  by_cases h1:r.kind=1
  .rw [show (r.kind==1)=true by simpa using h1,iP_ rfl,show decide ((0:Int) <= -1)=false from rfl,bd_some,iN_ (by simp),iP_ rfl,b_o (by omega),bd_some,bd_some,bd_some,iP_ h1];rfl
  .rw [show (r.kind==1)=false by simpa using h1,iN_ (by simp),bd_some,iN_ (by simp),iN_ (by simp),show decide ((0:Int) <= -1)=false from rfl,iN_ (by simp),bd_some,bd_some,iN_ h1];rfl
theorem u_M {l:List r_}{r:p_}(hl:l.length<=ML)(hd:r.data.length<=ML)(hn:d_z l):j_i l r=some (b_V l r):=by
 have hML:=MLv;have hMX:=MXv;have hLIM:=a_o;unfold j_i
 rw [c_4 (by simp only [List.length_nil];omega),bd_some,bd_some,List.nil_append]
 simp only [un3]
 have hlen:∀k,k<=l.length->((l.take k).flatMap (b_w r)).length<=k:=by
  intro k
  induction k with
  | zero=>intro _;simp
  | succ k ih =>
   intro hk;have:=ih (by omega)
   rw [List.take_add_one,gG_ (by omega),Option.toList_some,List.flatMap_append,List.length_append]
   have h1:(List.flatMap (b_w r) [l[k]]).length<=1:=by
    simp only [List.flatMap_cons,List.flatMap_nil,List.append_nil,b_w]
    split
    .simp
    .split <;> simp
   omega
 refine (congrArg (λz=>bd z _)<|m_U (λk=>((l.take k).flatMap (b_w r),(l.take k).any λf=>f.name.b==r.name.b && r.kind==1)) (n:=l.length) rfl<|λk hk=>?_).trans ?_
 rotate_left
 .rw [bd_some,el_inl]
  simp only [un2,List.take_length]
  have hs:=u_i (r:=r) hn;unfold sapR at hs
  have hln:=hlen l.length<|Nat.le_refl _
  rw [List.take_length] at hln
  by_cases h1:r.kind=1
  .rw [show (r.kind==1)=true by simpa using h1,iP_ rfl]
   simp only [Bool.and_true,bd_some]
   rw [← hs]
   cases ha:l.any λf=>f.name.b==r.name.b with
   | true=>simp [h1]
   | false =>
    simp only [Bool.not_false,fT_]
    rw [b_o (by omega),bd_some,bd_some,iP_ (by simp [h1])];rfl
  .rw [show (r.kind==1)=false by simpa using h1,iN_ (by simp),bd_some,iN_ (by simp),bd_some,← hs,iN_<|λh=>h1 h.1,List.append_nil]
 .simp only [un2]
  have h2:=hlen k (by omega)
  rw [ix_ hk,bd_some,bd_some]
  have H:(l.take<|k+1).flatMap (b_w r)=(l.take k).flatMap (b_w r)++b_w r l[k]:=by
   rw [List.take_add_one,gG_ hk,Option.toList_some,List.flatMap_append];simp
  have I:((l.take<|k+1).any λf=>f.name.b==r.name.b && r.kind==1)=(((l.take k).any λf=>f.name.b==r.name.b && r.kind==1) || (l[k].name.b==r.name.b && r.kind==1)):=by
   rw [List.take_add_one,gG_ hk,Option.toList_some,List.any_append];simp
  rw [H,I]
  generalize (l.take k).flatMap (b_w r)=F at h2
  generalize ((l.take k).any λf=>f.name.b==r.name.b && r.kind==1)=A
  cases hx:l[k].name.b != r.name.b with
  | true =>
   have G:(l[k].name.b==r.name.b)=false:=by rw [beq_eq_false_iff_ne];simpa using hx
   have hs:b_w r l[k]=[l[k]]:=by unfold b_w;rw [iP_ hx]
   rw [iP_ rfl,b_o (by omega),bd_some,bd_some,hs,G];simp [un2]
  | false =>
   have G:(l[k].name.b==r.name.b)=true:=by rw [beq_iff_eq];simpa using hx
   rw [iN_ (by simp),G]
   by_cases h1:r.kind=1
   .have hs:b_w r l[k]=[c_I r]:=by unfold b_w;rw [iN_ (by rw [hx];simp),iP_ h1]
    rw [show (r.kind==1)=true by simpa using h1,iP_ rfl,b_o (by omega),bd_some,bd_some,hs];simp [un2,c_I,bd_some]
   .have hs:b_w r l[k]=[]:=by unfold b_w;rw [iN_ (by rw [hx];simp),iN_ h1]
    rw [show (r.kind==1)=false by simpa using h1,iN_ (by simp),bd_some,hs];simp [un2,bd_some]
theorem p_Y {b:Bt}(hb:b.length<=ML){n:Nat}(hn:1060100<=n):h_d n b=some (c_k b):=by
 have hML:=MLv;have hMX:=MXv;have hLIM:=a_o;unfold h_d c_k
 rw [k_Y hb hn,bd2_some]
 have hle:=f_A _ _<|Nat.le_refl b.length;generalize (a_w b).1=rs at hle
 refine (congrArg (λz=>bd z _)<|m_U (d_b rs) (n:=rs.length) rfl<|λk hk=>?_).trans (by rw [bd_some,el_inl,m_X]);have hl:=k_Z rs k (by omega);have hv:=e_W<|hle.2.2 _<|gE_ hk
 rw [ix_ hk,bd_some,u_M (by omega) (by omega) hl.2,bd_some,m_W hk]
end Go.Vw
