
import Derived.Test.YtajhmimbhplkfaaGreatDoorVk
namespace Go.Vw
open Go.RowKit Dat
theorem l_T {σ ρ:Type}{body:Nat->σ->Option (Out σ ρ)}(f:Nat->σ){n:Nat}{s:σ}(G:s=f 0)(h:∀j,j<n->body j (f j)=some (.next<|f<|j+1)):t_ body n 0 s=some (.inl<|f n):=by
 subst G;exact b_T f h
theorem t_h {α:Type}(l:List α)(p:α->Bool)(q:Nat->Bool)(h:∀k (hk:k<l.length),q k=p l[k]):(List.range l.length).find? q=l.findIdx? p:=by
 cases hf:(List.range l.length).find? q with
 | none =>
  symm
  rw [List.findIdx?_eq_none_iff]
  intro x hx;obtain ⟨k,hk,rfl⟩:=List.getElem_of_mem hx;have:=List.find?_eq_none.1 hf k<|List.mem_range.2 hk
  rw [h k hk] at this;simpa using this
 | some k =>
  symm
  obtain ⟨hp,as,bs,hl,has⟩:=List.find?_eq_some_iff_append.1 hf;have hk:=List.mem_range.1<|List.mem_of_find?_eq_some hf
  rw [List.findIdx?_eq_some_iff_getElem]
  refine ⟨hk,by rw [← h k hk];exact hp,fun j hj=>?_⟩
  have h1:as.length=k:=by
   have h2:(List.range l.length)[as.length]? = some k:=by rw [hl];simp
   have h3:as.length<l.length:=by
    have:=congrArg List.length hl;simp at this;omega
   rw [List.getElem?_range h3] at h2
   exact Option.some.inj h2
  have h2:(List.range l.length)[j]? = some (as[j]'(by omega)):=by rw [hl,List.getElem?_append_left (by omega)];simp
  rw [List.getElem?_range (by omega)] at h2
  have h3:=has (as[j]'(by omega))<|gE_ _
  rw [← Option.some.inj h2,h j (by omega)] at h3
  simpa using h3
theorem t_i (l:List q_)(r:o_):j_6 l r=some (match l.findIdx? (fun f=>f.name.b==r.name.b) with | some k=>(k:Int) | none=>-1):=by
 unfold j_6 l_3
 rw [g_m (fun k=>if hk:k<l.length then l[k].name.b==r.name.b else false) (fun k=>(k:Int)) (fun k hk _=>by
  rw [ix_ hk,bd_some,bd_some,dif_pos hk]
  cases (l[k].name.b==r.name.b) <;> rfl)]
 rw [t_h l (fun f=>f.name.b==r.name.b) _ (fun k hk=>by rw [dif_pos hk])]
 cases l.findIdx? (fun f=>f.name.b==r.name.b) <;> rfl
def d_0 (rs:List o_)(k:Nat):List q_:=(rs.take k).foldl b_Q []
theorem l_U {rs:List o_}{k:Nat}(hk:k<rs.length):d_0 rs (k+1)=b_Q (d_0 rs k) rs[k]:=by
 unfold d_0
 rw [List.take_add_one,gG_ hk,Option.toList_some,List.foldl_append];rfl
theorem k_f (rs:List o_):∀k,k<=rs.length->(d_0 rs k).length<=k/\d_t (d_0 rs k)
 | 0,_=>⟨Nat.le_refl _,by simp [d_0,d_t]⟩
 | k+1,hk=>by
  obtain ⟨h1,h2⟩:=k_f rs k (by omega)
  rw [l_U (by omega)]
  have:=s_Q (l:=d_0 rs k) (r:=rs[k]);exact ⟨by omega,s_P h2⟩
theorem l_V (rs:List o_):d_0 rs rs.length=rs.foldl b_Q []:=by unfold d_0;rw [List.take_length]
theorem p_0 {a:L_}(hb:a.log.bytes.length<=ML){n:Nat}(hn:1060100<=n):g_Z n a=some (c_e a.log.bytes):=by
 have hML:=MLv;have hMX:=MXv;have hLIM:=a_u;unfold g_Z c_e
 rw [o_V hb hn,bd2_some]
 have hle:=f_q _ _<|Nat.le_refl a.log.bytes.length;generalize (a_v a.log.bytes).1=rs at hle
 refine (congrArg (fun z=>bd z _)<|l_T (d_0 rs) (n:=rs.length) rfl<|fun k hk=>?_).trans (by rw [bd_some,el_inl,l_V]);have hl:=(k_f rs k (by omega)).1;have hv:=e_J<|hle.2.2 _<|gE_ hk
 rw [ix_ hk,bd_some,t_i,bd_some,l_U hk]
 generalize d_0 rs k=l at hl
 generalize rs[k]=r at hv
 unfold b_Q
 cases hf:l.findIdx? (fun f=>f.name.b==r.name.b) with
 | some j =>
  obtain ⟨hj,_⟩:=List.findIdx?_eq_some_iff_getElem.1 hf
  simp only
  by_cases h1:r.kind=1
  ·rw [show (r.kind==1)=true by simpa using h1,iP_ rfl,dT_ (by omega),bd_some,iP_ rfl,d_P hj,bd_some,bd_some,iP_ h1];rfl
  ·rw [show (r.kind==1)=false by simpa using h1,iN_ (by simp),bd_some,iN_ (by simp),iN_ (by simp),dT_ (by omega),iP_ rfl,iN_ h1]
   rw [d_7 (by omega) (by omega) (by omega),bd_some,ia_ (by omega) (by omega),show ((j:Int)+1)=((j+1:Nat):Int) by omega,d_7 (by omega) (by omega) (by omega),bd_some,c_0 (by simp only [List.length_drop,List.length_take];omega),bd_some,bd_some,bd_some]
   simp only [tN_,Int.toNat_zero,List.drop_zero,List.take_length]
   rw [List.eraseIdx_eq_take_drop_succ];rfl
 | none =>
  simp only
  by_cases h1:r.kind=1
  ·rw [show (r.kind==1)=true by simpa using h1,iP_ rfl,show decide ((0:Int) <= -1)=false from rfl,bd_some,iN_ (by simp),iP_ rfl,b_h (by omega),bd_some,bd_some,bd_some,iP_ h1];rfl
  ·rw [show (r.kind==1)=false by simpa using h1,iN_ (by simp),bd_some,iN_ (by simp),iN_ (by simp),show decide ((0:Int) <= -1)=false from rfl,iN_ (by simp),bd_some,bd_some,iN_ h1];rfl
theorem t_j {l:List q_}{r:o_}(hl:l.length<=ML)(hd:r.data.length<=ML)(hn:d_t l):i_U l r=some (b_Q l r):=by
 have hML:=MLv;have hMX:=MXv;have hLIM:=a_u;unfold i_U
 rw [c_0 (by simp only [List.length_nil];omega),bd_some,bd_some,List.nil_append]
 simp only [un3]
 have hlen:∀k,k<=l.length->((l.take k).flatMap (b_o r)).length<=k:=by
  intro k
  induction k with
  | zero=>intro _;simp
  | succ k ih =>
   intro hk;have:=ih (by omega)
   rw [List.take_add_one,gG_ (by omega),Option.toList_some,List.flatMap_append,List.length_append]
   have h1:(List.flatMap (b_o r) [l[k]]).length<=1:=by
    simp only [List.flatMap_cons,List.flatMap_nil,List.append_nil,b_o]
    split
    ·simp
    ·split <;> simp
   omega
 refine (congrArg (fun z=>bd z _)<|l_T (fun k=>((l.take k).flatMap (b_o r),(l.take k).any fun f=>f.name.b==r.name.b && r.kind==1)) (n:=l.length) rfl<|fun k hk=>?_).trans ?_
 rotate_left
 ·rw [bd_some,el_inl]
  simp only [un2,List.take_length]
  have hs:=s_O (r:=r) hn;unfold sapR at hs
  have hln:=hlen l.length<|Nat.le_refl _
  rw [List.take_length] at hln
  by_cases h1:r.kind=1
  ·rw [show (r.kind==1)=true by simpa using h1,iP_ rfl]
   simp only [Bool.and_true,bd_some]
   rw [← hs]
   cases ha:l.any fun f=>f.name.b==r.name.b with
   | true=>simp [h1]
   | false =>
    simp only [Bool.not_false,fT_]
    rw [b_h (by omega),bd_some,bd_some,iP_ (by simp [h1])];rfl
  ·rw [show (r.kind==1)=false by simpa using h1,iN_ (by simp),bd_some,iN_ (by simp),bd_some,← hs,iN_<|fun h=>h1 h.1,List.append_nil]
 ·simp only [un2]
  have h2:=hlen k (by omega)
  rw [ix_ hk,bd_some,bd_some]
  have H:(l.take<|k+1).flatMap (b_o r)=(l.take k).flatMap (b_o r)++b_o r l[k]:=by
   rw [List.take_add_one,gG_ hk,Option.toList_some,List.flatMap_append];simp
  have I:((l.take<|k+1).any fun f=>f.name.b==r.name.b && r.kind==1)=(((l.take k).any fun f=>f.name.b==r.name.b && r.kind==1) || (l[k].name.b==r.name.b && r.kind==1)):=by
   rw [List.take_add_one,gG_ hk,Option.toList_some,List.any_append];simp
  rw [H,I]
  generalize (l.take k).flatMap (b_o r)=F at h2
  generalize ((l.take k).any fun f=>f.name.b==r.name.b && r.kind==1)=A
  cases hx:l[k].name.b != r.name.b with
  | true =>
   have G:(l[k].name.b==r.name.b)=false:=by rw [beq_eq_false_iff_ne];simpa using hx
   have hs:b_o r l[k]=[l[k]]:=by unfold b_o;rw [iP_ hx]
   rw [iP_ rfl,b_h (by omega),bd_some,bd_some,hs,G];simp [un2]
  | false =>
   have G:(l[k].name.b==r.name.b)=true:=by rw [beq_iff_eq];simpa using hx
   rw [iN_ (by simp),G]
   by_cases h1:r.kind=1
   ·have hs:b_o r l[k]=[c_C r]:=by unfold b_o;rw [iN_ (by rw [hx];simp),iP_ h1]
    rw [show (r.kind==1)=true by simpa using h1,iP_ rfl,b_h (by omega),bd_some,bd_some,hs];simp [un2,c_C,bd_some]
   ·have hs:b_o r l[k]=[]:=by unfold b_o;rw [iN_ (by rw [hx];simp),iN_ h1]
    rw [show (r.kind==1)=false by simpa using h1,iN_ (by simp),bd_some,hs];simp [un2,bd_some]
theorem p_1 {b:List UInt8}(hb:b.length<=ML){n:Nat}(hn:1060100<=n):g_W n b=some (c_e b):=by
 have hML:=MLv;have hMX:=MXv;have hLIM:=a_u;unfold g_W c_e
 rw [k_e hb hn,bd2_some]
 have hle:=f_q _ _<|Nat.le_refl b.length;generalize (a_v b).1=rs at hle
 refine (congrArg (fun z=>bd z _)<|l_T (d_0 rs) (n:=rs.length) rfl<|fun k hk=>?_).trans (by rw [bd_some,el_inl,l_V]);have hl:=k_f rs k (by omega);have hv:=e_J<|hle.2.2 _<|gE_ hk
 rw [ix_ hk,bd_some,t_j (by omega) (by omega) hl.2,bd_some,l_U hk]
end Go.Vw
