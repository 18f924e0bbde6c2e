
import Derived.Test.YtefljifhihogoaaGreatDoorVc
namespace Go.Vw
set_option linter.unusedVariables false
open Go.RowKit Dat
theorem j_x {σ ρ:Type}{body:Nat->σ->Option (Out σ ρ)}(f:Nat->σ){n:Nat}{s:σ}(G:s=f 0)(h:∀j,j<n->body j (f j)=some (.next<|f<|j+1)):k_ body n 0 s=some (.inl<|f n):=by
 simp_all [b_Z]
theorem x_d {α:Type}(l:List α)(p:α->Bool)(q:Nat->Bool)(h:∀k (hk:k<l.length),q k=p l[k]):(List.range l.length).find? q=l.findIdx? p:=by
 cases hf:(List.range l.length).find? q with
 | none =>
  symm
  rw [List.findIdx?_eq_none_iff]
  intro x hx;obtain ⟨k,hk,rfl⟩:=QAc hx
  grind
 | some k =>
  symm
  obtain ⟨hp,as,bs,hl,has⟩:=List.find?_eq_some_iff_append.1 hf;have hk:=QAX.1<|List.mem_of_find?_eq_some hf
  rw [List.findIdx?_eq_some_iff_getElem]
  refine ⟨hk,by grind,λj hj=>?_⟩
  have h1:as.length=k:=by
   have h2:(List.range l.length)[as.length]? = some k:=by grind
   grind
  have h2:(List.range l.length)[j]? = some (as[j]'(by omega)):=by grind
  grind
theorem x_e (l:List o_)(r:q_):k_V l r=some (match l.findIdx? (λf=>f.name.b==r.name.b) with | some k=>(k:Int) | none=>-1):=by
 unfold k_V m_C
 rw [h_s (λk=>if hk:k<l.length then l[k].name.b==r.name.b else false) (λk=>(k:Int)) (λk hk _=>by
  rw [ix_ hk,a_,a_,dif_pos hk]
  grind)]
 rw [x_d l (λf=>f.name.b==r.name.b) _ (λk hk=>by grind)]
 cases l.findIdx? (λf=>f.name.b==r.name.b) <;> rfl
def d_K (rs:List q_)(k:Nat):List o_:=(rs.take k).foldl c_j []
theorem o_e {rs:List q_}{k:Nat}(hk:k<rs.length):d_K rs (k+1)=c_j (d_K rs k) rs[k]:=by
 grind [d_K,List.take_add_one,List.getElem?_eq_getElem,Option.toList_some]
theorem l_Z (rs:List q_):∀k,k<=rs.length->(d_K rs k).length<=k/\e_d (d_K rs k)
 | 0,_=>⟨QAB _,by simp [d_K,e_d]⟩
 | k+1,hk=>by
  obtain ⟨h1,h2⟩:=l_Z rs k (by omega)
  grind [d_K,w_L,w_M,o_e]
theorem o_f (rs:List q_):d_K rs rs.length=rs.foldl c_j []:=by simp [d_K]
theorem r_Y {a:H_}(hb:a.log.bytes.length<=ML){n:Nat}(hn:1060100<=n):i_S n a=some (c_O a.log.bytes):=by
 have hML:=MLv;have hMX:=MXv;have hLIM:=a_7;unfold i_S c_O
 rw [r_T hb hn,a_b]
 have hle:=h_n _ _<|QAB a.log.bytes.length;generalize (a_J a.log.bytes).1=rs at hle
 refine (congrArg (λz=>bd z _)<|j_x (d_K rs) (n:=rs.length) rfl<|λk hk=>?_).trans (by rw [a_,W_,o_f]);have hl:=(l_Z rs k (by omega)).1;have hv:=g_8<|hle.2.2 _<|gE_ hk
 rw [ix_ hk,a_,x_e,a_,o_e hk]
 generalize d_K rs k=l at hl
 generalize rs[k]=r at hv
 unfold c_j
 cases hf:l.findIdx? (λf=>f.name.b==r.name.b) with
 | some j =>
  obtain ⟨hj,_⟩:=List.findIdx?_eq_some_iff_getElem.1 hf
  simp only
  by_cases h1:r.kind=1
  .rw [show (r.kind==1)=true by grind,iP_ rfl,dT_ (by omega),a_,iP_ rfl,c_P hj,a_,a_,iP_ h1];rfl
  .rw [show (r.kind==1)=false by grind,iN_ (by simp),a_,iN_ (by simp),iN_ (by simp),dT_ (by omega),iP_ rfl,iN_ h1]
   rw [d_O (by omega) (by omega) (by omega),a_,ia_ (by omega) (by omega),show ((j:Int)+1)=((j+1:Nat):Int) by omega,d_O (by omega) (by omega) (by omega),a_,c_l (by grind),a_,a_,a_]
   simp_all [List.eraseIdx_eq_take_drop_succ,Int.toNat_zero]
 | none =>
  simp only
  by_cases h1:r.kind=1
  .rw [show (r.kind==1)=true by grind,iP_ rfl,show decide ((0:Int) <= -1)=false from rfl,a_,iN_ (by simp),iP_ rfl,a_Z (by omega),a_,a_,a_,iP_ h1];rfl
  simp_all
theorem x_f {l:List o_}{r:q_}(hl:l.length<=ML)(hd:r.data.length<=ML)(hn:e_d l):k_K l r=some (c_j l r):=by
 have hML:=MLv;have hMX:=MXv;have hLIM:=a_7;unfold k_K
 rw [c_l (by grind),a_,a_,QAr]
 simp only [un3]
 have hlen:∀k,k<=l.length->((l.take k).flatMap (b_Y r)).length<=k:=by
  intro k
  induction k with
  | zero=>simp
  | succ k ih =>
   intro hk;have:=ih (by omega)
   rw [QAy,gG_ (by omega),QBB,List.flatMap_append,QAN]
   grind [List.flatMap,b_Y]
 refine (congrArg (λz=>bd z _)<|j_x (λk=>((l.take k).flatMap (b_Y r),(l.take k).any λf=>f.name.b==r.name.b && r.kind==1)) (n:=l.length) rfl<|λk hk=>?_).trans ?_
 rotate_left
 .rw [a_,W_]
  simp only [un2,QAY]
  have hs:=w_K (r:=r) hn;unfold sapR at hs
  have hln:=hlen l.length<|QAB _
  rw [QAY] at hln
  by_cases h1:r.kind=1
  .rw [show (r.kind==1)=true by grind,iP_ rfl]
   simp only [Bool.and_true,a_]
   rw [← hs]
   cases ha:l.any λf=>f.name.b==r.name.b with
   | true=>simp
   | false =>
    simp only [QBE,fT_]
    rw [a_Z (by omega),a_,a_,iP_ (by grind)];rfl
  simp_all
 .simp only [un2]
  have h2:=hlen k (by omega)
  rw [ix_ hk,a_,a_]
  have H:(l.take<|k+1).flatMap (b_Y r)=(l.take k).flatMap (b_Y r)++b_Y r l[k]:=by
   grind [List.take_add_one,List.getElem?_eq_getElem,Option.toList_some]
  have I:((l.take<|k+1).any λf=>f.name.b==r.name.b && r.kind==1)=(((l.take k).any λf=>f.name.b==r.name.b && r.kind==1) || (l[k].name.b==r.name.b && r.kind==1)):=by
   grind [List.take_add_one,List.getElem?_eq_getElem,Option.toList_some]
  rw [H,I]
  generalize (l.take k).flatMap (b_Y r)=F at h2
  generalize ((l.take k).any λf=>f.name.b==r.name.b && r.kind==1)=A
  cases hx:l[k].name.b != r.name.b with
  | true =>
   have G:(l[k].name.b==r.name.b)=false:=by grind
   have hs:b_Y r l[k]=[l[k]]:=by grind [b_Y]
   rw [iP_ rfl,a_Z (by omega),a_,a_,hs,G];simp
  | false =>
   have G:(l[k].name.b==r.name.b)=true:=by grind
   rw [iN_ (by simp),G]
   by_cases h1:r.kind=1
   .have hs:b_Y r l[k]=[d_k r]:=by grind [b_Y]
    rw [show (r.kind==1)=true by grind,iP_ rfl,a_Z (by omega),a_,a_,hs];simp [un2,d_k]
   simp_all [b_Y,un2,a_]
theorem r_Z {b:Bt}(hb:b.length<=ML){n:Nat}(hn:1060100<=n):i_P n b=some (c_O b):=by
 have hML:=MLv;have hMX:=MXv;have hLIM:=a_7;unfold i_P c_O
 rw [l_Y hb hn,a_b]
 have hle:=h_n _ _<|QAB b.length;generalize (a_J b).1=rs at hle
 refine (congrArg (λz=>bd z _)<|j_x (d_K rs) (n:=rs.length) rfl<|λk hk=>?_).trans (by rw [a_,W_,o_f]);have hl:=l_Z rs k (by omega);have hv:=g_8<|hle.2.2 _<|gE_ hk
 grind [b_E,a_,x_f,o_e]
end Go.Vw
