
import Derived.Test.YthlifogbkgdggaaGreatDoorVwP5
namespace Go.Vw
open Go.RowKit Dat
theorem m_R {ts:List Int}{n:Int}{k:Nat}(h:a_w ts n=some k):k<ts.length/\ts.getD k 0=n/\∀j,j<k->ts.getD j 0 ≠ n:=by
 have hlt:=g_S h;unfold a_w at h
 obtain ⟨hp,as,bs,hl,has⟩:=List.find?_eq_some_iff_append.1 h;refine ⟨hlt,by simpa using hp,fun j hj=>?_⟩;have hlen:as.length<ts.length:=by have:=congrArg List.length hl;simp at this;omega
 have hke:as.length=k:=by
  have h2:(List.range ts.length)[as.length]? = some k:=by rw [hl];simp
  rw [List.getElem?_range hlen] at h2
  exact Option.some.inj h2
 have hj':j<as.length:=by omega
 have h2:(List.range ts.length)[j]? = some (as[j]):=by rw [hl,List.getElem?_append_left hj'];simp
 rw [List.getElem?_range (by omega)] at h2
 have h3:=has as[j] (gE_ hj')
 rw [← Option.some.inj h2] at h3
 simpa using h3
theorem m_S {ts:List Int}{n:Int}(h:a_w ts n=none):∀j,j<ts.length->ts.getD j 0 ≠ n:=fun j hj=>by
 have:=List.find?_eq_none.1 h j<|List.mem_range.2 hj
 simpa using this
theorem k_8 {l:List Int}(h:l.length=1):l=[l.getD 0 0]:=by
 cases l with
 | nil=>cases h
 | cons a t =>
  cases t with
  | nil=>rfl
  | cons _ _=>simp at h
theorem m_T {l:List Int}{k:Nat}(h:k+1<l.length)(hl:l.length<=MX):slc l ((k+1:Nat):Int) (h_ (k:Int) 2)=some [l.getD (k+1) 0]:=by
 have:=MXv
 rw [ia_ (x:=(k:Int)) (by omega) (by omega),h_3 (by omega) (by omega) (by omega),show ((k:Int)+2).toNat=(k+1)+1 by omega,show (((k+1:Nat):Int)).toNat=k+1 from rfl,List.take_add_one,gG_ h,Option.toList_some,List.drop_append_of_le_length (by simp;omega),List.drop_of_length_le (by simp;omega),a_m h]
 rfl
theorem m_U {α:Type}(m k:Nat)(z x:α)(h:k<m):(List.replicate k x++List.replicate (m - k) z).set k x=List.replicate (k+1) x++List.replicate (m - (k+1)) z:=by
 rw [List.set_append_right _ _ (by simp),List.length_replicate,Nat.sub_self,show m - k=(m - (k+1))+1 by omega,List.replicate_succ,List.set_cons_zero,List.replicate_succ',List.append_assoc]
 rfl
theorem m_V {ρ:Type}{ks:List Int}{x:Int}(hx:idx ks 1=some x)(m:Nat):y_ (σ:=List Int) (ρ:=ρ) (fun G=>(fun H=>bd (idx ks 1) fun I=>bd (upd H ((G:Nat):Int) I) fun J=>some<|.next J)) m 0 (List.replicate m 0)=some (.inl<|List.replicate m x):=by
 have h:=c_7 (n:=m) (σ:=List Int) (ρ:=ρ) (body:=(fun G=>(fun H=>bd (idx ks 1) fun I=>bd (upd H ((G:Nat):Int) I) fun J=>some (.next J)))) (fun k=>List.replicate k x++List.replicate (m - k) 0) (fun j hj=>by
  rw [hx,bd_some,i_r (by simp;omega),bd_some,m_U m j 0 x hj])
 simpa using h
section
variable {d:d_}{b:List UInt8}
end
end Go.Vw
