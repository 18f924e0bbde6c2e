
import Derived.Test.YtllmonllbkaflaaGreatDoorVl
namespace Go.Vw
open Go.RowKit Dat
def hexd:Bt:=[48,49,50,51,52,53,54,55,56,57,97,98,99,100,101,102]
def hexC (c:UInt8):Bt:=[hexd.getD (c.toNat / 16) 0,hexd.getD (c.toNat % 16) 0]
def d_e (l:Bt):Bt:=(l.map hexC).flatten
theorem d_v (l:Bt):(d_e l).length=2 * l.length:=by
 unfold d_e
 induction l with
 | nil=>rfl
 | cons c l ih=>rw [List.map_cons,List.flatten_cons,List.length_append,ih];simp [hexC];omega
theorem p_b {l:Bt}{k:Nat}(h:k<l.length):d_e (l.take<|k+1)=d_e (l.take k)++hexC l[k]:=by
 unfold d_e
 rw [List.take_add_one,gG_ h,Option.toList_some,List.map_append,List.flatten_append]
 simp
theorem p_c {a:Nat}(h:a<16):b_z (⟨[48,49,50,51,52,53,54,55,56,57,97,98,99,100,101,102]⟩:Str) (a:Int) ((a:Int)+1)=some ⟨[hexd.getD a 0]⟩:=by
 have:a=0∨a=1∨a=2∨a=3∨a=4∨a=5∨a=6∨a=7∨a=8∨a=9∨a=10∨a=11∨a=12∨a=13∨a=14∨a=15:=by omega
 rcases this with rfl | rfl | rfl | rfl | rfl | rfl | rfl | rfl | rfl | rfl | rfl | rfl | rfl | rfl | rfl | rfl <;> rfl
theorem p_d {a:Nat}(h:a<16):idx ([48,49,50,51,52,53,54,55,56,57,97,98,99,100,101,102]:Bt) (a:Int)=some (hexd.getD a 0):=by
 have:a=0∨a=1∨a=2∨a=3∨a=4∨a=5∨a=6∨a=7∨a=8∨a=9∨a=10∨a=11∨a=12∨a=13∨a=14∨a=15:=by omega
 rcases this with rfl | rfl | rfl | rfl | rfl | rfl | rfl | rfl | rfl | rfl | rfl | rfl | rfl | rfl | rfl | rfl <;> rfl
theorem m_u {x:Bt}(hx:x.length<=1000):j_o x=some ⟨d_e x⟩:=by
 have hLIM:=a_m;unfold j_o;refine (congrArg (λz=>bd z _)<|i_h (λk=>(⟨d_e<|x.take k⟩:Str)) (n:=x.length) rfl<|λk hk=>?_).trans ?_
 .have hc:=x[k].toNat_lt;have h1:c_3 (byteI x[k]) 16=((x[k].toNat / 16:Nat):Int):=by rw [m_I (by unfold byteI;omega) (by unfold byteI;omega) (by omega)];unfold byteI;omega
  have h2:b_7 (byteI x[k]) 16=((x[k].toNat % 16:Nat):Int):=by unfold b_7 byteI;rw [Int.tmod_eq_emod_of_nonneg (by omega)];omega
  have hl:=d_v<|x.take k
  rw [List.length_take] at hl
  rw [ix_ hk,bd_some,bd_some,h1,h2,ia_ (by omega) (by omega),ia_ (by omega) (by omega),p_c (by omega),bd_some,a_6 (by simp only [lC_,List.length_nil];omega),bd_some,p_c (by omega),bd_some,a_6 (by simp only [List.length_append,lC_,List.length_nil];omega),bd_some,p_b hk]
  simp [hexC]
 .rw [bd_some,el_inl,List.take_length]
theorem m_v {x:Bt}(hx:x.length<=1000):j_t x=some ⟨d_e x⟩:=by
 have hLIM:=a_m;unfold j_t
 rw [d_x (by omega) (by omega),show (2:Int) * (x.length:Int)=((2 * x.length:Nat):Int) by omega,p_B (by omega),bd_some]
 refine (congrArg (λz=>bd z _)<|i_h (λk=>d_e<|x.take k) (n:=x.length) rfl<|λk hk=>?_).trans ?_
 .have hc:=x[k].toNat_lt
  have h1:byteI (shU x[k] 4)=((x[k].toNat / 16:Nat):Int):=by
   unfold shU byteI
   rw [UInt8.toNat_ofNat',Nat.mod_eq_of_lt (by omega)]
  have h2:byteI (x[k] &&& (15:UInt8))=((x[k].toNat % 16:Nat):Int):=by
   unfold byteI
   rw [UInt8.toNat_and]
   congr 1
   exact Nat.and_two_pow_sub_one_eq_mod x[k].toNat 4
  have hl:=d_v<|x.take k
  rw [List.length_take] at hl
  rw [ix_ hk,bd_some,h1,h2]
  simp only
  rw [p_d (by omega),bd_some,p_d (by omega),bd_some,c_H (by simp only [lC_,List.length_nil];omega),bd_some,p_b hk]
  rfl
 .rw [bd_some,el_inl,List.take_length]
theorem u_8 (l:List Bt)(x:Bt):Lib.join (l++[x]) [44]=if l=[] then x else Lib.join l [44]++[44]++x:=by
 cases l with
 | nil=>rw [List.nil_append,Lib.join_one,iP_ rfl]
 | cons a r =>
  rw [iN_ (by simp),List.cons_append,Lib.join_cons,Lib.join_cons]
  unfold Lib.joinTail
  simp
theorem u_9:∀(l:List Bt),(Lib.join l [44]).length<=(l.map<|λx=>x.length+1).sum
 | []=>by rw [Lib.join_nil];simp
 | x::r=>by
  rw [Lib.join_length]
  have:Lib.lens (x::r)+r.length+1=((x::r).map (λx=>x.length+1)).sum:=by
   unfold Lib.lens
   have key:∀l:List Bt,(l.map (·.length)).sum+l.length=(l.map<|λx=>x.length+1).sum:=by
    intro l
    induction l with
    | nil=>rfl
    | cons a l ih=>simp only [List.map_cons,List.sum_cons,lC_];omega
   have:=key (x::r)
   simp only [lC_] at this
   omega
  simp only [lC_,List.length_nil]
  omega
theorem u_a (m:Nat):∀(l:List Str)(xs:List Val),l.length=xs.length->(∀j (h:j<l.length) (h':j<xs.length),l[j].b.length<=40 * vsz m xs[j]+35)->(Lib.join (l.map (·.b)) [44]).length<=40 * lsz m xs:=by
 intro l xs hl h;refine Nat.le_trans (u_9 _) ?_
 induction l generalizing xs with
 | nil=>simp
 | cons a l ih =>
  cases xs with
  | nil=>simp at hl
  | cons v xs =>
   have G:=h 0 (by simp) (by simp);have h1:=ih xs (by simpa using hl) (λj hj hj'=>by have:=h (j+1) (by simpa using hj) (by simpa using hj');simpa using this)
   rw [g_8]
   simp only [List.map_cons,List.sum_cons,List.getElem_cons_zero] at G ⊢
   omega
theorem p_e {P:Nat->Str->Prop}:∀(n:Nat),(∀j,j<n->∃t,P j t)->∃ts:List Str,ts.length=n/\∀j (h:j<ts.length),P j ts[j]
 | 0,_=>⟨[],rfl,λj h=>by simp at h⟩
 | n+1,h=>by
  obtain ⟨ts,h1,h2⟩:=p_e n<|λj hj=>h j (by omega);obtain ⟨t,ht⟩:=h n (by omega);refine ⟨ts++[t],by simp [h1],λj hj=>?_⟩
  simp only [List.length_append,lC_,List.length_nil] at hj
  by_cases hlt:j<ts.length
  .rw [List.getElem_append_left hlt];exact h2 j hlt
  .have hje:j=ts.length:=by omega
   subst hje
   rw [List.getElem_concat_length rfl,h1];exact ht
end Go.Vw
