import Derived.WalkKit
import Derived.Below
import Derived.Orders
import Derived.Still
import Derived.Great.BuildSlice
import Derived.Deep.LoopGhost
import Derived.Laws.BytesString
import Derived.Lib.LaidTab
import Derived.Lib.ItoaLen
import Derived.Sort.Grow
import Derived.Lib.Join
import Derived.DeepKeys4
import Derived.Laws.StructEq
import Derived.RangeFuncFrom
import Derived.OrdersIn
import Derived.RangeFuncLeaves
import Derived.Laws.CopyRow
import Derived.Laws.IdiomStrings
import Derived.Lib.AppendStr
import Derived.Recover
import Derived.Tactics
import Derived.Tactics2
import Derived.Laws.Pointers
import Derived.Lib.Hide
set_option linter.unusedVariables false
namespace Go.Vw
set_option linter.defProp false
def QA_:=@List.mem_singleton
def QAA:=@Nat.le_of_ble_eq_true
def QAB:=@Nat.le_refl
def QAC:=@Nat.lt_of_lt_of_le
def QAD:=@List.length_nil
def QAE:=@Bool.true_and
def QAF:=@List.mem_cons_of_mem
def QAG:=@Nat.le_trans
def QAH:=@List.mem_append_right
def QAI:=@Nat.zero_le
def QAJ:=@Option.some.injEq
def QAK:=@List.eq_nil_of_length_eq_zero
def QAL:=@Nat.mul_le_mul_right
def QAM:=@List.mem_cons_self
def QAN:=@List.length_append
def QAO:=@Nat.le_of_lt
def QAP:=@List.drop_zero
def QAQ:=@Bool.and_self
def QAR:=@List.take_of_length_le
def QAS:=@Option.some.inj
def QAT:=@List.length_take
def QAU:=@List.getElem_mem
def QAV:=@List.mem_cons
def QAW:=@List.mem_append_left
def QAX:=@List.mem_range
def QAY:=@List.take_length
def QAZ:=@List.mem_flatten
def QAa:=@List.length_drop
def QAb:=@List.nodup_append
def QAc:=@List.getElem_of_mem
def QAd:=@if_pos
def QAe:=@List.length_replicate
def QAf:=@Bool.and_eq_true
def QAg:=@Bool.false_or
def QAh:=@List.append_assoc
def QAi:=@List.any_eq_false
def QAj:=@List.mem_append
def QAk:=@List.replicate_succ
def QAl:=@List.drop_of_length_le
def QAm:=@Nat.not_lt
def QAn:=@Option.isSome_none
def QAo:=@List.drop_drop
def QAp:=@Nat.zero_add
def QAq:=@List.nodup_cons
def QAr:=@List.nil_append
def QAs:=@List.length_map
def QAt:=@Bool.not_eq_true'
def QAu:=@Prod.mk.injEq
def QAv:=@beq_iff_eq
def QAw:=@List.getElem_cons_zero
def QAx:=@Int.le_refl
def QAy:=@List.take_add_one
def QAz:=@List.all_eq_true
def QA0:=@Bool.eq_iff_iff
def QA1:=@List.getElem_cons_succ
def QA2:=@Nat.succ_mul
def QA3:=@List.take_zero
def QA4:=@List.map_toArray
def QA5:=@List.length_cons
def QA6:=@Bool.not_eq_true
def QA7:=@if_neg
def QA8:=@List.nodup_iff_pairwise_ne
def QA9:=@beq_eq_false_iff_ne
def QB_:=@Option.map_none
def QBA:=@List.pairwise_iff_getElem
def QBB:=@Option.toList_some
def QBC:=@Nat.sub_self
def QBD:=@Nat.not_le
def QBE:=@Bool.not_false
def QBF:=@Option.map_eq_some_iff
def QBG:=@Nat.mul_one
def QBH:=@List.drop_eq_nil_of_le
def QBI:=@List.cons_append
def QBJ:=@List.set_append_right
def QBK:=@List.pairwise_flatten
def QBL:=@Nat.min_eq_left
def QBM:=@Nat.add_zero
def QBN:=@List.map_append
def QBO:=@Bool.true_or
abbrev Bt:=List UInt8
open Go.RowKit
abbrev Env:=List<|Nat×Value
def t_:Env->Nat->Option Value
 | [],_=>none
 | (k,v)::e,t=>bif Nat.beq k t then some v else t_ e t
def ev (e:Env):Operand->Option Value
 | .tmp t=>t_ e t
 | .const v=>some v
 | .global g=>some<|.pointer<|some ⟨g,0,none⟩
 | .func f=>some<|.func (.func f) #[] #[]
structure Sat (N:Nat)(e:Env)(a:Act):Prop where
 defers:a.defers=[]
 size:a.tmps.size=N
 at_:∀t v,t_ e t=some v->a.tmps[t]? = some v
theorem Sat.ev {N:Nat}{e:Env}{a:Act}(h:Sat N e a){x:Operand}{v:Value}(hx:ev e x=some v):a.eval x=v:=by
 cases x with
 | tmp t=>have:=h.at_ t v hx;simp_all [Act.eval,Array.getD_eq_getD_getElem?]
 | const u=>grind [Vw.ev,Act.eval]
 | global g=>grind [Vw.ev,Act.eval]
 | func f=>grind [Vw.ev,Act.eval]
theorem Sat.put {N:Nat}{e:Env}{a:Act}(h:Sat N e a){d:Nat}(hd:Nat.blt d N=true)(v:Value):Sat N ((d,v)::e) (a.put (some d) v):=by
 have hd':d<N:=by simp_all
 refine ⟨h.defers,by simp [Act.put,h.size],λt u hu=>?_⟩
 simp only [t_] at hu
 by_cases hk:d=t
 .subst hk;have hb:Nat.beq d d=true:=by simp
  rw [hb] at hu
  simp only [cond_true,QAJ] at hu
  subst hu
  simp [Act.put,h.size,hd']
 .have hb:Nat.beq d t=false:=by rw [← QA6,Nat.beq_eq];omega
  rw [hb] at hu
  simp only [cond_false] at hu
  simp only [Act.put,Array.getElem?_setIfInBounds_ne hk]
  exact h.at_ t u hu
theorem Sat.none {N:Nat}{e:Env}{a:Act}(h:Sat N e a)(v:Value):Sat N e (a.put none v):=h
def sub (e:Env):Env->Prop
 | []=>True
 | (k,v)::e'=>t_ e k=some v/\sub e e'
theorem p_y {e:Env}:∀{e':Env},sub e e'->∀t v,t_ e' t=some v->t_ e t=some v
 | [],_,_,_,h=>by grind [t_]
 | (k,u)::e',hs,t,v,h=>by
  simp only [t_] at h
  by_cases hk:k=t
  .subst hk;have hb:Nat.beq k k=true:=by simp
   rw [hb] at h
   simp only [cond_true,QAJ] at h
   subst h;exact hs.1
  .have hb:Nat.beq k t=false:=by rw [← QA6,Nat.beq_eq];omega
   rw [hb] at h
   exact p_y hs.2 t v h
theorem Sat.weaken {N:Nat}{e e':Env}{a:Act}(h:Sat N e a)(hs:sub e e'):Sat N e' a :=
 ⟨h.defers,h.size,λt v ht=>h.at_ t v<|p_y hs t v ht⟩
def WC (P:Program)(N:Nat)(c:Code)(K:Act->World->Prop)(Q:Exit->Act->World->Prop)(e:Env)(w:World):Prop :=
 ∀a,Sat N e a->c.wp P (Exit.then K Q) a w
def KC (P:Program)(y:Code)(K:Act->World->Prop)(Q:Exit->Act->World->Prop):Act->World->Prop :=
 λa w=>y.wp P (Exit.then K Q) a w
def inB (id:Nat)(K:Act->World->Prop)(Q:Exit->Act->World->Prop):Exit->Act->World->Prop
 | .exit i,a,w=>if i=id then K a w else Q (.exit i) a w
 | x,a,w=>Q x a w
def AtK (N:Nat)(K:Act->World->Prop)(e:Env)(w:World):Prop:=∀a,Sat N e a->K a w
section
variable {P:Program}{N:Nat}{K:Act->World->Prop}{Q:Exit->Act->World->Prop}{e:Env}{w:World}
theorem WC.of_KC {y:Code}(h:WC P N y K Q e w):AtK N (KC P y K Q) e w:=h
theorem a_a {x y:Code}(h:WC P N x (KC P y K Q) Q e w):WC P N (.seq x y) K Q e w:=λa ha =>
 wp_seq (Code.wp_mono (λex a w q=>by cases ex <;> exact q)<|h a ha)
theorem Z_ (h:AtK N K e w):WC P N .skip K Q e w:=λa ha=>wp_skip<|h a ha
theorem c_F (h:∀a,Sat N e a->Q .ret a w):WC P N .ret K Q e w:=λa ha=>wp_ret<|h a ha
theorem e_X {id:Nat}(h:∀a,Sat N e a->Q (.exit id) a w):WC P N (.exit id) K Q e w:=λa ha=>wp_exit<|h a ha
theorem c_S {id:Nat}{c:Code}(h:WC P N c K (inB id K Q) e w):WC P N (.block id c) K Q e w:=λa ha =>
 wp_block (Code.wp_mono (λex a w q=>by
  cases ex with
  | exit i=>grind [Exit.then,inB,Exit.inBlock]
  | _=>exact q) (h a ha))
theorem c_b {c:Operand}{x y:Code}{b:Bool}(hc:ev e c=some (.bool b))(ht:b=true->WC P N x K Q e w)(hf:b=false->WC P N y K Q e w) :
  WC P N (.cond c x y) K Q e w:=λa ha =>
 wp_cond_split (ha.ev hc) (λh=>ht h a ha) (λh=>hf h a ha)
theorem t_X {c:Code}{K':Act->World->Prop}{Q':Exit->Act->World->Prop}(hk:∀a w,K' a w->K a w)(hq:∀ex a w,Q' ex a w->Q ex a w)
  (h:WC P N c K' Q' e w):WC P N c K Q e w:=λa ha =>
 Code.wp_mono (λex a w q=>by cases ex <;> first | exact hk _ _ q | exact hq _ _ _ q) (h a ha)
end
def WL (P:Program)(N:Nat)(ops:Array Oper)(K:Act->World->Prop)(Q:Exit->Act->World->Prop)(l:List Oper)(e:Env)(w:World):Prop :=
 ∀a,Sat N e a->wpList P ops (Exit.then K Q) l a w
structure Chg (X:Nat->Prop)(w w':World):Prop where
 os:w'.os=w.os
 tape:w'.tape=w.tape
 output:w'.output=w.output
 size:w.heap.size<=w'.heap.size
 block:∀k,k<w.heap.size->¬X k->w'.heap[k]? = w.heap[k]?
abbrev Cg (l:List Nat):=Chg (· ∈ l)
theorem Below.chg {w w':World}(h:Below w.heap.size w w')(X:Nat->Prop):Chg X w w':=⟨h.os,h.tape,h.output,h.size,λk hk _=>h.block k hk⟩
theorem Chg.below {X:Nat->Prop}{w w':World}(h:Chg X w w'){B:Nat}(hB:B<=w.heap.size)(hX:∀k,k<B->¬X k):Below B w w':=⟨h.os,h.tape,h.output,h.size,λk hk=>h.block k (by omega)<|hX k hk⟩
theorem Chg.refl (X:Nat->Prop)(w:World):Chg X w w:=⟨rfl,rfl,rfl,QAB _,λ_ _ _=>rfl⟩
theorem Chg.trans {X:Nat->Prop}{a b c:World}(h:Chg X a b)(k:Chg X b c):Chg X a c :=
 ⟨k.os.trans h.os,k.tape.trans h.tape,k.output.trans h.output,QAG h.size k.size,λi hi hx=>(k.block i (QAC hi h.size) hx).trans (h.block i hi hx)⟩
theorem Chg.mono {X Y:Nat->Prop}{w w':World}(h:Chg X w w')(hxy:∀k,k<w.heap.size->X k->Y k):Chg Y w w':=⟨h.os,h.tape,h.output,h.size,λk hk hy=>h.block k hk<|λhx=>hy<|hxy k hk hx⟩
def noX:Nat->Prop:=λ_=>False
theorem Below.noX {w w':World}(h:Below w.heap.size w w'):Chg noX w w':=Vw.Below.chg h _
def Rd (X:Nat->Prop)(P:Program)(N:Nat)(o:Oper)(e:Env)(w:World)(v:Value):Prop :=
 ∀a,Sat N e a->∀w',Chg X w w'->(execOp a.eval o).run P w' = .ok (.value v) w'
structure Ef (P:Program)(N:Nat)(o:Oper)(e:Env)(w:World)(K:Value->World->Prop):Prop where
 run:∀a,Sat N e a->∀(Q:Exit->Act->World->Prop),o.wp P a w (λa' w'=>∃v,a'=a.put o.dst v/\K v w') Q
def out (o:Oper)(v:Value)(e:Env):Env :=
 match o.dst with
 | some d=>(d,v)::e
 | none=>e
def c_1 (N:Nat)(o:Oper):Bool :=
 match o.dst with
 | some d=>Nat.blt d N
 | none=>true
section
variable {P:Program}{N:Nat}{ops:Array Oper}{K:Act->World->Prop}{Q:Exit->Act->World->Prop}{e:Env}{w:World}{o:Oper}{rest:List Oper}
theorem Sat.out {a:Act}(h:Sat N e a)(hf:c_1 N o=true)(v:Value):Sat N (out o v e) (a.put o.dst v):=by
 unfold Vw.out c_1 at *
 cases hd:o.dst with
 | none=>exact h
 | some d=>rw [hd] at hf;exact h.put hf v
theorem a_d (h:AtK N K e w):WL P N ops K Q [] e w:=λa ha=>h a ha
theorem WL_rd {v:Value}(hg:o.guard=none)(hf:c_1 N o=true)(h:Rd noX P N o e w v)(k:WL P N ops K Q rest (out o v e) w):WL P N ops K Q (o::rest) e w:=λa ha =>
 wpList_plain hg λK' hK=>by
  unfold Oper.wp
  rw [h a ha w (Chg.refl _ _)]
  exact hK _ _<|k _<|ha.out hf v
theorem WL_ef {R:Value->World->Prop}(hg:o.guard=none)(hf:c_1 N o=true)(h:Ef P N o e w R)(k:∀v w',R v w'->WL P N ops K Q rest (out o v e) w'):WL P N ops K Q (o::rest) e w:=λa ha =>
 wpList_plain hg λK' hK=>Oper.wp_mono (λa' w' ⟨v,he,hr⟩=>by subst he;exact hK _ _<|k v w' hr _<|ha.out hf v)<|h.run a ha (Exit.then _ _)
theorem n_d {j:Nat}{want b:Bool}{d:Nat}(hg:o.guard=some (j,want))(hj:(ops[j]?).bind (·.dst)=some d)(hb:t_ e d=some (.bool b))
  (hf:c_1 N o=true) (hy:b=want->∀a,Sat N e a->o.wp P a w (wpList P ops (Exit.then K Q) rest) (Exit.then K Q)) (hn:b ≠ want->WL P N ops K Q rest (out o undef e) w):WL P N ops K Q (o::rest) e w:=λa ha=>by
 have hy':yielded ops a.tmps j=some b:=by
  have:=ha.at_ d _ hb
  grind [yielded]
 unfold wpList
 by_cases hbw:b=want
 .grind [Region.wanted]
 .rw [QA7 (by grind [Region.wanted])]
  exact hn hbw _<|ha.out hf undef
theorem t_Y {j:Nat}{want:Bool}{d:Nat}{v:Value}(hg:o.guard=some (j,want))(hj:(ops[j]?).bind (·.dst)=some d)(hb:t_ e d=some (.bool want))
  (hf:c_1 N o=true) (h:Rd noX P N o e w v) (k:WL P N ops K Q rest (out o v e) w):WL P N ops K Q (o::rest) e w :=
 n_d hg hj hb hf (λ_ a ha=>by
  unfold Oper.wp
  rw [h a ha w (Chg.refl _ _)]
  exact k _ (ha.out hf v)) (λh=>absurd rfl h)
theorem t_Z {j:Nat}{want:Bool}{d:Nat}{R:Value->World->Prop}(hg:o.guard=some (j,want))(hj:(ops[j]?).bind (·.dst)=some d)(hb:t_ e d=some (.bool want))
  (hf:c_1 N o=true) (h:Ef P N o e w R) (k:∀v w',R v w'->WL P N ops K Q rest (out o v e) w'):WL P N ops K Q (o::rest) e w :=
 n_d hg hj hb hf (λ_ a ha=>Oper.wp_mono (λa' w' ⟨v,he,hr⟩=>by subst he;exact k v w' hr _<|ha.out hf v)<|h.run a ha (Exit.then _ _)) (λh=>absurd rfl h)
theorem u_0 {j:Nat}{want:Bool}{d:Nat}(hg:o.guard=some (j,want))(hj:(ops[j]?).bind (·.dst)=some d)(hb:t_ e d=some (.bool (!want)))
  (hf:c_1 N o=true) (k:WL P N ops K Q rest (out o undef e) w):WL P N ops K Q (o::rest) e w :=
 n_d hg hj hb hf (λh=>by grind) (λ_=>k)
theorem u_1 {j:Nat}{want:Bool}{d:Nat}(hg:o.guard=some (j,want))(hj:(ops[j]?).bind (·.dst)=some d)(hb:t_ e d=some undef)
  (hf:c_1 N o=true) (k:WL P N ops K Q rest (out o undef e) w):WL P N ops K Q (o::rest) e w:=λa ha=>by
 have hy':yielded ops a.tmps j=none:=by
  have:=ha.at_ d _ hb
  grind [yielded,undef]
 unfold wpList
 rw [QA7 (by grind [Region.wanted])]
 exact k _<|ha.out hf undef
theorem a_B {id:Nat}{l:List Oper}(h:WL P N l.toArray K Q l e w):WC P N (.region id l.toArray false) K Q e w:=λa ha =>
 wp_region_lit (h a ha)
end
end Go.Vw
namespace Go.Vw
open Go.RowKit
variable {X:Nat->Prop}
def F3:Exit->Act->World->Prop:=λ_ _ _=>False
theorem u_2 {P:Program}{o:Oper}{a:Act}{w:World}{K:Act->World->Prop}{Q:Exit->Act->World->Prop}(h:o.wp P a w K F3):o.wp P a w K Q:=by
 unfold Oper.wp at *
 generalize (execOp a.eval o).run P w=r at *
 cases r with
 | ok n w' =>
  cases n <;> simp only [Oper.upon] at h ⊢ <;>
   first
    | exact h
    | exact Calls.mono h (λe w'' he=>by
      cases e with
      | returned v=>omega
      | panicked c=>exact (show False from he).elim
      | outgrown=>obtain ⟨_,_,hq⟩:=he;exact (show False from hq).elim)
 | halt x w'=>cases x <;> simp only [Oper.upon] at h ⊢ <;> exact (show False from h).elim
def opW (P:Program)(ops:Array Oper)(i:Nat)(K:Act->World->Prop)(a:Act)(w:World):Prop :=
 match ops[i]? with
 | none=>K a w
 | some o=>if Region.wanted o (yielded ops a.tmps) then o.wp P a w K F3 else K (a.put o.dst undef) w
section
variable {P:Program}{ops:Array Oper}{T:Nat}
theorem u_3 {Q:Exit->Act->World->Prop}{i:Nat}{K K':Act->World->Prop}{a:Act}{w:World}(hk:∀a w,K a w->K' a w)(h:opW P ops i K a w):wpOp P ops Q i K' a w:=by
 unfold opW at h
 unfold wpOp
 split
 .grind
 .rename_i o ho
  simp only [ho] at h
  split
  .rename_i hw;simp only [hw,if_true] at h;grind [u_2,Oper.wp_mono]
  grind
theorem f_D {i:Nat}{K K':Act->World->Prop}{a:Act}{w:World}(hk:∀a w,K a w->K' a w)(h:opW P ops i K a w):opW P ops i K' a w:=by
 unfold opW at *
 split
 .grind
 .rename_i o ho
  simp only [ho] at h
  split
  .rename_i hw;simp only [hw,if_true] at h;grind [Oper.wp_mono]
  grind
def YX (X:Nat->Prop)(P:Program)(ops:Array Oper)(o:Oper)(v:Value)(a:Act)(w:World):Prop :=
 (Region.wanted o (yielded ops a.tmps)=true/\∀w',Chg X w w'->(execOp a.eval o).run P w' = .ok (.value v) w') ∨
 (Region.wanted o (yielded ops a.tmps)=false/\v=undef)
theorem YX.of_same {o:Oper}{v:Value}{a a':Act}{w:World}(hy:YX X P ops o v a w)(he:execOp a'.eval o=execOp a.eval o)
  (hw:Region.wanted o (yielded ops a'.tmps)=Region.wanted o (yielded ops a.tmps)):YX X P ops o v a' w:=by
 grind [YX]
theorem YX.ext {o:Oper}{v:Value}{a:Act}{w w':World}(hy:YX X P ops o v a w)(hb:Chg X w w'):YX X P ops o v a w':=by
 rcases hy with ⟨h1,h2⟩ | h
 .exact .inl ⟨h1,λw'' hb'=>h2 w''<|hb.trans hb'⟩
 .exact .inr h
theorem YX.opW {i:Nat}{o:Oper}{v:Value}{a:Act}{w:World}{K:Act->World->Prop}(hi:ops[i]? = some o)(hy:YX X P ops o v a w)(h:K (a.put o.dst v) w):opW P ops i K a w:=by
 unfold Vw.opW
 simp only [hi]
 rcases hy with ⟨hw,hv⟩ | ⟨hw,rfl⟩
 .simp_all [Oper.wp,Oper.upon,Chg.refl]
 grind
theorem u_4 {j:Nat}{oi oj:Oper}{v:Value}(hj:ops[j]? = some oj)(hap:oi.apart ops oj=true)
  (hsi:∀cs b,oi.op ≠ .select cs b) (hsj:∀cs b,oj.op ≠ .select cs b) {K:Act->World->Prop} {a:Act} {w:World}
  (hy:YX X P ops oi v a w) (h:opW P ops j (λa' w'=>Chg X w w'/\K a' w') (a.put oi.dst v) w) :
  opW P ops j (λa' w'=>Chg X w w'/\YX X P ops oi v a' w'/\K (a'.put oi.dst v) w') a w:=by
 obtain ⟨h1,h2,h3⟩:=Oper.apart_spec hap
 have keep:∀(a:Act)(w':World),YX X P ops oi v a w->Chg X w w'->∀u,YX X P ops oi v (a.put oj.dst u) w':=λa w' hy hb u =>
  (hy.of_same (execOp_put oi hsi a oj.dst u h3)<|wanted_put oi a oj.dst u h3).ext hb
 have keepD:∀d,YX X P ops oi v { a with defers:=d::a.defers } w:=λd=>hy.of_same rfl rfl
 unfold opW at *
 simp only [hj] at *
 rw [wanted_put oj a oi.dst v h1] at h
 split
 .rename_i hw
  simp only [hw,if_true] at h
  unfold Oper.wp at *
  rw [execOp_put oj hsj a oi.dst v h1] at h
  generalize (execOp a.eval oj).run P w=r at *
  cases r with
  | ok n w' =>
   cases n <;> simp only [Oper.upon] at h ⊢
   case value u=>grind [Act.put_comm]
   case skip=>grind [undef,Act.put_comm]
   case defer d =>
    grind [undef,Act.put_comm,Act.put_defers]
   case enter f args =>
    refine Calls.mono h λe w'' he=>?_
    cases e with
    | returned u=>grind [Act.put_comm]
    | panicked c=>exact he
    | outgrown=>omega
   grind [Rows.mono,Act.put_comm]
  | halt x w'=>cases x <;> simp only [Oper.upon] at h ⊢ <;> exact h
 grind [undef,Act.put_comm]
def wpX (X:Nat->Prop)(P:Program)(ops:Array Oper)(T:Nat)(K:Act->World->Prop):Nat->Array Bool->Act->World->Prop
 | 0,L,a,w=>Region.ready .any ops L=[]/\K a w
 | n+1,L,a,w =>
  (Region.ready .any ops L=[]->K a w) /\
  ∀i∈Region.ready .any ops L,opW P ops i (λa' w'=>(T.testBit i=false->Chg X w w')/\wpX X P ops T K n (L.setIfInBounds i true) a' w') a w
theorem p_z {K:Act->World->Prop}{Q:Exit->Act->World->Prop}(hk:∀a w,K a w->Q .normal a w):∀(n:Nat)(L:Array Bool)(a:Act)(w:World),wpX X P ops T K n L a w->wpAny P .any ops Q n L a w
 | 0,_,_,_,h=>⟨h.1,hk _ _ h.2⟩
 | n+1,_,_,_,h=>⟨λG=>hk _ _<|h.1 G,λi hi=>u_3 (λa' w' hx=>p_z hk n _ a' w' hx.2)<|h.2 i hi⟩
def l_l (acc:List Nat)(o:Oper):Nat :=
 o.after.toList.foldl (λs e=>if Region.binds .any e then s ||| (2 ^ e.on ||| acc.getD e.on 0) else s) 0
def c_T:List Nat->List Oper->List Nat
 | acc,[]=>acc
 | acc,o::l=>c_T (acc++[l_l acc o]) l
theorem p_A (acc:List Nat)(i:Nat):∀(l:List Edge)(s:Nat),
  (l.foldl (λs e=>if Region.binds .any e then s ||| (2 ^ e.on ||| acc.getD e.on 0) else s) s).testBit i=true ->
  s.testBit i=true∨∃e∈l,Region.binds .any e=true/\(e.on=i∨(acc.getD e.on 0).testBit i=true)
 | [],_,h=>.inl h
 | e::l,s,h=>by
  simp only [List.foldl_cons] at h
  rcases p_A acc i l _ h with h1 | ⟨e',he',h1⟩
  .grind
  grind
theorem n_e (l r:List Nat)(k:Nat)(h:k<l.length):(l++r).getD k 0=l.getD k 0:=by
 grind
theorem p_B:∀(l:List Oper)(acc:List Nat)(pre:List Oper),acc.length=pre.length ->
  (∀j o i,pre[j]? = some o->(acc.getD j 0).testBit i=true->∃e∈o.after.toList,Region.binds .any e=true/\(e.on=i∨(e.on<j/\(acc.getD e.on 0).testBit i=true))) ->
  ∀j o i,(pre++l)[j]? = some o->((c_T acc l).getD j 0).testBit i=true->∃e∈o.after.toList,Region.binds .any e=true/\(e.on=i∨(e.on<j/\((c_T acc l).getD e.on 0).testBit i=true))
 | [],acc,pre,_,h=>by grind [c_T]
 | o::l,acc,pre,hl,h=>by
  have:=p_B l (acc++[l_l acc o]) (pre++[o]) (by grind) (λj oj i hj hb=>by
   by_cases hlt:j<pre.length
   .grind [id,n_e,n_e,List.getElem?_append_left]
   .have hje:j=pre.length:=by
     grind
    subst hje
    simp only [List.getElem?_concat_length,QAJ] at hj
    subst hj
    have hm:(acc++[l_l acc o]).getD pre.length 0=l_l acc o:=by
     grind
    rw [hm] at hb
    rcases p_A acc i _ _ hb with G | ⟨e,he,hbi,h1⟩
    .simp at G
    .refine ⟨e,he,hbi,?_⟩
     rcases h1 with h1 | h1
     .exact .inl h1
     .have hlt':e.on<acc.length:=by
       rcases Nat.lt_or_ge e.on acc.length with h' | h'
       .exact h'
       .simp [List.getD,List.getElem?_eq_none h'] at h1
      exact .inr ⟨by omega,by rw [n_e _ _ _ hlt'];exact h1⟩)
  simpa [c_T] using this
def e_p (ops:Array Oper)(L:Array Bool):Prop:=∀j o,ops[j]? = some o->L.getD j false=true->∀e∈o.after,Region.binds .any e=true->L.getD e.on false=true
theorem e_p.set {L:Array Bool}(h:e_p ops L){i:Nat}(hi:i∈Region.ready .any ops L):e_p ops (L.setIfInBounds i true):=by
 obtain ⟨_,oi,hoi,hall⟩:=mem_ready.1 hi;intro j o hj hl e he hb
 by_cases hij:i=j
 .subst hij;obtain rfl:oi=o:=QAS<|hoi.symm.trans hj
  grind [getD_set_true]
 .rw [getD_set_ne false hij] at hl
  exact getD_set_true<|h j o hj hl e he hb
theorem p_C {L:Array Bool}(h:e_p ops L)(i:Nat):∀(n j:Nat)(o:Oper),j<n->ops[j]? = some o->(∀e∈o.after,Region.binds .any e=true->L.getD e.on false=true) ->
  ((c_T [] ops.toList).getD j 0).testBit i=true->L.getD i false=true
 | 0,_,_,hn,_,_,_=>absurd hn<|Nat.not_lt_zero _
 | n+1,j,o,hn,hj,hall,hb=>by
  obtain ⟨e,he,hbi,h1⟩:=p_B ops.toList [] [] rfl (λ_ _ _ h=>by simp) j o i (by grind) hb;have hL:=hall e (by grind) hbi
  rcases h1 with h1 | ⟨h2,h3⟩
  .grind
  .obtain ⟨oe,hoe⟩:∃oe,ops[e.on]? = some oe:=by
    grind
   exact p_C h i n e.on oe (by omega) hoe (h _ _ hoe hL) h3
theorem u_5 {L:Array Bool}(h:e_p ops L){i j:Nat}(hj:j∈Region.ready .any ops L)(hi:L.getD i true=false):((c_T [] ops.toList).getD j 0).testBit i=false:=by
 grind [c_T,p_C,Nat.lt_or_ge,Array.getElem?_eq_none,mem_ready]
theorem u_6 {K:Act->World->Prop}{i:Nat}{oi:Oper}{v:Value}(hi:ops[i]? = some oi)(hsel:∀(j:Nat)(o:Oper) cs b,ops[j]? = some o->o.op ≠ .select cs b) :
  ∀(n:Nat)(L:Array Bool)(a:Act)(w:World),e_p ops L ->
   (∀j oj,ops[j]? = some oj->j ≠ i->L.getD j true=false->((c_T [] ops.toList).getD j 0).testBit i=false->oi.apart ops oj=true/\T.testBit j=false) ->
   i∈Region.ready .any ops L->YX X P ops oi v a w->wpX X P ops T K n (L.setIfInBounds i true) (a.put oi.dst v) w->wpX X P ops T K (n+1) L a w:=by
 intro n
 induction n with
 | zero =>
  intro L a w _ _ hr hy H;refine ⟨λh=>(by grind),λj hj=>?_⟩
  by_cases hji:j=i
  .subst hji;exact hy.opW hi ⟨λ_=>Chg.refl _ _,H⟩
  .have:=ready_mono hj hji
   rw [H.1] at this
   grind
 | succ n ih =>
  intro L a w hd hfree hr hy H;refine ⟨λh=>(by grind),λj hj=>?_⟩
  by_cases hji:j=i
  .subst hji;exact hy.opW hi ⟨λ_=>Chg.refl _ _,H⟩
  .have h1:=H.2 j<|ready_mono hj hji;obtain ⟨hjun,oj,hoj,_⟩:=mem_ready.1 hj;have hnw:=u_5 hd hj (mem_ready.1 hr).1;obtain ⟨hap,hT⟩:=hfree j oj hoj hji hjun hnw;have h1':=f_D (K':=λa' w'=>Chg X w w'/\wpX X P ops T K n ((L.setIfInBounds i true).setIfInBounds j true) a' w') (λa' w' hx=>⟨hx.1 hT,hx.2⟩) h1;have h2:=u_4 hoj hap (λcs b=>hsel i oi cs b hi) (λcs b=>hsel j oj cs b hoj) hy h1'
   have hfree':∀k ok,ops[k]? = some ok->k ≠ i->(L.setIfInBounds j true).getD k true=false->((c_T [] ops.toList).getD k 0).testBit i=false->oi.apart ops ok=true/\T.testBit k=false:=λk ok hk hki hun hno=>by
    refine hfree k ok hk hki ?_ hno
    by_cases hjk:j=k
    .subst hjk;exact hjun
    .rw [getD_set_ne true hjk] at hun;exact hun
   refine f_D (λa' w' h3=>⟨λ_=>h3.1,ih (L.setIfInBounds j true) a' w' (hd.set hj) hfree' (ready_mono hr<|Ne.symm hji) h3.2.1 ?_⟩) h2
   rw [Array.setIfInBounds_comm _ _ hji]
   exact h3.2.2
inductive a_C where
 | done
 | rd (i:Nat) (p:a_C)
 | ef (i:Nat) (p:a_C)
 | br (i:Nat) (p:a_C) (j:Nat) (q:a_C)
 | br3 (i:Nat) (p:a_C) (j:Nat) (q:a_C) (l:Nat) (r:a_C)
def a_C.len:a_C->Nat
 | done=>0
 | rd _ p=>p.len+1
 | ef _ p=>p.len+1
 | br _ p _ _=>p.len+1
 | br3 _ p _ _ _ _=>p.len+1
def n_f (ops:Array Oper)(anc:List Nat)(T:Nat)(L:Array Bool)(i:Nat):Bool :=
 match ops[i]? with
 | none=>false
 | some oi=>(List.range ops.size).all λj=>j==i || L.getD j true || (anc.getD j 0).testBit i || match ops[j]? with
   | some oj=>oi.apart ops oj && !T.testBit j
   | none=>true
def a_C.ok (ops:Array Oper)(anc:List Nat)(T:Nat):a_C->Array Bool->Bool
 | done,L=>(Region.ready .any ops L).isEmpty
 | rd i p,L=>(Region.ready .any ops L).contains i && n_f ops anc T L i && p.ok ops anc T (L.setIfInBounds i true)
 | ef i p,L=>(Region.ready .any ops L==[i]) && p.ok ops anc T (L.setIfInBounds i true)
 | br i p j q,L=>(Region.ready .any ops L==[i,j]) && p.len==q.len && p.ok ops anc T (L.setIfInBounds i true) && q.ok ops anc T (L.setIfInBounds j true)
 | br3 i p j q l r,L=>(Region.ready .any ops L==[i,j,l]) && p.len==q.len && p.len==r.len && p.ok ops anc T (L.setIfInBounds i true) && q.ok ops anc T (L.setIfInBounds j true) && r.ok ops anc T (L.setIfInBounds l true)
def a_C.run (X:Nat->Prop)(P:Program)(ops:Array Oper)(T:Nat)(K:Act->World->Prop):a_C->Act->World->Prop
 | done,a,w=>K a w
 | rd i p,a,w=>∃o v,ops[i]? = some o/\YX X P ops o v a w/\p.run X P ops T K (a.put o.dst v) w
 | ef i p,a,w=>opW P ops i (λa' w'=>(T.testBit i=false->Chg X w w')/\p.run X P ops T K a' w') a w
 | br i p j q,a,w=>opW P ops i (λa' w'=>(T.testBit i=false->Chg X w w')/\p.run X P ops T K a' w') a w /\
   opW P ops j (λa' w'=>(T.testBit j=false->Chg X w w')/\q.run X P ops T K a' w') a w
 | br3 i p j q l r,a,w=>opW P ops i (λa' w'=>(T.testBit i=false->Chg X w w')/\p.run X P ops T K a' w') a w /\
   opW P ops j (λa' w'=>(T.testBit j=false->Chg X w w')/\q.run X P ops T K a' w') a w /\
   opW P ops l (λa' w'=>(T.testBit l=false->Chg X w w')/\r.run X P ops T K a' w') a w
theorem u_7 {L:Array Bool}{i:Nat}{oi:Oper}(hi:ops[i]? = some oi)(h:n_f ops (c_T [] ops.toList) T L i=true):∀j oj,ops[j]? = some oj->j ≠ i->L.getD j true=false->((c_T [] ops.toList).getD j 0).testBit i=false->oi.apart ops oj=true/\T.testBit j=false:=by
 grind [n_f]
theorem f_E {K:Act->World->Prop}(hsel:Region.noSelect ops=true):∀(p:a_C)(L:Array Bool)(a:Act)(w:World),e_p ops L->p.ok ops (c_T [] ops.toList) T L=true->p.run X P ops T K a w->wpX X P ops T K p.len L a w
 | .done,L,a,w,_,hok,h=>⟨by grind [a_C.ok],h⟩
 | .rd i p,L,a,w,hd,hok,h=>by
  simp only [a_C.ok,QAf] at hok
  obtain ⟨⟨hr,hf⟩,hok'⟩:=hok;obtain ⟨o,v,ho,hy,h'⟩:=h;have hr':i∈Region.ready .any ops L:=by grind
  exact u_6 ho (Region.noSelect_spec hsel) p.len L a w hd (u_7 ho hf) hr' hy<|f_E hsel p _ _ _ (hd.set hr') hok' h'
 | .ef i p,L,a,w,hd,hok,h=>by
  simp only [a_C.ok,QAf,QAv] at hok
  obtain ⟨hr,hok'⟩:=hok;refine ⟨λG=>(by grind),λj hj=>?_⟩;have hj':=hj
  rw [hr] at hj
  obtain rfl:j=i:=by grind
  exact f_D (λa' w' hx=>⟨hx.1,f_E hsel p _ a' w' (hd.set hj') hok' hx.2⟩) h
 | .br i p k q,L,a,w,hd,hok,h=>by
  simp only [a_C.ok,QAf,QAv] at hok
  obtain ⟨⟨⟨hr,hlen⟩,hp⟩,hq⟩:=hok;refine ⟨λG=>(by grind),λj hj=>?_⟩;have hj':=hj
  rw [hr] at hj
  simp only [QAV,List.not_mem_nil,or_false] at hj
  rcases hj with rfl | rfl
  .exact f_D (λa' w' hx=>⟨hx.1,f_E hsel p _ a' w' (hd.set hj') hp hx.2⟩) h.1
  .exact f_D (λa' w' hx=>⟨hx.1,by have:=f_E hsel q _ a' w' (hd.set hj') hq hx.2;grind⟩) h.2
 | .br3 i p k q l r,L,a,w,hd,hok,h=>by
  simp only [a_C.ok,QAf,QAv] at hok
  obtain ⟨⟨⟨⟨⟨hr,hlen⟩,hlen2⟩,hp⟩,hq⟩,hs⟩:=hok;refine ⟨λG=>(by grind),λj hj=>?_⟩;have hj':=hj
  rw [hr] at hj
  simp only [QAV,List.not_mem_nil,or_false] at hj
  rcases hj with rfl | rfl | rfl
  .exact f_D (λa' w' hx=>⟨hx.1,f_E hsel p _ a' w' (hd.set hj') hp hx.2⟩) h.1
  .exact f_D (λa' w' hx=>⟨hx.1,by have:=f_E hsel q _ a' w' (hd.set hj') hq hx.2;grind⟩) h.2.1
  .exact f_D (λa' w' hx=>⟨hx.1,by have:=f_E hsel r _ a' w' (hd.set hj') hs hx.2;grind⟩) h.2.2
def a_C.okAll (ops:Array Oper)(T:Nat)(p:a_C):Bool :=
 Region.noSelect ops && p.len==ops.size && p.ok ops (c_T [] ops.toList) T (Array.replicate ops.size false)
theorem e_p.start (ops:Array Oper)(n:Nat):e_p ops (Array.replicate n false):=by
 intro j o _ hl
 rcases Nat.lt_or_ge j n with h | h
 .simp_all
 grind
structure PR (X:Nat->Prop)(P:Program)(N:Nat)(ops:Array Oper)(T:Nat)(K:Act->World->Prop)(p:a_C)(e:Env)(w:World):Prop where
 run:∀a,Sat N e a->p.run X P ops T K a w
end
section
variable {P:Program}{N:Nat}{ops:Array Oper}{T:Nat}{K:Act->World->Prop}{Q:Exit->Act->World->Prop}{e:Env}{w:World}{o:Oper}{p:a_C}
theorem g_M {id:Nat}{l:List Oper}(T:Nat)(p:a_C)(hm:P.follows .mixedOrders=true)(hok:p.okAll l.toArray T=true)(h:∀w',Below w.heap.size w w'->w'.heap=w.heap->PR X P N l.toArray T K p e w') :
  WC P N (.region id l.toArray true) K Q e w:=λa ha=>by
 simp only [a_C.okAll,QAf,QAv] at hok
 obtain ⟨⟨hsel,hlen⟩,hp⟩:=hok;have:=f_E (P:=P) hsel p _ a { w with drawn:=w.drawn+1 } (e_p.start _ _) hp<|(h { w with drawn:=w.drawn+1 } ⟨rfl,rfl,rfl,QAB _,λ_ _=>rfl⟩ rfl).run a ha
 grind [Exit.then,wp_region_any,p_z]
theorem g_N (h:AtK N K e w):PR X P N ops T K .done e w:=⟨λa ha=>h a ha⟩
theorem PR_rd {i:Nat}{v:Value}(ho:ops[i]? = some o)(hg:o.guard=none)(hf:c_1 N o=true)(h:Rd X P N o e w v)(k:PR X P N ops T K p (out o v e) w):PR X P N ops T K (.rd i p) e w:=⟨λa ha =>
 ⟨o,v,ho,.inl ⟨by grind [Region.wanted],h a ha⟩,k.run _ (ha.out hf v)⟩⟩
theorem u_8 {i j:Nat}{v:Value}{want:Bool}{d:Nat}(ho:ops[i]? = some o)(hg:o.guard=some (j,want))(hj:(ops[j]?).bind (·.dst)=some d)(hb:t_ e d=some (.bool want))(hf:c_1 N o=true)
  (h:Rd X P N o e w v) (k:PR X P N ops T K p (out o v e) w):PR X P N ops T K (.rd i p) e w:=by
 constructor
 intro a ha
 have hy':yielded ops a.tmps j=some want:=by
  have:=ha.at_ d _ hb
  grind [yielded]
 exact ⟨o,v,ho,.inl ⟨by grind [Region.wanted],h a ha⟩,k.run _<|ha.out hf v⟩
theorem u_9 {i j:Nat}{want:Bool}{d:Nat}(ho:ops[i]? = some o)(hg:o.guard=some (j,want))(hj:(ops[j]?).bind (·.dst)=some d)(hb:t_ e d=some (.bool (!want)))(hf:c_1 N o=true)
  (k:PR X P N ops T K p (out o undef e) w):PR X P N ops T K (.rd i p) e w:=by
 constructor
 intro a ha
 have hy':yielded ops a.tmps j=some (!want):=by
  have:=ha.at_ d _ hb
  grind [yielded]
 exact ⟨o,undef,ho,.inr ⟨(by grind [Region.wanted]),rfl⟩,k.run _<|ha.out hf undef⟩
theorem u_a {i j:Nat}{want:Bool}{d:Nat}(ho:ops[i]? = some o)(hg:o.guard=some (j,want))(hj:(ops[j]?).bind (·.dst)=some d)(hb:t_ e d=some undef)(hf:c_1 N o=true)
  (k:PR X P N ops T K p (out o undef e) w):PR X P N ops T K (.rd i p) e w:=by
 constructor
 intro a ha
 have hy':yielded ops a.tmps j=none:=by
  have:=ha.at_ d _ hb
  grind [yielded,undef]
 exact ⟨o,undef,ho,.inr ⟨by grind [Region.wanted],rfl⟩,k.run _<|ha.out hf undef⟩
theorem p_D {i:Nat}{R:Value->World->Prop}(ho:ops[i]? = some o)(hw:∀a,Sat N e a->Region.wanted o (yielded ops a.tmps)=true)(hf:c_1 N o=true)(h:Ef P N o e w R)
  (hT:T.testBit i=true∨∀v w',R v w'->Chg X w w') {a:Act} (ha:Sat N e a) (k:∀v w',R v w'->PR X P N ops T K p (out o v e) w') :
  opW P ops i (λa' w'=>(T.testBit i=false->Chg X w w')/\p.run X P ops T K a' w') a w:=by
 unfold opW
 simp only [ho,hw a ha,if_true]
 refine Oper.wp_mono (λa' w' ⟨v,he,hr⟩=>?_)<|h.run a ha F3;subst he;exact ⟨λht=>(hT.resolve_left (by grind)) v w' hr,(k v w' hr).run _ (ha.out hf v)⟩
theorem PR_ef {i:Nat}{R:Value->World->Prop}(ho:ops[i]? = some o)(hg:o.guard=none)(hf:c_1 N o=true)(h:Ef P N o e w R)
  (hT:T.testBit i=true∨∀v w',R v w'->Chg X w w') (k:∀v w',R v w'->PR X P N ops T K p (out o v e) w'):PR X P N ops T K (.ef i p) e w:=⟨λa ha =>
 p_D ho (λ_ _=>by grind [Region.wanted]) hf h hT ha k⟩
theorem u_b {i j:Nat}{want:Bool}{d:Nat}{R:Value->World->Prop}(ho:ops[i]? = some o)(hg:o.guard=some (j,want))(hj:(ops[j]?).bind (·.dst)=some d)(hb:t_ e d=some (.bool want))(hf:c_1 N o=true)(h:Ef P N o e w R)
  (hT:T.testBit i=true∨∀v w',R v w'->Chg X w w') (k:∀v w',R v w'->PR X P N ops T K p (out o v e) w'):PR X P N ops T K (.ef i p) e w:=⟨λa ha =>
 p_D ho (λa ha=>by
  have hy':yielded ops a.tmps j=some want:=by
   have:=ha.at_ d _ hb
   grind [yielded]
  grind [Region.wanted]) hf h hT ha k⟩
theorem p_E {i:Nat}(ho:ops[i]? = some o)(hw:∀a,Sat N e a->Region.wanted o (yielded ops a.tmps)=false)(hf:c_1 N o=true)(k:PR X P N ops T K p (out o undef e) w):PR X P N ops T K (.ef i p) e w:=by
 constructor
 intro a ha;unfold a_C.run opW
 simp only [ho,hw a ha]
 exact ⟨λ_=>Chg.refl _ _,k.run _<|ha.out hf undef⟩
theorem u_c {i j:Nat}{want:Bool}{d:Nat}(ho:ops[i]? = some o)(hg:o.guard=some (j,want))(hj:(ops[j]?).bind (·.dst)=some d)(hb:t_ e d=some (.bool (!want)))(hf:c_1 N o=true)
  (k:PR X P N ops T K p (out o undef e) w):PR X P N ops T K (.ef i p) e w :=
 p_E ho (λa ha=>by
  have hy':yielded ops a.tmps j=some (!want):=by
   have:=ha.at_ d _ hb
   grind [yielded]
  grind [Region.wanted]) hf k
theorem u_d {i j:Nat}{want:Bool}{d:Nat}(ho:ops[i]? = some o)(hg:o.guard=some (j,want))(hj:(ops[j]?).bind (·.dst)=some d)(hb:t_ e d=some undef)(hf:c_1 N o=true)
  (k:PR X P N ops T K p (out o undef e) w):PR X P N ops T K (.ef i p) e w :=
 p_E ho (λa ha=>by
  have hy':yielded ops a.tmps j=none:=by
   have:=ha.at_ d _ hb
   grind [yielded,undef]
  grind [Region.wanted]) hf k
theorem f_F {i j:Nat}{q:a_C}(h1:PR X P N ops T K (.ef i p) e w)(h2:PR X P N ops T K (.ef j q) e w):PR X P N ops T K (.br i p j q) e w:=⟨λa ha=>⟨h1.run a ha,h2.run a ha⟩⟩
end
end Go.Vw
namespace Go.Vw
open Go.RowKit
def LEN:Nat:=140737488355328
theorem u_:LEN<=9223372036854775807:=by decide
def LIM:Nat:=4294967296
def Blk (w:World)(g:Nat)(l:List Value):Prop:=∃T fr,w.heap[g]? = some (.cells l.toArray T fr)/\(fr.2<=fr.1∨l.length<=fr.1)
theorem Blk.lt {w:World}{g:Nat}{l:List Value}(h:Blk w g l):g<w.heap.size:=by
 obtain ⟨T,fr,h,_⟩:=h
 grind
theorem Blk.of_eq {w w':World}{g:Nat}{l:List Value}(h:Blk w g l)(he:w'.heap[g]? = w.heap[g]?):Blk w' g l:=by
 grind [Blk]
theorem Blk.chg {X:Nat->Prop}{w w':World}{g:Nat}{l:List Value}(h:Blk w g l)(hc:Chg X w w')(hx:¬X g):Blk w' g l:=h.of_eq<|hc.block g h.lt hx
theorem Blk.ext {w w':World}{g:Nat}{l:List Value}(h:Blk w g l)(hb:Below w.heap.size w w'):Blk w' g l:=h.of_eq<|hb.block g h.lt
theorem Blk.cell {w:World}{g:Nat}{l:List Value}(h:Blk w g l)(i:Nat):w.cell? ⟨g,i,none⟩=l[i]? := by
 obtain ⟨T,fr,h,_⟩:=h
 grind [World.cell?]
theorem Blk.free {w:World}{g:Nat}{l:List Value}(h:Blk w g l){i:Nat}(hi:i<l.length):w.frozen? ⟨g,i,none⟩=false:=by
 obtain ⟨T,fr,h,hf⟩:=h
 grind [World.frozen?]
theorem Blk.set {w:World}{g:Nat}{l:List Value}(h:Blk w g l)(i:Nat)(v:Value):Blk (w.setCell ⟨g,i,none⟩ v) g (l.set i v):=by
 obtain ⟨T,fr,h,hf⟩:=h;refine ⟨T,fr,?_,by grind⟩
 grind [World.setCell]
theorem q_3 (w:World)(a:Addr)(v:Value):Chg (· = a.block) w (w.setCell a v) :=
 ⟨rfl,rfl,rfl,by simp,λk _ hx=>Below.heap_setCell w a v k hx⟩
theorem b_s (w:World)(o:Obj):Below w.heap.size w (w.alloc o):=(Below.refl _ _).alloc (QAB _) o
theorem v_a (w:World)(l:List Value)(T:TypeId):Blk (w.alloc<|.cells l.toArray T) w.heap.size l :=
 ⟨T,(0,0),heap_alloc_new w _,.inl<|QAB _⟩
theorem alloc_blk' (w:World)(c:Array Value)(T:TypeId):Blk (w.alloc<|.cells c T) w.heap.size c.toList:=by
 have:=v_a w c.toList T
 omega
def r_ (w:World)(b o:Nat)(cs:List Value):Prop:=∀j v,cs[j]? = some v->w.cell? ⟨b,o+j,none⟩=some v
theorem r_.of_block {w w':World}{b o:Nat}{cs:List Value}(h:r_ w b o cs)(he:w'.heap[b]? = w.heap[b]?):r_ w' b o cs:=λj v hv=>by
 rw [World.cell?_of_block (w:=w) (a:=⟨b,o+j,none⟩) he];exact h j v hv
theorem r_.lt {w:World}{b o:Nat}{cs:List Value}(h:r_ w b o cs)(hn:cs ≠ []):b<w.heap.size:=by
 cases cs with
 | nil=>grind
 | cons v r=>exact World.block_lt_of_cell? w ⟨b,o+0,none⟩<|h 0 v rfl
theorem Blk.cells {w:World}{g:Nat}{l:List Value}(h:Blk w g l)(o n:Nat):r_ w g o ((l.drop o).take n):=λj v hv=>by
 rw [h.cell]
 grind
theorem j_i {P:Program}{g o:Nat}:∀(vs:List Value)(i:Nat)(w:World)(l:List Value),Blk w g l->o+i+vs.length<=l.length->(∀v∈vs,v.oneCell'=true) ->
  ∃w',(storeCells ⟨g,o,none⟩ vs i).run P w = .ok () w'/\Blk w' g (l.take (o+i)++vs++l.drop (o+i+vs.length))/\Chg (· = g) w w'
 | [],i,w,l,h,_,_=>⟨w,rfl,by simp_all,Chg.refl _ _⟩
 | v::vs,i,w,l,h,hl,h1=>by
  simp only [QA5] at hl
  have hc:w.cell? ⟨g,o+i,none⟩=some l[o+i]:=by rw [h.cell];simp
  have hf:=h.free (i:=o+i) (by omega);obtain ⟨w',hrun,hb,hch⟩:=j_i (P:=P) (o:=o) vs (i+1) (w.setCell ⟨g,o+i,none⟩ v) (l.set (o+i) v) (h.set _ _) (by simp;omega)<|λu hu=>h1 u<|QAF _ hu;refine ⟨w',?_,?_,(q_3 w ⟨g,o+i,none⟩ v).trans hch⟩
  .simp only [storeCells,Sem.run_bind,Addr.add_lit,run_store _ _ _ _ _<|h1 v QAM,hc,hf,Bool.false_eq_true,if_false,Result.andThen_ok]
   exact hrun
  .have hs:=list_seg_step l (o+i) v vs (by omega);have:o+(i+1)=o+i+1:=by omega
   rw [this] at hb
   simp only [QA5]
   rw [← hs]
   exact hb
def Zone:=Nat->Prop
def bl (n:Nat):Zone:=λk=>k<n
instance:Coe Nat Zone:=⟨bl⟩
instance:LE Zone:=⟨λA B=>∀k,A k->B k⟩
def zn (B:Zone)(i j:Nat):Zone:=λk=>B k∨(i<=k/\k<j)
theorem zr {B:Zone}:B<=B:=λ_ h=>h
theorem zt {A B C:Zone}(h:A<=B)(h':B<=C):A<=C:=λk hk=>h' k<|h k hk
theorem O_ {m n:Nat}(h:m<=n):bl m<=bl n:=λ_ hk=>QAC hk h
theorem zt' {B:Zone}{m n:Nat}(h:B<=bl m)(h':m<=n):B<=bl n:=zt h<|O_ h'
theorem f_a {B:Zone}{i j:Nat}:B<=zn B i j:=λ_ h=>.inl h
theorem b_O {B:Zone}{i j i' j':Nat}(h:i'<=i)(h':j<=j'):zn B i j<=zn B i' j':=λ_ hk=>hk.imp id λg=>⟨QAG h g.1,QAC g.2 h'⟩
theorem zn_zn {B:Zone}{i j k l:Nat}(h:i<=k)(h':j<=l):zn (zn B i j) k l<=zn B i l:=λ_ hk=>hk.elim (λq=>q.imp id λg=>⟨g.1,QAC g.2 h'⟩) λg=>.inr ⟨QAG h g.1,g.2⟩
theorem f_U {B:Zone}{i j n:Nat}(h:B<=bl n)(h':j<=n):zn B i j<=bl n:=λk hk=>hk.elim (h k) λg=>QAC g.2 h'
class Dat (α:Type) where
 sz:Nat
 rep:World->Zone->List Value->α->Prop
 own:World->List Nat->List Value->α->Prop
 rep_len:∀{w B cs x},rep w B cs x->cs.length=sz
 rep_one:∀{w B cs x},rep w B cs x->∀c∈cs,c.oneCell'=true
 rep_eq:∀{w w' B cs x},rep w B cs x->(∀k,B k->k<w.heap.size->w'.heap[k]? = w.heap[k]?)->rep w' B cs x
 rep_mono:∀{w B B' cs x},rep w B cs x->B<=B'->rep w B' cs x
 own_eq:∀{w w' S cs x},own w S cs x->(∀k∈S,w'.heap[k]? = w.heap[k]?)->own w' S cs x
 own_lt:∀{w S cs x},own w S cs x->∀k∈S,k<w.heap.size
 own_rep:∀{w S cs x B},own w S cs x->(∀k∈S,B k)->rep w B cs x
 pos:0<sz
open Dat
theorem v_b {α:Type}[Dat α]{w w':World}{B:Zone}{cs:List Value}{x:α}(h:rep w B cs x)(hb:Below w.heap.size w w'):rep w' B cs x:=rep_eq h λk _ hk=>hb.block k hk
theorem v_c {α:Type}[Dat α]{X:Nat->Prop}{w w':World}{B:Zone}{cs:List Value}{x:α}(h:rep w B cs x)(hc:Chg X w w')(hx:∀k,B k->¬X k):rep w' B cs x:=rep_eq h λk hk hk'=>hc.block k hk'<|hx k hk
theorem j_j {α:Type}[Dat α]{w w':World}{S:List Nat}{cs:List Value}{x:α}(h:own w S cs x)(hb:Below w.heap.size w w'):own w' S cs x:=own_eq h λk hk=>hb.block k<|own_lt h k hk
theorem f_V {α:Type}[Dat α]{X:Nat->Prop}{w w':World}{S:List Nat}{cs:List Value}{x:α}(h:own w S cs x)(hc:Chg X w w')(hx:∀k∈S,¬X k):own w' S cs x:=own_eq h λk hk=>hc.block k (own_lt h k hk)<|hx k hk
theorem own_rep' {α:Type}[Dat α]{w:World}{S:List Nat}{cs:List Value}{x:α}(h:own w S cs x):rep w w.heap.size cs x:=own_rep h<|own_lt h
@[reducible] def Dat.flat {α:Type} (f:α->Value->Prop) (h1:∀{x v},f x v->v.oneCell'=true):Dat α where
 sz:=1
 rep _ _ cs x:=∃v,cs=[v]/\f x v
 own _ S cs x:=S=[]/\∃v,cs=[v]/\f x v
 rep_len:=by rintro _ _ _ _ ⟨v,rfl,_⟩;rfl
 rep_one:=by rintro _ _ _ _ ⟨v,rfl,hv⟩ c hc;rw [QA_] at hc;subst hc;exact h1 hv
 rep_eq h _:=h
 rep_mono h _:=h
 own_eq h _:=h
 own_lt:=by rintro _ _ _ _ ⟨rfl,_⟩ k hk;cases hk
 own_rep:=by rintro _ _ _ _ _ ⟨rfl,h⟩ _;exact h
 pos:=Nat.one_pos
def inI (x:Int):Prop:=-9223372036854775808<=x/\x<=9223372036854775807
structure Str where
 b:Bt
deriving DecidableEq,Inhabited
@[reducible] def Str.v (s:Str):Value:=.string ⟨s.b.toArray⟩
@[reducible] def vI (x:Int):Value:=.int .i64 x
@[reducible] def vB (b:Bool):Value:=.bool b
@[reducible] def vU (x:Int):Value:=.int .u8 x
@[reducible] def b_ (x:UInt8):Int:=(x.toNat:Int)
instance:Dat Int:=Dat.flat (λx v=>v=vI x/\inI x) (λh=>by rw [h.1];rfl)
instance:Dat Bool:=Dat.flat (λx v=>v=vB x) (λh=>by rw [h];rfl)
instance:Dat UInt8:=Dat.flat (λx v=>v=vU (b_ x)) (λh=>by rw [h];rfl)
instance:Dat Str:=Dat.flat (λx v=>v=x.v/\x.b.length<=LEN) (λh=>by rw [h.1];rfl)
@[reducible] def Dat.via {α β:Type} [Dat β] (f:α->β):Dat α where
 sz:=sz β
 rep w B cs x:=rep w B cs<|f x
 own w S cs x:=own w S cs<|f x
 rep_len h:=rep_len (α:=β) h
 rep_one h:=rep_one (α:=β) h
 rep_eq h he:=rep_eq (α:=β) h he
 rep_mono h hb:=rep_mono (α:=β) h hb
 own_eq h he:=own_eq (α:=β) h he
 own_lt h:=own_lt (α:=β) h
 own_rep h hb:=own_rep (α:=β) h hb
 pos:=pos (α:=β)
instance {α β:Type}[Dat α][Dat β]:Dat (α×β) where
 sz:=sz α+sz β
 rep w B cs x:=∃c d,cs=c++d/\rep w B c x.1/\rep w B d x.2
 own w S cs x:=∃c d S1 S2,cs=c++d/\S=S1++S2/\own w S1 c x.1/\own w S2 d x.2
 rep_len:=by rintro _ _ _ _ ⟨c,d,rfl,h1,h2⟩;simp [rep_len h1,rep_len h2]
 rep_one:=by
  rintro _ _ _ _ ⟨c,d,rfl,h1,h2⟩ x hx
  rcases QAj.1 hx with h | h
  .exact rep_one h1 x h
  .exact rep_one h2 x h
 rep_eq:=by rintro _ _ _ _ _ ⟨c,d,rfl,h1,h2⟩ he;exact ⟨c,d,rfl,rep_eq h1 he,rep_eq h2 he⟩
 rep_mono:=by rintro _ _ _ _ _ ⟨c,d,rfl,h1,h2⟩ he;exact ⟨c,d,rfl,rep_mono h1 he,rep_mono h2 he⟩
 own_eq:=by
  rintro _ _ _ _ _ ⟨c,d,S1,S2,rfl,rfl,h1,h2⟩ he;exact ⟨c,d,S1,S2,rfl,rfl,own_eq h1<|λk hk=>he k<|QAW _ hk,own_eq h2<|λk hk=>he k<|QAH _ hk⟩
 own_lt:=by
  rintro _ _ _ _ ⟨c,d,S1,S2,rfl,rfl,h1,h2⟩ k hk
  rcases QAj.1 hk with h | h
  .exact own_lt h1 k h
  .exact own_lt h2 k h
 own_rep:=by
  rintro _ _ _ _ _ ⟨c,d,S1,S2,rfl,rfl,h1,h2⟩ hk;exact ⟨c,d,rfl,own_rep h1<|λk h=>hk k<|QAW _ h,own_rep h2<|λk h=>hk k<|QAH _ h⟩
 pos:=Nat.add_pos_left (pos (α:=α)) _
def repS {α:Type}[Dat α](w:World)(B:Zone)(v:Value)(l:List α):Prop :=
 ∃ao c,v = .slice ao l.length c/\l.length<=c/\l.length<=LEN/\(ao=none->l=[]) /\
  ∀p,ao=some p->(l ≠ []->p.spot=none)/\(l ≠ []->B p.block)/\∀(i:Nat)(x:α),l[i]? = some x->∃cs,r_ w p.block (p.off+i * sz α) cs/\rep w B cs x
def c_ {α:Type}[Dat α](w:World)(S:List Nat)(v:Value)(l:List α):Prop :=
 (v = .slice none 0 0/\l=[]/\S=[]) ∨
 ∃g c cur Ss,v = .slice (some ⟨g,0,none⟩) l.length c/\l.length<=c/\l.length<=LEN/\Blk w g cur/\cur.length=c * sz α/\S=g::List.flatten Ss/\Ss.length=l.length /\
  ∀(i:Nat)(x:α)(Si:List Nat),l[i]? = some x->Ss[i]? = some Si->own w Si ((cur.drop<|i * sz α).take (sz α)) x
theorem e_x {S:List Nat}{Ss:List (List Nat)}{i k:Nat}(h:Ss[i]? = some S)(hk:k∈S):k∈List.flatten Ss:=QAZ.2 ⟨S,List.mem_of_getElem? h,hk⟩
theorem j_k {α β:Type}{l:List α}{m:List β}(h:m.length=l.length){i:Nat}{x:α}(hx:l[i]? = some x):∃y,m[i]? = some y:=by
 have:=(List.getElem?_eq_some_iff.1 hx).1
 simp_all
theorem zip_some' {α β:Type}{l:List α}{m:List β}(h:m.length=l.length){i:Nat}{y:β}(hy:m[i]? = some y):∃x,l[i]? = some x:=by
 have:=(List.getElem?_eq_some_iff.1 hy).1
 simp_all
instance {α:Type}[Dat α]:Dat (List α) where
 sz:=1
 rep w B cs l:=∃v,cs=[v]/\repS w B v l
 own w S cs l:=∃v,cs=[v]/\c_ w S v l
 rep_len:=by rintro _ _ _ _ ⟨v,rfl,_⟩;rfl
 rep_one:=by
  rintro _ _ _ _ ⟨v,rfl,⟨ao,c,rfl,_⟩⟩ x hx
  rw [QA_] at hx;subst hx;rfl
 rep_eq:=by
  rintro w w' B _ l ⟨v,rfl,⟨ao,c,hv,h1,h2,h3,h4⟩⟩ he;refine ⟨v,rfl,ao,c,hv,h1,h2,h3,λp hp=>?_⟩;obtain ⟨k1,k2,k3⟩:=h4 p hp;refine ⟨k1,k2,λi x hx=>?_⟩;obtain ⟨cs,g1,g2⟩:=k3 i x hx;have hn:l ≠ []:=by rintro rfl;simp at hx
  refine ⟨cs,g1.of_block<|he _ (k2 hn)<|g1.lt ?_,rep_eq g2 he⟩;have:=rep_len g2;have:=pos (α:=α);rintro rfl;simp at *;omega
 rep_mono:=by
  rintro w B B' _ l ⟨v,rfl,⟨ao,c,hv,h1,h2,h3,h4⟩⟩ hB;refine ⟨v,rfl,ao,c,hv,h1,h2,h3,λp hp=>?_⟩;obtain ⟨k1,k2,k3⟩:=h4 p hp;refine ⟨k1,λhn=>hB _<|k2 hn,λi x hx=>?_⟩;obtain ⟨cs,g1,g2⟩:=k3 i x hx;exact ⟨cs,g1,rep_mono g2 hB⟩
 own_eq:=by
  rintro w w' S _ l ⟨v,rfl,h⟩ he;refine ⟨v,rfl,?_⟩
  rcases h with h | ⟨g,c,cur,Ss,hv,h1,h2,h3,h4,rfl,h6,h7⟩
  .exact .inl h
  .refine .inr ⟨g,c,cur,Ss,hv,h1,h2,h3.of_eq<|he g QAM,h4,rfl,h6,λi x Si hx hS=>own_eq (h7 i x Si hx hS) λk hk=>he k<|QAF _<|e_x hS hk⟩
 own_lt:=by
  rintro w S _ l ⟨v,rfl,h⟩ k hk
  rcases h with ⟨_,_,rfl⟩ | ⟨g,c,cur,Ss,hv,h1,h2,h3,h4,rfl,h6,h7⟩
  .cases hk
  .rcases QAV.1 hk with rfl | hk
   .exact h3.lt
   .obtain ⟨Si,hSi,hk⟩:=QAZ.1 hk;obtain ⟨i,hi⟩:=List.getElem?_of_mem hSi;obtain ⟨x,hx⟩:=zip_some' h6 hi;exact own_lt (h7 i x Si hx hi) k hk
 own_rep:=by
  rintro w S _ l B ⟨v,rfl,h⟩ hB;refine ⟨v,rfl,?_⟩
  rcases h with ⟨rfl,rfl,_⟩ | ⟨g,c,cur,Ss,rfl,h1,h2,h3,h4,rfl,h6,h7⟩
  .exact ⟨none,0,rfl,QAB _,QAI _,λ_=>rfl,λp hp=>by cases hp⟩
  .refine ⟨some ⟨g,0,none⟩,c,rfl,h1,h2,λh=>(by cases h),λp hp=>?_⟩;obtain rfl:=QAS hp;refine ⟨λ_=>rfl,λ_=>hB g QAM,λi x hx=>?_⟩;obtain ⟨Si,hSi⟩:=j_k h6 hx;refine ⟨(cur.drop<|i * sz α).take (sz α),?_,own_rep (h7 i x Si hx hSi) λk hk=>hB k<|QAF _<|e_x hSi hk⟩
   simpa using h3.cells (i * sz α) (sz α)
 pos:=Nat.one_pos
end Go.Vw
namespace Go.Vw
open Go.RowKit
def e_ (x y:Int):Int:=IntKind.i64.wrap<|x+y
def w_ (x y:Int):Int:=IntKind.i64.wrap<|x - y
def b_t (x y:Int):Int:=IntKind.i64.wrap<|x * y
def c_V (x y:Int):Int:=IntKind.i64.wrap<|x.tdiv y
def b_7 (x y:Int):Int:=x.tmod y
def i_1 (x:Int):Int:=IntKind.i64.wrap<|0 - x
def b_P (k:IntKind)(f:BitVec k.bits->BitVec k.bits->BitVec k.bits)(x y:Int):Int:=k.wrap (f (BitVec.ofInt k.bits x)<|BitVec.ofInt k.bits y).toNat
def b_I (k:IntKind)(x y:Int):Int:=k.wrap<|x * 2 ^ (min y.toNat k.bits)
def c_W (k:IntKind)(x y:Int):Int:=x.fdiv<|2 ^ (min y.toNat k.bits)
def usub (x y:Int):Int:=IntKind.u8.wrap<|x - y
section
variable {X:Nat->Prop}{P:Program}{N:Nat}{e:Env}{w:World}{dst:Option Tmp}{ty:TypeId}{pos:String}{aft:Array Edge}{gd:Option (Nat×Bool)}{x y z:Operand}
theorem b_8 {v:Value}(h:ev e x=some v):Rd X P N ⟨dst,.move x,ty,pos,aft,gd⟩ e w v:=λa ha w' _=>by
 simp [execOp,ha.ev h]
theorem c_L {v:Value}(h:ev e x=some v):Rd X P N ⟨dst,.assign x,ty,pos,aft,gd⟩ e w v:=λa ha w' _=>by
 simp [execOp,ha.ev h]
theorem L_ {p:Addr}(h:ev e x=some (.pointer<|some p)):Rd X P N ⟨dst,.nilCheck x,ty,pos,aft,gd⟩ e w (.pointer<|some p):=λa ha w' _=>by
 simp [execOp,ha.ev h]
theorem v_d {v:Value}{y z:Operand}(h:ev e x=some (.bool true))(hy:ev e y=some v):Rd X P N ⟨dst,.pick x y z,ty,pos,aft,gd⟩ e w v:=λa ha w' _=>by
 simp [execOp,ha.ev h,ha.ev hy,asBool]
theorem v_e {v:Value}{y z:Operand}(h:ev e x=some (.bool false))(hz:ev e z=some v):Rd X P N ⟨dst,.pick x y z,ty,pos,aft,gd⟩ e w v:=λa ha w' _=>by
 simp [execOp,ha.ev h,ha.ev hz,asBool]
def Fld (P:Program)(T k off:Nat):Prop:=∃fs f,P.underlying T=some (.struct fs)/\fs[k]? = some f/\f.offset=off/\∃n,(∀w,(sizeOf f.type).run P w = .ok n w)/\n ≠ 0
theorem f_W {T k off g o:Nat}(hf:Fld P T k off)(h:ev e x=some (.pointer<|some ⟨g,o,none⟩)):Rd X P N ⟨dst,.fieldAddr T x k,ty,pos,aft,gd⟩ e w (.pointer<|some ⟨g,o+off,none⟩):=λa ha w' _=>by
 obtain ⟨fs,f,h1,h2,h3,n,h4,h5⟩:=hf
 simp [execOp,ha.ev h,Instr.fieldAt,Instr.sureAddr,run_underlying h1,h2,fieldPlace,h4,h5,h3,Addr.add_lit]
theorem b_J {T g o:Nat}{v:Value}(hT:∀w,(isAgg T).run P w = .ok false w)(h:ev e x=some (.pointer<|some ⟨g,o,none⟩))(hX:¬X g)(hc:w.cell? ⟨g,o,none⟩=some v):Rd X P N ⟨dst,.load T x,ty,pos,aft,gd⟩ e w v:=λa ha w' hb=>by
 have hc':w'.cell? ⟨g,o,none⟩=some v:=(World.cell?_of_block (w:=w) (a:=⟨g,o,none⟩)<|hb.block g (World.block_lt_of_cell? w _ hc) hX).trans hc
 simp [execOp,ha.ev h,Instr.loadAt,Instr.sureAddr,loadVar,hT,hc']
theorem f_X {T g o n:Nat}{vs:List Value}(hT:∀w,(isAgg T).run P w = .ok true w)(hs:∀w,(sizeOf T).run P w = .ok n w)(h:ev e x=some (.pointer<|some ⟨g,o,none⟩))(hl:vs.length=n)(hX:¬X g)(hc:r_ w g o vs):Rd X P N ⟨dst,.load T x,ty,pos,aft,gd⟩ e w (.agg vs.toArray):=λa ha w' hb=>by
 have hc':∀j v,vs[j]? = some v->w'.cell? ((⟨g,o,none⟩:Addr).add j)=some v:=λj v hv=>by
  rw [Addr.add_lit]
  have:=hc j v hv;exact (World.cell?_of_block (w:=w) (a:=⟨g,o+j,none⟩)<|hb.block g (World.block_lt_of_cell? w _ this) hX).trans this
 have hr:=run_loadCells_list (P:=P) (w:=w') ⟨g,o,none⟩ vs hc';subst hl
 simp [execOp,ha.ev h,Instr.loadAt,Instr.sureAddr,loadVar,hT,hs,hr]
theorem l_t {T E b o len cap sz:Nat}{k:IntKind}{i:Int}(hT:P.underlying T=some (.slice E))(hs:∀w,(sizeOf E).run P w = .ok sz w)(h:ev e x=some (.slice (some ⟨b,o,none⟩) len cap))(hi:ev e y=some (.int k i))(G:0<=i)(h1:i<len) :
  Rd X P N ⟨dst,.indexAddr T x y,ty,pos,aft,gd⟩ e w (.pointer<|some ⟨b,o+i.toNat * sz,none⟩):=λa ha w' _=>by
 simp [execOp,ha.ev h,ha.ev hi,Instr.indexAt,asIntOf,run_underlying hT,hs,G,h1,Addr.add_lit]
theorem c_y {T:Nat}{s:Str}{k:IntKind}{i:Int}{c:UInt8}(hT:P.underlying T=some .string)(h:ev e x=some s.v)(hi:ev e y=some (.int k i))(G:0<=i)(h1:s.b[i.toNat]? = some c) :
  Rd X P N ⟨dst,.index T x y,ty,pos,aft,gd⟩ e w (vU<|b_ c):=λa ha w' _=>by
 have:(⟨s.b.toArray⟩:ByteArray)[i.toNat]? = some c:=by
  have hlt:=List.getElem?_eq_some_iff.1 h1;obtain ⟨hlt,hv⟩:=hlt
  show (if h:i.toNat<s.b.toArray.size then some (s.b.toArray[i.toNat]) else none)=some c
  grind
 simp [execOp,ha.ev h,ha.ev hi,Instr.index,asIntOf,run_underlying hT,G,this]
theorem f_Y {vs:Array Value}{i:Nat}{v:Value}(h:ev e x=some (.tuple vs))(hv:vs[i]? = some v):Rd X P N ⟨dst,.extract x i,ty,pos,aft,gd⟩ e w v:=λa ha w' _=>by
 simp [execOp,ha.ev h,Instr.extract,hv]
theorem v_f {T E:Nat}{ao:Option Addr}{len cap:Nat}{args:Array Operand}{tys:Array TypeId}(hT:P.underlying T=some (.slice E))(h:ev e x=some (.slice ao len cap)) :
  Rd X P N ⟨dst,.call { callee:=.builtin .len,args:=#[x],argTypes:=#[T] },ty,pos,aft,gd⟩ e w (vI len):=λa ha w' _=>by
 simp [execOp,resolve,invoke,builtin,Builtin.len_,ha.ev h,run_underlying hT,goInt]
theorem h_8 {T:Nat}{s:Str}(hT:P.underlying T=some .string)(h:ev e x=some s.v) :
  Rd X P N ⟨dst,.call { callee:=.builtin .len,args:=#[x],argTypes:=#[T] },ty,pos,aft,gd⟩ e w (vI s.b.length):=λa ha w' _=>by
 simp [execOp,resolve,invoke,builtin,Builtin.len_,ha.ev h,run_underlying hT,goInt]
 rfl
theorem b_Q {op:BinOp}{T T':Nat}{G a2 v:Value}(h1:ev e x=some G)(h2:ev e y=some a2)(hr:∀w,((do eqGuard op T x y G a2;binOp op T G a2):Sem Value).run P w = .ok v w) :
  Rd X P N ⟨dst,.binOp op T x y T',ty,pos,aft,gd⟩ e w v:=λa ha w' _=>by
 have:=hr w'
 simp only [execOp,ha.ev h1,ha.ev h2]
 rw [Sem.run_bind,this]
 rfl
section
variable {T T':Nat}{p q:Int}{k:IntKind}
theorem f_Z (h1:ev e x=some (vI p))(h2:ev e y=some (vI q)):Rd X P N ⟨dst,.binOp .add T x y T',ty,pos,aft,gd⟩ e w (vI<|e_ p q):=b_Q h1 h2 λw=>by rfl
theorem h_9 (h1:ev e x=some (vI p))(h2:ev e y=some (vI q)):Rd X P N ⟨dst,.binOp .sub T x y T',ty,pos,aft,gd⟩ e w (vI<|w_ p q):=b_Q h1 h2 λw=>by rfl
theorem h_a (h1:ev e x=some (vI p))(h2:ev e y=some (vI q)):Rd X P N ⟨dst,.binOp .mul T x y T',ty,pos,aft,gd⟩ e w (vI<|b_t p q):=b_Q h1 h2 λw=>by rfl
theorem v_g (h1:ev e x=some (vU p))(h2:ev e y=some (vU q)):Rd X P N ⟨dst,.binOp .sub T x y T',ty,pos,aft,gd⟩ e w (vU<|usub p q):=b_Q h1 h2 λw=>by rfl
theorem n_p (h1:ev e x=some (vI p))(h2:ev e y=some (vI q))(G:q ≠ 0):Rd X P N ⟨dst,.binOp .quo T x y T',ty,pos,aft,gd⟩ e w (vI<|c_V p q):=b_Q h1 h2 λw=>by simp [eqGuard,binOp,Op.intDiv,G,c_V]
theorem i_2 (h1:ev e x=some (vI p))(h2:ev e y=some (vI q))(G:q ≠ 0):Rd X P N ⟨dst,.binOp .rem T x y T',ty,pos,aft,gd⟩ e w (vI<|b_7 p q):=b_Q h1 h2 λw=>by simp [eqGuard,binOp,Op.intDiv,G,b_7]
theorem rd_and (h1:ev e x=some (.int k p))(h2:ev e y=some (.int k q)):Rd X P N ⟨dst,.binOp .and T x y T',ty,pos,aft,gd⟩ e w (.int k<|b_P k (· &&& ·) p q):=b_Q h1 h2 λw=>by simp [eqGuard,binOp,Op.intBits,b_P]
theorem n_q (h1:ev e x=some (.int k p))(h2:ev e y=some (.int k q)):Rd X P N ⟨dst,.binOp .or T x y T',ty,pos,aft,gd⟩ e w (.int k<|b_P k (· ||| ·) p q):=b_Q h1 h2 λw=>by simp [eqGuard,binOp,Op.intBits,b_P]
theorem j_l {k':IntKind}(h1:ev e x=some (.int k p))(h2:ev e y=some (.int k' q))(G:0<=q):Rd X P N ⟨dst,.binOp .shl T x y T',ty,pos,aft,gd⟩ e w (.int k<|b_I k p q):=b_Q h1 h2 λw=>by simp [eqGuard,binOp,Op.shift,Int.not_lt.2 G,b_I]
theorem n_r {k':IntKind}(h1:ev e x=some (.int k p))(h2:ev e y=some (.int k' q))(G:0<=q):Rd X P N ⟨dst,.binOp .shr T x y T',ty,pos,aft,gd⟩ e w (.int k<|c_W k p q):=b_Q h1 h2 λw=>by simp [eqGuard,binOp,Op.shift,Int.not_lt.2 G,c_W]
theorem g_0 (h1:ev e x=some (.int k p))(h2:ev e y=some (.int k q)):Rd X P N ⟨dst,.binOp .eql T x y T',ty,pos,aft,gd⟩ e w (vB<|p==q):=b_Q h1 h2 λw=>by simp [eqGuard,binOp,Op.intCmp]
theorem f_b (h1:ev e x=some (.int k p))(h2:ev e y=some (.int k q)):Rd X P N ⟨dst,.binOp .neq T x y T',ty,pos,aft,gd⟩ e w (vB<|p != q):=b_Q h1 h2 λw=>by simp [eqGuard,binOp,Op.intCmp]
theorem e_y (h1:ev e x=some (.int k p))(h2:ev e y=some (.int k q)):Rd X P N ⟨dst,.binOp .lss T x y T',ty,pos,aft,gd⟩ e w (vB<|decide<|p<q):=b_Q h1 h2 λw=>by simp [eqGuard,binOp,Op.intCmp]
theorem c_5 (h1:ev e x=some (.int k p))(h2:ev e y=some (.int k q)):Rd X P N ⟨dst,.binOp .leq T x y T',ty,pos,aft,gd⟩ e w (vB<|decide<|p<=q):=b_Q h1 h2 λw=>by simp [eqGuard,binOp,Op.intCmp]
theorem T_ (h1:ev e x=some (.int k p))(h2:ev e y=some (.int k q)):Rd X P N ⟨dst,.binOp .gtr T x y T',ty,pos,aft,gd⟩ e w (vB<|decide<|q<p):=b_Q h1 h2 λw=>by simp [eqGuard,binOp,Op.intCmp]
theorem b_u (h1:ev e x=some (.int k p))(h2:ev e y=some (.int k q)):Rd X P N ⟨dst,.binOp .geq T x y T',ty,pos,aft,gd⟩ e w (vB<|decide<|q<=p):=b_Q h1 h2 λw=>by simp [eqGuard,binOp,Op.intCmp]
end
section
variable {T T':Nat}{p q:Bool}
theorem v_h (d:Nat)(hT:P.underlying T=some .bool)(w:World):(Op.equalIn (d+1) T (.bool p)<|.bool q).run P w = .ok (p==q) w:=by
 simp_all [Op.equalIn,run_underlying]
theorem v_i (hT:P.underlying T=some .bool)(h1:ev e x=some (vB p))(h2:ev e y=some (vB q)):Rd X P N ⟨dst,.binOp .neq T x y T',ty,pos,aft,gd⟩ e w (vB<|p != q):=b_Q h1 h2 λw=>by simp_all [eqGuard,binOp,Op.equal,Op.maxDepth,bne,v_h]
theorem d_f (h1:ev e x=some (vB p)):Rd X P N ⟨dst,.unOp .not T x,ty,pos,aft,gd⟩ e w (vB (!p)):=λa ha w' _=>by
 simp [execOp,ha.ev h1,Op.unary]
theorem rd_neg {p:Int}(h1:ev e x=some (vI p)):Rd X P N ⟨dst,.unOp .neg T x,ty,pos,aft,gd⟩ e w (vI<|i_1 p):=λa ha w' _=>by
 simp [execOp,ha.ev h1,Op.unary,Op.intArith,i_1]
end
theorem v_j (l:Bt):(⟨l.toArray⟩:ByteArray).toList=l:=by
 simp
theorem v_k (a b:Bt):(⟨a.toArray⟩:ByteArray)++⟨b.toArray⟩=⟨(a++b).toArray⟩:=by
 rfl
section
variable {T T':Nat}{s t:Str}
theorem a_Q (h1:ev e x=some s.v)(h2:ev e y=some t.v):Rd X P N ⟨dst,.binOp .eql T x y T',ty,pos,aft,gd⟩ e w (vB<|s.b==t.b):=b_Q h1 h2 λw=>by simp [eqGuard,binOp,Op.stringOp]
theorem e_z (h1:ev e x=some s.v)(h2:ev e y=some t.v):Rd X P N ⟨dst,.binOp .neq T x y T',ty,pos,aft,gd⟩ e w (vB<|s.b != t.b):=b_Q h1 h2 λw=>by simp [eqGuard,binOp,Op.stringOp,bne]
theorem v_l (h1:ev e x=some s.v)(h2:ev e y=some t.v)(hl:s.b.length+t.b.length<=LEN):Rd X P N ⟨dst,.binOp .add T x y T',ty,pos,aft,gd⟩ e w (Str.v ⟨s.b++t.b⟩):=b_Q h1 h2 λw=>by
 have h:¬((s.b.length:Int)+(t.b.length:Int)) > 9223372036854775807:=by grind [u_]
 simp_all [ByteArray.size,eqGuard,binOp,Op.stringOp,v_k]
end
theorem q_4 {S D:Nat}{k k':IntKind}{p:Int}{d:TypeDesc}(hS:P.underlying S=some d)(hD:P.underlying D=some (.int k'))(h:ev e x=some (.int k p)):Rd X P N ⟨dst,.convert S D x,ty,pos,aft,gd⟩ e w (.int k'<|k'.wrap p):=λa ha w' _=>by
 simp [execOp,ha.ev h,convert,run_underlying hS,run_underlying hD,Conv.intToInt]
theorem d_g {T:Nat}{v:Value}{d:TypeDesc}(hT:P.underlying T=some d)(hd:∀ms,d ≠ .interface ms)(h:ev e x=some v):Rd X P N ⟨dst,.makeInterface T x,ty,pos,aft,gd⟩ e w (.iface T v):=λa ha w' _=>by
 have:(Instr.makeInterface T v).run P w' = .ok (.iface T v) w':=by
  unfold Instr.makeInterface
  rw [Sem.run_bind,run_underlying hT]
  simp
 simp [execOp,ha.ev h,this]
end
end Go.Vw
namespace Go.Vw
open Go.RowKit Dat
class a_t (α:Type)[Dat α]:Prop where
 flat:∀{w:World}{B:Zone}{cs:List Value}{x:α},rep w B cs x->own w [] cs x
 none:∀{w:World}{S:List Nat}{cs:List Value}{x:α},own w S cs x->S=[]
instance:a_t Int:=⟨λh=>⟨rfl,h⟩,λh=>h.1⟩
instance:a_t Bool:=⟨λh=>⟨rfl,h⟩,λh=>h.1⟩
instance:a_t UInt8:=⟨λh=>⟨rfl,h⟩,λh=>h.1⟩
instance:a_t Str:=⟨λh=>⟨rfl,h⟩,λh=>h.1⟩
instance {α β:Type}[Dat α][Dat β][a_t α][a_t β]:a_t (α×β) :=
 ⟨λ⟨c,d,he,h1,h2⟩=>⟨c,d,[],[],he,rfl,a_t.flat h1,a_t.flat h2⟩,λ⟨_,_,S1,S2,_,hS,h1,h2⟩=>by
  rw [hS,a_t.none h1,a_t.none h2];rfl⟩
def a_2 (n i:Nat)(l:List Value):List Value:=(l.drop<|i * n).take n
theorem h_b {n i k:Nat}{l r:List Value}(h:l.length=k * n)(hi:i<k):a_2 n i (l++r)=a_2 n i l:=by
 unfold a_2;have h1:(i+1) * n<=k * n:=QAL n hi
 grind
theorem j_m {n i k:Nat}{l r:List Value}(h:l.length=k * n)(hi:k<=i):a_2 n i (l++r)=a_2 n (i - k) r:=by
 grind [a_2,List.drop_append,List.drop_of_length_le,Nat.sub_mul,Nat.mul_le_mul_right]
theorem n_s {n i k:Nat}{l:List Value}(hi:i<k):a_2 n i (l.take<|k * n)=a_2 n i l:=by
 unfold a_2;have h1:(i+1) * n<=k * n:=QAL n hi
 grind [List.drop_take,Nat.succ_mul]
theorem l_u (l:List Value)(n:Nat)(h:l.length=n):a_2 n 0 l=l:=by
 grind [a_2]
theorem repS_row' {α:Type}[Dat α]{w:World}{B:Zone}{p:Addr}(xs:List α)(h:∀(i:Nat)(x:α),xs[i]? = some x->∃cs,r_ w p.block (p.off+i * sz α) cs/\rep w B cs x):∀k,k<=xs.length ->
  ∃news,news.length=k * sz α/\r_ w p.block p.off news/\∀(i:Nat)(x:α),i<k->xs[i]? = some x->rep w B (a_2 (sz α) i news) x
 | 0,_=>⟨[],by simp,λj v hv=>by grind,λi x hi=>absurd hi<|Nat.not_lt_zero _⟩
 | k+1,hk=>by
  obtain ⟨news,h1,h2,h3⟩:=repS_row' xs h k (by omega);have hkl:k<xs.length:=by omega
  obtain ⟨cs,g1,G⟩:=h k xs[k] (by simp);have hl:=rep_len G;refine ⟨news++cs,by grind,?_,?_⟩
  .intro j v hv
   by_cases hj:j<news.length
   .rw [List.getElem?_append_left hj] at hv;exact h2 j v hv
   .rw [List.getElem?_append_right (by omega)] at hv
    have:=g1 _ _ hv
    grind
  .intro i y hik hy
   by_cases hi:i<k
   .grind [h_b]
   .have hi':i=k:=by omega
    subst hi'
    rw [j_m h1 (QAB _),QBC,l_u cs _ hl]
    grind
theorem q_5 {α:Type}[Dat α]{w:World}{B:Zone}{p:Addr}(xs:List α)(h:∀(i:Nat)(x:α),xs[i]? = some x->∃cs,r_ w p.block (p.off+i * sz α) cs/\rep w B cs x) :
  ∃news,news.length=xs.length * sz α/\r_ w p.block p.off news/\∀(i:Nat)(x:α),xs[i]? = some x->rep w B (a_2 (sz α) i news) x:=by
 obtain ⟨news,h1,h2,h3⟩:=repS_row' xs h xs.length<|QAB _
 grind
structure El (P:Program)(T E n bytes:Nat)(z:Value):Prop where
 sl:P.underlying T=some (.slice E)
 info:(P.info? E).map (λi=>(i.zero,i.size,i.bytes))=some (some z,n,bytes)
 zlen:z.cells.size=n
 pos:0<n
 small:bytes<=32768
theorem El.sm {P:Program}{T E n bytes:Nat}{z:Value}(h:El P T E n bytes z):Nat.ble bytes 32768=true:=Nat.ble_eq_true_of_le h.small
inductive App (w w':World)(n m sz:Nat)(sv v':Value)(news:List Value):Prop
 | same (hm:m=0) (hv:v'=sv) (hw:w'=w)
 | place (g c:Nat) (cur:List Value) (hs:sv = .slice (some ⟨g,0,none⟩) n c) (hv:v' = .slice (some ⟨g,0,none⟩) (n+m) c) (hc:n+m<=c) (hb:Blk w g cur) (hl:cur.length=c * sz) (hb':Blk w' g (cur.take (n * sz)++news++cur.drop (n * sz+m * sz))) (ch:Chg (· = g) w w')
 | grown (c:Nat) (olds zs:List Value) (hv:v' = .slice (some ⟨w.heap.size,0,none⟩) (n+m) c) (hc:n+m<=c) (hb':Blk w' w.heap.size (olds++news++zs)) (hl:(olds++news++zs).length=c * sz) (ho:olds.length=n * sz)
   (hold:∀g c cur,sv = .slice (some ⟨g,0,none⟩) n c->Blk w g cur->cur.length=c * sz->n<=c->olds=cur.take (n * sz)) (hb:Below w.heap.size w w')
theorem Blk.uniq {w:World}{g:Nat}{l l':List Value}(h:Blk w g l)(h':Blk w g l'):l=l':=by
 obtain ⟨T,fr,h,_⟩:=h;obtain ⟨T',fr',h',_⟩:=h'
 grind
theorem h_c (w:World):Below w.heap.size w w.drew:=⟨rfl,rfl,rfl,QAB _,λ_ _=>rfl⟩
theorem v_m {P:Program}{T E sz bytes:Nat}{z:Value}(hE:El P T E sz bytes z)(w:World)(ty:TypeId){n:Nat}{sv:Value}
  (hs:(sv = .slice none 0 0/\n=0)∨∃g c cur,sv = .slice (some ⟨g,0,none⟩) n c/\n<=c/\Blk w g cur/\cur.length=c * sz)
  {p:Addr} {m c':Nat} {news:List Value} (hp:news ≠ []->p.spot=none) (hl:news.length=m * sz) (hn:r_ w p.block p.off news) (h1:∀u∈news,u.oneCell'=true)
  (hlen:n+m<=LEN) (hby:(n+m) * bytes<=140737488355328) :
  ∃v' w',(Builtin.append_ #[T,T] ty #[sv,.slice (some p) m c']).run P w = .ok v' w'/\App w w' n m sz sv v' news:=by
 obtain ⟨i,hi,hz,rfl,rfl⟩:=info_parts hE.info
 have hn':∀j u,news[j]? = some u->w.cell? (p.add j)=some u:=λj u hu=>by
  have hsp:=hp (by grind);have hpe:p=⟨p.block,p.off,none⟩:=by cases p;grind
  rw [hpe,Addr.add_lit];exact hn j u hu
 have hL:=u_
 rcases hs with ⟨rfl,rfl⟩ | ⟨g,c,cur,rfl,hnc,hB,hcl⟩
 .by_cases hm:m=0
  .subst hm;have hnil:news=[]:=QAK (by omega);subst hnil;refine ⟨.slice none 0 0,w,?_,.same rfl rfl rfl⟩
   simp [Builtin.append_,run_underlying hE.sl,sizeOf,typeInfo,hi,Builtin.lenOf,Builtin.firstCells,loadCells,loadCellsFrom]
  .have hr:=run_append_nil (P:=P) w T ty E i z hE.sl hi hz p m c' news hl hn' (by omega) (by omega) (by grind);have hge:=grownCap_ge w m 0 E;refine ⟨_,_,hr,.grown (grownCap w m 0 E) [] (Builtin.zeroCells z.cells<|grownCap w m 0 E - m).toList (by simp) (by omega) ?_ ?_ (by simp) (λg c cur h=>by cases h) ?_⟩
   .have:=alloc_blk' w.drew (news.toArray++Builtin.zeroCells z.cells (grownCap w m 0 E - m)) E
    simp_all
   .simp only [QAr,QAN,hl,Array.length_toList,size_zeroCells,hE.zlen,← Nat.add_mul]
    grind
   .exact Below.trans (h_c w)<|b_s w.drew _
 .by_cases hroom:n+m<=c
  .obtain ⟨w',hst,hb',hch⟩:=j_i (P:=P) (o:=n * i.size) news 0 w cur hB (by rw [hl,hcl,QBM,← Nat.add_mul];simp_all [QAL]) h1;have hf:=run_firstCells_some (P:=P) w i.size m p m c' news hl hn';refine ⟨.slice (some ⟨g,0,none⟩) (n+m) c,w',?_,.place g c cur rfl rfl hroom hB hcl (by grind) hch⟩
   simp [Builtin.append_,run_underlying hE.sl,sizeOf,typeInfo,hi,Builtin.lenOf,hroom,hf,Addr.add_lit,hst]
  .have holds:∀j v,(cur.take<|n * i.size)[j]? = some v->w.cell? ((⟨g,0,none⟩:Addr).add j)=some v:=λj v hv=>by
    rw [Addr.add_lit,QAp,hB.cell]
    grind
   have hle:n * i.size<=cur.length:=by simp_all [QAL]
   have hr:=run_append_grow (P:=P) w T ty E i z hE.sl hi hz ⟨g,0,none⟩ n c (cur.take<|n * i.size) (by grind) holds p m c' news hl hn' (by omega) (by omega)<|growslice_fits (by omega) hby;have hge:=grownCap_ge w (n+m) c E;refine ⟨_,_,hr,.grown (grownCap w (n+m) c E) (cur.take<|n * i.size) (Builtin.zeroCells z.cells<|grownCap w (n+m) c E - (n+m)).toList rfl hge ?_ ?_ (by grind) ?_ ?_⟩
   .have:=alloc_blk' w.drew ((cur.take<|n * i.size).toArray++news.toArray++Builtin.zeroCells z.cells (grownCap w (n+m) c E - (n+m))) E
    simp_all
   .simp only [QAN,hl,Array.length_toList,size_zeroCells,hE.zlen,QAT,QBL hle,← Nat.add_mul]
    grind
   .intro g' c'' cur' he hB' _ _
    simp only [Value.slice.injEq,QAJ,Addr.mk.injEq,and_true,true_and] at he
    obtain ⟨rfl,rfl⟩:=he
    rw [hB.uniq hB']
   .exact Below.trans (h_c w)<|b_s w.drew _
theorem c_.row {α:Type}[Dat α]{w:World}{S:List Nat}{v:Value}{l:List α}(h:c_ w S v l) :
  (v = .slice none 0 0/\l.length=0)∨∃g c cur,v = .slice (some ⟨g,0,none⟩) l.length c/\l.length<=c/\Blk w g cur/\cur.length=c * sz α:=by
 rcases h with ⟨h1,rfl,_⟩ | ⟨g,c,cur,Ss,h1,h2,h3,h4,h5,_⟩
 .grind
 grind
theorem q_6 {α:Type}[Dat α]{w w':World}{S:List Nat}{sv v':Value}{l:List α}
  (ho:c_ w S sv l) (hN:S.Nodup) {news:List Value} {xs:List α} {Ts:List (List Nat)} (hl:news.length=xs.length * sz α)
  (hTl:Ts.length=xs.length) (hx:∀(i:Nat)(x:α)(Ti:List Nat),xs[i]? = some x->Ts[i]? = some Ti->own w Ti (a_2 (sz α) i news) x)
  (hD:∀k∈List.flatten Ts,k∉S) (hTN:(List.flatten Ts).Nodup) (hlen:l.length+xs.length<=LEN) (happ:App w w' l.length xs.length (sz α) sv v' news) :
  ∃S',c_ w' S' v' (l++xs)/\S'.Nodup/\Chg (· ∈ S) w w'/\(∀k∈S',k∈S∨k∈List.flatten Ts∨k=w.heap.size):=by
 have hll:(l++xs).length=l.length+xs.length:=by simp
 -- the elements, in whatever row they lie now
 have elems:∀(Ss:List (List Nat))(cur cur':List Value)(w':World),Ss.length=l.length->(∀(i:Nat)(x:α)(Si:List Nat),l[i]? = some x->Ss[i]? = some Si->own w' Si (a_2 (sz α) i cur) x) ->
   (∀(i:Nat)(x:α)(Ti:List Nat),xs[i]? = some x->Ts[i]? = some Ti->own w' Ti (a_2 (sz α) i news) x) ->
   (∀i,i<l.length->a_2 (sz α) i cur'=a_2 (sz α) i cur)->(∀i,i<xs.length->a_2 (sz α) (l.length+i) cur'=a_2 (sz α) i news) ->
   ∀(i:Nat)(x:α)(Si:List Nat),(l++xs)[i]? = some x->(Ss++Ts)[i]? = some Si->own w' Si ((cur'.drop<|i * sz α).take (sz α)) x:=by
  intro Ss cur cur' w' hS g1 I J L i x Si hx' hSi
  by_cases hi:i<l.length
  .rw [List.getElem?_append_left hi] at hx'
   rw [List.getElem?_append_left (by omega)] at hSi
   have:=g1 i x Si hx' hSi
   rw [← J i hi] at this
   exact this
  .rw [List.getElem?_append_right (by omega)] at hx'
   rw [List.getElem?_append_right (by omega),hS] at hSi
   have:=I _ x Si hx' hSi
   rw [← L _ (List.getElem?_eq_some_iff.1 hx').1] at this
   have he:l.length+(i - l.length)=i:=by omega
   rw [he] at this
   exact this
 cases happ with
 | same hm hv hw =>
  grind [Chg.refl,List.eq_nil_of_length_eq_zero]
 | place g c cur hs hv hc hb hcl hb' hch =>
  subst hv
  rcases ho with ⟨h,_⟩ | ⟨g',c'',cur',Ss,hs',h2,h3,h4,h5,rfl,G,H⟩
  .grind
  .rw [hs] at hs'
   simp only [Value.slice.injEq,QAJ,Addr.mk.injEq,and_true,true_and] at hs'
   obtain ⟨rfl,rfl⟩:=hs';obtain rfl:=hb.uniq h4;have hgS:∀(i:Nat) Si,Ss[i]? = some Si->∀k∈Si,¬k=g:=λi Si hSi k hk he=>(QAq.1 hN).1 (he ▸ e_x hSi hk)
   have hgT:∀(i:Nat) Ti,Ts[i]? = some Ti->∀k∈Ti,¬k=g:=λi Ti hTi k hk he=>hD k (e_x hTi hk)<|he ▸ QAM
   have hle:l.length * sz α<=cur.length:=by simp_all [QAL]
   have htk:(cur.take<|l.length * sz α).length=l.length * sz α:=by grind
   refine ⟨g::List.flatten (Ss++Ts),.inr ⟨g,c,_,Ss++Ts,by simp,by omega,by omega,hb',?_,rfl,by grind,?_⟩,?_,hch.mono λk _ hk=>by grind,?_⟩
   .have:l.length * sz α+xs.length * sz α<=cur.length:=by rw [hcl,← Nat.add_mul];simp_all [QAL]
    grind
   .refine elems Ss cur _ w' G (λi x Si a b=>f_V (H i x Si a b) hch<|hgS i Si b) (λi x Ti a b=>f_V (hx i x Ti a b) hch<|hgT i Ti b) ?_ ?_
    .grind [List.append_assoc,h_b,n_s]
    .intro i hi
     rw [QAh,j_m htk (by omega),Nat.add_sub_cancel_left,h_b hl hi]
   .grind
   grind
 | grown c olds zs hv hc hb' hcl hol hold hbel =>
  subst hv
  have hTlt:∀k∈List.flatten Ts,k<w.heap.size:=λk hk=>by
   obtain ⟨Ti,hTi,hk⟩:=QAZ.1 hk;obtain ⟨i,hi⟩:=List.getElem?_of_mem hTi;obtain ⟨x,hx'⟩:=zip_some' hTl hi;exact own_lt (hx i x Ti hx' hi) k hk
  have hch:Chg (· ∈ S) w w':=Vw.Below.chg hbel _
  -- the old elements
  obtain ⟨Ss,cur,hSl,hSe,hSS,hcur⟩:∃(Ss:List (List Nat))(cur:List Value),Ss.length=l.length/\(∀(i:Nat)(x:α)(Si:List Nat),l[i]? = some x->Ss[i]? = some Si->own w Si (a_2 (sz α) i cur) x)/\((List.flatten Ss).Nodup/\∀k∈List.flatten Ss,k∈S)/\(∀i,i<l.length->a_2 (sz α) i olds=a_2 (sz α) i cur):=by
   rcases ho with ⟨_,rfl,rfl⟩ | ⟨g',c'',cur',Ss,hs',h2,h3,h4,h5,rfl,G,H⟩
   .simp
   .refine ⟨Ss,cur',G,H,⟨(QAq.1 hN).2,λk hk=>QAF _ hk⟩,λi hi=>?_⟩
    grind [n_s]
  refine ⟨w.heap.size::List.flatten (Ss++Ts),.inr ⟨w.heap.size,c,_,Ss++Ts,by simp,by omega,by omega,hb',hcl,rfl,by grind,?_⟩,?_,hch,?_⟩
  .refine elems Ss cur _ w' hSl (λi x Si a b=>j_j (hSe i x Si a b) hbel) (λi x Ti a b=>j_j (hx i x Ti a b) hbel) ?_ ?_
   .grind [List.append_assoc,h_b]
   .intro i hi
    rw [QAh,j_m hol (by omega),Nat.add_sub_cancel_left,h_b hl hi]
  .rw [List.flatten_append,QAq]
   have hSlt:∀k∈List.flatten Ss,k<w.heap.size:=λk hk=>by
    obtain ⟨Si,hSi,hk⟩:=QAZ.1 hk;obtain ⟨i,hi⟩:=List.getElem?_of_mem hSi;obtain ⟨x,hx'⟩:=zip_some' hSl hi
    grind [own_lt]
   grind
  grind
theorem v_n {α:Type}[Dat α]{P:Program}{T E bytes:Nat}{z:Value}(hE:El P T E (sz α) bytes z)(w:World)(ty:TypeId){S:List Nat}{sv:Value}{l:List α}
  (ho:c_ w S sv l) (hN:S.Nodup) {p:Addr} {c':Nat} {news:List Value} {xs:List α} {Ts:List (List Nat)} (hp:news ≠ []->p.spot=none) (hl:news.length=xs.length * sz α) (hn:r_ w p.block p.off news)
  (hTl:Ts.length=xs.length) (hx:∀(i:Nat)(x:α)(Ti:List Nat),xs[i]? = some x->Ts[i]? = some Ti->own w Ti (a_2 (sz α) i news) x)
  (hD:∀k∈List.flatten Ts,k∉S) (hTN:(List.flatten Ts).Nodup) (hlen:l.length+xs.length<=LEN) (hby:(l.length+xs.length) * bytes<=140737488355328) :
  ∃v' w' S',(Builtin.append_ #[T,T] ty #[sv,.slice (some p) xs.length c']).run P w = .ok v' w'/\c_ w' S' v' (l++xs)/\S'.Nodup/\Chg (· ∈ S) w w'/\(∀k∈S',k∈S∨k∈List.flatten Ts∨k=w.heap.size):=by
 have h1:∀u∈news,u.oneCell'=true:=by
  intro u hu;obtain ⟨j,hj⟩:=List.getElem?_of_mem hu;have hjl:=(List.getElem?_eq_some_iff.1 hj).1;have hi:j / sz α<xs.length:=by simp_all [Nat.div_lt_of_lt_mul,Nat.mul_comm]
  have hown:=hx (j / sz α) xs[j / sz α] Ts[j / sz α] (by simp) (by simp);refine rep_one (own_rep' hown) u ?_;have hmod:=Nat.mod_lt j<|pos (α:=α);have hdm:=Nat.div_add_mod j<|sz α
  have:(a_2 (sz α) (j / sz α) news)[j % sz α]? = some u:=by
   grind [a_2]
  grind
 obtain ⟨v',w',hrun,happ⟩:=v_m (P:=P) hE w ty ho.row (c':=c') hp hl hn h1 hlen hby
 grind [q_6]
end Go.Vw
namespace Go.Vw
open Go.RowKit Dat
def evs (e:Env):List Operand->Option (List Value)
 | []=>some []
 | x::l=>match ev e x,evs e l with
  | some v,some vs=>some (v::vs)
  | _,_=>none
theorem Sat.evs {N:Nat}{e:Env}{a:Act}(h:Sat N e a):∀{l:List Operand}{vs:List Value},evs e l=some vs->l.map a.eval=vs
 | [],vs,hv=>by grind [Vw.evs]
 | x::l,vs,hv=>by
  simp only [Vw.evs] at hv
  split at hv
  .rename_i v vs' h1 h2
   simp only [QAJ] at hv
   subst hv
   simp [h.ev h1,Sat.evs h h2]
  .cases hv
structure New (w w':World)(cs:List Value):Prop where
 blk:Blk w' w.heap.size cs
 below:Below w.heap.size w w'
 size:w'.heap.size=w.heap.size+1
theorem New.alloc (w:World)(cs:Array Value)(T:TypeId):New w (w.alloc<|.cells cs T) cs.toList:=⟨alloc_blk' w cs T,b_s w _,by simp⟩
structure g_ (P:Program)(f:FuncId)(args:List Value)(w:World)(R:Value->World->Prop):Prop where
 run:Calls P f args.toArray w (λe w'=>∃v,e = .returned v/\R v w')
theorem g_.mono {P:Program}{f:FuncId}{args:List Value}{w:World}{R R':Value->World->Prop}(h:g_ P f args w R)(hr:∀v w',R v w'->R' v w'):g_ P f args w R' :=
 ⟨Calls.mono h.run λ_ _ ⟨v,he,h⟩=>⟨v,he,hr _ _ h⟩⟩
section
variable {P:Program}{N:Nat}{e:Env}{w:World}{dst:Option Tmp}{ty:TypeId}{pos:String}{aft:Array Edge}{gd:Option (Nat×Bool)}{x y z:Operand}
theorem e_Y {o:Oper}{K:Value->World->Prop}(h:∀a,Sat N e a->∃v w',(execOp a.eval o).run P w = .ok (.value v) w'/\K v w'):Ef P N o e w K:=⟨λa ha Q=>by
 obtain ⟨v,w',hr,hk⟩:=h a ha;unfold Oper.wp
 rw [hr]
 exact ⟨v,rfl,hk⟩⟩
theorem u_s {o:Oper}{K:Value->World->Prop}(h:∀a,Sat N e a->∃w',(execOp a.eval o).run P w = .ok .skip w'/\K undef w'):Ef P N o e w K:=⟨λa ha Q=>by
 obtain ⟨w',hr,hk⟩:=h a ha;unfold Oper.wp
 rw [hr]
 exact ⟨undef,rfl,hk⟩⟩
theorem c_H {T:Nat}{z:Value}(hz:∀w,(zeroValue T).run P w = .ok z w):Ef P N ⟨dst,.alloc T,ty,pos,aft,gd⟩ e w (λv w'=>v = .pointer (some ⟨w.heap.size,0,none⟩)/\New w w' z.cells.toList) :=
 e_Y λa ha=>⟨_,w.alloc<|.cells z.cells T,by simp [execOp,Instr.alloc,hz,newVar,newRow],rfl,New.alloc _ _ _⟩
theorem d_x {T:Nat}{v:Value}(hx:ev e x=some v):Ef P N ⟨dst,.box T x,ty,pos,aft,gd⟩ e w (λv' w'=>v' = .pointer (some ⟨w.heap.size,0,none⟩)/\New w w' v.cells.toList) :=
 e_Y λa ha=>⟨_,w.alloc<|.cells v.cells T,by simp [execOp,Instr.box,ha.ev hx,newVar,newRow],rfl,New.alloc _ _ _⟩
theorem a_U {T n g o:Nat}{v:Value}{cur cur':List Value}(hs:∀w,(sizeOf T).run P w = .ok n w)(hp:ev e x=some (.pointer<|some ⟨g,o,none⟩))(hv:ev e y=some v)(hB:Blk w g cur)(hn:v.cells.size=n)
  (ho:o+n<=cur.length) (h1:∀u∈v.cells.toList,u.oneCell'=true) (hcur:cur.take o++v.cells.toList++cur.drop (o+v.cells.toList.length)=cur') :
  Ef P N ⟨none,.store T x y,ty,pos,aft,gd⟩ e w (λ_ w'=>Blk w' g cur'/\Chg (· = g) w w'):=by
 refine u_s λa ha=>?_
 obtain ⟨w',hr,hb,hc⟩:=j_i (P:=P) (o:=o) v.cells.toList 0 w cur hB (by grind) h1;refine ⟨w',?_,?_,hc⟩
 .simp [execOp,Instr.storeAt,Instr.sureAddr,ha.ev hp,ha.ev hv,storeVar,hs,hn,hr]
 grind
theorem u_t (ρ:Operand->Value)(f:FuncId)(args:Array Operand)(tys:Array TypeId)(ty:TypeId)(w:World)(hρ:ρ (.func f) = .func (.func f) #[] #[]) :
  (resolve ρ { callee:=.value<|.func f,args,argTypes:=tys } ty).run P w = .ok { target:=.fn (.func f) #[],args:=args.map ρ } w:=by
 simp [resolve,hρ,Deferred.ofValue]
theorem d_X {f:FuncId}{args:List Operand}{tys:Array TypeId}{vs:List Value}{R:Value->World->Prop}(hcall:∀(args:Array Value)(w:World),(callFunc f args).run P w = .ok (.enter f args) w)(hv:evs e args=some vs)(hc:g_ P f vs w R) :
  Ef P N ⟨dst,.call { callee:=.value (.func f),args:=args.toArray,argTypes:=tys },ty,pos,aft,gd⟩ e w R:=⟨λa ha Q=>by
 have hm:(args.toArray.map a.eval)=vs.toArray:=by rw [QA4,ha.evs hv]
 unfold Oper.wp
 have hr:(execOp a.eval ⟨dst,.call { callee:=.value<|.func f,args:=args.toArray,argTypes:=tys },ty,pos,aft,gd⟩).run P w = .ok (.enter f vs.toArray) w:=by
  simp [execOp,u_t a.eval f args.toArray tys ty w rfl,invoke,hcall,hm]
 rw [hr]
 exact Calls.mono hc.run λe' w' ⟨v,he,hR⟩=>by grind⟩
theorem e_Z {T E n bytes:Nat}{zz:Value}{len:Nat}{pa:Array (Nat×Operand)}{vs:List Value}(parts:List Operand)(hE:El P T E n bytes zz)(hpa:pa=((parts.zipIdx 0).map λp=>(p.2,p.1)).toArray)(hv:evs e parts=some vs)(hl:len=parts.length)(hsz:∀v∈vs,v.cells.size=n)(hsmall:len * n<=16777216)(hpos:0<len) :
  Ef P N ⟨dst,.buildSlice T len pa,ty,pos,aft,gd⟩ e w (λv w'=>v = .slice (some ⟨w.heap.size,0,none⟩) len len/\New w w' (vs.flatMap λv=>v.cells.toList)):=by
 refine e_Y λa ha=>?_
 subst hpa;obtain ⟨i,hi,hz,rfl,rfl⟩:=info_parts hE.info;have hvs:=ha.evs hv;have hlen:vs.length=parts.length:=by grind
 have hm:((((parts.zipIdx 0).map λp=>(p.2,p.1)).toArray).map λ(i,x)=>(i,a.eval x)).toList=(vs.zipIdx 0).map λp=>(p.2,p.1):=by
  rw [← hvs,List.zipIdx_map]
  simp
 have hf:Instr.fill (λk=>some (k * i.size,i.size)) ((Array.range<|len * i.size).map (zz.cells[· % zz.cells.size]!)) ((((parts.zipIdx 0).map λp=>(p.2,p.1)).toArray).map λ(i,x)=>(i,a.eval x)).toList=some (vs.flatMap λv=>v.cells.toList).toArray:=by
  rw [hm]
  exact Great.fill_whole hE.pos vs _ hsz (by grind)
 have hr:=run_buildSlice (P:=P) w T E len _ _ i zz hE.sl hi hz (by omega) (by have:=hE.pos;grind [Nat.mul_eq_zero]) hf;refine ⟨_,w.alloc<|.cells (vs.flatMap λv=>v.cells.toList).toArray E,?_,rfl,?_⟩
 .simp_all [execOp,Result.andThen_ok]
 grind [New.alloc]
theorem p_L {T E n bytes:Nat}{zz:Value}(hE:El P T E n bytes zz) :
  Ef P N ⟨dst,.buildSlice T 0 #[],ty,pos,aft,gd⟩ e w (λv w'=>v = .slice (some ⟨w.heap.size,0,none⟩) 0 0/\New w w' []):=by
 refine e_Y λa ha=>?_
 obtain ⟨i,hi,hz,rfl,rfl⟩:=info_parts hE.info;refine ⟨.slice (some ⟨w.heap.size,0,none⟩) 0 0,w.alloc<|.cells #[] E,?_,rfl,by grind [New.alloc]⟩
 simp [execOp,Instr.buildSlice,run_underlying hE.sl,sizeOf,typeInfo,hi,newRow,Instr.fill,Array.range_zero']
theorem p_M {T E n bytes:Nat}{zz:Value}{l c:Int}(hE:El P T E n bytes zz)(hl:ev e x=some (vI l))(hc:ev e y=some (vI c))(H:0<=l)(hlc:l<=c)(hb:(bytes:Int) * c<=281474976710656)(G:c<=9223372036854775807) :
  Ef P N ⟨dst,.makeSlice T x y,ty,pos,aft,gd⟩ e w (λv w'=>v = .slice (some ⟨w.heap.size,0,none⟩) l.toNat c.toNat/\New w w' (madeCells zz.cells<|c.toNat * n).toList):=by
 refine e_Y λa ha=>?_
 obtain ⟨i,hi,hz,rfl,rfl⟩:=info_parts hE.info;have hr:=run_make (P:=P) w T E i zz hE.sl hi hz .i64 .i64 l c H hlc hb G;exact ⟨_,_,by simp only [execOp,ha.ev hl,ha.ev hc,Sem.run_bind,hr,Result.andThen_ok];rfl,rfl,New.alloc _ _ _⟩
theorem p_N {α:Type}[Dat α]{T E bytes:Nat}{zz:Value}(hE:El P T E (sz α) bytes zz){S:List Nat}{sv:Value}{l:List α}(hx:ev e x=some sv)(ho:c_ w S sv l)(hN:S.Nodup)
  {p:Addr} {m c':Nat} {news:List Value} {xs:List α} {Ts:List (List Nat)} (hy:ev e y=some (.slice (some p) m c')) (hm:m=xs.length) (hp:news ≠ []->p.spot=none) (hl:news.length=xs.length * sz α) (hn:r_ w p.block p.off news)
  (hTl:Ts.length=xs.length) (hxs:∀(i:Nat)(x:α)(Ti:List Nat),xs[i]? = some x->Ts[i]? = some Ti->own w Ti (a_2 (sz α) i news) x)
  (hD:∀k∈List.flatten Ts,k∉S) (hTN:(List.flatten Ts).Nodup) (hlen:l.length+xs.length<=LEN) (hby:(l.length+xs.length) * bytes<=140737488355328) :
  Ef P N ⟨dst,.call { callee:=.builtin .append,args:=#[x,y],argTypes:=#[T,T] },ty,pos,aft,gd⟩ e w (λv w'=>∃S',c_ w' S' v (l++xs)/\S'.Nodup/\Chg (· ∈ S) w w'/\(∀k∈S',k∈S∨k∈List.flatten Ts∨k=w.heap.size)):=by
 refine e_Y λa ha=>?_
 subst hm;obtain ⟨v',w',S',hr,h1,h2,h3,h4⟩:=v_n (P:=P) hE w ty ho hN (c':=c') hp hl hn hTl hxs hD hTN hlen hby;exact ⟨v',w',by simp [execOp,resolve,invoke,builtin,ha.ev hx,ha.ev hy,hr],S',h1,h2,h3,h4⟩
end
end Go.Vw
namespace Go.Vw
open Go.RowKit Dat
def f_8:Nat->List Value->Env
 | _,[]=>[]
 | k,v::l=>(k,v)::f_8 (k+1) l
theorem l_r:∀(l:List Value)(k t:Nat)(v:Value),t_ (f_8 k l) t=some v->k<=t/\l[t - k]? = some v
 | [],k,t,v,h=>by grind [f_8,t_]
 | u::l,k,t,v,h=>by
  simp only [f_8,t_] at h
  by_cases hk:k=t
  .simp_all
  .have hb:Nat.beq k t=false:=by rw [← QA6,Nat.beq_eq];omega
   rw [hb] at h
   simp only [cond_false] at h
   obtain ⟨h1,h2⟩:=l_r l (k+1) t v h
   grind
def b_V (P:Program)(fn:Func)(R:Value->World->Prop)(a:Act)(w:World):Prop :=
 a.defers=[]/\∃v,(results fn a.tmps).run P w = .ok v w/\R v w
def QR (P:Program)(fn:Func)(R:Value->World->Prop):Exit->Act->World->Prop
 | .ret,a,w=>b_V P fn R a w
 | _,_,_=>False
theorem j_g {P:Program}{f:FuncId}{fn:Func}{c:Code}{N:Nat}{args:List Value}{w:World}{R:Value->World->Prop}(hf:P.funcs[f]? = some fn)(hb:fn.body=some c)(hN:fn.ntmps=N)
  (hle:args.length<=N) (h:WC P N c (b_V P fn R) (QR P fn R) (f_8 0 args) w):g_ P f args w R:=by
 refine ⟨calls_of_wp hf hb<|Code.wp_mono (λex a w q=>?_)<|h _ ⟨rfl,?_,?_⟩⟩
 .cases ex with
  | normal=>obtain ⟨h1,v,h2,h3⟩:=q;exact ⟨h1,v,h2,v,rfl,h3⟩
  | ret=>obtain ⟨h1,v,h2,h3⟩:=q;exact ⟨h1,v,h2,v,rfl,h3⟩
  | _=>exact (show False from q).elim
 .grind
 .intro t v ht;obtain ⟨_,h2⟩:=l_r args 0 t v ht
  grind
def resA (tmps:Array Value):ResultVar->Sem Value
 | .tmp t=>pure<|tmps.getD t undef
 | .cell a t=>do loadVar t<|← asAddr (tmps.getD a undef)
theorem l_s (fn:Func)(tmps:Array Value):results fn tmps=(do
 let vs ← fn.results.mapM (resA tmps)
 pure (if h:vs.size=1 then vs[0] else .tuple vs)):=rfl
def c_x (P:Program)(e:Env)(w:World):ResultVar->Value->Prop
 | .tmp t,v=>t_ e t=some v
 | .cell a T,v=>∃p,t_ e a=some (.pointer<|some p)/\(loadVar T p).run P w = .ok v w
section
variable {P:Program}{N:Nat}{e:Env}{w:World}{fn:Func}{R:Value->World->Prop}
theorem c_x.run {r:ResultVar}{v:Value}{a:Act}(ha:Sat N e a)(h:c_x P e w r v):(resA a.tmps r).run P w = .ok v w:=by
 cases r with
 | tmp t=>simp [resA,Array.getD_eq_getD_getElem?,ha.at_ t v h]
 | cell b T =>
  obtain ⟨p,hp,hl⟩:=h
  simp [resA,Array.getD_eq_getD_getElem?,ha.at_ b _ hp,asAddr,hl]
theorem m_ {a T g n:Nat}{cs:List Value}(hT:∀w,(isAgg T).run P w = .ok true w)(hs:∀w,(sizeOf T).run P w = .ok n w)(hp:t_ e a=some (.pointer<|some ⟨g,0,none⟩))(hB:Blk w g cs)(hl:cs.length=n):c_x P e w (.cell a T) (.agg cs.toArray):=by
 refine ⟨_,hp,?_⟩
 have hc:∀j v,cs[j]? = some v->w.cell? ((⟨g,0,none⟩:Addr).add j)=some v:=λj v hv=>by
  rw [Addr.add_lit,QAp,hB.cell];omega
 have hr:=run_loadCells_list (P:=P) (w:=w) ⟨g,0,none⟩ cs hc;subst hl
 simp [loadVar,hT,hs,hr]
theorem ret0 (hr:fn.results = #[])(hR:R (.tuple #[]) w):∀a,Sat N e a->b_V P fn R a w:=λa ha =>
 ⟨ha.defers,_,by simp_all [l_s],hR⟩
theorem a_s {r1:ResultVar}{v1:Value}(hr:fn.results = #[r1])(h1:c_x P e w r1 v1)(hR:R v1 w):∀a,Sat N e a->b_V P fn R a w:=λa ha =>
 ⟨ha.defers,v1,by rw [l_s,hr];simp [h1.run ha],hR⟩
theorem b_r {r1 r2:ResultVar}{v1 v2:Value}(hr:fn.results = #[r1,r2])(h1:c_x P e w r1 v1)(h2:c_x P e w r2 v2)(hR:R (.tuple #[v1,v2]) w):∀a,Sat N e a->b_V P fn R a w:=λa ha =>
 ⟨ha.defers,_,by rw [l_s,hr];simp [h1.run ha,h2.run ha],hR⟩
theorem d_A {r1 r2 r3:ResultVar}{v1 v2 v3:Value}(hr:fn.results = #[r1,r2,r3])(h1:c_x P e w r1 v1)(h2:c_x P e w r2 v2)(h3:c_x P e w r3 v3)(hR:R (.tuple #[v1,v2,v3]) w):∀a,Sat N e a->b_V P fn R a w:=λa ha =>
 ⟨ha.defers,_,by rw [l_s,hr];simp [h1.run ha,h2.run ha,h3.run ha],hR⟩
theorem f_9 {c:Code}{K:Act->World->Prop}{Q:Exit->Act->World->Prop}{a:Act}(h:WC P N c K Q e w)(ha:Sat N e a):c.wp P (Exit.then K Q) a w:=h a ha
end
inductive Out (σ ρ:Type) where
 | next (s:σ)
 | brk (s:σ)
 | ret (r:ρ)
def k_ {σ ρ:Type}(body:Nat->σ->Option (Out σ ρ)):Nat->Nat->σ->Option (Sum σ ρ)
 | 0,_,s=>some<|.inl s
 | n+1,k,s=>match body k s with
  | none=>none
  | some (.next s')=>k_ body n (k+1) s'
  | some (.brk s')=>some<|.inl s'
  | some (.ret r)=>some<|.inr r
def F_ {σ ρ:Type}(step:σ->Option (Out σ ρ)):Nat->σ->Option (Sum σ ρ)
 | 0,_=>none
 | n+1,s=>match step s with
  | none=>none
  | some (.next s')=>F_ step n s'
  | some (.brk s')=>some<|.inl s'
  | some (.ret r)=>some<|.inr r
def QL {σ ρ:Type}(b:Nat)(D:σ->Act->World->Prop)(Qr:ρ->Exit->Act->World->Prop)(res:Sum σ ρ):Exit->Act->World->Prop:=λex a w =>
 (ex = .exit b/\∃s,res = .inl s/\D s a w)∨∃r,res = .inr r/\Qr r ex a w
def QO {σ ρ:Type}(b:Nat)(D:σ->Act->World->Prop)(Qr:ρ->Exit->Act->World->Prop)(o:Out σ ρ):Exit->Act->World->Prop:=λex a w =>
 (ex = .exit b/\∃s,o = .brk s/\D s a w)∨∃r,o = .ret r/\Qr r ex a w
def noK:Act->World->Prop:=λ_ _=>False
section
variable {P:Program}
theorem v_9 {σ ρ:Type}{body:Nat->σ->Option (Out σ ρ)}{c:Code}{b n:Nat}{res:Sum σ ρ}(I:Nat->σ->Act->World->Prop)(D:σ->Act->World->Prop)(Qr:ρ->Exit->Act->World->Prop)
  (hround:∀k s a w o,k<n->I k s a w->body k s=some o->c.wp P (Exit.then (λa' w'=>∃s',o = .next s'/\I (k+1) s' a' w')<|QO b D Qr o) a w)
  (hlast:∀s a w,I n s a w->c.wp P (Exit.then noK<|λex a' w'=>ex = .exit b/\D s a' w') a w)
  {s:σ} {a:Act} {w:World} (hm:k_ body n 0 s=some res) (G:I 0 s a w):(Code.loop c).wp P (Exit.then noK<|QL b D Qr res) a w:=by
 refine wp_loop_ghost (λm a w=>∃k s,k+m=n/\k_ body m k s=some res/\I k s a w) n ⟨0,s,by omega,hm,G⟩ ?_
 clear hm G
 rintro m a w ⟨k,s,hk,hm,hI⟩
 cases m with
 | zero =>
  obtain rfl:k=n:=by omega
  obtain rfl:Sum.inl s=res:=QAS hm;refine Code.wp_mono (λex a' w' q=>?_)<|hlast s a w hI
  cases ex with
  | normal=>exact (show False from q).elim
  | _=>exact .inl ⟨q.1,s,rfl,q.2⟩
 | succ m =>
  simp only [k_] at hm
  split at hm
  .grind
  .rename_i s' hb
   refine Code.wp_mono (λex a' w' q=>?_)<|hround k s a w _ (by omega) hI hb
   grind [Exit.then,QO]
  .rename_i s' hb
   simp only [QAJ] at hm
   subst hm;refine Code.wp_mono (λex a' w' q=>?_)<|hround k s a w _ (by omega) hI hb
   cases ex <;> simp only [Exit.then,QO] at q ⊢ <;> first
    | grind
    | (rcases q with ⟨hx,_,he,hd⟩ | ⟨_,he,_⟩ <;> cases he;exact .inl ⟨hx,_,rfl,hd⟩)
  .rename_i r hb
   simp only [QAJ] at hm
   subst hm;refine Code.wp_mono (λex a' w' q=>?_)<|hround k s a w _ (by omega) hI hb
   cases ex <;> simp only [Exit.then,QO] at q ⊢ <;> first
    | grind
    | (rcases q with ⟨_,_,he,_⟩ | ⟨_,he,hq⟩ <;> cases he;exact .inr ⟨_,rfl,hq⟩)
theorem q_2 {σ ρ:Type}{step:σ->Option (Out σ ρ)}{c:Code}{b n:Nat}{res:Sum σ ρ}(I:σ->Act->World->Prop)(D:σ->Act->World->Prop)(Qr:ρ->Exit->Act->World->Prop)
  (hround:∀s a w o,I s a w->step s=some o->c.wp P (Exit.then (λa' w'=>∃s',o = .next s'/\I s' a' w')<|QO b D Qr o) a w)
  {s:σ} {a:Act} {w:World} (hm:F_ step n s=some res) (G:I s a w):(Code.loop c).wp P (Exit.then noK<|QL b D Qr res) a w:=by
 refine wp_loop_ghost (λm a w=>∃s,F_ step m s=some res/\I s a w) n ⟨s,hm,G⟩ ?_
 clear hm G
 rintro m a w ⟨s,hm,hI⟩
 cases m with
 | zero=>cases hm
 | succ m =>
  simp only [F_] at hm
  split at hm
  .grind
  .rename_i s' hb
   refine Code.wp_mono (λex a' w' q=>?_)<|hround s a w _ hI hb
   grind [Exit.then,QO]
  .rename_i s' hb
   simp only [QAJ] at hm
   subst hm;refine Code.wp_mono (λex a' w' q=>?_)<|hround s a w _ hI hb
   cases ex <;> simp only [Exit.then,QO] at q ⊢ <;> first
    | grind
    | (rcases q with ⟨hx,_,he,hd⟩ | ⟨_,he,_⟩ <;> cases he;exact .inl ⟨hx,_,rfl,hd⟩)
  .rename_i r hb
   simp only [QAJ] at hm
   subst hm;refine Code.wp_mono (λex a' w' q=>?_)<|hround s a w _ hI hb
   cases ex <;> simp only [Exit.then,QO] at q ⊢ <;> first
    | grind
    | (rcases q with ⟨_,_,he,_⟩ | ⟨_,he,hq⟩ <;> cases he;exact .inr ⟨_,rfl,hq⟩)
theorem h_7 {σ ρ:Type}{N:Nat}{e:Env}{w:World}{K:Act->World->Prop}{Q:Exit->Act->World->Prop}{body:Nat->σ->Option (Out σ ρ)}{c:Code}{b n:Nat}{res:Sum σ ρ}(I:Nat->σ->Act->World->Prop)(D:σ->Act->World->Prop)(Qr:ρ->Exit->Act->World->Prop)
  {s:σ} (hm:k_ body n 0 s=some res) (G:AtK N (λa w=>I 0 s a w) e w)
  (hround:∀k s a w o,k<n->I k s a w->body k s=some o->c.wp P (Exit.then (λa' w'=>∃s',o = .next s'/\I (k+1) s' a' w')<|QO b D Qr o) a w)
  (hlast:∀s a w,I n s a w->c.wp P (Exit.then noK<|λex a' w'=>ex = .exit b/\D s a' w') a w)
  (hD:∀s a w,res = .inl s->D s a w->K a w) (hR:∀r ex a w,res = .inr r->Qr r ex a w->Q ex a w/\ex = .ret):WC P N (.block b<|.loop c) K Q e w :=
 c_S λa ha=>Code.wp_mono (λex a' w' q=>by
  cases ex with
  | normal=>exact (show False from q).elim
  | _ =>
   rcases q with ⟨hx,s',he,hd⟩ | ⟨r,he,hq⟩
   .grind [Exit.then,inB]
   .obtain ⟨h1,h2⟩:=hR r _ a' w' he hq
    first
     | (cases h2;exact h1)
     | cases h2) (v_9 I D Qr hround hlast hm (G a ha))
theorem b_6 {σ ρ:Type}{N:Nat}{e:Env}{w:World}{K:Act->World->Prop}{Q:Exit->Act->World->Prop}{step:σ->Option (Out σ ρ)}{c:Code}{b n:Nat}{res:Sum σ ρ}(I:σ->Act->World->Prop)(D:σ->Act->World->Prop)(Qr:ρ->Exit->Act->World->Prop)
  {s:σ} (hm:F_ step n s=some res) (G:AtK N (λa w=>I s a w) e w)
  (hround:∀s a w o,I s a w->step s=some o->c.wp P (Exit.then (λa' w'=>∃s',o = .next s'/\I s' a' w')<|QO b D Qr o) a w)
  (hD:∀s a w,res = .inl s->D s a w->K a w) (hR:∀r ex a w,res = .inr r->Qr r ex a w->Q ex a w/\ex = .ret):WC P N (.block b<|.loop c) K Q e w :=
 c_S λa ha=>Code.wp_mono (λex a' w' q=>by
  cases ex with
  | normal=>exact (show False from q).elim
  | _ =>
   rcases q with ⟨hx,s',he,hd⟩ | ⟨r,he,hq⟩
   .grind [Exit.then,inB]
   .obtain ⟨h1,h2⟩:=hR r _ a' w' he hq
    first
     | (cases h2;exact h1)
     | cases h2) (q_2 I D Qr hround hm (G a ha))
end
end Go.Vw
namespace Go.Vw
open Go.RowKit Dat
def bd {α β:Type}(o:Option α)(f:α->Option β):Option β:=match o with
 | none=>none
 | some a=>f a
def bd2 {α β γ:Type}(o:Option (α×β))(f:α->β->Option γ):Option γ:=match o with
 | none=>none
 | some (a,b)=>f a b
def bd3 {α β γ δ:Type}(o:Option (α×β×γ))(f:α->β->γ->Option δ):Option δ:=match o with
 | none=>none
 | some (a,b,c)=>f a b c
def bd4 {α β γ δ ε:Type}(o:Option (α×β×γ×δ))(f:α->β->γ->δ->Option ε):Option ε:=match o with
 | none=>none
 | some (a,b,c,d)=>f a b c d
def bd5 {α β γ δ ε ζ:Type}(o:Option (α×β×γ×δ×ε))(f:α->β->γ->δ->ε->Option ζ):Option ζ:=match o with
 | none=>none
 | some (a,b,c,d,e)=>f a b c d e
def bd6 {α β γ δ ε ζ η:Type}(o:Option (α×β×γ×δ×ε×ζ))(f:α->β->γ->δ->ε->ζ->Option η):Option η:=match o with
 | none=>none
 | some (a,b,c,d,e,g)=>f a b c d e g
def el {σ ρ β:Type}(f:σ->Option β)(g:ρ->Option β):Sum σ ρ->Option β
 | .inl s=>f s
 | .inr r=>g r
@[reducible] def un2 {α β δ:Type} (f:α->β->δ):α×β->δ | (a,b)=>f a b
@[reducible] def un3 {α β γ δ:Type} (f:α->β->γ->δ):α×β×γ->δ | (a,b,c)=>f a b c
@[reducible] def un4 {α β γ ε δ:Type} (f:α->β->γ->ε->δ):α×β×γ×ε->δ | (a,b,c,d)=>f a b c d
@[reducible] def un5 {α β γ ε ζ δ:Type} (f:α->β->γ->ε->ζ->δ):α×β×γ×ε×ζ->δ | (a,b,c,d,e)=>f a b c d e
@[reducible] def un6 {α β γ ε ζ η δ:Type} (f:α->β->γ->ε->ζ->η->δ):α×β×γ×ε×ζ×η->δ | (a,b,c,d,e,g)=>f a b c d e g
def idx {α:Type}(l:List α)(i:Int):Option α:=if 0<=i then l[i.toNat]? else none
def slc {α:Type}(l:List α)(a b:Int):Option (List α):=if 0<=a/\a<=b/\b<=l.length then some ((l.take b.toNat).drop a.toNat) else none
def c_2 (s:Str)(a b:Int):Option Str:=(slc s.b a b).map Str.mk
def psh {α:Type}(l:List α)(x:α):Option (List α):=if l.length<LIM then some (l++[x]) else none
def app {α:Type}(l m:List α):Option (List α):=if l.length+m.length<=LIM then some (l++m) else none
def cat (s t:Str):Option Str:=if s.b.length+t.b.length<=LIM then some ⟨s.b++t.b⟩ else none
def upd {α:Type}(l:List α)(i:Int)(x:α):Option (List α):=if 0<=i/\i<l.length then some (l.set i.toNat x) else none
def mk0 {α:Type}(z:α)(n:Int):Option (List α):=if 0<=n/\n<=LIM then some (List.replicate n.toNat z) else none
def nz (y:Int):Option Unit:=if y=0 then none else some ()
def nn (y:Int):Option Unit:=if 0<=y then some () else none
section
variable {α β γ δ ε:Type}
theorem bdS {o:Option α}{f:α->Option β}{r:β}(h:bd o f=some r):∃a,o=some a/\f a=some r:=by
 cases o with
 | none=>cases h
 | some a=>exact ⟨a,rfl,h⟩
theorem V_ {o:Option (α×β)}{f:α->β->Option γ}{r:γ}(h:bd2 o f=some r):∃a b,o=some (a,b)/\f a b=some r:=by
 cases o with
 | none=>cases h
 | some x=>exact ⟨x.1,x.2,rfl,h⟩
theorem N_ {o:Option (α×β×γ)}{f:α->β->γ->Option δ}{r:δ}(h:bd3 o f=some r):∃a b c,o=some (a,b,c)/\f a b c=some r:=by
 cases o with
 | none=>cases h
 | some x=>exact ⟨x.1,x.2.1,x.2.2,rfl,h⟩
theorem ifT {c:Bool}{x y z:α}(h:(if c then x else y)=z)(hc:c=true):x=z:=by grind
theorem ifF {c:Bool}{x y z:α}(h:(if c then x else y)=z)(hc:c=false):y=z:=by grind
theorem elL {σ ρ β:Type}{f:σ->Option β}{g:ρ->Option β}{s:σ}{r:β}(h:el f g (.inl s)=some r):f s=some r:=h
theorem elR {σ ρ β:Type}{f:σ->Option β}{g:ρ->Option β}{s:ρ}{r:β}(h:el f g (.inr s)=some r):g s=some r:=h
theorem som {a b:α}(h:some a=some b):a=b:=QAS h
@[simp] theorem a_ (a:α) (f:α->Option β):bd (some a) f=f a:=rfl
@[simp] theorem bd_none (f:α->Option β):bd none f=none:=rfl
@[simp] theorem a_b (a:α) (b:β) (f:α->β->Option γ):bd2 (some (a,b)) f=f a b:=rfl
@[simp] theorem bd2_none (f:α->β->Option γ):bd2 none f=none:=rfl
@[simp] theorem a_E (a:α) (b:β) (c:γ) (f:α->β->γ->Option δ):bd3 (some (a,b,c)) f=f a b c:=rfl
@[simp] theorem bd3_none (f:α->β->γ->Option δ):bd3 none f=none:=rfl
@[simp] theorem bd4_some (a:α) (b:β) (c:γ) (d:δ) (f:α->β->γ->δ->Option ε):bd4 (some (a,b,c,d)) f=f a b c d:=rfl
@[simp] theorem bd5_some {ζ:Type} (a:α) (b:β) (c:γ) (d:δ) (e:ε) (f:α->β->γ->δ->ε->Option ζ):bd5 (some (a,b,c,d,e)) f=f a b c d e:=rfl
@[simp] theorem bd6_some {ζ η:Type} (a:α) (b:β) (c:γ) (d:δ) (e:ε) (g:ζ) (f:α->β->γ->δ->ε->ζ->Option η):bd6 (some (a,b,c,d,e,g)) f=f a b c d e g:=rfl
@[simp] theorem bd4_none (f:α->β->γ->δ->Option ε):bd4 none f=none:=rfl
@[simp] theorem W_ {σ ρ β:Type} (f:σ->Option β) (g:ρ->Option β) (s:σ):el f g (.inl s)=f s:=rfl
@[simp] theorem d_Y {σ ρ β:Type} (f:σ->Option β) (g:ρ->Option β) (r:ρ):el f g (.inr r)=g r:=rfl
@[simp] theorem un2_mk {α β δ:Type} (f:α->β->δ) (a:α) (b:β):un2 f (a,b)=f a b:=rfl
@[simp] theorem un3_mk {α β γ δ:Type} (f:α->β->γ->δ) (a:α) (b:β) (c:γ):un3 f (a,b,c)=f a b c:=rfl
@[simp] theorem un4_mk {α β γ ε δ:Type} (f:α->β->γ->ε->δ) (a:α) (b:β) (c:γ) (d:ε):un4 f (a,b,c,d)=f a b c d:=rfl
@[simp] theorem un5_mk {α β γ ε ζ δ:Type} (f:α->β->γ->ε->ζ->δ) (a:α) (b:β) (c:γ) (d:ε) (e:ζ):un5 f (a,b,c,d,e)=f a b c d e:=rfl
@[simp] theorem un6_mk {α β γ ε ζ η δ:Type} (f:α->β->γ->ε->ζ->η->δ) (a:α) (b:β) (c:γ) (d:ε) (e:ζ) (g:η):un6 f (a,b,c,d,e,g)=f a b c d e g:=rfl
end
theorem a_k {α:Type}{l:List α}{i:Int}{x:α}(h:idx l i=some x):0<=i/\l[i.toNat]? = some x/\i<l.length:=by
 grind [idx]
theorem n_j {α:Type}(l:List α)(k:Nat):idx l (k:Int)=l[k]? := by rfl
theorem h_X (x:Int):inI (IntKind.i64.wrap x):=by grind [inI,IntKind.wrap_i64]
theorem g_Q (x y:Int):inI (e_ x y):=h_X _
theorem g_R (x y:Int):inI (w_ x y):=h_X _
theorem p_P (x y:Int):inI (c_V x y):=h_X _
theorem u_u (x:Int):inI (i_1 x):=h_X _
theorem c_3 {n:Nat}(h:n<=LEN):inI (n:Int):=by grind [inI,u_]
theorem n_k {x y:Int}(h:inI x):inI (b_7 x y):=by
 unfold b_7 inI at *
 have h3:=Int.natAbs_tmod x y;have h4:(x.tmod y).natAbs<=x.natAbs:=by simp_all [Nat.mod_le]
 rcases Int.le_total 0 x with G | G
 .omega
 .have h1:=Int.tmod_nonneg y (show 0 <= -x by omega)
  grind [Int.neg_tmod]
theorem g_S:LIM<=LEN:=by decide
theorem u_v (c:UInt8):IntKind.i64.wrap (b_ c)=b_ c:=by
 rw [IntKind.wrap_i64];have:=c.toNat_lt;grind
theorem iinc {k n:Nat}(h:k<n)(hn:n<=9223372036854775807):e_ (k:Int) 1=((k+1:Nat):Int):=by
 grind [e_,u_,IntKind.wrap_i64]
theorem J_ {k n:Nat}(hk:k<n)(hc:decide ((k:Int)<(n:Int))=false):False:=by
 grind
theorem K_ {n:Nat}(hc:decide ((n:Int)<(n:Int))=true):False:=by
 grind
section
variable {P:Program}{N:Nat}{ops:Array Oper}{K:Act->World->Prop}{Q:Exit->Act->World->Prop}{e:Env}{w:World}{rest:List Oper}{T:Nat}{p:a_C}{X:Nat->Prop}
variable {d:Nat}{op:Op}{ty:TypeId}{pos:String}{aft:Array Edge}
theorem R {v:Value}(hf:Nat.blt d N=true)(h:Rd noX P N ⟨some d,op,ty,pos,aft,none⟩ e w v)(k:WL P N ops K Q rest ((d,v)::e) w):WL P N ops K Q (⟨some d,op,ty,pos,aft,none⟩::rest) e w:=WL_rd rfl hf h k
theorem E {S:Value->World->Prop}(hf:Nat.blt d N=true)(h:Ef P N ⟨some d,op,ty,pos,aft,none⟩ e w S)(k:∀v w',S v w'->WL P N ops K Q rest ((d,v)::e) w'):WL P N ops K Q (⟨some d,op,ty,pos,aft,none⟩::rest) e w:=WL_ef rfl hf h k
theorem E0 {S:Value->World->Prop}(h:Ef P N ⟨none,op,ty,pos,aft,none⟩ e w S)(k:∀v w',S v w'->WL P N ops K Q rest e w'):WL P N ops K Q (⟨none,op,ty,pos,aft,none⟩::rest) e w:=WL_ef rfl rfl h k
section guards
variable {j gd:Nat}{want b:Bool}
theorem Rg {v:Value}(hj:(ops[j]?).bind (·.dst)=some gd)(hb:t_ e gd=some (.bool b))(hw:b=want)(hf:Nat.blt d N=true)(h:Rd noX P N ⟨some d,op,ty,pos,aft,some (j,want)⟩ e w v)(k:WL P N ops K Q rest ((d,v)::e) w):WL P N ops K Q (⟨some d,op,ty,pos,aft,some (j,want)⟩::rest) e w :=
 t_Y rfl hj (hw ▸ hb) hf h k
theorem Eg {S:Value->World->Prop}(hj:(ops[j]?).bind (·.dst)=some gd)(hb:t_ e gd=some (.bool b))(hw:b=want)(hf:Nat.blt d N=true)(h:Ef P N ⟨some d,op,ty,pos,aft,some (j,want)⟩ e w S)(k:∀v w',S v w'->WL P N ops K Q rest ((d,v)::e) w'):WL P N ops K Q (⟨some d,op,ty,pos,aft,some (j,want)⟩::rest) e w :=
 t_Z rfl hj (hw ▸ hb) hf h k
theorem Ng (hj:(ops[j]?).bind (·.dst)=some gd)(hb:t_ e gd=some (.bool b))(hw:b = !want)(hf:Nat.blt d N=true)(k:WL P N ops K Q rest ((d,undef)::e) w):WL P N ops K Q (⟨some d,op,ty,pos,aft,some (j,want)⟩::rest) e w :=
 u_0 rfl hj (hw ▸ hb) hf k
theorem Nu (hj:(ops[j]?).bind (·.dst)=some gd)(hb:t_ e gd=some undef)(hf:Nat.blt d N=true)(k:WL P N ops K Q rest ((d,undef)::e) w):WL P N ops K Q (⟨some d,op,ty,pos,aft,some (j,want)⟩::rest) e w :=
 u_1 rfl hj hb hf k
end guards
theorem dR {i:Nat}{v:Value}(ho:ops[i]? = some ⟨some d,op,ty,pos,aft,none⟩)(hf:Nat.blt d N=true)(h:Rd X P N ⟨some d,op,ty,pos,aft,none⟩ e w v)(k:PR X P N ops T K p ((d,v)::e) w):PR X P N ops T K (.rd i p) e w:=PR_rd ho rfl hf h k
theorem dE {i:Nat}{S:Value->World->Prop}(ho:ops[i]? = some ⟨some d,op,ty,pos,aft,none⟩)(hf:Nat.blt d N=true)(h:Ef P N ⟨some d,op,ty,pos,aft,none⟩ e w S)(hT:T.testBit i=true∨∀v w',S v w'->Chg X w w')(k:∀v w',S v w'->PR X P N ops T K p ((d,v)::e) w'):PR X P N ops T K (.ef i p) e w:=PR_ef ho rfl hf h hT k
theorem dE0 {i:Nat}{S:Value->World->Prop}(ho:ops[i]? = some ⟨none,op,ty,pos,aft,none⟩)(h:Ef P N ⟨none,op,ty,pos,aft,none⟩ e w S)(hT:T.testBit i=true∨∀v w',S v w'->Chg X w w')(k:∀v w',S v w'->PR X P N ops T K p e w'):PR X P N ops T K (.ef i p) e w:=PR_ef ho rfl rfl h hT k
section guards
variable {i j gd:Nat}{want b:Bool}
theorem dRg {v:Value}(ho:ops[i]? = some ⟨some d,op,ty,pos,aft,some (j,want)⟩)(hj:(ops[j]?).bind (·.dst)=some gd)(hb:t_ e gd=some (.bool b))(hw:b=want)(hf:Nat.blt d N=true)(h:Rd X P N ⟨some d,op,ty,pos,aft,some (j,want)⟩ e w v)(k:PR X P N ops T K p ((d,v)::e) w):PR X P N ops T K (.rd i p) e w :=
 u_8 ho rfl hj (hw ▸ hb) hf h k
theorem dRn (ho:ops[i]? = some ⟨some d,op,ty,pos,aft,some (j,want)⟩)(hj:(ops[j]?).bind (·.dst)=some gd)(hb:t_ e gd=some (.bool b))(hw:b = !want)(hf:Nat.blt d N=true)(k:PR X P N ops T K p ((d,undef)::e) w):PR X P N ops T K (.rd i p) e w :=
 u_9 ho rfl hj (hw ▸ hb) hf k
theorem dRu (ho:ops[i]? = some ⟨some d,op,ty,pos,aft,some (j,want)⟩)(hj:(ops[j]?).bind (·.dst)=some gd)(hb:t_ e gd=some undef)(hf:Nat.blt d N=true)(k:PR X P N ops T K p ((d,undef)::e) w):PR X P N ops T K (.rd i p) e w :=
 u_a ho rfl hj hb hf k
theorem dEg {S:Value->World->Prop}(ho:ops[i]? = some ⟨some d,op,ty,pos,aft,some (j,want)⟩)(hj:(ops[j]?).bind (·.dst)=some gd)(hb:t_ e gd=some (.bool b))(hw:b=want)(hf:Nat.blt d N=true)(h:Ef P N ⟨some d,op,ty,pos,aft,some (j,want)⟩ e w S)(hT:T.testBit i=true∨∀v w',S v w'->Chg X w w')(k:∀v w',S v w'->PR X P N ops T K p ((d,v)::e) w'):PR X P N ops T K (.ef i p) e w :=
 u_b ho rfl hj (hw ▸ hb) hf h hT k
theorem dEn (ho:ops[i]? = some ⟨some d,op,ty,pos,aft,some (j,want)⟩)(hj:(ops[j]?).bind (·.dst)=some gd)(hb:t_ e gd=some (.bool b))(hw:b = !want)(hf:Nat.blt d N=true)(k:PR X P N ops T K p ((d,undef)::e) w):PR X P N ops T K (.ef i p) e w :=
 u_c ho rfl hj (hw ▸ hb) hf k
theorem dEu (ho:ops[i]? = some ⟨some d,op,ty,pos,aft,some (j,want)⟩)(hj:(ops[j]?).bind (·.dst)=some gd)(hb:t_ e gd=some undef)(hf:Nat.blt d N=true)(k:PR X P N ops T K p ((d,undef)::e) w):PR X P N ops T K (.ef i p) e w :=
 u_d ho rfl hj hb hf k
end guards
theorem g_T {c:Code}{K':Act->World->Prop}(J:Act->World->Prop)(h1:WC P N c J Q e w)(h2:∀a w',J a w'->K' a w'):WC P N c K' Q e w:=t_X h2 (λ_ _ _ h=>h) h1
end
section
variable {α:Type}[Dat α]{w w':World}{B:Zone}{v:Value}{l:List α}{S:List Nat}{X:Nat->Prop}
theorem repS.rep (h:repS w B v l):Dat.rep w B [v] l:=⟨v,rfl,h⟩
theorem repS.of (h:Dat.rep w B [v] l):repS w B v l:=by
 obtain ⟨v',he,h⟩:=h
 grind
theorem repS.ext (h:repS w B v l)(hb:Below w.heap.size w w'):repS w' B v l:=repS.of<|v_b h.rep hb
theorem repS.chg (h:repS w B v l)(hc:Chg X w w')(hx:∀k,B k->¬X k):repS w' B v l:=repS.of<|v_c h.rep hc hx
theorem c_.own (h:c_ w S v l):Dat.own w S [v] l:=⟨v,rfl,h⟩
theorem c_.of (h:Dat.own w S [v] l):c_ w S v l:=by
 obtain ⟨v',he,h⟩:=h
 grind
theorem c_.ext (h:c_ w S v l)(hb:Below w.heap.size w w'):c_ w' S v l:=c_.of<|j_j h.own hb
theorem c_.chg (h:c_ w S v l)(hc:Chg X w w')(hx:∀k∈S,¬X k):c_ w' S v l:=c_.of<|f_V h.own hc hx
theorem c_.lt (h:c_ w S v l):∀k∈S,k<w.heap.size:=own_lt h.own
theorem c_.rep (h:c_ w S v l):repS w w.heap.size v l:=repS.of<|own_rep' h.own
theorem c_.len (h:c_ w S v l):l.length<=LEN:=by
 rcases h with ⟨_,rfl,_⟩ | ⟨g,c,cur,Ss,_,_,h3,_⟩
 .simp
 omega
theorem repS.len (h:repS w B v l):l.length<=LEN:=by obtain ⟨ao,c,_,_,h,_⟩:=h;exact h
theorem c_.shape (h:c_ w S v l):∃ao c,v = .slice ao l.length c:=by
 rcases h with ⟨rfl,rfl,_⟩ | ⟨g,c,cur,Ss,rfl,_⟩
 .simp
 simp
theorem repS.shape (h:repS w B v l):∃ao c,v = .slice ao l.length c:=by obtain ⟨ao,c,h,_⟩:=h;grind
theorem repS.at {ao:Option Addr}{c n:Nat}{i:Int}{x:α}(h:repS w B (.slice ao n c) l)(hx:idx l i=some x):∃b o cs,ao=some ⟨b,o,none⟩/\0<=i/\i<(n:Int)/\r_ w b (o+i.toNat * sz α) cs/\Dat.rep w B cs x:=by
 obtain ⟨G,h1,h2⟩:=a_k hx;obtain ⟨ao',c',he,_,_,hn,hp⟩:=h
 simp only [Value.slice.injEq] at he
 obtain ⟨rfl,rfl,rfl⟩:=he
 cases ao with
 | none=>grind
 | some p =>
  obtain ⟨H,_,k3⟩:=hp p rfl;have k1:=H (by grind);obtain ⟨cs,g1,I⟩:=k3 _ _ h1;exact ⟨p.block,p.off,cs,by cases p;simp_all,G,h2,g1,I⟩
end
theorem r_.ext {w w':World}{b o:Nat}{cs:List Value}(h:r_ w b o cs)(hb:Below w.heap.size w w'):r_ w' b o cs:=λj v hv=>(hb.cell<|World.block_lt_of_cell? w _<|h j v hv).trans (h j v hv)
theorem r_.chg {X:Nat->Prop}{w w':World}{b o:Nat}{cs:List Value}(h:r_ w b o cs)(hc:Chg X w w')(hx:¬X b):r_ w' b o cs:=λj v hv=>by
 have:=h j v hv
 rw [← this]
 exact World.cell?_of_block (w:=w)<|hc.block b (World.block_lt_of_cell? w _ this) hx
theorem r_.at {w:World}{b o j:Nat}{cs:List Value}{v:Value}(h:r_ w b o cs)(hv:cs[j]? = some v):w.cell? ⟨b,o+j,none⟩=some v:=h j v hv
theorem r_.sub {w:World}{b o j n:Nat}{cs vs:List Value}(h:r_ w b o cs)(hv:(cs.drop j).take n=vs):r_ w b (o+j) vs:=by
 subst hv;intro i v hi
 rw [List.getElem?_take] at hi
 split at hi
 .rw [List.getElem?_drop] at hi
  have:=h _ _ hi
  grind
 grind
theorem Blk.at {w:World}{g i:Nat}{l:List Value}{v:Value}(h:Blk w g l)(hv:l[i]? = some v):w.cell? ⟨g,i,none⟩=some v:=by rw [h.cell,hv]
theorem Blk.row {w:World}{g:Nat}{l:List Value}(h:Blk w g l)(o n:Nat){vs:List Value}(hv:(l.drop o).take n=vs):r_ w g o vs:=by subst hv;exact h.cells o n
theorem Blk.all {w:World}{g:Nat}{l:List Value}(h:Blk w g l):r_ w g 0 l:=λj v hv=>by rw [QAp,h.cell];omega
theorem Chg.comp {X Y:Nat->Prop}{a b c:World}(h:Chg X a b)(h':Chg Y b c)(hy:∀k,k<a.heap.size->Y k->X k):Chg X a c :=
 ⟨h'.os.trans h.os,h'.tape.trans h.tape,h'.output.trans h.output,QAG h.size h'.size,λk hk hx=>(h'.block k (QAC hk h.size)<|λy=>hx<|hy k hk y).trans (h.block k hk hx)⟩
theorem Chg.ext {X:Nat->Prop}{a b c:World}(h:Chg X a b)(h':Below b.heap.size b c):Chg X a c:=h.comp (Vw.Below.chg h'<|λ_=>False)<|λ_ _=>False.elim
theorem bup {a b c:World}(h:Below a.heap.size a b)(h':Below b.heap.size b c):Below a.heap.size a c:=h.trans<|h'.mono h.size
theorem c_I {X:Nat->Prop}{a b c:World}(h:Below a.heap.size a b)(h':Chg X b c)(hx:∀k,k<a.heap.size->¬X k):Below a.heap.size a c:=h.trans<|h'.below h.size hx
theorem f_0 (a:World):Below a.heap.size a a:=Below.refl _ _
end Go.Vw
namespace Go.Vw
open Go.RowKit Dat
theorem g_U (c:UInt8):b_ c<256:=by have:=c.toNat_lt;grind
theorem l_m (c:UInt8):0<=b_ c:=by simp
def mkB (x:Int):UInt8:=UInt8.ofNat (IntKind.u8.wrap x).toNat
theorem n_l (x:Int):b_ (mkB x)=IntKind.u8.wrap x:=by
 unfold b_ mkB
 grind [UInt8.toNat_ofNat',IntKind.wrap_u8]
theorem d_z (c:UInt8):inI (b_ c):=by unfold inI;have:=g_U c;grind
theorem inI_of (x:Int)(h:(decide (-9223372036854775808<=x) && decide (x<=9223372036854775807))=true):inI x:=by
 simp at h;exact h
section
variable {X:Nat->Prop}{P:Program}{N:Nat}{e:Env}{w:World}{dst:Option Tmp}{ty:TypeId}{pos:String}{aft:Array Edge}{gd:Option (Nat×Bool)}{x y z:Operand}{T T':Nat}
theorem c_c {S D:Nat}{k:IntKind}{p:Int}{d:TypeDesc}(hS:P.underlying S=some d)(hD:P.underlying D=some (.int .u8))(h:ev e x=some (.int k p)):Rd X P N ⟨dst,.convert S D x,ty,pos,aft,gd⟩ e w (vU<|b_<|mkB p):=by
 grind [q_4,n_l]
theorem b_n {S D:Nat}{c:UInt8}{d:TypeDesc}(hS:P.underlying S=some d)(hD:P.underlying D=some (.int .i64))(h:ev e x=some (vU<|b_ c)):Rd X P N ⟨dst,.convert S D x,ty,pos,aft,gd⟩ e w (vI<|b_ c):=by
 grind [u_v,q_4]
theorem p_Q {p q:Int}(h1:ev e x=some (vU p))(h2:ev e y=some (vU q)):Rd X P N ⟨dst,.binOp .sub T x y T',ty,pos,aft,gd⟩ e w (vU<|b_<|mkB<|p - q):=by
 rw [n_l];exact v_g h1 h2
theorem f_1 {k n:Nat}(hk:k<n)(hn:n<=9223372036854775807)(h1:ev e x=some (vI (k:Int)))(h2:ev e y=some (vI 1)):Rd X P N ⟨dst,.binOp .add T x y T',ty,pos,aft,gd⟩ e w (vI ((k+1:Nat):Int)):=by
 grind [f_Z,iinc]
end
section
variable {w:World}{B:Zone}{S:List Nat}{cs:List Value}
theorem a_z {x:Int}(h:rep w B cs x):cs=[vI x]/\inI x:=by obtain ⟨v,rfl,rfl,h⟩:=h;grind
theorem f_2 {x:Bool}(h:rep w B cs x):cs=[vB x]:=by obtain ⟨v,rfl,rfl⟩:=h;rfl
theorem f_I {x:UInt8}(h:rep w B cs x):cs=[vU (b_ x)]:=by obtain ⟨v,rfl,rfl⟩:=h;rfl
theorem a_e {x:Str}(h:rep w B cs x):cs=[x.v]/\x.b.length<=LEN:=by obtain ⟨v,rfl,rfl,h⟩:=h;grind
theorem u_w {α:Type}[Dat α]{l:List α}(h:rep w B cs l):∃ao c,cs=[.slice ao l.length c]/\repS w B (.slice ao l.length c) l:=by
 obtain ⟨v,rfl,h⟩:=h;obtain ⟨ao,c,rfl⟩:=repS.shape h
 grind
theorem Int_mk {x:Int}(h:inI x):rep w B [vI x] x:=⟨_,rfl,rfl,h⟩
theorem Str_mk {x:Str}(h:x.b.length<=LEN):rep w B [x.v] x:=⟨_,rfl,rfl,h⟩
theorem d_d {x:Int}(h:inI x):own w [] [vI x] x:=⟨rfl,_,rfl,rfl,h⟩
theorem b_U {x:Bool}:own w [] [vB x] x:=⟨rfl,_,rfl,rfl⟩
theorem b_o {x:UInt8}:own w [] [vU (b_ x)] x:=⟨rfl,_,rfl,rfl⟩
theorem b_c {x:Str}(h:x.b.length<=LEN):own w [] [x.v] x:=⟨rfl,_,rfl,rfl,h⟩
end
theorem d_Z {α β:Type}[Dat α][Dat β]{w:World}{B:Zone}{c d:List Value}{x:α}{y:β}(h1:rep w B c x)(h2:rep w B d y):rep w B (c++d) (x,y):=⟨c,d,rfl,h1,h2⟩
theorem d_e {α β:Type}[Dat α][Dat β]{w:World}{S1 S2:List Nat}{c d:List Value}{x:α}{y:β}(h1:own w S1 c x)(h2:own w S2 d y):own w (S1++S2) (c++d) (x,y):=⟨c,d,S1,S2,rfl,rfl,h1,h2⟩
theorem n_m {α:Type}[Dat α](w:World):c_ w [] (.slice none 0 0) ([]:List α):=.inl ⟨rfl,rfl,rfl⟩
theorem u_x {α:Type}[Dat α]{w w':World}(h:New w w' []):c_ w' [w.heap.size] (.slice (some ⟨w.heap.size,0,none⟩) 0 0) ([]:List α) :=
 .inr ⟨w.heap.size,0,[],[],rfl,QAB _,QAI _,h.blk,by simp,rfl,rfl,λi x Si hx=>by simp⟩
theorem b_1 {l:List Value}(h:l.all Value.oneCell'=true):∀u∈l,u.oneCell'=true:=λu hu=>QAz.1 h u hu
theorem b_d {α:Type}[Dat α]{w w':World}{cs:List Value}{Si:List Nat}{x:α}(h:New w w' cs)(ho:own w Si cs x):c_ w' (w.heap.size::Si) (.slice (some ⟨w.heap.size,0,none⟩) 1 1) [x]:=by
 have hl:=rep_len<|own_rep' ho;refine .inr ⟨w.heap.size,1,cs,[Si],rfl,QAB _,by simp [LEN],h.blk,by omega,by simp,rfl,λi y Sj hy hS=>?_⟩
 cases i with
 | zero =>
  simp at hy hS
  subst hy hS;have:=l_u cs _ hl;unfold a_2 at this
  rw [this]
  exact j_j ho h.below
 | succ i=>grind
theorem pshS {α:Type}{l:List α}{x:α}{m:List α}(h:psh l x=some m):m=l++[x]/\l.length<LIM:=by
 grind [psh]
theorem appS {α:Type}{l x m:List α}(h:app l x=some m):m=l++x/\l.length+x.length<=LIM:=by
 grind [app]
theorem catS {s t u:Str}(h:cat s t=some u):u=⟨s.b++t.b⟩/\s.b.length+t.b.length<=LEN:=by
 grind [cat,Option.some.inj,Nat.le_trans,g_S]
theorem b_p {s t u:Str}(h:cat s t=some u):u.b.length<=LEN:=by
 obtain ⟨rfl,h'⟩:=catS h;grind
theorem l_n {n b:Nat}(h:n<=LIM)(hb:Nat.ble b 32768=true):n * b<=140737488355328:=by
 have h2:b<=32768:=QAA hb
 calc n * b<=LIM * 32768:=Nat.mul_le_mul h h2
  _=140737488355328:=by decide
section
variable {X:Nat->Prop}{P:Program}{N:Nat}{e:Env}{w:World}{dst:Option Tmp}{ty:TypeId}{pos:String}{aft:Array Edge}{gd:Option (Nat×Bool)}{x y z:Operand}{T T':Nat}
theorem u_y {α:Type}[Dat α]{E bytes:Nat}{zz:Value}(hE:El P T E (sz α) bytes zz){S Si:List Nat}{sv:Value}{l m:List α}{v:α}{g:Nat}{cs:List Value}(hm:psh l v=some m)(hx:ev e x=some sv)(hy:ev e y=some (.slice (some ⟨g,0,none⟩) 1 1))
  (ho:c_ w S sv l) (hN:S.Nodup) (hB:Blk w g cs) (hv:own w Si cs v) (hD:∀k∈Si,k∉S) (hSi:Si.Nodup) :
  Ef P N ⟨dst,.call { callee:=.builtin .append,args:=#[x,y],argTypes:=#[T,T] },ty,pos,aft,gd⟩ e w (λv' w'=>∃S' ao c,v' = .slice ao m.length c/\c_ w' S' (.slice ao m.length c) m/\S'.Nodup/\Chg (· ∈ S) w w'/\(∀k∈S',k∈S∨k∈Si∨k=w.heap.size)):=by
 obtain ⟨rfl,hl⟩:=pshS hm;have hcs:=rep_len<|own_rep' hv
 have h:=p_N (P:=P) (N:=N) (dst:=dst) (ty:=ty) (pos:=pos) (aft:=aft) (gd:=gd) hE hx ho hN (p:=⟨g,0,none⟩) (c':=1) (news:=cs) (xs:=[v]) (Ts:=[Si]) hy rfl (λ_=>rfl) (by grind) hB.all rfl
  (λi a Ti ha hT=>by
   grind [l_u]) (by grind) (by grind) (by grind [g_S]) (l_n (by grind) hE.sm)
 constructor
 intro a ha Q;refine Oper.wp_mono ?_<|h.run a ha Q;rintro a' w' ⟨v',rfl,S',h1,h2,h3,h4⟩;obtain ⟨ao,c,rfl⟩:=c_.shape h1
 grind
theorem u_z {α:Type}[Dat α][a_t α]{E bytes:Nat}{zz:Value}(hE:El P T E (sz α) bytes zz){S:List Nat}{sv:Value}{l m xs:List α}{B:Zone}{G:Nat}{H:Option Addr}(hm:app l xs=some m)(hx:ev e x=some sv)(hy:ev e y=some (.slice H xs.length G))
  (ho:c_ w S sv l) (hN:S.Nodup) (hr:repS w B (.slice H xs.length G) xs) :
  Ef P N ⟨dst,.call { callee:=.builtin .append,args:=#[x,y],argTypes:=#[T,T] },ty,pos,aft,gd⟩ e w (λv' w'=>∃S' ao c,v' = .slice ao m.length c/\c_ w' S' (.slice ao m.length c) m/\S'.Nodup/\Chg (· ∈ S) w w'/\(∀k∈S',k∈S∨k∈([]:List Nat)∨k=w.heap.size)):=by
 obtain ⟨rfl,hl⟩:=appS hm;obtain ⟨ao,c,he,h1,h2,h3,h4⟩:=hr
 simp only [Value.slice.injEq,true_and] at he
 obtain ⟨rfl,rfl⟩:=he
 cases H with
 | none =>
  obtain rfl:=h3 rfl
  constructor
  intro a ha Q;obtain ⟨ao,c,rfl⟩:=c_.shape ho
  have hc:l.length<=c:=by
   rcases ho with ⟨h,rfl,_⟩ | ⟨_,_,_,_,h,hh,_⟩ <;> cases h
   .simp
   omega
  have J:G=G:=rfl;unfold Oper.wp;obtain ⟨i,hi,hz,_,_⟩:=info_parts hE.info
  have hr:(execOp a.eval ⟨dst,.call { callee:=.builtin .append,args:=#[x,y],argTypes:=#[T,T] },ty,pos,aft,gd⟩).run P w = .ok (.value<|.slice ao l.length c) w:=by
   have:(Builtin.append_ #[T,T] ty #[.slice ao l.length c,.slice none 0 G]).run P w = .ok (.slice ao l.length c) w:=by
    cases ao <;> simp [Builtin.append_,run_underlying hE.sl,sizeOf,typeInfo,hi,Builtin.lenOf,Builtin.firstCells,hc,storeCells]
   have hy':a.eval y = .slice none 0 G:=ha.ev hy
   simp [execOp,resolve,invoke,builtin,ha.ev hx,hy',this]
  rw [hr]
  refine ⟨_,rfl,S,ao,c,by simp,by grind,hN,Chg.refl _ _,λk hk=>.inl hk⟩
 | some p =>
  obtain ⟨k1,_,k3⟩:=h4 p rfl;obtain ⟨news,g1,I,L⟩:=q_5 xs k3
  have h:=p_N (P:=P) (N:=N) (dst:=dst) (ty:=ty) (pos:=pos) (aft:=aft) (gd:=gd) hE hx ho hN (p:=p) (c':=G) (news:=news) (xs:=xs) (Ts:=List.replicate xs.length []) hy rfl (λhne=>k1<|λhx=>hne<|QAK (by grind)) g1 I (by simp)
   (λi a Ti ha hT=>by
    grind [a_t.flat]) (by simp) (by simp) (by grind [g_S]) (l_n hl hE.sm)
  constructor
  intro a ha Q;refine Oper.wp_mono ?_<|h.run a ha Q;rintro a' w' ⟨v',rfl,S',h1,h2,h3,h4⟩;obtain ⟨ao,c,rfl⟩:=c_.shape h1;exact ⟨_,rfl,S',ao,c,rfl,h1,h2,h3,by simp_all⟩
def evo (e:Env)(o:Option Operand)(d b:Int):Prop:=match o with
 | none=>b=d
 | some x=>ev e x=some (vI b)
theorem e_u {α:Type}{l m:List α}{a b:Int}(h:slc l a b=some m):0<=a/\a<=b/\b<=l.length/\m=(l.take b.toNat).drop a.toNat:=by
 grind [slc]
theorem n_n {α:Type}{l m:List α}{a b:Int}(h:slc l a b=some m):(m.length:Int)=b - a:=by
 obtain ⟨h1,h2,h3,rfl⟩:=e_u h
 grind
theorem u_A {α:Type}[Dat α]{B:Zone}{n c sz':Nat}{ao:Option Addr}{l m:List α}{a b mx:Int}(hsz:sz'=sz α)(h:repS w B (.slice ao n c) l)(hs:slc l a b=some m)(h1:b<=mx)(h2:mx<=c) :
  repS w B (.slice (if mx.toNat=a.toNat then ao else ao.map (·.add (a.toNat * sz'))) m.length<|mx.toNat - a.toNat) m:=by
 subst hsz;obtain ⟨g1,H,I,rfl⟩:=e_u hs;obtain ⟨ao',c',he,k1,k2,k3,k4⟩:=h
 simp only [Value.slice.injEq] at he
 obtain ⟨rfl,rfl,rfl⟩:=he;refine ⟨_,_,rfl,by grind,by grind,λhn=>?_,λp hp=>?_⟩
 .have:ao=none:=by
   split at hn
   .omega
   simp_all
  grind
 .by_cases hmx:mx.toNat=a.toNat
  .grind
  .rw [QA7 hmx] at hp
   cases ao with
   | none=>grind
   | some q =>
    simp only [Option.map_some,QAJ] at hp
    subst hp;obtain ⟨G,J,L⟩:=k4 q rfl
    by_cases hemp:(l.take b.toNat).drop a.toNat=[]
    .grind
    have j1':=G<|λh=>hemp (by grind);have hq:q=⟨q.block,q.off,none⟩:=by cases q;simp_all
    rw [hq,Addr.add_lit]
    grind
theorem u_B {α:Type}[Dat α]{B:Zone}{E n c sz':Nat}{ao:Option Addr}{l m:List α}{a b:Int}{lo hi:Option Operand}(hT:P.underlying T=some (.slice E))(hs:∀w,(sizeOf E).run P w = .ok sz' w)(hsz:sz'=sz α)(hx:ev e x=some (.slice ao n c))(h:repS w B (.slice ao n c) l)
  (hlo:evo e lo 0 a) (hhi:evo e hi n b) (hm:slc l a b=some m) :
  ∃ao' c',Rd X P N ⟨dst,.slice T x lo hi none,ty,pos,aft,gd⟩ e w (.slice ao' m.length c')/\repS w B (.slice ao' m.length c') m:=by
 obtain ⟨g1,H,I,_⟩:=e_u hm;have hml:=n_n hm;have h':=h;obtain ⟨ao',c',he,k1,k2,k3,k4⟩:=h'
 simp only [Value.slice.injEq] at he
 obtain ⟨rfl,rfl,rfl⟩:=he;refine ⟨_,_,?_,u_A (mx:=(c:Int)) hsz h hm (by omega) (by omega)⟩;intro act ha w' _
 have hsl:(Instr.sliceAt T (.slice ao l.length c) (lo.map act.eval) (hi.map act.eval) none).run P w' = .ok (.slice (if c=a.toNat then ao else ao.map (·.add (a.toNat * sz'))) (b.toNat - a.toNat)<|c - a.toNat) w':=by
  have hb:∀code,(Instr.sliceBound (vI b) c code).run P w' = .ok b.toNat w':=λcode=>run_sliceBound w' .i64 b c code (by omega) (by omega)
  have hal:∀code,(Instr.sliceBound (vI a) b.toNat code).run P w' = .ok a.toNat w':=λcode=>run_sliceBound w' .i64 a b.toNat code g1 (by omega)
  have hbs:(Instr.sliceBounds true l.length c (lo.map act.eval) (hi.map act.eval) none).run P w' = .ok (a.toNat,b.toNat,c) w':=by
   cases lo with
   | none =>
    obtain rfl:a=0:=hlo
    cases hi with
    | none =>
     obtain rfl:b=(l.length:Int):=hhi
     rfl
    | some y=>simp [Instr.sliceBounds,ha.ev hhi,hb]
   | some u =>
    cases hi with
    | none =>
     obtain rfl:b=(l.length:Int):=hhi;have hal':∀code,(Instr.sliceBound (vI a) l.length code).run P w' = .ok a.toNat w':=λcode=>by simp_all
     simp [Instr.sliceBounds,ha.ev hlo,hal']
    | some y=>simp [Instr.sliceBounds,ha.ev hlo,ha.ev hhi,hb,hal]
  simp_all [Instr.sliceAt,Instr.slice,run_underlying]
 have hmm:b.toNat - a.toNat=m.length:=by omega
 have G:((c:Int)).toNat=c:=by simp
 simp only [execOp,ha.ev hx,QB_,Sem.run_bind,hsl,Result.andThen_ok,hmm,G]
 rfl
structure b_H (P:Program)(T:Nat)(zs:List Value)(places:List (Nat×Nat)):Prop where
 zero:∀w,(zeroValue T).run P w = .ok (.agg zs.toArray) w
 und:∃fs,P.underlying T=some (.struct fs)/\∀w,(fs.toList.mapM λf=>Functor.map (Prod.mk f.offset)<|sizeOf f.type).run P w = .ok places w
theorem u_C {zs cs:List Value}{places:List (Nat×Nat)}{parts:Array (Nat×Operand)}{vs:List (Nat×Value)}(hB:b_H P T zs places)(hv:∀a,Sat N e a->(parts.map λ(i,x)=>(i,a.eval x)).toList=vs)(hf:Instr.fill (places.toArray[·]?) zs.toArray vs=some cs.toArray) :
  Rd X P N ⟨dst,.build T parts,ty,pos,aft,gd⟩ e w (.agg cs.toArray):=λa ha w' _=>by
 obtain ⟨fs,hu,hpl⟩:=hB.und
 have h1:(Instr.build T<|parts.map λ(i,x)=>(i,a.eval x)).run P w' = .ok (.agg cs.toArray) w':=by
  unfold Instr.build
  have hp:(fs.mapM λf=>Functor.map (Prod.mk f.offset) (sizeOf f.type):Sem (Array<|Nat×Nat)).run P w' = .ok places.toArray w':=by
   simp_all [Array.mapM_eq_mapM_toList]
  have G:(fs.mapM λf=>do pure (f.offset,← sizeOf f.type):Sem (Array<|Nat×Nat)).run P w' = .ok places.toArray w':=hp
  simp only [Sem.run_bind,hB.zero,Result.andThen_ok,run_underlying hu,Value.cells,G,hv a ha,hf]
  rfl
 simp_all [execOp,Result.andThen_ok]
end
end Go.Vw
namespace Go.Vw
open Go.RowKit Dat
theorem g_V {α:Type}{l m:List α}{i:Int}{x:α}(h:upd l i x=some m):m=l.set i.toNat x/\0<=i/\i<l.length:=by
 grind [upd]
theorem u_D {n i j k:Nat}{l cs:List Value}(hl:l.length=k * n)(hc:cs.length=n)(hi:i<k)(hj:j<k) :
  a_2 n j (l.take (i * n)++cs++l.drop (i * n+n))=if j=i then cs else a_2 n j l:=by
 have h1:(i+1) * n<=k * n:=QAL n hi
 rw [QA2] at h1
 have htk:(l.take<|i * n).length=i * n:=by grind
 have htc:(l.take (i * n)++cs).length=(i+1) * n:=by grind
 by_cases hji:j=i
 .subst hji
  rw [QAd rfl,h_b htc<|Nat.lt_succ_self _,j_m htk<|QAB _,QBC,l_u cs _ hc]
 .rw [QA7 hji]
  by_cases hlt:j<i
  .grind [h_b,n_s]
  .rw [j_m htc (by omega)]
   unfold a_2
   rw [QAo]
   congr 2
   have:j=(i+1)+(j - (i+1)):=by omega
   grind
theorem u_E {α:Type}[Dat α]{w w':World}{S Si:List Nat}{g n c i:Nat}{l:List α}{x:α}{cs:List Value}(ho:c_ w S (.slice (some ⟨g,0,none⟩) n c) l)(hN:S.Nodup)(hi:i<l.length)(hx:own w Si cs x)(hD:∀k∈Si,k∉S)(hSi:Si.Nodup)
  (hB:∀cur,Blk w g cur->Blk w' g (cur.take (i * sz α)++cs++cur.drop (i * sz α+sz α))) (hch:Chg (· = g) w w') :
  ∃S',c_ w' S' (.slice (some ⟨g,0,none⟩) (l.set i x).length c) (l.set i x)/\S'.Nodup/\(∀k∈S',k∈S∨k∈Si):=by
 rcases ho with ⟨h,_⟩ | ⟨g',c',cur,Ss,he,h1,h2,h3,h4,rfl,h6,G⟩
 .cases h
 .simp only [Value.slice.injEq,QAJ,Addr.mk.injEq,and_true] at he
  obtain ⟨rfl,rfl,rfl⟩:=he;have hcs:=rep_len<|own_rep' hx;have hic:i<c:=QAC hi h1;have hle:i * sz α+sz α<=cur.length:=by rw [h4,← QA2];exact QAL _ hic
  obtain ⟨hgn,hfn⟩:=QAq.1 hN;have hgS:∀(j:Nat) Sj,Ss[j]? = some Sj->∀k∈Sj,¬k=g:=λj Sj hSj k hk hk'=>hgn<|hk' ▸ e_x hSj hk
  have hsub:∀k∈List.flatten (Ss.set i Si),k∈List.flatten Ss∨k∈Si:=by
   grind [List.mem_flatten,List.mem_or_eq_of_mem_set,List.mem_flatten]
  refine ⟨g::List.flatten (Ss.set i Si),.inr ⟨g,c,_,Ss.set i Si,rfl,by grind,by grind,hB cur h3,?_,rfl,by grind,?_⟩,?_,?_⟩
  .grind
  .intro j y Sj hy hSj;have hj:j<l.length:=by grind
   show own w' Sj (a_2 (sz α) j _) y
   rw [u_D h4 hcs hic (QAC hj h1)]
   by_cases hji:j=i
   .subst hji
    rw [QAd rfl]
    grind [f_V,List.mem_cons_self,Option.some.injEq,List.getElem?_set_self,List.getElem?_set_self]
   .rw [QA7 hji]
    rw [List.getElem?_set_ne (Ne.symm hji)] at hy hSj
    exact f_V (G j y Sj hy hSj) hch<|hgS j Sj hSj
  .refine QAq.2 ⟨λhm=>?_,?_⟩
   .grind
   .rw [QA8] at *
    rw [QBK] at hfn ⊢
    obtain ⟨I,H⟩:=hfn;refine ⟨λSj hSj=>?_,?_⟩
    .grind
    .rw [QBA] at H ⊢
     intro a b ha hb hab u hu v hv;have ha':a<Ss.length:=by grind
     have hb':b<Ss.length:=by grind
     have notS:∀(j:Nat)(hj:j<Ss.length)(t:Nat),t∈Ss[j]->t∉Si:=λj hj t ht ht'=>hD t ht'<|QAF _<|QAZ.2 ⟨Ss[j],QAU hj,ht⟩
     grind
  grind
theorem c_.blk {α:Type}[Dat α]{w:World}{S:List Nat}{g n c:Nat}{l:List α}(h:c_ w S (.slice (some ⟨g,0,none⟩) n c) l):∃cur,Blk w g cur/\cur.length=c * sz α/\l.length<=c/\g∈S:=by
 rcases h with ⟨h,_⟩ | ⟨g',c',cur,Ss,he,h1,h2,h3,h4,rfl,_⟩
 .cases h
 grind
theorem c_.head {α:Type}[Dat α]{w:World}{S:List Nat}{ao:Option Addr}{n c:Nat}{l:List α}(h:c_ w S (.slice ao n c) l)(hl:0<l.length):∃g,ao=some ⟨g,0,none⟩:=by
 rcases h with ⟨_,rfl,_⟩ | ⟨g',c',cur,Ss,he,_⟩
 .grind
 grind
section
variable {P:Program}{N:Nat}{e:Env}{w:World}{dst:Option Tmp}{ty:TypeId}{pos:String}{aft:Array Edge}{gd:Option (Nat×Bool)}{x y z:Operand}{T T':Nat}
theorem ef_set {α:Type}[Dat α]{S Si:List Nat}{g n c:Nat}{i:Int}{l m:List α}{v:α}{u:Value}{cs:List Value}{sz':Nat}(hs:∀w,(sizeOf T).run P w = .ok sz' w)(hsz:sz'=sz α)(hx:ev e x=some (.pointer<|some ⟨g,0+i.toNat * sz',none⟩))(hy:ev e y=some u)(hu:u.cells.toList=cs)
  (hm:upd l i v=some m) (ho:c_ w S (.slice (some ⟨g,0,none⟩) n c) l) (hN:S.Nodup) (hv:own w Si cs v) (hD:∀k∈Si,k∉S) (hSi:Si.Nodup) :
  Ef P N ⟨none,.store T x y,ty,pos,aft,gd⟩ e w (λ_ w'=>∃S',c_ w' S' (.slice (some ⟨g,0,none⟩) m.length c) m/\S'.Nodup/\Chg (· = g) w w'/\(∀k∈S',k∈S∨k∈Si)):=by
 subst hsz hu;obtain ⟨rfl,G,h1⟩:=g_V hm;obtain ⟨cur,hB,hcl,hlc,_⟩:=ho.blk;have hcs:=rep_len<|own_rep' hv;have hi:i.toNat<l.length:=by omega
 have hle:i.toNat * sz α+sz α<=cur.length:=by rw [hcl,← QA2];exact QAL _<|QAC hi hlc
 have h:=a_U (P:=P) (N:=N) (ty:=ty) (pos:=pos) (aft:=aft) (gd:=gd) hs hx hy hB (by omega) (by omega) (rep_one<|own_rep' hv) rfl
 constructor
 intro a ha Q;refine Oper.wp_mono ?_<|h.run a ha Q;rintro a' w' ⟨v',rfl,hb,hch⟩
 obtain ⟨S',k1,k2,k3⟩:=u_E (i:=i.toNat) (x:=v) (cs:=u.cells.toList) ho hN hi hv hD hSi (λcur' hc'=>by
  obtain rfl:=hB.uniq hc'
  grind) hch
 exact ⟨v',rfl,S',k1,k2,hch,k3⟩
theorem mk0S {α:Type}{z:α}{n:Int}{l:List α}(h:mk0 z n=some l):l=List.replicate n.toNat z/\0<=n/\n<=LIM:=by
 grind [mk0]
theorem u_F {n i k:Nat}{z:Array Value}(hz:z.size=n)(hi:i<k):a_2 n i (madeCells z<|k * n).toList=z.toList:=by
 have h1:(i+1) * n<=k * n:=QAL n hi
 rw [QA2] at h1
 unfold a_2 madeCells
 apply List.ext_getElem?
 intro j
 rw [List.getElem?_take]
 by_cases hj:j<n
 .rw [QAd hj,List.getElem?_drop]
  grind [List.getElem?_range,Array.toList_map,Array.toList_range,Nat.add_comm,Nat.add_mul_mod_self_right,Nat.mod_eq_of_lt]
 grind
theorem u_G {α:Type}[Dat α]{E bytes:Nat}{zz:Value}{n:Int}{l:List α}{G:α}(hE:El P T E (sz α) bytes zz)(hz:∀w,own w [] zz.cells.toList G)(hm:mk0 G n=some l)(hx:ev e x=some (vI n))(hy:ev e y=some (vI n)) :
  Ef P N ⟨dst,.makeSlice T x y,ty,pos,aft,gd⟩ e w (λv w'=>v = .slice (some ⟨w.heap.size,0,none⟩) l.length l.length/\c_ w' [w.heap.size] (.slice (some ⟨w.heap.size,0,none⟩) l.length l.length) l/\Below w.heap.size w w'/\w'.heap.size=w.heap.size+1):=by
 obtain ⟨rfl,H,h1⟩:=mk0S hm
 have hb:(bytes:Int) * n<=281474976710656:=by
  have:=l_n (n:=n.toNat) (by omega) hE.sm
  grind
 have h:=p_M (P:=P) (N:=N) (w:=w) (dst:=dst) (ty:=ty) (pos:=pos) (aft:=aft) (gd:=gd) hE hx hy H (QAx _) hb (by grind [u_,g_S])
 constructor
 intro a ha Q;refine Oper.wp_mono ?_<|h.run a ha Q;rintro a' w' ⟨v',rfl,rfl,hn⟩;refine ⟨_,rfl,by simp,.inr ⟨w.heap.size,n.toNat,_,List.replicate n.toNat [],by simp,by simp,?_,hn.blk,by simp [size_madeCells],?_,by simp,?_⟩,hn.below,hn.size⟩
 .grind [g_S]
 .simp
 .intro i y Si hy hSi;have hi:i<n.toNat:=by grind
  rw [List.getElem?_replicate,QAd hi] at hy hSi
  simp only [QAJ] at hy hSi
  subst hy hSi
  show own w' [] (a_2 (sz α) i _) G
  rw [u_F hE.zlen hi]
  grind
theorem u_H {α:Type}[Dat α]{E bytes:Nat}{zz:Value}{n:Int}(hE:El P T E (sz α) bytes zz)(G:0<=n)(h1:n<=LIM)(hx:ev e x=some (vI 0))(hy:ev e y=some (vI n)) :
  Ef P N ⟨dst,.makeSlice T x y,ty,pos,aft,gd⟩ e w (λv w'=>v = .slice (some ⟨w.heap.size,0,none⟩) 0 n.toNat/\c_ w' [w.heap.size] (.slice (some ⟨w.heap.size,0,none⟩) 0 n.toNat) ([]:List α)/\Below w.heap.size w w'/\w'.heap.size=w.heap.size+1):=by
 have hb:(bytes:Int) * n<=281474976710656:=by
  have:=l_n (n:=n.toNat) (by omega) hE.sm
  grind
 have h:=p_M (P:=P) (N:=N) (w:=w) (dst:=dst) (ty:=ty) (pos:=pos) (aft:=aft) (gd:=gd) hE hx hy (QAx _) G hb (by grind [u_,g_S])
 constructor
 intro a ha Q;refine Oper.wp_mono ?_<|h.run a ha Q;rintro a' w' ⟨v',rfl,rfl,hn⟩;refine ⟨_,rfl,rfl,.inr ⟨w.heap.size,n.toNat,_,[],rfl,QAI _,QAI _,hn.blk,by simp [size_madeCells],rfl,rfl,λi y Si hy=>by simp⟩,hn.below,hn.size⟩
end
end Go.Vw
namespace Go.Vw
open Go.RowKit Dat
section
variable {X:Nat->Prop}{P:Program}{N:Nat}{ops:Array Oper}{K:Act->World->Prop}{Q:Exit->Act->World->Prop}{e:Env}{w:World}{rest:List Oper}{T:Nat}{p:a_C}
variable {d:Nat}{op:Op}{ty:TypeId}{pos:String}{aft:Array Edge}{F:Value->Prop}
theorem RX (hf:Nat.blt d N=true)(h:∃v,Rd noX P N ⟨some d,op,ty,pos,aft,none⟩ e w v/\F v)(k:∀v,F v->WL P N ops K Q rest ((d,v)::e) w):WL P N ops K Q (⟨some d,op,ty,pos,aft,none⟩::rest) e w:=by
 grind [R]
theorem dRX {i:Nat}(ho:ops[i]? = some ⟨some d,op,ty,pos,aft,none⟩)(hf:Nat.blt d N=true)(h:∃v,Rd X P N ⟨some d,op,ty,pos,aft,none⟩ e w v/\F v)(k:∀v,F v->PR X P N ops T K p ((d,v)::e) w):PR X P N ops T K (.rd i p) e w:=by
 grind [dR]
section guards
variable {j gd:Nat}{want b:Bool}
theorem RXg (hj:(ops[j]?).bind (·.dst)=some gd)(hb:t_ e gd=some (.bool b))(hw:b=want)(hf:Nat.blt d N=true)(h:∃v,Rd noX P N ⟨some d,op,ty,pos,aft,some (j,want)⟩ e w v/\F v)(k:∀v,F v->WL P N ops K Q rest ((d,v)::e) w):WL P N ops K Q (⟨some d,op,ty,pos,aft,some (j,want)⟩::rest) e w:=by
 grind [Rg]
theorem a_G {i:Nat}(ho:ops[i]? = some ⟨some d,op,ty,pos,aft,some (j,want)⟩)(hj:(ops[j]?).bind (·.dst)=some gd)(hb:t_ e gd=some (.bool b))(hw:b=want)(hf:Nat.blt d N=true)(h:∃v,Rd X P N ⟨some d,op,ty,pos,aft,some (j,want)⟩ e w v/\F v)(k:∀v,F v->PR X P N ops T K p ((d,v)::e) w):PR X P N ops T K (.rd i p) e w:=by
 grind [dRg]
end guards
theorem exH {id:Nat}{K':Act->World->Prop}(h:AtK N K' e w):∀a,Sat N e a->inB id K' Q (.exit id) a w:=λa ha=>by simp only [inB,if_true];exact h a ha
theorem exO {id j:Nat}{K':Act->World->Prop}(hne:Nat.beq id j=false)(h:∀a,Sat N e a->Q (.exit id) a w):∀a,Sat N e a->inB j K' Q (.exit id) a w:=λa ha=>by
 have:id ≠ j:=by rintro rfl;simp_all
 grind [inB]
theorem rtO {j:Nat}{K':Act->World->Prop}(h:∀a,Sat N e a->Q .ret a w):∀a,Sat N e a->inB j K' Q .ret a w:=h
end
theorem g_W (b:Bool):b=true∨b=false:=by simp
theorem a_0 {α β γ:Type}{f:α->β->Option γ}{a:α}{b:β}{r:Option γ}(h:un2 f (a,b)=r):f a b=r:=h
theorem c_4 {α β δ γ:Type}{f:α->β->δ->Option γ}{a:α}{b:β}{c:δ}{r:Option γ}(h:un3 f (a,b,c)=r):f a b c=r:=h
theorem un4S {α β δ ε γ:Type}{f:α->β->δ->ε->Option γ}{a:α}{b:β}{c:δ}{d:ε}{r:Option γ}(h:un4 f (a,b,c,d)=r):f a b c d=r:=h
theorem un5S {α β δ ε ζ γ:Type}{f:α->β->δ->ε->ζ->Option γ}{a:α}{b:β}{c:δ}{d:ε}{e:ζ}{r:Option γ}(h:un5 f (a,b,c,d,e)=r):f a b c d e=r:=h
section
variable {S T A M:List Nat}{m n:Nat}{p:Nat->Prop}
theorem e_v {g:Nat}(h:p g):∀k∈[g],p k:=λk hk=>by grind
theorem or0 (hs:∀k∈S,n<=k)(h:∀k,n<=k->p k):∀k∈S,p k:=λk hk=>h k<|hs k hk
theorem or1 (hs:∀k∈S,k∈A∨n<=k)(ha:∀k∈A,p k)(h:∀k,n<=k->p k):∀k∈S,p k:=λk hk=>(hs k hk).elim (ha k) (h k)
theorem or2 (hs:∀k∈S,k∈A∨k∈T∨n<=k)(ha:∀k∈A,p k)(hb:∀k∈T,p k)(h:∀k,n<=k->p k):∀k∈S,p k:=λk hk=>(hs k hk).elim (ha k) (λh'=>h'.elim (hb k)<|h k)
theorem all_nil:∀k∈([]:List Nat),p k:=λk hk=>by grind
theorem e_0 (h1:∀k∈A,p k)(h2:∀k∈T,p k):∀k∈A++T,p k:=λk hk=>(QAj.1 hk).elim (h1 k) (h2 k)
theorem g_X (h:∀k∈A++T,p k):∀k∈A,p k:=λk hk=>h k<|QAW _ hk
theorem g_Y (h:∀k∈A++T,p k):∀k∈T,p k:=λk hk=>h k<|QAH _ hk
theorem f_J (h:∀k∈A,n<=k):∀k,k<n->k∉A:=λk hk ha=>absurd hk<|QAm.2<|h k ha
theorem nmN (q:Nat->Prop):∀k,q k->k∉([]:List Nat):=λ_ _ h=>by cases h
theorem nmA {q:Nat->Prop}(h1:∀k,q k->k∉A)(h2:∀k,q k->k∉T):∀k,q k->k∉A++T:=λk hk hm=>(QAj.1 hm).elim (h1 k hk) (h2 k hk)
theorem b_N (h:∀ k∈S,k∉T):∀k∈T,k∉S:=λk hk hs=>h k hs hk
theorem lele (h:m<=n):∀k,n<=k->m<=k:=λ_ hk=>QAG h hk
theorem leor (h:m<=n):∀k,n<=k->k∈M∨m<=k:=λ_ hk=>.inr<|QAG h hk
theorem f_K (h:∀ k∈A,k∈M):∀k∈A,k∈M∨m<=k:=λk hk=>.inl<|h k hk
theorem c_u:∀k∈A,k∈A:=λ_ h=>h
theorem l_o (h:∀ k∈A,k∈S):∀k∈A,k∈S++T:=λk hk=>QAW _<|h k hk
theorem c_v (h:∀ k∈A,k∈T):∀k∈A,k∈S++T:=λk hk=>QAH _<|h k hk
theorem E_:([]:List Nat).Nodup:=List.nodup_nil
theorem S_ {g:Nat}:[g].Nodup:=by simp
theorem f_L (h1:S.Nodup)(h2:T.Nodup)(h:∀ k∈S,k∉T):(S++T).Nodup:=QAb.2 ⟨h1,h2,λa ha b hb he=>h a ha<|he ▸ hb⟩
theorem f_M (h:(S++T).Nodup):S.Nodup:=(QAb.1 h).1
theorem f_N (h:(S++T).Nodup):T.Nodup:=(QAb.1 h).2.1
theorem f_O (h:(S++T).Nodup):∀k∈S,k∉T:=λk hs ht=>(QAb.1 h).2.2 k hs k ht rfl
end
section
variable {a b c:World}{A M:List Nat}
theorem Chg.one {g:Nat}(h:Chg (· = g) a b):Chg (· ∈ [g]) a b:=h.mono λk _ hk=>QA_.2 hk
theorem c_d (h:Below a.heap.size a b)(h':Chg (· ∈ A) b c)(hx:∀k∈A,a.heap.size<=k):Below a.heap.size a c:=c_I h h' λk hk hm=>absurd hk<|QAm.2<|hx k hm
theorem f_P (M:List Nat)(a:World):Chg (· ∈ M) a a:=Chg.refl _ _
theorem f_Q (h:Chg (· ∈ M) a b)(h':Chg (· ∈ A) b c)(hx:∀k∈A,k∈M∨a.heap.size<=k):Chg (· ∈ M) a c:=h.comp h' λk hk hm=>(hx k hm).elim id λh=>absurd hk<|QAm.2 h
theorem cext (h:Chg (· ∈ M) a b)(h':Below b.heap.size b c):Chg (· ∈ M) a c:=h.ext h'
end
section
variable {X:Nat->Prop}{P:Program}{N:Nat}{e:Env}{w:World}{dst:Option Tmp}{ty:TypeId}{pos:String}{aft:Array Edge}{gd:Option (Nat×Bool)}{x y z:Operand}{T E:Nat}
theorem g_Z {b:Bool}{v:Value}(h:ev e x=some (.bool b))(hb:b=true)(hy:ev e y=some v):Rd X P N ⟨dst,.pick x y z,ty,pos,aft,gd⟩ e w v:=by grind [v_d]
theorem h_0 {b:Bool}{v:Value}(h:ev e x=some (.bool b))(hb:b=false)(hz:ev e z=some v):Rd X P N ⟨dst,.pick x y z,ty,pos,aft,gd⟩ e w v:=by grind [v_e]
theorem f_3 {α:Type}[Dat α]{ao:Option Addr}{B:Zone}{n c:Nat}{l:List α}(hT:P.underlying T=some (.slice E))(h:ev e x=some (.slice ao n c))(hr:repS w B (.slice ao n c) l) :
  Rd X P N ⟨dst,.call { callee:=.builtin .len,args:=#[x],argTypes:=#[T] },ty,pos,aft,gd⟩ e w (vI (l.length:Int)):=by
 obtain ⟨_,_,he,_⟩:=hr
 cases he
 exact v_f (args:=#[]) (tys:=#[]) hT h
theorem e_1 {α:Type}[Dat α]{ao:Option Addr}{B:Zone}{n c sz':Nat}{l:List α}{i:Int}{v:α}{kk:IntKind}(hT:P.underlying T=some (.slice E))(hs:∀w,(sizeOf E).run P w = .ok sz' w)(hsz:sz'=sz α)(hx:ev e x=some (.slice ao n c))(hy:ev e y=some (.int kk i))(hr:repS w B (.slice ao n c) l)(hi:idx l i=some v) :
  ∃u,Rd X P N ⟨dst,.indexAddr T x y,ty,pos,aft,gd⟩ e w u/\∃b o cs,u = .pointer (some ⟨b,o,none⟩)/\r_ w b o cs/\rep w B cs v/\B b:=by
 have G:=hr;obtain ⟨ao',c',he,_,_,_,hp⟩:=hr
 cases he
 obtain ⟨b,o,cs,rfl,H,h1,h2,h3⟩:=repS.at G hi
 refine ⟨_,l_t (k:=kk) hT hs hx hy H h1,b,_,cs,rfl,?_,h3,?_⟩
 .grind
 grind
theorem b_q {α:Type}[Dat α]{ao:Option Addr}{n c sz':Nat}{S:List Nat}{l m:List α}{i:Int}{v:α}{kk:IntKind}(hT:P.underlying T=some (.slice E))(hs:∀w,(sizeOf E).run P w = .ok sz' w)(hx:ev e x=some (.slice ao n c))(hy:ev e y=some (.int kk i))(hr:c_ w S (.slice ao n c) l)(hi:upd l i v=some m) :
  ∃u,Rd X P N ⟨dst,.indexAddr T x y,ty,pos,aft,gd⟩ e w u/\∃g,ao=some ⟨g,0,none⟩/\u = .pointer (some ⟨g,0+i.toNat * sz',none⟩):=by
 obtain ⟨_,G,h1⟩:=g_V hi;obtain ⟨g,rfl⟩:=hr.head (by omega);obtain ⟨_,_,he,_⟩:=hr.rep
 cases he
 exact ⟨_,l_t (k:=kk) hT hs hx hy G h1,g,rfl,rfl⟩
theorem f_4 {α:Type}[Dat α]{B:Zone}{n c sz':Nat}{ao:Option Addr}{l m:List α}{a b:Int}{lo hi:Option Operand}(hT:P.underlying T=some (.slice E))(hs:∀w,(sizeOf E).run P w = .ok sz' w)(hsz:sz'=sz α)(hx:ev e x=some (.slice ao n c))(h:repS w B (.slice ao n c) l)
  (hlo:evo e lo 0 a) (hhi:evo e hi l.length b) (hm:slc l a b=some m) :
  ∃v,Rd X P N ⟨dst,.slice T x lo hi none,ty,pos,aft,gd⟩ e w v/\∃ao' n' c',v = .slice ao' n' c'/\repS w B (.slice ao' n' c') m:=by
 have h':=h;obtain ⟨_,_,he,_⟩:=h'
 cases he
 obtain ⟨ao',c',k1,k2⟩:=u_B (X:=X) (P:=P) (N:=N) (w:=w) (dst:=dst) (ty:=ty) (pos:=pos) (aft:=aft) (gd:=gd) hT hs hsz hx h hlo hhi hm
 grind
def evp (e:Env):List (Nat×Operand)->Option (List<|Nat×Value)
 | []=>some []
 | (i,x)::l=>match ev e x,evp e l with
  | some v,some vs=>some ((i,v)::vs)
  | _,_=>none
theorem Sat.evp {a:Act}(h:Sat N e a):∀{l:List (Nat×Operand)}{vs:List (Nat×Value)},evp e l=some vs->(l.map λp=>(p.1,a.eval p.2))=vs
 | [],vs,hv=>by grind [Vw.evp]
 | (i,x)::l,vs,hv=>by
  simp only [Vw.evp] at hv
  split at hv
  .rename_i v vs' h1 h2
   simp only [QAJ] at hv
   subst hv
   simp [h.ev h1,Sat.evp h h2]
  .cases hv
theorem f_R {zs cs:List Value}{places:List (Nat×Nat)}{parts:List (Nat×Operand)}{vs:List (Nat×Value)}(hB:b_H P T zs places)(hv:evp e parts=some vs)(hf:Instr.fill (places.toArray[·]?) zs.toArray vs=some cs.toArray) :
  Rd X P N ⟨dst,.build T parts.toArray,ty,pos,aft,gd⟩ e w (.agg cs.toArray) :=
 u_C hB (λa ha=>by rw [QA4];exact ha.evp hv) hf
end
section
variable {X:Nat->Prop}{P:Program}{N:Nat}{e:Env}{w:World}{dst:Option Tmp}{ty:TypeId}{pos:String}{aft:Array Edge}{gd:Option (Nat×Bool)}{x y z:Operand}{T E:Nat}
theorem b_g {α:Type}[Dat α]{S Si:List Nat}{g n c:Nat}{ao:Option Addr}{i:Int}{l m:List α}{v:α}{u:Value}{cs:List Value}{sz':Nat}(hs:∀w,(sizeOf T).run P w = .ok sz' w)(hsz:sz'=sz α)(hao:ao=some ⟨g,0,none⟩)(hx:ev e x=some (.pointer<|some ⟨g,0+i.toNat * sz',none⟩))(hy:ev e y=some u)(hu:u.cells.toList=cs)
  (hm:upd l i v=some m) (ho:c_ w S (.slice ao n c) l) (hN:S.Nodup) (hv:own w Si cs v) (hD:∀k∈Si,k∉S) (hSi:Si.Nodup) :
  Ef P N ⟨none,.store T x y,ty,pos,aft,gd⟩ e w (λ_ w'=>∃S',Chg (· ∈ S) w w'/\c_ w' S' (.slice ao n c) m/\S'.Nodup/\(∀k∈S',k∈S∨k∈Si∨w.heap.size<=k)):=by
 subst hao;have h:=ef_set (P:=P) (N:=N) (ty:=ty) (pos:=pos) (aft:=aft) (gd:=gd) hs hsz hx hy hu hm ho hN hv hD hSi
 constructor
 intro a ha Q;refine Oper.wp_mono ?_<|h.run a ha Q;rintro a' w' ⟨v',rfl,S',k1,k2,k3,k4⟩
 have hn:n=m.length:=by
  obtain ⟨rfl,_,_⟩:=g_V hm;obtain ⟨_,_,he,_⟩:=ho.rep
  grind
 obtain ⟨_,_,_,_,hg⟩:=ho.blk;subst hn;exact ⟨v',rfl,S',k3.mono<|λk _ hk=>hk ▸ hg,k1,k2,λk hk=>(k4 k hk).elim .inl λh=>.inr<|.inl h⟩
theorem a_W {α:Type}[Dat α]{bytes:Nat}{zz:Value}(hE:El P T E (sz α) bytes zz){S Si:List Nat}{sv:Value}{l m:List α}{v:α}{g:Nat}{cs:List Value}(hm:psh l v=some m)(hx:ev e x=some sv)(hy:ev e y=some (.slice (some ⟨g,0,none⟩) 1 1))
  (ho:c_ w S sv l) (hN:S.Nodup) (hB:Blk w g cs) (hv:own w Si cs v) (hD:∀k∈Si,k∉S) (hSi:Si.Nodup) :
  Ef P N ⟨dst,.call { callee:=.builtin .append,args:=#[x,y],argTypes:=#[T,T] },ty,pos,aft,gd⟩ e w (λv' w'=>∃S' ao n c,v' = .slice ao n c/\Chg (· ∈ S) w w'/\c_ w' S' (.slice ao n c) m/\S'.Nodup/\(∀k∈S',k∈S∨k∈Si∨w.heap.size<=k)):=by
 have h:=u_y (P:=P) (N:=N) (w:=w) (dst:=dst) (ty:=ty) (pos:=pos) (aft:=aft) (gd:=gd) hE hm hx hy ho hN hB hv hD hSi
 constructor
 intro a ha Q;refine Oper.wp_mono ?_<|h.run a ha Q
 grind
theorem f_S {α:Type}[Dat α][a_t α]{bytes:Nat}{zz:Value}(hE:El P T E (sz α) bytes zz){S:List Nat}{sv:Value}{l m xs:List α}{B:Zone}{H I:Nat}{G:Option Addr}(hm:app l xs=some m)(hx:ev e x=some sv)(hy:ev e y=some (.slice G H I))
  (ho:c_ w S sv l) (hN:S.Nodup) (hr:repS w B (.slice G H I) xs) :
  Ef P N ⟨dst,.call { callee:=.builtin .append,args:=#[x,y],argTypes:=#[T,T] },ty,pos,aft,gd⟩ e w (λv' w'=>∃S' ao n c,v' = .slice ao n c/\Chg (· ∈ S) w w'/\c_ w' S' (.slice ao n c) m/\S'.Nodup/\(∀k∈S',k∈S∨w.heap.size<=k)):=by
 have hr':=hr;obtain ⟨_,_,he,_⟩:=hr'
 cases he
 have h:=u_z (P:=P) (N:=N) (w:=w) (dst:=dst) (ty:=ty) (pos:=pos) (aft:=aft) (gd:=gd) hE hm hx hy ho hN hr
 constructor
 intro a ha Q;refine Oper.wp_mono ?_<|h.run a ha Q
 grind
theorem e_2 {α:Type}[Dat α]{bytes:Nat}{zz:Value}{n:Int}{l:List α}{G:α}(hE:El P T E (sz α) bytes zz)(hz:∀w,own w [] zz.cells.toList G)(hm:mk0 G n=some l)(hx:ev e x=some (vI n))(hy:ev e y=some (vI n)) :
  Ef P N ⟨dst,.makeSlice T x y,ty,pos,aft,gd⟩ e w (λv w'=>∃ao n c,v = .slice ao n c/\Below w.heap.size w w'/\c_ w' [w.heap.size] (.slice ao n c) l):=by
 have h:=u_G (P:=P) (N:=N) (w:=w) (dst:=dst) (ty:=ty) (pos:=pos) (aft:=aft) (gd:=gd) hE hz hm hx hy
 constructor
 intro a ha Q;refine Oper.wp_mono ?_<|h.run a ha Q
 grind
theorem u_I {α:Type}[Dat α]{bytes:Nat}{zz:Value}{n:Int}{l0:List Unit}(hE:El P T E (sz α) bytes zz)(hm:mk0 () n=some l0)(hx:ev e x=some (vI 0))(hy:ev e y=some (vI n)) :
  Ef P N ⟨dst,.makeSlice T x y,ty,pos,aft,gd⟩ e w (λv w'=>∃ao n c,v = .slice ao n c/\Below w.heap.size w w'/\c_ w' [w.heap.size] (.slice ao n c) ([]:List α)):=by
 obtain ⟨_,G,h1⟩:=mk0S hm;have h:=u_H (α:=α) (P:=P) (N:=N) (w:=w) (dst:=dst) (ty:=ty) (pos:=pos) (aft:=aft) (gd:=gd) hE G h1 hx hy
 constructor
 intro a ha Q;refine Oper.wp_mono ?_<|h.run a ha Q
 grind
theorem e_3 {α:Type}[Dat α]{bytes:Nat}{zz:Value}(hE:El P T E (sz α) bytes zz) :
  Ef P N ⟨dst,.buildSlice T 0 #[],ty,pos,aft,gd⟩ e w (λv w'=>∃ao n c,v = .slice ao n c/\Below w.heap.size w w'/\c_ w' [w.heap.size] (.slice ao n c) ([]:List α)):=by
 have h:=p_L (P:=P) (N:=N) (e:=e) (w:=w) (dst:=dst) (ty:=ty) (pos:=pos) (aft:=aft) (gd:=gd) hE
 constructor
 intro a ha Q;refine Oper.wp_mono ?_<|h.run a ha Q;rintro a' w' ⟨v',rfl,rfl,k⟩;exact ⟨_,rfl,_,_,_,rfl,k.below,u_x k⟩
end
end Go.Vw
namespace Go.Vw
open Go.RowKit Dat
theorem h_1 {x:Int}(h:inI x):x.toNat<=9223372036854775807:=by grind [inI]
theorem h_2 {k n:Nat}(h:k<=n)(hn:n<=9223372036854775807):inI (k:Int):=by grind [inI]
theorem j_5 {k:Nat}{x:Int}(hk:k<x.toNat)(hc:decide ((k:Int)<x)=false):False:=by grind
theorem j_6 {x:Int}(hc:decide ((x.toNat:Int)<x)=true):False:=by grind
theorem sn {e:Env}:sub e []:=trivial
theorem sc {e e':Env}{k:Nat}{v:Value}(h:t_ e k=some v)(t:sub e e'):sub e ((k,v)::e'):=⟨h,t⟩
theorem c_e {b:Bool}(h:b=true)(h':b=false):False:=by grind
theorem nnS {y:Int}{u:Unit}(h:nn y=some u):0<=y:=by
 grind [nn]
theorem a_i {n:Nat}{l:List Value}(h:l.all (λv=>Nat.beq v.cells.size n)=true):∀v∈l,v.cells.size=n:=λv hv=>Nat.eq_of_beq_eq_true<|QAz.1 h v hv
theorem u_J {x y:Int}(_:inI x):inI (b_I .i64 x y):=h_X _
theorem p_R (f:BitVec IntKind.i64.bits->BitVec IntKind.i64.bits->BitVec IntKind.i64.bits)(x y:Int):inI (b_P .i64 f x y):=h_X _
theorem r_.at0 {w:World}{b o:Nat}{cs:List Value}{v:Value}(h:r_ w b o cs)(hv:cs[0]? = some v):w.cell? ⟨b,o,none⟩=some v:=h 0 v hv
theorem repS.mono {α:Type}[Dat α]{w:World}{B B':Zone}{v:Value}{l:List α}(h:repS w B v l)(hb:B<=B'):repS w B' v l:=repS.of<|rep_mono h.rep hb
theorem f_5 {α:Type}[Dat α]{w:World}{B:Zone}{cs:List Value}{l:List α}(h:rep w B cs l):∃ao n c,cs=[.slice ao n c]/\repS w B (.slice ao n c) l:=by
 grind [u_w]
theorem u_K {α:Type}[Dat α]{w:World}{B:Zone}{ao:Option Addr}{n c:Nat}{l:List α}(h:repS w B (.slice ao n c) l):rep w B [.slice ao n c] l:=h.rep
theorem j_7 {α:Type}[Dat α]{w:World}{S:List Nat}{ao:Option Addr}{n c:Nat}{l:List α}(h:c_ w S (.slice ao n c) l):own w S [.slice ao n c] l:=h.own
theorem fnE {P:Program}{i:Nat}{fn:Func}(h:P.funcs[i]? = some fn):∃f,P.funcs[i]? = some f/\f.body=fn.body/\f.ntmps=fn.ntmps/\f.results=fn.results:=⟨fn,h,rfl,rfl,rfl⟩
theorem h_3 {σ ρ:Type}{b:Nat}{D:σ->Act->World->Prop}{Qr:ρ->Exit->Act->World->Prop}{o:Out σ ρ}{r:ρ}{ex:Exit}{a:Act}{w:World}(he:o = .ret r)(h:Qr r ex a w):QO b D Qr o ex a w:=.inr ⟨r,he,h⟩
theorem h_4 {P:Program}{N:Nat}{e:Env}{w:World}{fn:Func}{σ ρ:Type}{b:Nat}{D:σ->Act->World->Prop}{Rr:ρ->Value->World->Prop}{o:Out σ ρ}{r:ρ}(he:o = .ret r)(h:∀a,Sat N e a->b_V P fn (Rr r) a w):∀a,Sat N e a->QO b D (λr ex a w=>ex = .ret/\b_V P fn (Rr r) a w) o .ret a w:=λa ha=>h_3 he ⟨rfl,h a ha⟩
theorem p_S {w:World}:own w [] [.int .u8 0] (0:UInt8):=⟨rfl,_,rfl,rfl⟩
theorem a_X {σ ρ:Type}{b:Nat}{D:σ->Act->World->Prop}{Qr:ρ->Exit->Act->World->Prop}{o:Out σ ρ}{s:σ}{a:Act}{w:World}(he:o = .brk s)(h:D s a w):QO b D Qr o (.exit b) a w:=.inl ⟨rfl,s,he,h⟩
section
variable {P:Program}{N:Nat}{e:Env}{w:World}{fn:Func}
theorem c_w {a T g n:Nat}{v:Value}{rest:List Value}(hT:∀w,(isAgg T).run P w = .ok false w)(hp:t_ e a=some (.pointer<|some ⟨g,0,none⟩))(hB:Blk w g (v::rest)):c_x P e w (.cell a T) v:=by
 refine ⟨_,hp,?_⟩;have:=hB.cell 0
 simp [loadVar,hT,this]
end
section
variable {X:Nat->Prop}{P:Program}{N:Nat}{e:Env}{w:World}{dst:Option Tmp}{ty:TypeId}{pos:String}{aft:Array Edge}{gd:Option (Nat×Bool)}{x y z:Operand}{T T' E:Nat}
theorem a_u {s t u:Str}(h1:ev e x=some s.v)(h2:ev e y=some t.v)(h:cat s t=some u):Rd X P N ⟨dst,.binOp .add T x y T',ty,pos,aft,gd⟩ e w (Str.v u):=by
 obtain ⟨rfl,hl⟩:=catS h
 grind [v_l]
theorem h_Y {s t:Str}{a b:Int}(h:c_2 s a b=some t)(hs:s.b.length<=LEN):t.b.length<=LEN:=by
 unfold c_2 at h
 cases hm:slc s.b a b with
 | none=>grind
 | some m =>
  rw [hm] at h
  obtain rfl:=som h;obtain ⟨_,_,_,rfl⟩:=e_u hm
  grind
theorem p_T:∀(l:Bt)(s:ByteArray),((l.map b_).foldl (λr (n:Int)=>r.push<|UInt8.ofNat n.toNat) s)=⟨s.data++l.toArray⟩
 | [],s=>by simp
 | c::l,s=>by
  rw [List.map_cons,List.foldl_cons,p_T l]
  simp
theorem h_5 {S D:Nat}{B:Zone}{n c:Nat}{ao:Option Addr}{l:Bt}(hS:P.underlying S=some (.slice E))(hD:P.underlying D=some .string)(hE:P.underlying E=some (.int .u8))(hs:∀w,(sizeOf E).run P w = .ok 1 w)(hx:ev e x=some (.slice ao n c))(hr:repS w B (.slice ao n c) l) :
  Rd noX P N ⟨dst,.convert S D x,ty,pos,aft,gd⟩ e w (Str.v ⟨l⟩):=λa ha w' hb=>by
 obtain ⟨ao',c',G,h1,h2,h3,h4⟩:=hr
 cases G
 have hrun:(Conv.bytesToString<|.slice ao l.length c).run P w' = .ok (Str.v ⟨l⟩) w':=by
  cases ao with
  | none =>
   obtain rfl:=h3 rfl
   rfl
  | some p =>
   obtain ⟨g1,I,H⟩:=h4 p rfl
   have hc:∀(j:Nat) v,((l.map b_).map (Value.int .u8))[j]? = some v->w'.cell? (p.add j)=some v:=λj v hv=>by
    rw [List.getElem?_map,List.getElem?_map] at hv
    cases hj:l[j]? with
    | none=>grind
    | some x =>
     rw [hj] at hv
     obtain rfl:=QAS hv;obtain ⟨cs,k1,k2⟩:=H j x hj;obtain rfl:=f_I k2;have hne:l ≠ []:=by grind
     have k3:=k1 0 _ rfl
     have hp:p.add j=⟨p.block,p.off+j * sz UInt8+0,none⟩:=by
      have J:sz UInt8=1:=rfl
      cases p with
      | mk b o sp =>
       obtain rfl:sp=none:=g1 hne
       grind [Addr.add_lit]
     rw [hp]
     exact (World.cell?_of_block (w:=w)<|hb.block _ (World.block_lt_of_cell? w _ k3)<|λh=>h).trans k3
   have hl:=run_loadCells_list (P:=P) w' p ((l.map b_).map (Value.int .u8)) hc
   rw [QAs,QAs] at hl
   rw [run_bytesToString w' p l.length c (l.map b_) hl,p_T]
   simp
 simp only [execOp,ha.ev hx]
 simp_all [run_convert_bytes_string]
end
def a_F (T:Nat)(w:World)(S:List Nat)(v:Value):Option (Int×Int)->Prop
 | none=>v = .nilIface/\S=[]
 | some (p,c)=>∃b,v = .iface T (.pointer<|some ⟨b,0,none⟩)/\S=[b]/\Blk w b [vI p,vI c]/\inI p/\inI c
section
variable {T:Nat}{S:List Nat}{w w':World}{v:Value}{o:Option (Int×Int)}
theorem f_T:a_F T w [] .nilIface none:=⟨rfl,rfl⟩
theorem u_L {g:Nat}{p c:Int}(h:Blk w g [vI p,vI c])(hp:inI p)(hc:inI c):a_F T w [g] (.iface T<|.pointer<|some ⟨g,0,none⟩) (some (p,c)):=⟨g,rfl,rfl,h,hp,hc⟩
theorem u_M {g:Nat}{off:Nat}{p c:Int}(h:Blk w g [vI p,vI c])(hp:inI p)(hc:inI c)(G:off=0):a_F T w [g] (.iface T<|.pointer<|some ⟨g,off,none⟩) (some (p,c)):=by grind [u_L]
theorem a_F.chg {X:Nat->Prop}(h:a_F T w S v o)(hc:Chg X w w')(hx:∀k∈S,¬X k):a_F T w' S v o:=by
 cases o with
 | none=>exact h
 | some pc=>obtain ⟨b,h1,rfl,h3,h4⟩:=h;exact ⟨b,h1,rfl,h3.chg hc<|hx b<|QA_.2 rfl,h4⟩
theorem a_F.ext (h:a_F T w S v o)(hb:Below w.heap.size w w'):a_F T w' S v o:=h.chg (Vw.Below.chg hb<|λ_=>False)<|λ_ _ h=>h
theorem a_F.lt (h:a_F T w S v o):∀k∈S,k<w.heap.size:=by
 cases o with
 | none=>obtain ⟨_,rfl⟩:=h;simp
 | some pc=>obtain ⟨b,h1,rfl,h3,h4⟩:=h;exact e_v h3.lt
theorem a_F.one (h:a_F T w S v o):v.oneCell'=true:=by
 cases o with
 | none=>obtain ⟨rfl,_⟩:=h;rfl
 | some pc=>obtain ⟨b,h1,_⟩:=h;subst h1;rfl
variable {X:Nat->Prop}{P:Program}{N:Nat}{e:Env}{dst:Option Tmp}{ty:TypeId}{pos:String}{aft:Array Edge}{gd:Option (Nat×Bool)}{x y:Operand}{T1 T2:Nat}
theorem chgIn {g:Nat}{M:List Nat}{w w':World}(hm:g∈M)(h:Chg (· = g) w w'):Chg (· ∈ M) w w':=h.mono λ_ _ hk=>hk ▸ hm
theorem chgNew {g n:Nat}{M:List Nat}{w w':World}(hm:n<=g)(h:Chg (· = g) w w'):Chg (λk=>k∈M∨n<=k) w w':=h.mono λ_ _ hk=>.inr<|hk ▸ hm
theorem f_6 {k n:Nat}{M:List Nat}(h:k∉M)(hl:k<n):¬(k∈M∨n<=k):=λh'=>h'.elim h<|λh2=>absurd hl<|QAm.2 h2
theorem h_Z {X:Nat->Prop}{w w':World}(h:Below w.heap.size w w'):Chg X w w':=Vw.Below.chg h X
theorem u_N (d:Nat){D:TypeDesc}(hT:P.underlying T1=some D)(hD:(match D with | .interface _=>true | _=>false)=true)(h:a_F T w S v o)(G:World):(Op.equalIn (d+1) T1 v .nilIface).run P G = .ok o.isNone G:=by
 cases D <;> simp at hD
 cases o with
 | none=>obtain ⟨rfl,_⟩:=h;simp_all [Op.equalIn,run_underlying]
 | some pc=>obtain ⟨p,c⟩:=pc;obtain ⟨b,rfl,_⟩:=h;simp_all [Op.equalIn,run_underlying]
theorem u_O {op:BinOp}{u:Value}(G:World):(eqGuard op T1 x (.const .nilIface) u .nilIface).run P G = .ok () G:=by
 unfold eqGuard
 cases u <;> cases op <;> simp
theorem f_7 {D:TypeDesc}(hT:P.underlying T1=some D)(hD:(match D with | .interface _=>true | _=>false)=true)(hx:ev e x=some v)(h:a_F T w S v o):Rd X P N ⟨dst,.binOp .neq T1 x (.const .nilIface) T2,ty,pos,aft,gd⟩ e w (vB o.isSome) :=
 b_Q (a2:=.nilIface) hx rfl λG=>by
  have h1:=u_N 9999 hT hD h G
  have H:(binOp .neq T1 v .nilIface)=(do pure (.bool (!(← Op.equal T1 v .nilIface))):Sem Value):=by
   cases o with
   | none=>obtain ⟨rfl,_⟩:=h;rfl
   | some pc=>obtain ⟨p,c⟩:=pc;obtain ⟨b,rfl,_⟩:=h;rfl
  simp_all [Op.equal,Op.maxDepth,Sem.run_bind,u_O]
end
def dec (s:Str)(pos:Nat):Int×Nat:=((Utf8.decode ⟨s.b.toArray⟩ pos).1,(Utf8.decode ⟨s.b.toArray⟩ pos).2)
def b_h (w:World)(g:Nat)(s:Str)(pos:Nat):Prop:=w.heap[g]? = some (.stringIter ⟨s.b.toArray⟩ pos)
section
variable {w w':World}{g:Nat}{s:Str}{pos:Nat}
theorem b_h.lt (h:b_h w g s pos):g<w.heap.size:=(Array.getElem?_eq_some_iff.1 h).1
theorem b_h.ext (h:b_h w g s pos)(hb:Below w.heap.size w w'):b_h w' g s pos:=(hb.block g h.lt).trans h
theorem b_h.chg {X:Nat->Prop}(h:b_h w g s pos)(hc:Chg X w w')(hx:¬X g):b_h w' g s pos:=(hc.block g h.lt hx).trans h
variable {P:Program}{N:Nat}{e:Env}{dst:Option Tmp}{ty:TypeId}{p:String}{aft:Array Edge}{gd:Option (Nat×Bool)}{x:Operand}{T:Nat}
theorem u_P (hT:P.underlying T=some .string)(hx:ev e x=some s.v):Ef P N ⟨dst,.range T x,ty,p,aft,gd⟩ e w (λv w'=>v = .pointer (some ⟨w.heap.size,0,none⟩)/\Below w.heap.size w w'/\b_h w' w.heap.size s 0) :=
 e_Y λa ha=>⟨_,w.alloc<|.stringIter ⟨s.b.toArray⟩ 0,by simp [execOp,Instr.range,ha.ev hx,run_underlying hT],rfl,b_s w _,heap_alloc_new w _⟩
theorem u_Q (hx:ev e x=some (.pointer<|some ⟨g,0,none⟩))(h:b_h w g s pos)(hp:pos<s.b.length):Ef P N ⟨dst,.next x true,ty,p,aft,gd⟩ e w (λv w'=>v = .tuple #[.bool true,vI (pos:Int),.int .i32 (dec s pos).1]/\b_h w' g s (pos+(dec s pos).2)/\Chg (· ∈ [g]) w w'):=by
 have hg:(getObj g).run P w = .ok (.stringIter ⟨s.b.toArray⟩ pos) w:=by simp [getObj,Sem.run,show w.heap[g]? = _ from h]
 have hs:∀o,(setObj g o).run P w = .ok () { w with heap:=w.heap.setIfInBounds g o }:=λo=>by simp [setObj,Sem.run,show w.heap[g]? = _ from h]
 have hsz:(⟨s.b.toArray⟩:ByteArray).size=s.b.length:=by rfl
 refine e_Y λa ha=>⟨_,{ w with heap:=w.heap.setIfInBounds g (.stringIter ⟨s.b.toArray⟩<|pos+(dec s pos).2) },?_,rfl,?_,?_⟩
 .simp [execOp,Instr.next,ha.ev hx,hg,hsz,hp,hs,goInt,dec]
 .grind [b_h]
 .exact ⟨rfl,rfl,rfl,by simp,λk hk hx=>by
   grind⟩
theorem u_R (hx:ev e x=some (.pointer<|some ⟨g,0,none⟩))(h:b_h w g s pos)(hp:¬pos<s.b.length):Ef P N ⟨dst,.next x true,ty,p,aft,gd⟩ e w (λv w'=>v = .tuple #[.bool false]/\Below w.heap.size w w'):=by
 have hg:(getObj g).run P w = .ok (.stringIter ⟨s.b.toArray⟩ pos) w:=by simp [getObj,Sem.run,show w.heap[g]? = _ from h]
 have hsz:(⟨s.b.toArray⟩:ByteArray).size=s.b.length:=by rfl
 refine e_Y λa ha=>⟨_,w,?_,rfl,Below.refl _ _⟩
 simp [execOp,Instr.next,ha.ev hx,hg,hsz,hp]
end
section
variable {A:List Nat}{B C Z:Zone}{i j k l m n:Nat}
theorem ltgz (h:∀k∈A,¬B k):∀k,B k->k∉A:=λk hk ha=>h k ha hk
theorem lenB (h:B<=bl n):∀k,n<=k->¬B k:=λk hk hb=>absurd (h k hb)<|QAm.2 hk
theorem nznL (h:∀k∈A,¬B k)(h1:∀k∈A,k<m)(h2:m<=i):∀k∈A,¬zn B i j k:=λk hk hz=>hz.elim (h k hk) λg=>absurd (h1 k hk)<|QAm.2<|QAG h2 g.1
theorem nznR (h:∀k∈A,¬B k)(h1:∀k∈A,j<=k):∀k∈A,¬zn B i j k:=λk hk hz=>hz.elim (h k hk) λg=>absurd g.2<|QAm.2<|h1 k hk
theorem nbl (h:∀k∈A,n<=k):∀k∈A,¬bl n k:=λk hk hz=>absurd hz<|QAm.2<|h k hk
theorem zin (h1:∀k∈A,i<=k)(h2:∀k∈A,k<j):∀k∈A,zn B i j k:=λk hk=>.inr ⟨h1 k hk,h2 k hk⟩
theorem zall (h:∀ k∈A,B k)(h':B<=C):∀k∈A,C k:=λk hk=>h' k<|h k hk
theorem znI (h:k<=i)(h':j<=l):∀q,i<=q->q<j->zn B k l q:=λ_ h1 h2=>.inr ⟨QAG h h1,QAC h2 h'⟩
theorem zns (h:B<=Z)(h':∀q,i<=q->q<j->Z q):zn B i j<=Z:=λq hq=>hq.elim (h q) λg=>h' q g.1 g.2
theorem zap' (h:B<=C)(hk:B k):C k:=h k hk
end
structure Ag (B:Zone)(w w':World):Prop where
 eq:∀k,B k->k<w.heap.size->w'.heap[k]? = w.heap[k]?
 size:w.heap.size<=w'.heap.size
theorem _root_.Go.RowKit.Below.ag {w w':World}(h:Below w.heap.size w w')(B:Zone):Ag B w w':=⟨λk _ hk=>h.block k hk,h.size⟩
theorem Ag.e {B:Zone}{w w' G:World}(h:Ag B w w')(h':Below w'.heap.size w' G):Ag B w G:=⟨λk hk hl=>(h'.block k<|QAC hl h.size).trans (h.eq k hk hl),QAG h.size h'.size⟩
theorem Ag.c {B:Zone}{X:Nat->Prop}{w w' G:World}(h:Ag B w w')(h':Chg X w' G)(hx:∀k,B k->¬X k):Ag B w G:=⟨λk hk hl=>(h'.block k (QAC hl h.size)<|hx k hk).trans (h.eq k hk hl),QAG h.size h'.size⟩
theorem repS.g {α:Type}[Dat α]{w w':World}{B:Zone}{v:Value}{l:List α}(h:repS w B v l)(a:Ag B w w'):repS w' B v l:=repS.of<|rep_eq h.rep a.eq
end Go.Vw
namespace Go.Vw
open Go.RowKit Dat
inductive Val where
 | mk (number:Int) (bytes:Bt) (items:List Val)
deriving Inhabited
def Val.number:Val->Int
 | .mk n _ _=>n
def Val.bytes:Val->Bt
 | .mk _ b _=>b
def Val.items:Val->List Val
 | .mk _ _ i=>i
inductive RepV (w:World)(B:Zone):List Value->Val->Prop
 | mk {x:Int} {bs:Bt} {vs:List Val} {v1:Value} {ao:Option Addr} {c:Nat} {css:Nat->List Value} (hx:inI x) (hb:repS w B v1 bs)
   (h1:vs.length<=c) (h2:vs.length<=LEN) (h3:ao=none->vs=[])
   (h4:∀p,ao=some p->(vs ≠ []->p.spot=none)/\(vs ≠ []->B p.block))
   (h5:∀p,ao=some p->∀(i:Nat)(y:Val),vs[i]? = some y->r_ w p.block (p.off+i * 3) (css i))
   (h6:∀(i:Nat)(y:Val),vs[i]? = some y->RepV w B (css i) y):RepV w B [vI x,v1,.slice ao vs.length c] (.mk x bs vs)
inductive h_Q (w:World):List Nat->List Value->Val->Prop
 | nil {x:Int} {bs:Bt} {v1:Value} {S1:List Nat} (hx:inI x) (hb:c_ w S1 v1 bs):h_Q w S1 [vI x,v1,.slice none 0 0] (.mk x bs [])
 | mk {x:Int} {bs:Bt} {vs:List Val} {v1:Value} {S1:List Nat} {g c:Nat} {cur:List Value} {Ss:List (List Nat)} (hx:inI x) (hb:c_ w S1 v1 bs)
   (h1:vs.length<=c) (h2:vs.length<=LEN) (h3:Blk w g cur) (h4:cur.length=c * 3) (h5:Ss.length=vs.length)
   (h6:∀(i:Nat)(y:Val)(Si:List Nat),vs[i]? = some y->Ss[i]? = some Si->h_Q w Si ((cur.drop<|i * 3).take 3) y):h_Q w (S1++g::List.flatten Ss) [vI x,v1,.slice (some ⟨g,0,none⟩) vs.length c] (.mk x bs vs)
theorem z_V {α:Type}[Dat α]{w:World}{B:Zone}{v:Value}{l:List α}(h:repS w B v l):v.oneCell'=true:=by
 obtain ⟨ao,c,rfl,_⟩:=h;rfl
theorem z_W {α:Type}[Dat α]{w w':World}{B:Zone}{v:Value}{l:List α}(h:repS w B v l)(he:∀k,B k->k<w.heap.size->w'.heap[k]? = w.heap[k]?):repS w' B v l:=repS.of<|rep_eq h.rep he
theorem t_O {α:Type}[Dat α]{w w':World}{S:List Nat}{v:Value}{l:List α}(h:c_ w S v l)(he:∀k∈S,w'.heap[k]? = w.heap[k]?):c_ w' S v l:=c_.of<|own_eq h.own he
theorem e_o {α:Type}[Dat α]{w:World}{S:List Nat}{v:Value}{l:List α}{B:Zone}(h:c_ w S v l)(he:∀k∈S,B k):repS w B v l:=repS.of<|own_rep h.own he
instance:Dat Val where
 sz:=3
 rep w B cs x:=RepV w B cs x
 own w S cs x:=h_Q w S cs x
 rep_len:=by rintro _ _ _ _ ⟨⟩;rfl
 rep_one:=by
  rintro _ _ _ _ ⟨_,hb⟩ c hc
  simp at hc
  rcases hc with rfl | rfl | rfl
  .rfl
  .exact z_V hb
  .rfl
 rep_eq:=by
  intro w w' B cs x h he
  induction h with
  | mk hx hb h1 h2 h3 h4 h5 h6 ih =>
   refine .mk hx (z_W hb he) h1 h2 h3 h4 (λp hp i y hy=>(h5 p hp i y hy).of_block (he _ ((h4 p hp).2 (by rintro rfl;simp at hy))<|(h5 p hp i y hy).lt ?_)) ih;rintro hn;have:=h6 i y hy
   rw [hn] at this
   cases this
 rep_mono:=by
  intro w B B' cs x h hb
  induction h with
  | mk hx hb' h1 h2 h3 h4 h5 h6 ih=>exact .mk hx (repS.mono hb' hb) h1 h2 h3 (λp hp=>⟨(h4 p hp).1,λhn=>hb _<|(h4 p hp).2 hn⟩) h5 ih
 own_eq:=by
  intro w w' S cs x h he
  induction h with
  | nil hx hb=>exact .nil hx<|t_O hb he
  | mk hx hb h1 h2 h3 h4 h5 h6 ih =>
   exact .mk hx (t_O hb λk hk=>he k<|QAW _ hk) h1 h2 (h3.of_eq<|he _<|QAH _ QAM) h4 h5 λi y Si hy hS=>ih i y Si hy hS λk hk=>he k<|QAH _<|QAF _<|e_x hS hk
 own_lt:=by
  intro w S cs x h
  induction h with
  | nil hx hb=>exact hb.lt
  | mk hx hb h1 h2 h3 h4 h5 h6 ih =>
   intro k hk
   rcases QAj.1 hk with hk | hk
   .exact hb.lt k hk
   .rcases QAV.1 hk with rfl | hk
    .exact h3.lt
    .obtain ⟨Si,hSi,hk⟩:=QAZ.1 hk;obtain ⟨i,hi⟩:=List.getElem?_of_mem hSi;obtain ⟨y,hy⟩:=zip_some' h5 hi;exact ih i y Si hy hi k hk
 own_rep:=by
  intro w S cs x B h hB
  induction h with
  | nil hx hb=>exact .mk (css:=λ_=>[]) hx (e_o hb hB) (QAI _) (QAI _) (λ_=>rfl) (λp hp=>by cases hp) (λp hp=>by cases hp) (λi y hy=>by simp at hy)
  | @mk x bs vs v1 S1 g c cur Ss hx hb h1 h2 h3 h4 h5 h6 ih =>
   refine .mk (css:=λi=>(cur.drop<|i * 3).take 3) hx (e_o hb λk hk=>hB k<|QAW _ hk) h1 h2 (λh=>by cases h) ?_ ?_ ?_
   .intro p hp;obtain rfl:=QAS hp;exact ⟨λ_=>rfl,λ_=>hB g<|QAH _ QAM⟩
   .intro p hp i y hy;obtain rfl:=QAS hp
    simpa using h3.cells (i * 3) 3
   .intro i y hy;obtain ⟨Si,hSi⟩:=j_k h5 hy;exact ih i y Si hy hSi λk hk=>hB k<|QAH _<|QAF _<|e_x hSi hk
 pos:=by decide
theorem l_b {w:World}{B:Zone}{cs:List Value}{x:Val}(h:rep w B cs x):∃(G:Option Addr)(I H:Nat)(a2:Option Addr)(J L:Nat),cs=[vI x.number,.slice G I H,.slice a2 J L]/\inI x.number/\repS w B (.slice G I H) x.bytes/\repS w B (.slice a2 J L) x.items:=by
 cases (show RepV w B cs x from h) with
 | @mk x bs vs v1 ao c css hx hb h1 h2 h3 h4 h5 h6 =>
  obtain ⟨G,H,rfl⟩:=repS.shape hb;exact ⟨G,_,H,ao,_,c,rfl,hx,hb,ao,c,rfl,h1,h2,h3,λp hp=>⟨(h4 p hp).1,(h4 p hp).2,λi y hy=>⟨css i,h5 p hp i y hy,h6 i y hy⟩⟩⟩
theorem p_t {w:World}{x:Val}{G:Option Addr}{H I:Nat}{a2:Option Addr}{J L:Nat}{S1 S2:List Nat}(O:inI x.number)(V:c_ w S1 (.slice G H I) x.bytes)(W:c_ w S2 (.slice a2 J L) x.items):own w (S1++S2) [vI x.number,.slice G H I,.slice a2 J L] x:=by
 obtain ⟨x,bs,vs⟩:=x
 rcases W with ⟨he,hv,rfl⟩ | ⟨g,c,cur,Ss,he,h1,h2,h3,h4,rfl,h6,Y⟩
 .cases he
  cases (show vs=[] from hv)
  rw [List.append_nil]
  exact h_Q.nil O V
 .cases he
  exact h_Q.mk O V h1 h2 h3 h4 h6 Y
theorem t_P {w:World}{S:List Nat}{cs:List Value}{x:Val}(h:own w S cs x):∃(G:Option Addr)(I H:Nat)(a2:Option Addr)(J L:Nat)(S1 S2:List Nat),cs=[vI x.number,.slice G I H,.slice a2 J L]/\S=S1++S2/\inI x.number/\c_ w S1 (.slice G I H) x.bytes/\c_ w S2 (.slice a2 J L) x.items:=by
 cases (show h_Q w S cs x from h) with
 | nil hx hb =>
  obtain ⟨G,H,rfl⟩:=c_.shape hb;exact ⟨G,_,H,none,0,0,S,[],rfl,by simp,hx,hb,n_m _⟩
 | @mk x bs vs v1 S1 g c cur Ss hx hb h1 h2 h3 h4 h5 h6 =>
  obtain ⟨G,H,rfl⟩:=c_.shape hb;exact ⟨G,_,H,_,_,c,S1,_,rfl,rfl,hx,hb,.inr ⟨g,c,cur,Ss,rfl,h1,h2,h3,h4,rfl,h5,h6⟩⟩
end Go.Vw
namespace Go.Vw
open Go.RowKit Dat
theorem p_Z {α:Type}[Dat α]{w:World}{S:List Nat}{g n c i:Nat}{l:List α}{x:α}(ho:c_ w S (.slice (some ⟨g,0,none⟩) n c) l)(hN:S.Nodup)(hx:l[i]? = some x) :
  ∃cur Si,Blk w g cur/\cur.length=c * sz α/\i<c/\n=l.length/\own w Si (a_2 (sz α) i cur) x/\Si.Nodup/\(∀k∈Si,k∈S)/\g∉Si/\g∈S /\
   ∀(Y:Nat->Prop)(w':World)(cur':List Value)(x':α)(Si':List Nat),(∀k∈S,Y k->k=g∨k∈Si)->Blk w' g cur'->cur'.length=cur.length->(∀j,j<c->j ≠ i->a_2 (sz α) j cur'=a_2 (sz α) j cur)->own w' Si' (a_2 (sz α) i cur') x'->Chg Y w w'->Si'.Nodup->(∀k∈Si',k∈Si∨w.heap.size<=k) ->
    ∃S',c_ w' S' (.slice (some ⟨g,0,none⟩) n c) (l.set i x')/\S'.Nodup/\(∀k∈S',k∈S∨w.heap.size<=k):=by
 have hlt:=ho.lt
 rcases ho with ⟨h,_⟩ | ⟨g',c',cur,Ss,he,h1,h2,h3,h4,rfl,h6,H⟩
 .cases h
 simp only [Value.slice.injEq,QAJ,Addr.mk.injEq,and_true] at he
 obtain ⟨rfl,rfl,rfl⟩:=he;have hi:=(List.getElem?_eq_some_iff.1 hx).1;have hic:i<c:=QAC hi h1;obtain ⟨hgn,hfn⟩:=QAq.1 hN;obtain ⟨Si,hSi⟩:=j_k h6 hx;have hsubF:∀k∈Si,k∈List.flatten Ss:=λk hk=>e_x hSi hk
 have hiS:i<Ss.length:=by omega
 have G:=hfn
 rw [QA8,QBK] at G
 obtain ⟨J,I⟩:=G;have hSiN:Si.Nodup:=by grind
 rw [QBA] at I
 have hSie:Ss[i]=Si:=by grind
 have hdis:∀(j:Nat)(hj:j<Ss.length),j ≠ i->∀t∈Ss[j],t∉Si:=by
  grind
 refine ⟨cur,Si,h3,h4,hic,rfl,H i x Si hx hSi,hSiN,λk hk=>QAF _<|hsubF k hk,λhg=>hgn<|hsubF g hg,QAM,?_⟩;intro Y w' cur' x' Si' hY hB hl hch hx' hc hN' hsub
 have hsub2:∀k∈List.flatten (Ss.set i Si'),k∈List.flatten Ss∨w.heap.size<=k:=by
  grind [id,List.mem_flatten,List.mem_or_eq_of_mem_set,List.mem_flatten]
 refine ⟨g::List.flatten (Ss.set i Si'),.inr ⟨g,c,cur',Ss.set i Si',by simp,by grind,by grind,hB,by omega,rfl,by grind,?_⟩,?_,?_⟩
 .intro j y Sj hy hSj;have hj:j<l.length:=by grind
  show own w' Sj (a_2 (sz α) j _) y
  by_cases hji:j=i
  .grind
  .rw [hch j (QAC hj h1) hji]
   rw [List.getElem?_set_ne (Ne.symm hji)] at hy hSj
   have hjS:j<Ss.length:=by omega
   have hje:Ss[j]=Sj:=by grind
   exact f_V (H j y Sj hy hSj) hc<|λk hk hk'=>(hY k (QAF _<|e_x hSj hk) hk').elim (λh=>hgn<|h ▸ e_x hSj hk) (hdis j hjS hji k<|hje ▸ hk)
 .refine QAq.2 ⟨λhm=>?_,?_⟩
  .grind [absurd,List.mem_cons_self,Nat.not_lt]
  .have notS:∀(j:Nat)(hj:j<Ss.length),j ≠ i->∀t∈Ss[j],t∉Si':=λj hj hji t ht ht'=>(hsub t ht').elim (hdis j hj hji t ht) (λh=>absurd (hlt t<|QAF _<|QAZ.2 ⟨Ss[j],QAU hj,ht⟩)<|QAm.2 h)
   rw [QA8,QBK]
   refine ⟨λSj hSj=>?_,?_⟩
   .grind
   .rw [QBA]
    grind
 grind
theorem q_0 {α:Type}[Dat α]{w:World}{S:List Nat}{g n c i:Nat}{l:List α}{x:α}(ho:c_ w S (.slice (some ⟨g,0,none⟩) n c) l)(hN:S.Nodup)(hx:l[i]? = some x) :
  ∃cur Si,Blk w g cur/\cur.length=c * sz α/\i<c/\n=l.length/\own w Si (a_2 (sz α) i cur) x/\Si.Nodup/\(∀k∈Si,k∈S)/\g∉Si/\g∈S /\
   ∀(w':World)(cur':List Value)(x':α)(Si':List Nat),Blk w' g cur'->cur'.length=cur.length->(∀j,j<c->j ≠ i->a_2 (sz α) j cur'=a_2 (sz α) j cur)->own w' Si' (a_2 (sz α) i cur') x'->Chg (λk=>k=g∨k∈Si) w w'->Si'.Nodup->(∀k∈Si',k∈Si∨w.heap.size<=k) ->
    ∃S',c_ w' S' (.slice (some ⟨g,0,none⟩) n c) (l.set i x')/\S'.Nodup/\(∀k∈S',k∈S∨w.heap.size<=k):=by
 grind [p_Z]
theorem j_c {α:Type}[Dat α]{w:World}{S:List Nat}{ao:Option Addr}{g n c:Nat}{i:Int}{l:List α}{x:α}(ha:ao=some ⟨g,0,none⟩)(ho:c_ w S (.slice ao n c) l)(hN:S.Nodup)(hx:idx l i=some x) :
  ∃cs Si,r_ w g (0+i.toNat * sz α) cs/\own w Si cs x/\Si.Nodup/\(∀k∈Si,k∈S)/\g∈S /\
   ∀(w':World)(x':α)(Si':List Nat),Chg (· ∈ Si) w w'->own w' Si' cs x'->Si'.Nodup->(∀k∈Si',k∈Si∨w.heap.size<=k) ->
    ∃S',c_ w' S' (.slice ao n c) (l.set i.toNat x')/\S'.Nodup/\(∀k∈S',k∈S∨w.heap.size<=k):=by
 subst ha;obtain ⟨_,hx,_⟩:=a_k hx;obtain ⟨cur,Si,h1,h2,h3,h4,h5,h6,H,I,J,G⟩:=q_0 ho hN hx;refine ⟨a_2 (sz α) i.toNat cur,Si,?_,h5,h6,H,J,λw' x' Si' hc hx' hN' hsub=>G w' cur x' Si' (h1.chg hc I) rfl (λ_ _ _=>rfl) hx' (hc.mono λk _ h=>.inr h) hN' hsub⟩
 rw [QAp]
 exact h1.cells _ _
theorem v_7 {α:Type}[Dat α]{w w':World}{S:List Nat}{g n c o:Nat}{i:Int}{l m:List α}{x x':α}{u:Value}(ho:c_ w S (.slice (some ⟨g,0,none⟩) n c) l)(hN:S.Nodup)(hx:idx l i=some x)(hm:upd l i x'=some m)(hset:∀(w:World)(S:List Nat)(cs:List Value),own w S cs x->own w S (cs.set o u) x')(hlt:o<sz α)
  (hB:∀cur,Blk w g cur->Blk w' g (cur.set (i.toNat * sz α+o) u)) (hch:Chg (· = g) w w'):∃S',c_ w' S' (.slice (some ⟨g,0,none⟩) n c) m/\S'.Nodup/\(∀k∈S',k∈S∨w.heap.size<=k):=by
 obtain ⟨rfl,_,_⟩:=g_V hm;obtain ⟨_,hx,_⟩:=a_k hx;obtain ⟨cur,Si,h1,h2,h3,h4,h5,h6,H,I,J,G⟩:=q_0 ho hN hx;refine G w' (cur.set (i.toNat * sz α+o) u) x' Si (hB cur h1) (by simp) ?_ ?_ (hch.mono λk _ h=>.inl h) h6<|λk hk=>.inl hk
 .intro j hj hji;unfold a_2
  apply List.ext_getElem?
  intro q
  rw [List.getElem?_take,List.getElem?_take]
  split
  .rename_i hq
   rw [List.getElem?_drop,List.getElem?_drop,List.getElem?_set_ne]
   intro he
   rcases Nat.lt_or_ge j i.toNat with h | h
   .have:=QAL (sz α)<|Nat.succ_le_of_lt h
    grind
   .have:=QAL (sz α)<|Nat.succ_le_of_lt<|Nat.lt_of_le_of_ne h<|Ne.symm hji
    grind
  .rfl
 .have:a_2 (sz α) i.toNat (cur.set (i.toNat * sz α+o) u)=(a_2 (sz α) i.toNat cur).set o u:=by
   simp_all [a_2,List.drop_set,QA7,List.take_set]
  grind [f_V]
section
variable {X:Nat->Prop}{P:Program}{N:Nat}{e:Env}{w:World}{dst:Option Tmp}{ty:TypeId}{pos:String}{aft:Array Edge}{gd:Option (Nat×Bool)}{x y:Operand}{T E:Nat}
theorem e_w {α:Type}[Dat α]{ao:Option Addr}{n c sz':Nat}{S:List Nat}{l:List α}{i:Int}{v:α}{kk:IntKind}(hT:P.underlying T=some (.slice E))(hs:∀w,(sizeOf E).run P w = .ok sz' w)(hx:ev e x=some (.slice ao n c))(hy:ev e y=some (.int kk i))(hr:c_ w S (.slice ao n c) l)(hi:idx l i=some v) :
  ∃u,Rd X P N ⟨dst,.indexAddr T x y,ty,pos,aft,gd⟩ e w u/\∃g,ao=some ⟨g,0,none⟩/\u = .pointer (some ⟨g,0+i.toNat * sz',none⟩):=by
 obtain ⟨G,_,h1⟩:=a_k hi;obtain ⟨g,rfl⟩:=hr.head (by omega);obtain ⟨_,_,he,_⟩:=hr.rep
 cases he
 exact ⟨_,l_t (k:=kk) hT hs hx hy G h1,g,rfl,rfl⟩
theorem j_d {α:Type}[Dat α]{S:List Nat}{g n c o sz':Nat}{ao:Option Addr}{i:Int}{l m:List α}{v v':α}{u:Value}(hs:∀w,(sizeOf T).run P w = .ok 1 w)(hsz:sz'=sz α)(hao:ao=some ⟨g,0,none⟩)(hx:ev e x=some (.pointer<|some ⟨g,0+i.toNat * sz'+o,none⟩))(hy:ev e y=some u)(hu:u.cells.toList=[u])(h1:u.oneCell'=true)
  (hi:idx l i=some v) (hm:upd l i v'=some m) (ho:c_ w S (.slice ao n c) l) (hN:S.Nodup) (hlt:o<sz') (hset:∀(w:World)(S:List Nat)(cs:List Value),own w S cs v->own w S (cs.set o u) v') :
  Ef P N ⟨none,.store T x y,ty,pos,aft,gd⟩ e w (λ_ w'=>∃S',Chg (· ∈ S) w w'/\c_ w' S' (.slice ao n c) m/\S'.Nodup/\(∀k∈S',k∈S∨w.heap.size<=k)):=by
 subst hao hsz;obtain ⟨cur,hB,hcl,hlc,hg⟩:=ho.blk;obtain ⟨H,_,h2⟩:=a_k hi;have hle:i.toNat * sz α+sz α<=cur.length:=by rw [hcl,← QA2];exact QAL _ (by omega)
 have hus:u.cells.size=1:=by grind [Array.length_toList]
 have h:=a_U (P:=P) (N:=N) (ty:=ty) (pos:=pos) (aft:=aft) (gd:=gd) hs hx hy hB hus (by omega) (by grind) rfl
 constructor
 intro a ha Q;refine Oper.wp_mono ?_<|h.run a ha Q;rintro a' w' ⟨G,rfl,hb,hch⟩
 obtain ⟨S',k1,k2,k3⟩:=v_7 ho (w':=w') hN hi hm hset hlt (λcur' hc'=>by
  obtain rfl:=hB.uniq hc'
  rw [hu] at hb
  simp only [QAp,QA5,QAD] at hb
  rw [List.set_eq_take_append_cons_drop,QAd (by omega)]
  grind) hch
 exact ⟨G,rfl,S',hch.mono<|λk _ hk=>hk ▸ hg,k1,k2,k3⟩
end
theorem j_e {w:World}{S:List Nat}{cs:List Value}{x:Int}(h:own w S cs x):cs=[vI x]/\S=[]/\inI x:=by
 obtain ⟨rfl,v,rfl,rfl,h⟩:=h
 grind
theorem q_1 {w:World}{S:List Nat}{cs:List Value}{x:Str}(h:own w S cs x):cs=[x.v]/\S=[]/\x.b.length<=LEN:=by
 obtain ⟨rfl,v,rfl,rfl,h⟩:=h
 grind
theorem v_8 {w:World}{S:List Nat}{cs:List Value}{x:Bool}(h:own w S cs x):cs=[vB x]/\S=[]:=by
 obtain ⟨rfl,v,rfl,rfl⟩:=h
 simp
theorem j_f {α:Type}[Dat α]{w:World}{S:List Nat}{cs:List Value}{x:List α}(h:own w S cs x):∃(a:Option Addr)(n c:Nat),cs=[.slice a n c]/\c_ w S (.slice a n c) x:=by
 obtain ⟨v,rfl,h⟩:=h;obtain ⟨a,c,rfl⟩:=c_.shape h
 grind
end Go.Vw
namespace Go.Vw
open Go.RowKit Dat
structure f_ where
 name:Str
 kind:Int
 size:Int
 little:Bool
 bytes:Bt
 names:List Str
 tags:List Int
 kids:List Int
deriving DecidableEq,Inhabited
instance:Dat f_:=Dat.via<|λr=>(r.name,r.kind,r.size,r.little,r.bytes,r.names,r.tags,r.kids)
theorem a_T {w:World}{B:Zone}{cs:List Value}{x:f_}(h:rep w B cs x):∃(G:Option Addr)(H I:Nat)(a2:Option Addr)(J L:Nat)(O:Option Addr)(V W:Nat)(Y:Option Addr)(n4 c4:Nat),cs=[x.name.v,vI x.kind,vI x.size,vB x.little,.slice G H I,.slice a2 J L,.slice O V W,.slice Y n4 c4]/\x.name.b.length<=LEN/\inI x.kind/\inI x.size/\repS w B (.slice G H I) x.bytes/\repS w B (.slice a2 J L) x.names/\repS w B (.slice O V W) x.tags/\repS w B (.slice Y n4 c4) x.kids:=by
 obtain ⟨c1_,d1_,rfl,g1,t1⟩:=h;obtain ⟨rfl,p0⟩:=a_e g1;obtain ⟨c2_,d2_,rfl,g2,t2⟩:=t1;obtain ⟨rfl,p1⟩:=a_z g2;obtain ⟨c3_,d3_,rfl,g3,t3⟩:=t2;obtain ⟨rfl,p2⟩:=a_z g3;obtain ⟨c4_,d4_,rfl,g4,t4⟩:=t3;obtain rfl:=f_2 g4;obtain ⟨c5_,d5_,rfl,g5,t5⟩:=t4;obtain ⟨G,H,I,rfl,p3⟩:=f_5 g5;obtain ⟨c6_,d6_,rfl,g6,t6⟩:=t5;obtain ⟨a2,J,L,rfl,p4⟩:=f_5 g6;obtain ⟨c7_,d7_,rfl,g7,t7⟩:=t6;obtain ⟨O,V,W,rfl,p5⟩:=f_5 g7;obtain ⟨Y,n4,c4,rfl,p6⟩:=f_5 t7
 grind
theorem e_r {w:World}{x:f_}{G:Option Addr}{H I:Nat}{a2:Option Addr}{J L:Nat}{O:Option Addr}{V W:Nat}{Y:Option Addr}{n4 c4:Nat}{S1:List Nat}{S2:List Nat}{S3:List Nat}{S4:List Nat}(p0:x.name.b.length<=LEN)(p1:inI x.kind)(p2:inI x.size)(p3:c_ w S1 (.slice G H I) x.bytes)(p4:c_ w S2 (.slice a2 J L) x.names)(p5:c_ w S3 (.slice O V W) x.tags)(p6:c_ w S4 (.slice Y n4 c4) x.kids):own w (S1++(S2++(S3++(S4)))) [x.name.v,vI x.kind,vI x.size,vB x.little,.slice G H I,.slice a2 J L,.slice O V W,.slice Y n4 c4] x:=by
 have h:own w _ _ x:=(d_e (b_c p0)<|d_e (d_d p1)<|d_e (d_d p2)<|d_e b_U<|d_e (j_7 p3)<|d_e (j_7 p4)<|d_e (j_7 p5)<|j_7 p6)
 grind
theorem f_G {w:World}{S:List Nat}{cs:List Value}{x:f_}(h:own w S cs x):∃(G:Option Addr)(H I:Nat)(a2:Option Addr)(J L:Nat)(O:Option Addr)(V W:Nat)(Y:Option Addr)(n4 c4:Nat)(S1:List Nat)(S2:List Nat)(S3:List Nat)(S4:List Nat),cs=[x.name.v,vI x.kind,vI x.size,vB x.little,.slice G H I,.slice a2 J L,.slice O V W,.slice Y n4 c4]/\S=S1++(S2++(S3++(S4)))/\x.name.b.length<=LEN/\inI x.kind/\inI x.size/\c_ w S1 (.slice G H I) x.bytes/\c_ w S2 (.slice a2 J L) x.names/\c_ w S3 (.slice O V W) x.tags/\c_ w S4 (.slice Y n4 c4) x.kids:=by
 obtain ⟨c1_,d1_,s1_,u1_,rfl,rfl,g1,t1⟩:=h;obtain ⟨rfl,rfl,p0⟩:=q_1 g1;obtain ⟨c2_,d2_,s2_,u2_,rfl,rfl,g2,t2⟩:=t1;obtain ⟨rfl,rfl,p1⟩:=j_e g2;obtain ⟨c3_,d3_,s3_,u3_,rfl,rfl,g3,t3⟩:=t2;obtain ⟨rfl,rfl,p2⟩:=j_e g3;obtain ⟨c4_,d4_,s4_,u4_,rfl,rfl,g4,t4⟩:=t3;obtain ⟨rfl,rfl⟩:=v_8 g4;obtain ⟨c5_,d5_,s5_,u5_,rfl,rfl,g5,t5⟩:=t4;obtain ⟨G,H,I,rfl,p3⟩:=j_f g5;obtain ⟨c6_,d6_,s6_,u6_,rfl,rfl,g6,t6⟩:=t5;obtain ⟨a2,J,L,rfl,p4⟩:=j_f g6;obtain ⟨c7_,d7_,s7_,u7_,rfl,rfl,g7,t7⟩:=t6;obtain ⟨O,V,W,rfl,p5⟩:=j_f g7;obtain ⟨Y,n4,c4,rfl,p6⟩:=j_f t7;exact ⟨G,H,I,a2,J,L,O,V,W,Y,n4,c4,_,_,_,_,rfl,by simp,p0,p1,p2,p3,p4,p5,p6⟩
theorem u_i {w:World}{S:List Nat}{cs:List Value}{x:f_}{v:Str}(h:own w S cs x)(hv:v.b.length<=LEN):own w S (cs.set 0<|v.v) (⟨v,x.kind,x.size,x.little,x.bytes,x.names,x.tags,x.kids⟩:f_):=by
 obtain ⟨V,W,Y,a2,n2,c2,a3,n3,c3,a4,n4,c4,S1,S2,S3,S4,rfl,rfl,p0,G,H,I,J,L,O⟩:=f_G h;exact e_r (x:=⟨v,x.kind,x.size,x.little,x.bytes,x.names,x.tags,x.kids⟩) hv G H I J L O
theorem u_j {w:World}{S:List Nat}{cs:List Value}{x:f_}{v:Int}(h:own w S cs x)(hv:inI v):own w S (cs.set 1<|vI v) (⟨x.name,v,x.size,x.little,x.bytes,x.names,x.tags,x.kids⟩:f_):=by
 obtain ⟨V,W,Y,a2,n2,c2,a3,n3,c3,a4,n4,c4,S1,S2,S3,S4,rfl,rfl,G,p1,H,I,J,L,O⟩:=f_G h;exact e_r (x:=⟨x.name,v,x.size,x.little,x.bytes,x.names,x.tags,x.kids⟩) G hv H I J L O
theorem u_k {w:World}{S:List Nat}{cs:List Value}{x:f_}{v:Int}(h:own w S cs x)(hv:inI v):own w S (cs.set 2<|vI v) (⟨x.name,x.kind,v,x.little,x.bytes,x.names,x.tags,x.kids⟩:f_):=by
 obtain ⟨V,W,Y,a2,n2,c2,a3,n3,c3,a4,n4,c4,S1,S2,S3,S4,rfl,rfl,G,H,p2,I,J,L,O⟩:=f_G h;exact e_r (x:=⟨x.name,x.kind,v,x.little,x.bytes,x.names,x.tags,x.kids⟩) G H hv I J L O
theorem u_l {w:World}{S:List Nat}{cs:List Value}{x:f_}{v:Bool}(h:own w S cs x):own w S (cs.set 3<|vB v) (⟨x.name,x.kind,x.size,v,x.bytes,x.names,x.tags,x.kids⟩:f_):=by
 obtain ⟨W,Y,c1,a2,n2,c2,a3,n3,c3,a4,n4,c4,S1,S2,S3,S4,rfl,rfl,G,H,I,J,L,O,V⟩:=f_G h;exact e_r (x:=⟨x.name,x.kind,x.size,v,x.bytes,x.names,x.tags,x.kids⟩) G H I J L O V
structure d_ where
 rules:List f_
deriving DecidableEq,Inhabited
instance:Dat d_:=Dat.via<|λr=>r.rules
theorem e_s {w:World}{B:Zone}{cs:List Value}{x:d_}(h:rep w B cs x):∃(G:Option Addr)(H I:Nat),cs=[.slice G H I]/\repS w B (.slice G H I) x.rules:=by
 obtain ⟨G,H,I,rfl,J⟩:=f_5 h
 grind
theorem n_i {w:World}{x:d_}{G:Option Addr}{H I:Nat}{S1:List Nat}(J:c_ w S1 (.slice G H I) x.rules):own w (S1) [.slice G H I] x:=by
 simp_all [own]
theorem u_m {w:World}{S:List Nat}{cs:List Value}{x:d_}(h:own w S cs x):∃(G:Option Addr)(H I:Nat)(S1:List Nat),cs=[.slice G H I]/\S=S1/\c_ w S1 (.slice G H I) x.rules:=by
 obtain ⟨G,H,I,rfl,J⟩:=j_f h
 grind
structure j_ where
 path:Str
 rule:Int
 start:Int
 end_:Int
deriving DecidableEq,Inhabited
instance:Dat j_:=Dat.via<|λr=>(r.path,r.rule,r.start,r.end_)
instance:a_t j_:=⟨λh=>a_t.flat (α:=Str×Int×Int×Int) h,λh=>a_t.none (α:=Str×Int×Int×Int) h⟩
theorem h_T {w:World}{B:Zone}{cs:List Value}{x:j_}(h:rep w B cs x):cs=[x.path.v,vI x.rule,vI x.start,vI x.end_]/\x.path.b.length<=LEN/\inI x.rule/\inI x.start/\inI x.end_:=by
 obtain ⟨c1_,d1_,rfl,g1,G⟩:=h;obtain ⟨rfl,O⟩:=a_e g1;obtain ⟨c2_,d2_,rfl,H,I⟩:=G;obtain ⟨rfl,V⟩:=a_z H;obtain ⟨c3_,d3_,rfl,J,L⟩:=I;obtain ⟨rfl,W⟩:=a_z J;obtain ⟨rfl,Y⟩:=a_z L
 grind
theorem f_H {w:World}{x:j_}(G:x.path.b.length<=LEN)(H:inI x.rule)(I:inI x.start)(J:inI x.end_):own w (([]:List Nat)) [x.path.v,vI x.rule,vI x.start,vI x.end_] x:=by
 have h:own w _ _ x:=(d_e (b_c G)<|d_e (d_d H)<|d_e (d_d I)<|d_d J)
 grind
theorem u_n {w:World}{S:List Nat}{cs:List Value}{x:j_}(h:own w S cs x):cs=[x.path.v,vI x.rule,vI x.start,vI x.end_]/\S=[]/\x.path.b.length<=LEN/\inI x.rule/\inI x.start/\inI x.end_:=by
 obtain ⟨c1_,d1_,s1_,u1_,rfl,rfl,g1,G⟩:=h;obtain ⟨rfl,rfl,O⟩:=q_1 g1;obtain ⟨c2_,d2_,s2_,u2_,rfl,rfl,H,I⟩:=G;obtain ⟨rfl,rfl,V⟩:=j_e H;obtain ⟨c3_,d3_,s3_,u3_,rfl,rfl,J,L⟩:=I;obtain ⟨rfl,rfl,W⟩:=j_e J;obtain ⟨rfl,rfl,Y⟩:=j_e L
 grind
theorem u_o {w:World}{S:List Nat}{cs:List Value}{x:j_}{v:Int}(h:own w S cs x)(hv:inI v):own w S (cs.set 3<|vI v) (⟨x.path,x.rule,x.start,v⟩:j_):=by
 obtain ⟨rfl,rfl,G,H,I,J⟩:=u_n h;exact f_H (x:=⟨x.path,x.rule,x.start,v⟩) G H I hv
structure p_H where
 rule:Int
 tag:Int
deriving DecidableEq,Inhabited
instance:Dat p_H:=Dat.via<|λr=>(r.rule,r.tag)
instance:a_t p_H:=⟨λh=>a_t.flat (α:=Int×Int) h,λh=>a_t.none (α:=Int×Int) h⟩
structure c_G where
 d:d_
 b:Bt
 rule:Int
 at_:Int
deriving DecidableEq,Inhabited
instance:Dat c_G:=Dat.via<|λr=>(r.d,r.b,r.rule,r.at_)
structure e_t where
 d:d_
 b:Bt
 list_:List j_
deriving DecidableEq,Inhabited
instance:Dat e_t:=Dat.via<|λr=>(r.d,r.b,r.list_)
structure a_D where
 d:d_
 b:Bt
deriving DecidableEq,Inhabited
instance:Dat a_D:=Dat.via<|λr=>(r.d,r.b)
structure p_I where
 position:Int
 code:Int
deriving DecidableEq,Inhabited
instance:Dat p_I:=Dat.via<|λr=>(r.position,r.code)
instance:a_t p_I:=⟨λh=>a_t.flat (α:=Int×Int) h,λh=>a_t.none (α:=Int×Int) h⟩
structure a_3 where
 d:d_
 b:Bt
 applied:Int
deriving DecidableEq,Inhabited
instance:Dat a_3:=Dat.via<|λr=>(r.d,r.b,r.applied)
structure R_ where
 at_:Int
 code:Int
deriving DecidableEq,Inhabited
instance:Dat R_:=Dat.via<|λr=>(r.at_,r.code)
instance:a_t R_:=⟨λh=>a_t.flat (α:=Int×Int) h,λh=>a_t.none (α:=Int×Int) h⟩
structure p_J where
 code:Int
 position:Int
 path:Str
 rule:Int
deriving DecidableEq,Inhabited
instance:Dat p_J:=Dat.via<|λr=>(r.code,r.position,r.path,r.rule)
instance:a_t p_J:=⟨λh=>a_t.flat (α:=Int×Int×Str×Int) h,λh=>a_t.none (α:=Int×Int×Str×Int) h⟩
structure Tracer where
 d:d_
 b:Bt
 path:Str
 rule:Int
deriving DecidableEq,Inhabited
instance:Dat Tracer:=Dat.via<|λr=>(r.d,r.b,r.path,r.rule)
structure L1Cur where
 b:Bt
 i:Int
 h:Int
deriving DecidableEq,Inhabited
instance:Dat L1Cur:=Dat.via<|λr=>(r.b,r.i,r.h)
structure a_9 where
 versions:List d_
deriving DecidableEq,Inhabited
instance:Dat a_9:=Dat.via<|λr=>r.versions
theorem u_p {w:World}{B:Zone}{cs:List Value}{x:a_9}(h:rep w B cs x):∃(G:Option Addr)(H I:Nat),cs=[.slice G H I]/\repS w B (.slice G H I) x.versions:=by
 obtain ⟨G,H,I,rfl,J⟩:=f_5 h;exact ⟨G,H,I,rfl,J⟩
structure Log where
 bytes:Bt
 stored:Int
deriving DecidableEq,Inhabited
instance:Dat Log:=Dat.via<|λr=>(r.bytes,r.stored)
theorem u_q {w:World}{B:Zone}{cs:List Value}{x:Log}(h:rep w B cs x):∃(G:Option Addr)(H I:Nat),cs=[.slice G H I,vI x.stored]/\repS w B (.slice G H I) x.bytes/\inI x.stored:=by
 obtain ⟨c1_,d1_,rfl,g1,J⟩:=h;obtain ⟨G,H,I,rfl,L⟩:=f_5 g1;obtain ⟨rfl,O⟩:=a_z J;exact ⟨G,H,I,rfl,L,O⟩
structure H_ where
 registry:a_9
 log:Log
deriving DecidableEq,Inhabited
instance:Dat H_:=Dat.via<|λr=>(r.registry,r.log)
theorem u_r {w:World}{B:Zone}{cs:List Value}{x:H_}(h:rep w B cs x):∃(G:Option Addr)(H I:Nat)(a2:Option Addr)(J L:Nat),cs=[.slice G H I,.slice a2 J L,vI x.log.stored]/\repS w B (.slice G H I) x.registry.versions/\repS w B (.slice a2 J L) x.log.bytes/\inI x.log.stored:=by
 obtain ⟨c1_,d1_,rfl,g1,O⟩:=h;obtain ⟨G,H,I,rfl,V⟩:=u_p g1;obtain ⟨a2,J,L,rfl,W,Y⟩:=u_q O;exact ⟨G,H,I,a2,J,L,rfl,V,W,Y⟩
structure o_ where
 name:Str
 version:Int
 data:Bt
deriving DecidableEq,Inhabited
instance:Dat o_:=Dat.via<|λr=>(r.name,r.version,r.data)
theorem g_O {w:World}{B:Zone}{cs:List Value}{x:o_}(h:rep w B cs x):∃(G:Option Addr)(H I:Nat),cs=[x.name.v,vI x.version,.slice G H I]/\x.name.b.length<=LEN/\inI x.version/\repS w B (.slice G H I) x.data:=by
 obtain ⟨c1_,d1_,rfl,g1,J⟩:=h;obtain ⟨rfl,V⟩:=a_e g1;obtain ⟨c2_,d2_,rfl,L,O⟩:=J;obtain ⟨rfl,W⟩:=a_z L;obtain ⟨G,H,I,rfl,Y⟩:=f_5 O
 grind
theorem j_4 {w:World}{B:Zone}{x:o_}{G:Option Addr}{H I:Nat}(J:x.name.b.length<=LEN)(L:inI x.version)(O:repS w B (.slice G H I) x.data):rep w B [x.name.v,vI x.version,.slice G H I] x:=(d_Z (Str_mk J)<|d_Z (Int_mk L)<|u_K O)
structure q_ where
 kind:Int
 name:Str
 version:Int
 data:Bt
deriving DecidableEq,Inhabited
instance:Dat q_:=Dat.via<|λr=>(r.kind,r.name,r.version,r.data)
theorem g_P {w:World}{B:Zone}{cs:List Value}{x:q_}(h:rep w B cs x):∃(G:Option Addr)(H I:Nat),cs=[vI x.kind,x.name.v,vI x.version,.slice G H I]/\inI x.kind/\x.name.b.length<=LEN/\inI x.version/\repS w B (.slice G H I) x.data:=by
 obtain ⟨c1_,d1_,rfl,g1,J⟩:=h;obtain ⟨rfl,Y⟩:=a_z g1;obtain ⟨c2_,d2_,rfl,L,O⟩:=J;obtain ⟨rfl,p1⟩:=a_e L;obtain ⟨c3_,d3_,rfl,V,W⟩:=O;obtain ⟨rfl,p2⟩:=a_z V;obtain ⟨G,H,I,rfl,p3⟩:=f_5 W
 grind
theorem p_K {w:World}{x:q_}{G:Option Addr}{H I:Nat}{S1:List Nat}(J:inI x.kind)(L:x.name.b.length<=LEN)(O:inI x.version)(V:c_ w S1 (.slice G H I) x.data):own w (S1) [vI x.kind,x.name.v,vI x.version,.slice G H I] x:=by
 have h:own w _ _ x:=(d_e (d_d J)<|d_e (b_c L)<|d_e (d_d O)<|j_7 V)
 grind
end Go.Vw
namespace Go.Vw
open Go.RowKit Dat
structure GlW (NG:Nat)(D:World->Prop)(w:World)(B:Zone):Prop where
 le:bl NG<=B
 nw:NG<=w.heap.size
 at_:∃u,D u/\∀k,k<NG->w.heap[k]? = u.heap[k]?
section
variable {NG:Nat}{D:World->Prop}{w w':World}{B:Zone}
theorem GlW.mk0 (h:D w)(hB:bl NG<=B)(hw:NG<=w.heap.size):GlW NG D w B:=⟨hB,hw,w,h,λ_ _=>rfl⟩
theorem GlW.ext (h:GlW NG D w B)(hb:Below w.heap.size w w'):GlW NG D w' B:=by
 obtain ⟨u,hu,he⟩:=h.at_;exact ⟨h.le,QAG h.nw hb.size,u,hu,λk hk=>(hb.block k<|QAC hk h.nw).trans (he k hk)⟩
theorem GlW.chg {X:Nat->Prop}(h:GlW NG D w B)(hc:Chg X w w')(hx:∀k,B k->¬X k):GlW NG D w' B:=by
 obtain ⟨u,hu,he⟩:=h.at_;exact ⟨h.le,QAG h.nw hc.size,u,hu,λk hk=>(hc.block k (QAC hk h.nw)<|hx k<|h.le k hk).trans (he k hk)⟩
theorem GlW.mono {B':Zone}(h:GlW NG D w B)(hb:B<=B'):GlW NG D w B':=⟨zt h.le hb,h.nw,h.at_⟩
theorem GlW.cell (h:GlW NG D w B){a:Addr}{v:Value}(hD:∀u,D u->u.cell? a=some v)(ha:a.block<NG):w.cell? a=some v:=by
 obtain ⟨u,hu,he⟩:=h.at_
 grind [World.cell?_of_block]
theorem GlW.tab {P:Program}(h:GlW NG D w B){name:String}{k:IntKind}{zs:List Int}{g:Nat}(hD:∀u,D u->Lib.TabIs P u name k zs)(hg:P.globalNamed name=some g)(ha:g<NG):Lib.TabIs P w name k zs:=by
 obtain ⟨u,hu,he⟩:=h.at_
 grind [Lib.TabIs,World.var?]
end
theorem u_S (w:World)(os:Array Obj)(k:Nat):Below w.heap.size w (Sort.grow (w.drewN k) os) :=
 ⟨rfl,rfl,rfl,by simp,λj hj=>by
  grind [Sort.grow,World.drewN]⟩
theorem u_T {P:Program}{f:FuncId}{args:Array Value}{w:World}{v:Value}(h:Calls P f args w λe w'=>e = .returned v/\∃k os,w'=Sort.grow (w.drewN k) os) :
  g_ P f args.toList w (λr w'=>v=r/\Below w.heap.size w w') :=
 ⟨by
  have:args.toList.toArray=args:=by simp
  rw [this]
  exact h.mono λe w' ⟨he,k,os,hw⟩=>⟨_,he,rfl,hw ▸ u_S _ _ _⟩⟩
theorem as_chg {w:World}{g:Nat}{u v:Value}{o1 o2 o3 o4:Obj}(_h:Blk w g [u]):Chg (· = g) w (((((w.alloc o1).alloc o2).alloc o3).alloc o4).setCell ⟨g,0,none⟩ v):=by
 exact Chg.comp (X:=(· = g)) (Y:=(· = g)) (Vw.Below.chg (bup (bup (bup (b_s w o1)<|b_s _ o2)<|b_s _ o3)<|b_s _ o4) _) (show Chg (· = g) _ _ from q_3 _ ⟨g,0,none⟩ _)<|λ_ _ h=>h
theorem as_blk {w:World}{g:Nat}{u v:Value}{o1 o2 o3 o4:Obj}(h:Blk w g [u]):Blk (((((w.alloc o1).alloc o2).alloc o3).alloc o4).setCell ⟨g,0,none⟩ v) g [v]:=by
 have h1:=(((h.ext<|b_s w o1).ext (b_s _ o2)).ext (b_s _ o3)).ext (b_s _ o4)
 simpa using h1.set 0 v
def l_p (x:Int):Option Str:=some ⟨Lib.itoa x⟩
end Go.Vw
namespace Go.Vw
open Go.RowKit Dat
def PtrR {α:Type}[Dat α](w:World)(B:Zone)(b o:Nat)(x:α):Prop:=∃cs,r_ w b o cs/\rep w B cs x/\B b
def ptrO {α:Type}[Dat α](w:World)(B:Zone)(v:Value):Option α->Prop
 | none=>v = .pointer none
 | some x=>∃b o,v = .pointer (some ⟨b,o,none⟩)/\PtrR w B b o x
theorem PtrR.mk {α:Type}[Dat α]{w:World}{B:Zone}{b o:Nat}{cs:List Value}{x:α}(h:r_ w b o cs)(hr:rep w B cs x)(hb:B b):PtrR w B b o x:=⟨cs,h,hr,hb⟩
theorem ptrO.mk {α:Type}[Dat α]{w:World}{B:Zone}{b o:Nat}{x:α}(h:PtrR w B b o x):ptrO w B (.pointer<|some ⟨b,o,none⟩) (some x):=⟨b,o,rfl,h⟩
theorem ptrO.nil {α:Type}[Dat α]{w:World}{B:Zone}:ptrO w B (.pointer none) (none:Option α):=rfl
section
variable {X:Nat->Prop}{P:Program}{N:Nat}{e:Env}{w:World}{dst:Option Tmp}{ty:TypeId}{pos:String}{aft:Array Edge}{gd:Option (Nat×Bool)}{x:Operand}{T1 T2 E:Nat}
end
end Go.Vw
namespace Go.Vw
open Go.RowKit Dat
structure RowI (m:Nat)(l:List Int):Prop where
 len:l.length=m
 inn:∀x∈l,inI x
section
variable {P:Program}{N:Nat}{e:Env}{w:World}{X:Nat->Prop}{dst:Option Tmp}{T E m:Nat}{ty:TypeId}{pos:String}{aft:Array Edge}{gd:Option (Nat×Bool)}{x y:Operand}
theorem RowI.at {l:List Int}{i z:Int}(hr:RowI m l)(hi:idx l i=some z):inI z :=
 hr.inn _ (List.mem_of_getElem? (a_k hi).2.1)
end
end Go.Vw
namespace Go.Vw
open Go.RowKit Dat
def h_6 (w:World)(G:Nat)(S:List Nat)(b o:Nat)(x:Val)(k:Val->Val):Prop :=
 ∃cur Sx,Blk w b cur/\o+3<=cur.length/\own w Sx ((cur.drop o).take 3) x/\Sx.Nodup/\b∉Sx/\b∈G::S/\(∀j∈Sx,j∈S) /\
  ∀(Y:Nat->Prop)(w':World)(cur':List Value)(x':Val)(Sx':List Nat),(∀j∈G::S,Y j->j=b∨j∈Sx)->Blk w' b cur'->cur'.length=cur.length->(∀j,j<o∨o+3<=j->cur'[j]? = cur[j]?)->own w' Sx' ((cur'.drop o).take 3) x'->Chg Y w w'->Sx'.Nodup->(∀j∈Sx',j∈Sx∨w.heap.size<=j) ->
   ∃cs S',Blk w' G cs/\own w' S' cs (k x')/\S'.Nodup/\(∀j∈S',j∈S∨w.heap.size<=j)
theorem u_W {w:World}{S:List Nat}{cs:List Value}{x:Val}(h:own w S cs x):cs.length=3:=by
 obtain ⟨_,_,_,_,_,_,_,_,rfl,_⟩:=t_P h;rfl
theorem u_X {n i:Nat}{l:List Value}{j:Nat}:(a_2 n i l)[j]? = if j<n then l[i * n+j]? else none:=by
 grind [a_2]
theorem h_6.step {w:World}{L:Nat}{S:List Nat}{b o:Nat}{x y:Val}{k:Val->Val}{i:Int}(h:h_6 w L S b o x k)(hi:idx x.items i=some y) :
  ∃b2,(∃cur n c a,Blk w b cur/\(cur.drop o).take 3=[vI x.number,a,.slice (some ⟨b2,0,none⟩) n c])/\h_6 w L S b2 (i.toNat * 3) y (λz=>k<|.mk x.number x.bytes<|x.items.set i.toNat z):=by
 obtain ⟨cur,Sx,h1,h2,h3,h4,h5,h6,G,h8⟩:=h;obtain ⟨i0,i1,i2⟩:=a_k hi;obtain ⟨a1,n1,c1,a2,n2,c2,S1,S2,O,rfl,q0,V,W⟩:=t_P h3;obtain ⟨b2,rfl⟩:=W.head (by omega);have a4:=(QAb.1 h4).1;have a5:=(QAb.1 h4).2.1;have hdj:=(QAb.1 h4).2.2;obtain ⟨a0,Si,l1,l2,l3,l4,l5,l6,H,l8,I,J⟩:=p_Z W a5 i1;have hsz:sz Val=3:=rfl
 rw [hsz] at l2 l5 J
 have hb2S:b2∈S:=G _<|QAH _ I;have a3:b ≠ b2:=λe=>h5<|e ▸ QAH _ I
 refine ⟨b2,⟨cur,n2,c2,_,h1,O⟩,a0,Si,l1,?_,l5,l6,l8,QAF _ hb2S,λj hj=>G j<|QAH _<|H j hj,?_⟩
 .omega
 intro Y w' cur' x' Sx' hY hB' hl' hj ho' hc hn' hs';have hlen:((cur'.drop<|i.toNat * 3).take 3)=a_2 3 i.toNat cur':=rfl
 obtain ⟨S2',m1,m2,m3⟩:=J Y w' cur' x' Sx' (λj hj hy=>hY j (QAF _ (G j (QAH _ hj))) hy) hB' hl' (λj hjc hji=>by
  apply List.ext_getElem?
  grind [Nat.lt_or_ge,Nat.mul_le_mul_right,u_X]) ho' hc hn' hs'
 have hYb:¬Y b:=λhy=>(hY b h6 hy).elim a3 (λq=>h5<|QAH _<|H b q)
 have a6:∀j∈S1,¬Y j:=λj hj hy=>by
  grind
 refine h8 Y w' cur (.mk x.number x.bytes<|x.items.set i.toNat x') (S1++S2') (λj hj hy=>(hY j hj hy).elim (λe=>.inr<|e ▸ QAH _ I) (λq=>.inr<|QAH _<|H j q)) (h1.chg hc hYb) rfl (λ_ _=>rfl) ?_ hc ?_ ?_
 .rw [O]
  exact p_t (x:=.mk x.number x.bytes<|x.items.set i.toNat x') q0 (V.chg hc a6) m1
 .refine QAb.2 ⟨a4,m2,λa ha c hc' hac=>?_⟩;subst hac
  rcases m3 _ hc' with q | q
  .grind
  .exact absurd (V.lt _ ha)<|QAm.2 q
 grind
theorem h_6.rd {w w':World}{B:Zone}{G:Nat}{S:List Nat}{b o:Nat}{x:Val}{k:Val->Val}(h:h_6 w G S b o x k)(hb:Below w.heap.size w w')(hS:∀j∈G::S,B j):PtrR w' B b o x:=by
 obtain ⟨cur,Sx,h1,h2,h3,h4,h5,h6,H,I⟩:=h;exact ⟨_,(h1.ext hb).row o 3 rfl,own_rep (j_j h3 hb)<|λj hj=>hS j<|QAF _<|H j hj,hS b h6⟩
theorem h_6.put {w H:World}{J:Nat}{S:List Nat}{b o:Nat}{x y:Val}{k:Val->Val}{Sy:List Nat}{cs:List Value}(h:h_6 w J S b o x k)(hb:Below w.heap.size w H)(hy:own H Sy cs y)(hn:Sy.Nodup)(hs:∀j∈Sy,w.heap.size<=j) :
  ∃cur,Blk H b cur/\o+3<=cur.length/\cs.length=3/\∀G,Blk G b (cur.take o++cs++cur.drop (o+3))->Chg (· = b) H G->∃c' S',Blk G J c'/\own G S' c' (k y)/\S'.Nodup/\(∀j∈S',j∈S∨w.heap.size<=j):=by
 obtain ⟨cur,Sx,h1,h2,h3,h4,h5,h6,O,L⟩:=h;have I:=u_W hy;refine ⟨cur,h1.ext hb,h2,I,λG hB hc=>?_⟩;have hbl:b<w.heap.size:=h1.lt;have hlc:(cur.take o).length=o:=by grind
 have hnb:b∉Sy:=λq=>absurd (hs b q)<|QBD.2 hbl
 refine L (λj=>j=b) G _ y Sy (λj hj e=>.inl e) hB ?_ ?_ ?_ ?_ hn<|λj hj=>.inr<|hs j hj
 .grind
 .grind
 .rw [QAh,List.drop_append,QAl (by omega),hlc,QBC,QAP,QAr,List.take_append,QAR (by omega),I,QBC,QA3,List.append_nil]
  grind [f_V]
 .exact ((Chg.refl _ w).ext hb).comp hc λj hlt e=>e
end Go.Vw
namespace Go.Vw
open Go.RowKit Dat
abbrev e_4:Type:=Nat×List Str
def j_8 (l:List Str)(s:Str):Str:=⟨Lib.join (l.map (·.b)) s.b⟩
def l_q (l:List Str)(s:Str):Option Str:=if (j_8 l s).b.length<=LEN then some (j_8 l s) else none
def shU (c:UInt8)(k:Nat):UInt8:=UInt8.ofNat<|c.toNat / 2 ^ k
theorem shU_eq {c:UInt8}{q:Int}(G:0<=q)(H:q<=8):c_W .u8 (b_ c) q=b_ (shU c q.toNat):=by
 have hc:=c.toNat_lt;unfold c_W shU b_
 rw [show min q.toNat IntKind.u8.bits=q.toNat from QBL (by show q.toNat<=8;omega)]
 have h1:c.toNat / 2 ^ q.toNat<256:=Nat.lt_of_le_of_lt (Nat.div_le_self _ _) hc
 grind [UInt8.toNat_ofNat',Nat.mod_eq_of_lt,Int.fdiv_eq_ediv_of_nonneg,Int.le_of_lt,Int.pow_pos]
theorem and_eq (a b:UInt8):b_P .u8 (· &&& ·) (b_ a) (b_ b)=b_ (a &&& b):=by
 unfold b_P b_;have ha:=a.toNat_lt;have hb:=b.toNat_lt
 have G:BitVec.ofInt IntKind.u8.bits (a.toNat:Int)=a.toBitVec:=by
  apply BitVec.eq_of_toNat_eq
  rw [BitVec.toNat_ofInt]
  show ((a.toNat:Int) % 256).toNat=a.toNat
  omega
 have H:BitVec.ofInt IntKind.u8.bits (b.toNat:Int)=b.toBitVec:=by
  apply BitVec.eq_of_toNat_eq
  rw [BitVec.toNat_ofInt]
  show ((b.toNat:Int) % 256).toNat=b.toNat
  omega
 rw [G,H]
 show IntKind.u8.wrap (((a &&& b).toNat:Nat):Int)=_
 have hab:=(a &&& b).toNat_lt
 grind [IntKind.wrap_u8]
section
variable {X:Nat->Prop}{P:Program}{N:Nat}{e:Env}{w:World}{dst:Option Tmp}{ty:TypeId}{pos:String}{aft:Array Edge}{gd:Option (Nat×Bool)}{x y:Operand}{T T':TypeId}
theorem u_U {k':IntKind}{c:UInt8}{q:Int}(h1:ev e x=some (vU<|b_ c))(h2:ev e y=some (.int k' q))(G:0<=q/\q<=8):Rd X P N ⟨dst,.binOp .shr T x y T',ty,pos,aft,gd⟩ e w (vU<|b_<|shU c q.toNat):=by
 have:=n_r (X:=X) (P:=P) (N:=N) (w:=w) (dst:=dst) (ty:=ty) (pos:=pos) (aft:=aft) (gd:=gd) (T:=T) (T':=T') (k':=k') h1 h2 G.1
 grind [shU_eq]
theorem u_V {a b:UInt8}(h1:ev e x=some (vU<|b_ a))(h2:ev e y=some (vU<|b_ b)):Rd X P N ⟨dst,.binOp .and T x y T',ty,pos,aft,gd⟩ e w (vU<|b_<|a &&& b):=by
 have:=rd_and (X:=X) (P:=P) (N:=N) (w:=w) (dst:=dst) (ty:=ty) (pos:=pos) (aft:=aft) (gd:=gd) (T:=T) (T':=T') h1 h2
 grind [and_eq]
end
end Go.Vw
namespace Go.Vw
open Go.RowKit Dat
theorem u_Y {w:World}{B:Zone}{ao:Option Addr}{n c:Nat}{l:List Str}(h:repS w B (.slice ao n c) l) :
  n=l.length/\l.length<=c/\l.length<=LEN/\(l=[]∨∃b o,ao=some ⟨b,o,none⟩/\B b/\∀(j:Nat) x,(l.map<|λs=>(⟨s.b.toArray⟩:ByteArray))[j]? = some x->w.cell? ⟨b,o+j,none⟩=some (.string x)):=by
 obtain ⟨ao',c',he,h1,h2,h3,h4⟩:=h
 cases he
 refine ⟨rfl,h1,h2,?_⟩
 by_cases hl:l=[]
 .grind
 right
 cases ao with
 | none=>grind
 | some p =>
  obtain ⟨G,H,I⟩:=h4 p rfl;have hs:=G hl;obtain ⟨b,o,s⟩:=p
  simp only at hs
  subst hs;refine ⟨b,o,rfl,H hl,λj x hx=>?_⟩
  rw [List.getElem?_map] at hx
  cases hj:l[j]? with
  | none=>grind
  | some t =>
   rw [hj] at hx
   obtain rfl:=QAS hx;obtain ⟨cs,J,L⟩:=I j t hj;obtain ⟨rfl,_⟩:=a_e L;have:=J 0 t.v rfl
   simpa [show sz Str=1 from rfl] using this
theorem u_Z {P:Program}{f:FuncId}{G a2 v:Value}{w:World}{R:Value->World->Prop}(h:Calls P f #[G,a2] w λe w'=>e = .returned v/\Below w.heap.size w w')(hR:∀w',Below w.heap.size w w'->R v w'):g_ P f [G,a2] w R :=
 ⟨h.mono λe w' ⟨he,hb⟩=>⟨_,he,hR w' hb⟩⟩
theorem p_U (l:List Str)(s:Str):(⟨(Lib.join ((l.map<|λs=>(⟨s.b.toArray⟩:ByteArray)).map (·.data.toList)) (⟨s.b.toArray⟩:ByteArray).data.toList).toArray⟩:ByteArray)=⟨(j_8 l s).b.toArray⟩:=by
 grind [j_8,List.map_map,Function.comp_def]
end Go.Vw
namespace Go.Vw
open Go.RowKit Dat
def c_J {α:Type}(kv:α->Value)(ok:α->Prop)(w:World)(g:Nat)(f:α->Bool):Prop :=
 ∃es clock,w.heap[g]? = some (.map es clock)/\(∀e∈es.toList,∃x,ok x/\e.key=kv x/\e.val = .bool (f x))/\(∀x,(∀e∈es.toList,e.key ≠ kv x)->f x=false) /\
  es.toList.Pairwise (λa b=>a.key ≠ b.key)
section
variable {α:Type}{kv:α->Value}{ok:α->Prop}{w w':World}{g:Nat}{f:α->Bool}
theorem c_J.lt (h:c_J kv ok w g f):g<w.heap.size:=by obtain ⟨es,c,h,_⟩:=h;grind
theorem c_J.of_eq (h:c_J kv ok w g f)(he:w'.heap[g]? = w.heap[g]?):c_J kv ok w' g f:=by obtain ⟨es,c,h,r⟩:=h;exact ⟨es,c,he.trans h,r⟩
theorem c_J.ext (h:c_J kv ok w g f)(hb:Below w.heap.size w w'):c_J kv ok w' g f:=h.of_eq<|hb.block g h.lt
theorem c_J.chg {X:Nat->Prop}(h:c_J kv ok w g f)(hc:Chg X w w')(hx:¬X g):c_J kv ok w' g f:=h.of_eq<|hc.block g h.lt hx
variable {X:Nat->Prop}{P:Program}{N:Nat}{e:Env}{dst:Option Tmp}{ty:TypeId}{p:String}{aft:Array Edge}{gd:Option (Nat×Bool)}{x y z:Operand}{T:Nat}{k:α}
end
theorem nm0 {k:Nat}:k∉([]:List Nat):=by simp
theorem j_h {X:Nat->Prop}{P:Program}{N:Nat}{e:Env}{w:World}{dst:Option Tmp}{ty:TypeId}{p:String}{aft:Array Edge}{gd:Option (Nat×Bool)}{x:Operand}{T:Nat}{s t:Str}{a b:Int}{lo hi:Option Operand}(hT:P.underlying T=some .string)(hx:ev e x=some s.v)
  (hlo:evo e lo 0 a) (hhi:evo e hi s.b.length b) (hs:s.b.length<=LEN) (hm:c_2 s a b=some t):Rd X P N ⟨dst,.slice T x lo hi none,ty,p,aft,gd⟩ e w t.v:=by
 unfold c_2 at hm
 obtain ⟨m,G,rfl⟩:=QBF.1 hm;obtain ⟨g1,H,I,rfl⟩:=e_u G;have:=u_;intro act ha w' _;have hsz:(⟨s.b.toArray⟩:ByteArray).size=s.b.length:=by rfl
 have hb:∀code,(Instr.sliceBound (vI b) s.b.length code).run P w' = .ok b.toNat w':=λcode=>run_sliceBound w' .i64 b s.b.length code (by omega) (by omega)
 have hal:∀code,(Instr.sliceBound (vI a) b.toNat code).run P w' = .ok a.toNat w':=λcode=>run_sliceBound w' .i64 a b.toNat code g1 (by omega)
 have hbs:(Instr.sliceBounds false s.b.length s.b.length (lo.map act.eval) (hi.map act.eval) none).run P w' = .ok (a.toNat,b.toNat,s.b.length) w':=by
  cases lo with
  | none =>
   obtain rfl:a=0:=hlo
   cases hi with
   | none =>
    obtain rfl:b=(s.b.length:Int):=hhi
    rfl
   | some y=>simp [Instr.sliceBounds,ha.ev hhi,hb]
  | some u =>
   cases hi with
   | none =>
    obtain rfl:b=(s.b.length:Int):=hhi;have hal':∀code,(Instr.sliceBound (vI a) s.b.length code).run P w' = .ok a.toNat w':=λcode=>by simp_all
    simp [Instr.sliceBounds,ha.ev hlo,hal']
   | some y=>simp [Instr.sliceBounds,ha.ev hlo,ha.ev hhi,hb,hal]
 have he:(⟨s.b.toArray⟩:ByteArray).extract a.toNat b.toNat=⟨((s.b.take b.toNat).drop a.toNat).toArray⟩:=by
  apply ByteArray.ext
  grind [List.drop_take,ByteArray.data_extract]
 have h1:(Instr.sliceAt T s.v (lo.map act.eval) (hi.map act.eval) none).run P w' = .ok (.string<|(⟨s.b.toArray⟩:ByteArray).extract a.toNat b.toNat) w':=by
  simp_all [Instr.sliceAt,Instr.slice,Instr.sliceAt,run_underlying]
 simp only [execOp,ha.ev hx,QB_,Sem.run_bind,h1,Result.andThen_ok,he]
 rfl
end Go.Vw
namespace Go.Vw
open Go.RowKit Dat
inductive LfE (P:Program):Nat->Value->Value->Bool->Prop
 | int {t:Nat} {p q:Int} (h:P.underlying t=some (.int .i64)):LfE P t (vI p) (vI q) (p==q)
 | str {t:Nat} {s r:Str} (h:P.underlying t=some .string):LfE P t s.v r.v (s.b==r.b)
 | bool {t:Nat} {p q:Bool} (h:P.underlying t=some .bool):LfE P t (vB p) (vB q) (p==q)
inductive FsE (P:Program)(xs ys:Array Value):List Field->Bool->Prop
 | nil:FsE P xs ys [] true
 | cons {f:Field} {fs:List Field} {a b:Value} {r q:Bool} (hn:(f.name != "_")=true) (hg:∀w,(isAgg f.type).run P w = .ok false w) (hx:xs[f.offset]? = some a) (hy:ys[f.offset]? = some b) (hl:LfE P f.type a b r) (ht:FsE P xs ys fs q):FsE P xs ys (f::fs) (r && q)
theorem LfE.run {P:Program}{t:Nat}{a b:Value}{r:Bool}(h:LfE P t a b r)(d:Nat)(w:World):(Op.equalIn (d+1) t a b).run P w = .ok r w:=by
 cases h with
 | int h=>grind [run_equalIn_int]
 | str h =>
  grind [v_j,run_equalIn_string]
 | bool h=>grind [run_equalIn_bool']
theorem p_O {P:Program}{t:Nat}{xs:Array Value}{o:Nat}{v:Value}(hg:∀w,(isAgg t).run P w = .ok false w)(hx:xs[o]? = some v)(w:World):(part t xs o).run P w = .ok v w:=by
 simp [part,hg,hx,Result.andThen]
theorem FsE.run {P:Program}{xs ys:Array Value}{fs:List Field}{r:Bool}(h:FsE P xs ys fs r)(d:Nat)(w:World):(Op.eqFields (d+1) xs ys fs).run P w = .ok r w:=by
 induction h with
 | nil=>rfl
 | cons hn hg hx hy hl ht ih =>
  rename_i f fs a b r q
  have hn':f.name ≠ "_" := by grind
  simp only [Op.eqFields,QAd hn',Sem.run_bind,p_O hg hx,p_O hg hy,Result.andThen_ok,hl.run d w]
  cases r with
  | true=>grind
  | false=>simp
structure EqA {α:Type}[DecidableEq α](P:Program)(T:Nat)(kv:α->Value):Prop where
 run:∀x y,∃xs ys fs,kv x = .agg xs/\kv y = .agg ys/\P.underlying T=some (.struct fs)/\FsE P xs ys fs.toList (decide<|x=y)
 stood:P.stoodInHeld T=false
 guard:P.eqGuardType P.depth T=false
section
variable {α:Type}[DecidableEq α]{kv:α->Value}{w:World}{X:Nat->Prop}{P:Program}{N:Nat}{e:Env}{dst:Option Tmp}{ty:TypeId}{pos:String}{aft:Array Edge}{gd:Option (Nat×Bool)}{x y:Operand}{T T':Nat}{a b:α}
theorem EqA.eql (E:EqA P T kv)(w:World):(Op.equalIn 10000 T (kv a)<|kv b).run P w = .ok (decide<|a=b) w:=by
 obtain ⟨xs,ys,fs,h1,h2,h3,h4⟩:=E.run a b;have hf:P.fieldsOf T=fs:=by grind [Program.fieldsOf]
 rw [h1,h2,run_equalIn_struct w 9999 T xs ys (by grind) E.stood,hf]
 exact h4.run 9998 w
end
section
variable {α:Type}{kv:α->Value}{ok:α->Prop}{w w':World}{g:Nat}{f:α->Bool}{P:Program}{N:Nat}{e:Env}{dst:Option Tmp}{ty:TypeId}{p:String}{aft:Array Edge}{gd:Option (Nat×Bool)}{x y z:Operand}{T U:Nat}{k:α}
end
section
variable {P:Program}{N:Nat}{e:Env}{w:World}{fn:Func}{R:Value->World->Prop}
end
end Go.Vw
namespace Go.Vw
open Go.RowKit Dat
section
variable {P:Program}{N:Nat}{ops:Array Oper}{K:Act->World->Prop}{T0:Nat}{p:a_C}{op:Op}{d:Nat}{e:Env}{w:World}{X:Nat->Prop}{dst:Option Tmp}{T E:Nat}{ty:TypeId}{pos:String}{aft:Array Edge}{gd:Option (Nat×Bool)}{x y:Operand}
end
def Hx (L:List Nat)(ao:Option Addr)(z k:Nat):Prop:=(k∈L/\∀a,ao=some a->a.block ≠ k)∨z<=k
theorem hxm {L S:List Nat}{ao:Option Addr}{z g:Nat}(ha:ao=some ⟨g,0,none⟩)(h1:∀k∈S,k∈L∨z<=k)(h2:g∉S):∀k∈S,Hx L ao z k:=λk hk=>(h1 k hk).imp (λh=>⟨h,λa e he=>h2 (by
 grind)⟩) id
end Go.Vw
namespace Go.Vw
open Go.RowKit Dat
section
variable {X:Nat->Prop}{P:Program}{N:Nat}{e:Env}{w:World}{dst:Option Tmp}{ty:TypeId}{pos:String}{aft:Array Edge}{gd:Option (Nat×Bool)}{x:Operand}
theorem h_W {f:FuncId}{caps:List Operand}{vs:List Value}(hv:evs e caps=some vs):Rd X P N ⟨dst,.makeFunc (.func f) #[] caps.toArray,ty,pos,aft,gd⟩ e w (.func (.func f) #[] vs.toArray):=λa ha w' _=>by
 have hm:(caps.toArray.map a.eval)=vs.toArray:=by rw [QA4,ha.evs hv]
 simp [execOp,Instr.makeFunc,hm]
theorem d_y {f:FuncId}{args:List Operand}{tys:Array TypeId}{vs caps:List Value}{R:Value->World->Prop}(hcall:∀(args:Array Value)(w:World),(callFunc f args).run P w = .ok (.enter f args) w)(hx:ev e x=some (.func (.func f) #[] caps.toArray))(hv:evs e args=some vs)(hc:g_ P f (vs++caps) w R) :
  Ef P N ⟨dst,.call { callee:=.value x,args:=args.toArray,argTypes:=tys },ty,pos,aft,gd⟩ e w R:=⟨λa ha Q=>by
 have hm:(args.toArray.map a.eval)=vs.toArray:=by rw [QA4,ha.evs hv]
 unfold Oper.wp
 have hr:(execOp a.eval ⟨dst,.call { callee:=.value x,args:=args.toArray,argTypes:=tys },ty,pos,aft,gd⟩).run P w = .ok (.enter f (vs++caps).toArray) w:=by
  simp [execOp,resolve,ha.ev hx,Deferred.ofValue,invoke,hcall,hm]
 rw [hr]
 exact Calls.mono hc.run λe' w' ⟨v,he,hR⟩=>by grind⟩
end
end Go.Vw
namespace Go.Vw
open Go.RowKit Dat
theorem s_X {o:Oper}{ρ:Operand->Value}{l:Nat}(hd:∀c,o.op ≠ .defer c):o.semAt (some l) ρ=execOp ρ o:=by
 unfold Oper.semAt
 grind
theorem y_m {P:Program}{n l:Nat}{o:Oper}{a:Act}{w:World}{K:Act->World->Prop}{Q:Exit->Act->World->Prop}(hd:∀c,o.op ≠ .defer c)(h:o.wp P a w K Q):o.wpIn (Fence.wide.inRound l) n P a w K Q:=by
 refine ⟨λ_ _=>trivial,?_⟩
 show o.uponIn _ n P a K Q ((o.semAt (some l) a.eval).run P w)
 rw [s_X hd]
 unfold Oper.wp at h
 generalize (execOp a.eval o).run P w=r at *
 cases r with
 | ok m w' =>
  cases m <;> simp only [Oper.upon,Oper.uponIn] at h ⊢
  case value=>exact h
  case skip=>exact h
  case defer=>exact h
  case enter f args=>exact ⟨λh=>by simp [Fence.wide] at h,(show CallsIn Fence.wide (n - 1) P f args w' _ from callsIn_wide.2 h)⟩
  case row row args=>exact ⟨λh=>by simp [Fence.wide] at h,λc cs _=>let ⟨v,w',r,s⟩:=h c cs;⟨v,w',r,stepsIn_wide.2 s⟩⟩
 | halt x w'=>cases x <;> simp only [Oper.upon,Oper.uponIn] at h ⊢ <;> exact h
theorem s_Y {P:Program}{n l:Nat}{ops:Array Oper}{Q:Exit->Act->World->Prop}(hQ:¬LetsOut Q):∀(l1:List Oper),(∀o∈l1,∀c,o.op ≠ .defer c)->∀(a:Act)(w:World),wpList P ops Q l1 a w->wpListIn (Fence.wide.inRound l) n P ops Q l1 a w
 | [],_,a,w,h=>h
 | o::l1,hd,a,w,h=>by
  unfold wpList at h
  unfold wpListIn;have ih:=λa w h=>s_Y (P:=P) (ops:=ops) (n:=n) (l:=l) hQ l1 (λo ho=>hd o<|QAF _ ho) a w h
  split at h
  .rename_i hw
   rw [QAd hw]
   grind [absurd,y_m,List.mem_cons_self,Oper.wp_mono]
  .rename_i hw
   rw [QA7 hw]
   exact ⟨λ_ _=>trivial,ih _ _ h⟩
def s_Z (l:List Oper):Bool:=l.all λo=>match o.op with | .defer _=>false | _=>true
theorem y_n {l:List Oper}(h:s_Z l=true):∀o∈l,∀c,o.op ≠ .defer c:=λo ho c hc=>by
 have:=QAz.1 h o ho
 grind
def WCI (P:Program)(N n l:Nat)(c:Code)(K:Act->World->Prop)(Q:Exit->Act->World->Prop)(e:Env)(w:World):Prop :=
 ∀a,Sat N e a->c.wpIn (Fence.wide.inRound l) n P (Exit.then K Q) a w
section
variable {P:Program}{N n l:Nat}{K:Act->World->Prop}{Q:Exit->Act->World->Prop}{e:Env}{w:World}
theorem i_l {id:Nat}{l1:List Oper}(hd:s_Z l1=true)(hQ:∀a w,¬Q .outgrown a w)(h:WL P N l1.toArray K Q l1 e w):WCI P N n l (.region id l1.toArray false) K Q e w:=λa ha =>
 wpIn_region_lit (s_Y (Q:=Exit.then K Q) (λ⟨a,w,h⟩=>hQ a w h) l1 (y_n hd) a w<|h a ha)
theorem i_m {x y:Code}(h:WCI P N n l x (λa w=>y.wpIn (Fence.wide.inRound l) n P (Exit.then K Q) a w) Q e w):WCI P N n l (.seq x y) K Q e w:=λa ha =>
 wpIn_seq (Code.wpIn_mono (λex a w q=>by cases ex <;> exact q)<|h a ha)
theorem t_0 {c:Operand}{x y:Code}{b:Bool}(hc:ev e c=some (.bool b))(ht:b=true->WCI P N n l x K Q e w)(hf:b=false->WCI P N n l y K Q e w):WCI P N n l (.cond c x y) K Q e w:=λa ha =>
 wpIn_cond_split (ha.ev hc) (λh=>ht h a ha) (λh=>hf h a ha)
theorem t_1 (h:AtK N K e w):WCI P N n l .skip K Q e w:=λa ha=>wpIn_skip<|h a ha
theorem t_2 (h:∀a,Sat N e a->Q .ret a w):WCI P N n l .ret K Q e w:=λa ha=>wpIn_ret<|h a ha
theorem t_3 {id:Nat}{c:Code}(h:WCI P N n l c K (inB id K Q) e w):WCI P N n l (.block id c) K Q e w:=λa ha =>
 wpIn_block (Code.wpIn_mono (λex a w q=>by
  cases ex with
  | exit i=>grind [Exit.then,inB,Exit.inBlock]
  | _=>exact q) (h a ha))
theorem WCI.of_KC {y:Code}(h:WCI P N n l y K Q e w):AtK N (λa w=>y.wpIn (Fence.wide.inRound l) n P (Exit.then K Q) a w) e w:=h
def WLW (P:Program)(N:Nat)(ops:Array Oper)(K:Act->World->Prop)(Q:Exit->Act->World->Prop)(l:List Oper)(e:Env)(w:World):Prop :=
 ∀a,Sat N e a->wpListIn Fence.wide 1 P ops (Exit.then K Q) l a w
theorem t_4 {id:Nat}{l1:List Oper}(h:WLW P N l1.toArray K Q l1 e w):WC P N (.region id l1.toArray false) K Q e w:=λa ha =>
 wpIn_wide.1 (wpIn_region_lit<|h a ha)
variable {ops:Array Oper}{rest:List Oper}{d:Tmp}{op:Op}{ty:TypeId}{pos:String}{aft:Array Edge}
theorem m_d (h:AtK N K e w):WLW P N ops K Q [] e w:=λa ha=>h a ha
theorem g_m {v:Value}(hf:Nat.blt d N=true)(h:Rd noX P N ⟨some d,op,ty,pos,aft,none⟩ e w v)(k:WLW P N ops K Q rest ((d,v)::e) w):WLW P N ops K Q (⟨some d,op,ty,pos,aft,none⟩::rest) e w:=λa ha=>by
 unfold wpListIn
 rw [QAd (by rfl)]
 refine ⟨λ_ _=>trivial,?_⟩
 rw [Fence.wide_round,Oper.semAt_none]
 rw [h a ha w (Chg.refl _ _)]
 exact k _<|ha.put hf v
theorem t_5 {x:Operand}{args:List Operand}{tys:Array TypeId}{vs:List Value}{y:Nat}{S:Value->World->Prop}{R:Ending->World->Prop}(hf:Nat.blt d N=true)(hx:ev e x=some (.func (.yield y) #[] #[]))(hv:evs e args=some vs)(hY:YieldAt Fence.wide 0 P y vs.toArray w R)(hR:∀e w',R e w'->∃v,e = .returned v/\S v w')
  (k:∀v w',S v w'->WLW P N ops K Q rest ((d,v)::e) w'):WLW P N ops K Q (⟨some d,.call { callee:=.value x,args:=args.toArray,argTypes:=tys },ty,pos,aft,none⟩::rest) e w:=λa ha=>by
 obtain ⟨fn,tmps,assign,body,hrun,hround⟩:=hY;have hm:(args.toArray.map a.eval)=vs.toArray:=by rw [QA4,ha.evs hv]
 unfold wpListIn
 rw [QAd (by rfl)]
 refine ⟨λ_ _=>trivial,?_⟩
 rw [Fence.wide_round,Oper.semAt_none]
 have hr:(execOp a.eval ⟨some d,.call { callee:=.value x,args:=args.toArray,argTypes:=tys },ty,pos,aft,none⟩).run P w = .ok (.round y fn tmps assign body) w:=by
  simp [execOp,resolve,ha.ev hx,Deferred.ofValue,invoke,hm,hrun]
 rw [hr]
 refine ⟨λh=>by simp,hround.mono λe' w' h=>?_⟩;obtain ⟨v,rfl,hs⟩:=hR _ _ h;exact k v w' hs _<|ha.put hf v
end
def c_A (W:World)(b g:Nat):Prop:=∃n c,W.cell? ⟨b,0,none⟩=some (.slice (some ⟨g,0,none⟩) n c)
def y_o (b:Nat)(W:World)(k:Nat):Prop:=k=b∨c_A W b k∨∃o,W.heap[k]? = some o/\o.isCells=false
structure KpS (b:Nat)(W W':World):Prop where
 chg:Chg (y_o b W) W W'
 row:∀g,c_A W' b g->c_A W b g∨W.heap.size<=g
theorem KpS.trans {b:Nat}{A B C:World}(h:KpS b A B)(k:KpS b B C):KpS b A C :=
 ⟨⟨k.chg.os.trans h.chg.os,k.chg.tape.trans h.chg.tape,k.chg.output.trans h.chg.output,QAG h.chg.size k.chg.size,λi hi hx=>by
  have h1:=h.chg.block i hi hx;refine (k.chg.block i (QAC hi h.chg.size) λhm=>?_).trans h1
  rcases hm with rfl | hm | ⟨o,ho,hc⟩
  .exact hx<|.inl rfl
  .rcases h.row i hm with h2 | h2
   .exact hx<|.inr<|.inl h2
   .omega
  .exact hx (.inr (.inr ⟨o,h1.symm.trans ho,hc⟩))⟩,λg hg=>by
  rcases k.row g hg with h1 | h1
  .exact h.row g h1
  .exact .inr (QAG h.chg.size h1)⟩
theorem KpS.put {b:Nat}(W:World)(l:Nat)(o o':Obj)(hb:b<l)(hl:W.heap[l]? = some o)(hc:o.isCells=false):KpS b W (W.putObj l o'):=by
 have hlt:=(Array.getElem?_eq_some_iff.1 hl).1;refine ⟨⟨rfl,rfl,rfl,by simp,λk _ hx=>?_⟩,λg hg=>?_⟩
 .by_cases h:k=l
  .subst h;exact absurd (.inr<|.inr ⟨o,hl,hc⟩) hx
  grind [World.putObj_heap_other]
 .left
  obtain ⟨n,c,h⟩:=hg;refine ⟨n,c,?_⟩
  grind [World.cell?_of_block,World.putObj_heap_other,Nat.ne_of_lt]
theorem e_I {α:Type}[Dat α][a_t α]{w:World}{S:List Nat}{v:Value}{l:List α}(h:c_ w S v l):∀k∈S,∃cur,Blk w k cur:=by
 rcases h with ⟨_,_,rfl⟩ | ⟨g,c,cur,Ss,_,_,_,hb,_,rfl,hl,hi⟩
 .simp
 .intro k hk
  rcases QAV.1 hk with rfl | hk
  .grind
  .obtain ⟨Si,hSi,hk⟩:=QAZ.1 hk;obtain ⟨i,hi'⟩:=List.mem_iff_getElem?.1 hSi;have hlt:=(List.getElem?_eq_some_iff.1 hi').1;have:=a_t.none<|hi i l[i] Si (List.getElem?_eq_getElem (by omega)) hi'
   grind
theorem Blk.isCells {w:World}{k:Nat}{cur:List Value}(h:Blk w k cur){o:Obj}(ho:w.heap[k]? = some o):o.isCells=true:=by
 obtain ⟨T,fr,h,_⟩:=h
 rw [h] at ho;cases ho;rfl
theorem KpS.own {b:Nat}{α:Type}[Dat α][a_t α]{w w':World}{S:List Nat}{v:Value}{l:List α}(h:c_ w S v l)(hk:KpS b w w')(hb:b∉S)(hr:∀g,c_A w b g->g∉S):c_ w' S v l/\∀g,c_A w' b g->g∉S:=by
 refine ⟨h.chg hk.chg λk hm ht=>?_,λg hg hm=>?_⟩
 .rcases ht with rfl | ht | ⟨o,ho,hc⟩
  .grind
  .grind
  .obtain ⟨cur,hB⟩:=e_I h k hm
   rw [hB.isCells ho] at hc;grind
 .rcases hk.row g hg with h1 | h1
  .grind
  .exact absurd (h.lt g hm)<|QAm.2 h1
theorem Below.grows {w w':World}(h:Below w.heap.size w w'):w.grownBy w' none:=⟨h.os,h.tape,h.output,h.size,λk hk _=>h.block k hk⟩
theorem m_e {w w':World}{row:Option Nat}(h:w.grownBy w' row):Chg (λk=>row=some k) w w':=⟨h.os,h.tape,h.output,h.size,λk hk hx=>h.block k hk λe=>hx e.symm⟩
theorem m_f (w:World)(D:Nat)(o:Obj):Chg (· = D) w (w.putObj D o):=⟨rfl,rfl,rfl,by simp,λk _ hx=>World.putObj_heap_other hx⟩
def shD (ds:List Deferred)(a:Act):Act:={ a with defers:=a.defers++ds }
theorem o_B (ds:List Deferred)(a:Act)(d:Option Tmp)(v:Value):(shD ds a).put d v=shD ds (a.put d v):=by cases d <;> rfl
theorem y_p {P:Program}{o:Oper}{a:Act}{w:World}{K K':Act->World->Prop}{Q Q':Exit->Act->World->Prop}(ds:List Deferred)(hK:∀a w,K a w->K' (shD ds a) w)(hQ:∀ex a w,Q ex a w->Q' ex (shD ds a) w)(h:o.wp P a w K Q):o.wp P (shD ds a) w K' Q':=by
 have he:(shD ds a).eval=a.eval:=rfl;unfold Oper.wp at *
 rw [he]
 generalize (execOp a.eval o).run P w=r at *
 cases r with
 | ok n w' =>
  cases n <;> simp only [Oper.upon,o_B] at h ⊢
  case value=>grind
  case skip=>grind
  case defer=>exact (by have:=hK _ _ h;rw [← o_B] at this;exact this)
  case enter=>exact Calls.mono h (λe w'' he=>by
   cases e with
   | returned v=>grind
   | panicked c=>grind
   | outgrown=>exact let ⟨a,w,h⟩:=he;⟨_,_,hQ _ _ _ h⟩)
  grind [Rows.mono]
 | halt x w'=>cases x <;> simp only [Oper.upon] at h ⊢ <;> exact hQ _ _ _ h
theorem t_6 {P:Program}{ops:Array Oper}{Q Q':Exit->Act->World->Prop}(ds:List Deferred)(hQ:∀ex a w,Q ex a w->Q' ex (shD ds a) w):∀(l:List Oper)(a:Act)(w:World),wpList P ops Q l a w->wpList P ops Q' l (shD ds a) w
 | [],a,w,h=>hQ _ _ _ h
 | o::l,a,w,h=>by
  have ht:(shD ds a).tmps=a.tmps:=rfl;have ih:=λa w h=>t_6 (P:=P) (ops:=ops) ds hQ l a w h
  unfold wpList at h ⊢
  rw [ht]
  split at h
  .rename_i hw
   rw [QAd hw]
   rcases h with h | ⟨h1,a',w',h2⟩
   .grind [y_p]
   .exact .inr ⟨h1,_,_,hQ _ _ _ h2⟩
  simp_all [o_B]
def QM (P:Program)(fn:Func)(R:Value->World->Prop):Exit->Act->World->Prop:=bodyPostM Fence.wide 2 P fn (λe w'=>∃v,e = .returned v/\R v w')
section
variable {P:Program}{N:Nat}{e:Env}{w:World}{fn:Func}{R:Value->World->Prop}
theorem retM {a:Act}(h:b_V P fn R a w):QM P fn R .ret a w:=by
 obtain ⟨hd,v,hr,hR⟩:=h
 show LeavesInM _ _ _ _ _ _ a.defers .returning w
 rw [hd]
 exact ⟨v,hr,v,rfl,hR⟩
theorem retD {a:Act}{D:Nat}{v:Value}(hd:a.defers=[])(hD:w.heap[D]? = some (.deferred<|some []))(hr:(results fn a.tmps).run P (w.putObj D<|.deferred none) = .ok v (w.putObj D<|.deferred none))(hR:R v (w.putObj D<|.deferred none)):QM P fn R .ret (shD [{ target:=.collected D,args:=#[] }] a) w:=by
 show LeavesInM _ _ _ _ _ _ (a.defers++[_]) .returning w
 rw [hd]
 exact ⟨by simp,.inl ⟨D,_,rfl,run_takeDeferred hD,v,hr,v,rfl,hR⟩⟩
theorem t_7 {f:FuncId}{c:Code}{args:List Value}(hf:P.funcs[f]? = some fn)(hb:fn.body=some c)(hN:fn.ntmps=N)(hle:args.length<=N)(h:WC P N c noK (QM P fn R) (f_8 0 args) w):g_ P f args w R:=by
 refine ⟨callsIn_wide.1<|callsIn_of_wp_marks (n:=2) hf hb trivial<|wpIn_wide.2<|Code.wp_mono (λex a w q=>?_)<|h _ ⟨rfl,?_,?_⟩⟩
 .cases ex with
  | normal=>exact (show False from q).elim
  | _=>exact q
 .grind
 .intro t v ht;obtain ⟨_,h2⟩:=l_r args 0 t v ht
  grind
theorem tailD {id D:Nat}{l1:List Oper}(h:WL P N l1.toArray (λa w'=>a.defers=[]/\w'.heap[D]? = some (.deferred<|some [])/\∃v,(results fn a.tmps).run P (w'.putObj D<|.deferred none) = .ok v (w'.putObj D<|.deferred none)/\R v (w'.putObj D<|.deferred none)) (λ_ _ _=>False) l1 e w){a:Act}(ha:Sat N e a) :
  (Code.seq (.region id l1.toArray false) .ret).wp P (Exit.then noK<|QM P fn R) (shD [{ target:=.collected D,args:=#[] }] a) w:=by
 refine wp_seq<|wp_region_lit<|t_6 _ (λex a w q=>?_) l1 a w<|h a ha
 cases ex with
 | normal =>
  obtain ⟨h1,h2,v,h3,h4⟩:=q;exact wp_ret<|retD h1 h2 h3 h4
 | _=>exact (show False from q).elim
theorem t_8 {α:Type}(f:α->Str){K:Act->World->Prop}{Q:Exit->Act->World->Prop}{G ra:Nat}{g:Operand}{p t:Tmp}{ty:TypeId}{pos:String}{aft:Array Edge}{body tail:Code}{gf:Nat}{lb:List Value}{b M:Nat}{S Sp:List α->Prop}
  (hg:ev e g=some (.func (.func gf) #[] lb.toArray)) (eg:∀args w,(callFunc gf args).run P w = .ok (.enter gf args) w) (hp:Nat.blt p N=true) (ht:Nat.blt t N=true) (hbw:b<w.heap.size)
  (hseq:SeqStopsK Fence.wide 1 P gf lb.toArray (λx:α=>#[(f x).v]) (KpS b) S Sp M w) (I Ix:List α->World->Prop) (hI:OwnFrom w.heap.size I) (hIx:OwnFrom w.heap.size Ix) (H:I [] w)
  (hbody:∀l pre (x:α) W,I pre W->pre.length<M->WCI P N 0 l body (λ_ W'=>KeepsOthers W W'/\KpS b W W'/\I (pre++[x]) W') (λex _ W'=>ex = .ret/\KeepsOthers W W'/\Ix (pre++[x]) W') ((t,(f x).v)::(p,(f x).v)::e) W)
  (hdone:∀D xs W,w.heap.size<=D->S xs->I xs W->W.heap[D]? = some (.deferred<|some [])->∀a,Sat N e a->tail.wp P (Exit.then K Q) (shD [{ target:=.collected D,args:=#[] }] a) W)
  (hstop:∀D pre W,w.heap.size<=D->Sp pre->Ix pre W->W.heap[D]? = some (.deferred<|some [])->∀a,Sat N e a->Q .ret (shD [{ target:=.collected D,args:=#[] }] a) W) :
  WC P N (.block G<|.rangeFunc g #[p] (.region ra #[⟨some t,.assign<|.tmp p,ty,pos,aft,none⟩] false) body) (KC P tail K Q) Q e w:=λa ha=>by
 refine wp_block<|(wpIn_wide (n:=2)).1 ?_
 have hsh:∀D:Nat,({ a with defers:={ target:=.collected D,args:=#[] }::a.defers }:Act)=shD [{ target:=.collected D,args:=#[] }] a:=λD=>by
  unfold shD;rw [ha.defers];rfl
 have hsat:∀x:α,Sat N ((t,(f x).v)::(p,(f x).v)::e) { tmps:=(a.tmps.setIfInBounds p (f x).v).setIfInBounds t (f x).v,defers:=[] }:=λx=>by
  have h1:=(ha.put hp (f x).v).put ht (f x).v;exact ⟨rfl,h1.size,h1.at_⟩
 refine wpIn_rangeFunc_ownF (F:=Fence.wide) (n:=2) rfl (by omega) (gf:=gf) (lb:=lb.toArray) (ha.ev hg) trivial eg (encs:=λx:α=>#[(f x).v]) (Kp:=KpS b) (S:=S) (Sp:=Sp) (N:=M) (w0:=w) hseq (λh k=>h.trans k) (λW l o o' hl h1 h2 _=>KpS.put W l o o' (QAC hbw hl) h1 h2) (Below.refl _ _) (λ_=>rfl)
  I (λc pre W=>c = .ret/\Ix pre W) hI (λc s W W' row hs hg hr=>⟨hs.1,hIx s W W' row hs.2 hg hr⟩) H (λx=>{ tmps:=(a.tmps.setIfInBounds p (f x).v).setIfInBounds t (f x).v,defers:=[] }) ?_ ?_ ?_ ?_
 .intro l x W K hK;have hps:p<a.tmps.size:=by rw [ha.size];simp_all
  refine wpIn_region_lit (l:=[⟨some t,.assign<|.tmp p,ty,pos,aft,none⟩]) ?_;unfold wpListIn
  rw [QAd (by rfl)]
  refine ⟨λ_ _=>trivial,?_⟩
  rw [Fence.inRound_round,s_X (by simp)]
  simp only [execOp,Sem.run_pure,Oper.uponIn]
  have he:(Act.eval { tmps:=Array.foldl (λt (x:Tmp×Value)=>match x with | (p,v)=>t.setIfInBounds p v) a.tmps<|#[p].zip #[(f x).v],defers:=[] }<|.tmp p)=(f x).v:=by
   simp_all [Act.eval,Array.getD_eq_getD_getElem?]
  rw [he]
  have hf:Array.foldl (λt (x:Tmp×Value)=>t.setIfInBounds x.1 x.2) a.tmps (#[p].zip #[(f x).v])=a.tmps.setIfInBounds p (f x).v:=by simp
  rw [show (Array.foldl (λt (x:Tmp×Value)=>match x with | (p,v)=>t.setIfInBounds p v) a.tmps<|#[p].zip #[(f x).v])=a.tmps.setIfInBounds p (f x).v from hf]
  exact hK
 .intro l pre x W hI hlt;refine Code.wpIn_mono (λex a' W' q=>?_)<|hbody l pre x W hI hlt _<|hsat x
  cases ex with
  | normal=>exact q
  | ret=>exact ⟨q.2.1,rfl,q.2.2⟩
  | _=>exact absurd q.1 (by simp)
 .intro D xs W hD hS hI hdef
  rw [hsh]
  exact hdone D xs W hD hS hI hdef a ha
 .rintro D c pre W hD hSp ⟨rfl,hx⟩ hdef
  rw [hsh]
  exact wpIn_ret<|hstop D pre W hD hSp hx hdef a ha
end
def e_i (w:World)(G:Nat->Prop)(v:Value)(l:List Str):Prop :=
 ∃ao c,v = .slice ao l.length c/\l.length<=c/\l.length<=LEN/\(ao=none->l=[])/\∀p,ao=some p->(l ≠ []->p.spot=none/\G p.block)/\∀(i:Nat)(x:Str),l[i]? = some x->r_ w p.block (p.off+i * sz Str) [x.v]/\x.b.length<=LEN
theorem e_i.repS {w:World}{G:Nat->Prop}{v:Value}{l:List Str}{B:Zone}(h:e_i w G v l)(hB:∀k,G k->B k):Vw.repS w B v l:=by
 obtain ⟨ao,c,rfl,h1,h2,h3,h4⟩:=h;refine ⟨ao,c,rfl,h1,h2,h3,λp hp=>?_⟩;obtain ⟨k1,k2⟩:=h4 p hp;exact ⟨λhn=>(k1 hn).1,λhn=>hB _ (k1 hn).2,λi x hx=>⟨[x.v],(k2 i x hx).1,_,rfl,rfl,(k2 i x hx).2⟩⟩
theorem e_i.stay {w w':World}{G:Nat->Prop}{v:Value}{l:List Str}(h:e_i w G v l)(he:∀k,G k->w'.heap[k]? = w.heap[k]?):e_i w' G v l:=by
 obtain ⟨ao,c,rfl,h1,h2,h3,h4⟩:=h;refine ⟨ao,c,rfl,h1,h2,h3,λp hp=>?_⟩;obtain ⟨k1,k2⟩:=h4 p hp;refine ⟨k1,λi x hx=>⟨(k2 i x hx).1.of_block (he _ (k1 λhn=>by grind).2),(k2 i x hx).2⟩⟩
theorem y_q {w:World}{S:List Nat}{ao:Option Addr}{n c:Nat}{l m:List Str}{a b:Int}(h:c_ w S (.slice ao n c) l)(hs:slc l a b=some m) :
  e_i w (· ∈ S) (.slice (if c=a.toNat then ao else ao.map (·.add (a.toNat * sz Str))) m.length<|c - a.toNat) m:=by
 obtain ⟨g1,G,H,rfl⟩:=e_u hs
 rcases h with ⟨he,rfl,rfl⟩ | ⟨g,c',cur,Ss,he,k1,k2,k3,k4,rfl,k6,k7⟩
 .simp only [Value.slice.injEq] at he
  obtain ⟨rfl,rfl,rfl⟩:=he;refine ⟨_,_,rfl,by simp,by simp,λ_=>by simp,λp hp=>?_⟩
  simp
 .simp only [Value.slice.injEq] at he
  obtain ⟨rfl,rfl,rfl⟩:=he;refine ⟨_,_,rfl,by grind,by grind,λhn=>?_,λp hp=>?_⟩
  .grind
  .by_cases hc:c=a.toNat
   .grind
   .rw [QA7 hc] at hp
    simp only [Option.map_some,QAJ,Addr.add_lit] at hp
    subst hp;refine ⟨λ_=>⟨rfl,QAM⟩,λi x hx=>?_⟩
    rw [List.getElem?_drop,List.getElem?_take] at hx
    split at hx
    .have hlt:=(List.getElem?_eq_some_iff.1 hx).1;obtain ⟨v,hv,hvx,hl⟩:=(k7 _ x Ss[a.toNat+i] hx (List.getElem?_eq_getElem (by omega))).2;have h1:(sz Str)=1:=rfl;refine ⟨λj u hu=>?_,hl⟩
     have hj:j=0:=by
      grind
     subst hj
     simp at hu
     subst hu
     rw [k3.cell]
     have h2:cur[(a.toNat+i) * 1]? = some x.v:=by
      have h3:(List.take (sz Str)<|List.drop ((a.toNat+i) * sz Str) cur)[0]? = some v:=by grind
      grind
     grind
    grind
section
variable {X:Nat->Prop}{P:Program}{N:Nat}{e:Env}{w:World}{dst:Option Tmp}{ty:TypeId}{pos:String}{aft:Array Edge}{gd:Option (Nat×Bool)}{x:Operand}{T E:Nat}
theorem t_9 {S:List Nat}{n c:Nat}{ao:Option Addr}{l m:List Str}{a b:Int}{lo hi:Option Operand}(hT:P.underlying T=some (.slice E))(hs:∀w,(sizeOf E).run P w = .ok 1 w)(hx:ev e x=some (.slice ao n c))(h:c_ w S (.slice ao n c) l)
  (hlo:evo e lo 0 a) (hhi:evo e hi l.length b) (hm:slc l a b=some m) :
  ∃v,Rd X P N ⟨dst,.slice T x lo hi none,ty,pos,aft,gd⟩ e w v/\e_i w (· ∈ S) v m:=by
 obtain ⟨g1,G,H,_⟩:=e_u hm;have hml:=n_n hm;have hr:=h.rep;obtain ⟨ao',c',he,k1,k2,k3,k4⟩:=hr
 simp only [Value.slice.injEq] at he
 obtain ⟨rfl,rfl,rfl⟩:=he;refine ⟨_,?_,y_q h hm⟩;intro act ha w' _
 have hsl:(Instr.sliceAt T (.slice ao l.length c) (lo.map act.eval) (hi.map act.eval) none).run P w' = .ok (.slice (if c=a.toNat then ao else ao.map (·.add (a.toNat * 1))) (b.toNat - a.toNat)<|c - a.toNat) w':=by
  have hb:∀code,(Instr.sliceBound (vI b) c code).run P w' = .ok b.toNat w':=λcode=>run_sliceBound w' .i64 b c code (by omega) (by omega)
  have hal:∀code,(Instr.sliceBound (vI a) b.toNat code).run P w' = .ok a.toNat w':=λcode=>run_sliceBound w' .i64 a b.toNat code g1 (by omega)
  have hbs:(Instr.sliceBounds true l.length c (lo.map act.eval) (hi.map act.eval) none).run P w' = .ok (a.toNat,b.toNat,c) w':=by
   cases lo with
   | none =>
    obtain rfl:a=0:=hlo
    cases hi with
    | none =>
     obtain rfl:b=(l.length:Int):=hhi
     rfl
    | some y=>simp [Instr.sliceBounds,ha.ev hhi,hb]
   | some u =>
    cases hi with
    | none =>
     obtain rfl:b=(l.length:Int):=hhi;have hal':∀code,(Instr.sliceBound (vI a) l.length code).run P w' = .ok a.toNat w':=λcode=>by simp_all
     simp [Instr.sliceBounds,ha.ev hlo,hal']
    | some y=>simp [Instr.sliceBounds,ha.ev hlo,ha.ev hhi,hb,hal]
  simp_all [Instr.sliceAt,Instr.slice,run_underlying]
 have hmm:b.toNat - a.toNat=m.length:=by omega
 simp only [execOp,ha.ev hx,QB_,Sem.run_bind,hsl,Result.andThen_ok,hmm]
 rfl
end
theorem j_I {α:Type}[Dat α][a_t α]{w:World}{S:List Nat}{ao:Option Addr}{n c:Nat}{l:List α}(h:c_ w S (.slice ao n c) l):(∀k∈S,ao=some ⟨k,0,none⟩)/\∀g o s,ao=some ⟨g,o,s⟩->g∈S:=by
 rcases h with ⟨he,_,rfl⟩ | ⟨g,c',cur,Ss,he,_,_,_,_,rfl,hl,hi⟩
 .grind
 .simp only [Value.slice.injEq] at he
  obtain ⟨rfl,_,_⟩:=he;refine ⟨λk hk=>?_,λg' o s h=>by grind⟩
  rcases QAV.1 hk with rfl | hk
  .rfl
  .obtain ⟨Si,hSi,hk⟩:=QAZ.1 hk;obtain ⟨i,hi'⟩:=List.mem_iff_getElem?.1 hSi;have hlt:=(List.getElem?_eq_some_iff.1 hi').1;have:=a_t.none<|hi i l[i] Si (List.getElem?_eq_getElem (by omega)) hi'
   grind
theorem o_C {w:World}{b g n c:Nat}{ao:Option Addr}(h:Blk w b [.slice ao n c])(hr:c_A w b g):ao=some ⟨g,0,none⟩:=by
 obtain ⟨n',c',hr⟩:=hr
 rw [h.cell] at hr
 grind
theorem m_g {X:Nat->Prop}{w w':World}(hc:Chg X w w')(hx:∀k,k<w.heap.size->X k->∃cur,Blk w k cur):KeepsOthers w w':=⟨hc.size,λk o hk ho=>by
 have hlt:=(Array.getElem?_eq_some_iff.1 hk).1;refine (hc.block k hlt λh=>?_).trans hk;obtain ⟨cur,hB⟩:=hx k hlt h
 rw [hB.isCells hk] at ho;grind⟩
theorem KpS.of_chg {b n c n' c':Nat}{ao ao':Option Addr}{α:Type}[Dat α][a_t α]{w w':World}{S S':List Nat}{l l':List α}(hB:Blk w b [.slice ao n c])(ho:c_ w S (.slice ao n c) l)(hB':Blk w' b [.slice ao' n' c'])(ho':c_ w' S' (.slice ao' n' c') l')(hs:∀k∈S',k∈S∨w.heap.size<=k)(hc:Chg (λk=>k=b∨k∈S) w w'):KpS b w w':=by
 refine ⟨hc.mono λk _ hk=>?_,λg hg=>?_⟩
 .rcases hk with rfl | hk
  .exact .inl rfl
  .refine .inr<|.inl ⟨n,c,?_⟩
   rw [hB.cell,(j_I ho).1 k hk];rfl
 .have hg':=(j_I ho').2 g 0 none (o_C hB' hg)
  rcases hs g hg' with h | h
  .left
   refine ⟨n,c,?_⟩
   rw [hB.cell,(j_I ho).1 g h];rfl
  omega
theorem Blk.grown {w w':World}{row:Option Nat}{g:Nat}{l:List Value}(h:Blk w g l)(hg:w.grownBy w' row)(hr:∀r,row=some r->∃o:Obj,w.heap[r]? = some o/\o.isCells=false):Blk w' g l:=h.chg (m_e hg) λhe=>by
 obtain ⟨o,ho,hc⟩:=hr g he
 rw [h.isCells ho] at hc;grind
theorem m_h {α:Type}[Dat α][a_t α]{w w':World}{row:Option Nat}{S:List Nat}{v:Value}{l:List α}(h:c_ w S v l)(hg:w.grownBy w' row)(hr:∀r,row=some r->∃o:Obj,w.heap[r]? = some o/\o.isCells=false):c_ w' S v l:=h.chg (m_e hg) λk hk he=>by
 obtain ⟨o,ho,hc⟩:=hr k he;obtain ⟨cur,hB⟩:=e_I h k hk
 rw [hB.isCells ho] at hc;grind
def h_u {α β:Type}(f:α->Option β):List α->Option (List β)
 | []=>some []
 | x::l=>bd (f x) λy=>bd (h_u f l) λm=>some (y::m)
theorem o_D {α:Type}{f:α->Option Bool}:∀{l:List α}{m:List Bool},h_u f l=some m->(∀x∈l,f x=some ((f x).getD false))/\(m.all id=true ↔ ∀x∈l,(f x).getD false=true)
 | [],m,h=>by cases h;simp
 | x::l,m,h=>by
  unfold h_u at h
  obtain ⟨y,hy,h⟩:=bdS h;obtain ⟨m',hm,h⟩:=bdS h
  cases h
  obtain ⟨h1,h2⟩:=o_D hm
  grind
end Go.Vw
namespace Go.Vw
open Go.RowKit Dat
def keyL (n:Int):Value:=.agg #[vI n]
def c_U {α:Type}[Dat α](w:World)(S:List Nat)(g:Nat)(l:List α):Prop :=
 ∃es clock Ss,w.heap[g]? = some (.map es clock)/\es.size=l.length/\List.length Ss=l.length/\S=List.flatten Ss/\l.length<=LIM /\
  ∀(i:Nat)(x:α)(Si:List Nat)(en:MapEntry),l[i]? = some x->Ss[i]? = some Si->es[i]? = some en->en.key=keyL (i:Int)/\∃cs,en.val = .agg cs.toArray/\own w Si cs x
section
variable {α:Type}[Dat α]{w w':World}{S:List Nat}{g:Nat}{l:List α}
theorem c_U.lt (h:c_U w S g l):g<w.heap.size:=by obtain ⟨es,c,Ss,h,_⟩:=h;grind
theorem c_U.ltS (h:c_U w S g l):∀k∈S,k<w.heap.size:=by
 obtain ⟨es,c,Ss,_,h1,h2,rfl,_,h3⟩:=h;intro k hk;obtain ⟨Si,hSi,hk⟩:=QAZ.1 hk;obtain ⟨i,hi⟩:=List.mem_iff_getElem?.1 hSi;have hil:=(List.getElem?_eq_some_iff.1 hi).1;have hie:i<es.size:=by omega
 obtain ⟨_,cs,_,ho⟩:=h3 i l[i] Si es[i] (List.getElem?_eq_getElem (by omega)) hi (Array.getElem?_eq_getElem hie);exact own_lt ho k hk
theorem c_U.of_eq (h:c_U w S g l)(he:w'.heap[g]? = w.heap[g]?)(hs:∀k∈S,w'.heap[k]? = w.heap[k]?):c_U w' S g l:=by
 obtain ⟨es,c,Ss,h,h1,h2,rfl,hl,h3⟩:=h;refine ⟨es,c,Ss,he.trans h,h1,h2,rfl,hl,λi x Si en a b d=>?_⟩
 grind [own_eq,List.mem_flatten,List.mem_of_getElem?]
theorem c_U.ext (h:c_U w S g l)(hb:Below w.heap.size w w'):c_U w' S g l:=h.of_eq (hb.block g h.lt) λk hk=>hb.block k<|h.ltS k hk
theorem c_U.chg {X:Nat->Prop}(h:c_U w S g l)(hc:Chg X w w')(hx:¬X g)(hs:∀k∈S,¬X k):c_U w' S g l:=h.of_eq (hc.block g h.lt hx) λk hk=>hc.block k (h.ltS k hk)<|hs k hk
variable {X:Nat->Prop}{P:Program}{N:Nat}{e:Env}{dst:Option Tmp}{ty:TypeId}{p:String}{aft:Array Edge}{gd:Option (Nat×Bool)}{x y z:Operand}{T:Nat}
end
def c_K {α:Type}[Dat α](w:World)(S:List Nat)(v:Value)(l:List α):Prop:=∃g S0,v = .map (some g)/\S=g::S0/\c_U w S0 g l/\g∉S0
section
variable {α:Type}[Dat α]{w w':World}{S:List Nat}{l:List α}{v:Value}
theorem c_K.lt (h:c_K w S v l):∀k∈S,k<w.heap.size:=by
 obtain ⟨g,S0,rfl,rfl,h,_⟩:=h;intro k hk
 rcases QAV.1 hk with rfl | hk
 .exact h.lt
 .exact h.ltS k hk
theorem c_K.ext (h:c_K w S v l)(hb:Below w.heap.size w w'):c_K w' S v l:=by
 obtain ⟨g,S0,rfl,rfl,h,hn⟩:=h;exact ⟨g,S0,rfl,rfl,h.ext hb,hn⟩
theorem c_K.chg {X:Nat->Prop}(h:c_K w S v l)(hc:Chg X w w')(hx:∀k∈S,¬X k):c_K w' S v l:=by
 obtain ⟨g,S0,rfl,rfl,h,hn⟩:=h;exact ⟨g,S0,rfl,rfl,h.chg hc (hx _ QAM)<|λk hk=>hx k<|QAF _ hk,hn⟩
theorem c_K.len (h:c_K w S v l):l.length<=LEN:=by
 obtain ⟨g,S0,rfl,rfl,⟨es,c,Ss,_,_,_,_,h,_⟩,hn⟩:=h
 grind [g_S]
abbrev c_K.e:=@c_K.ext
abbrev c_K.c:=@c_K.chg
variable {X:Nat->Prop}{P:Program}{N:Nat}{e:Env}{dst:Option Tmp}{ty:TypeId}{p:String}{aft:Array Edge}{gd:Option (Nat×Bool)}{x y z:Operand}{T:Nat}
end
end Go.Vw
namespace Go.Vw
open Go.RowKit Dat
structure Raw (α:Type)[Dat α] where
 cs:List Value
 len:cs.length=sz α
 one:∀c∈cs,c.oneCell'=true
instance {α:Type}[Dat α]:Dat (Raw α) where
 sz:=sz α
 rep _ _ cs x:=cs=x.cs
 own _ S cs x:=S=[]/\cs=x.cs
 rep_len:=by rintro _ _ _ x rfl;exact x.len
 rep_one:=by rintro _ _ _ x rfl;exact x.one
 rep_eq h _:=h
 rep_mono h _:=h
 own_eq h _:=h
 own_lt:=by rintro _ _ _ _ ⟨rfl,_⟩ k hk;cases hk
 own_rep:=by rintro _ _ _ _ _ ⟨rfl,h⟩ _;exact h
 pos:=pos (α:=α)
instance {α:Type}[Dat α]:a_t (Raw α):=⟨λh=>⟨rfl,h⟩,λh=>h.1⟩
def c_a {α:Type}[Dat α](w:World)(B:Zone)(rs:List (Raw α))(l:List α):Prop :=
 rs.length=l.length/\∀(i:Nat)(r:Raw α)(x:α),rs[i]? = some r->l[i]? = some x->rep w B r.cs x
theorem c_a.eq {α:Type}[Dat α]{w w':World}{B:Zone}{rs:List (Raw α)}{l:List α}(h:c_a w B rs l)(he:∀k,B k->k<w.heap.size->w'.heap[k]? = w.heap[k]?):c_a w' B rs l:=⟨h.1,λi r x a b=>rep_eq (h.2 i r x a b) he⟩
theorem c_a.mono {α:Type}[Dat α]{w:World}{B B':Zone}{rs:List (Raw α)}{l:List α}(h:c_a w B rs l)(hb:B<=B'):c_a w B' rs l:=⟨h.1,λi r x a b=>rep_mono (h.2 i r x a b) hb⟩
structure X_ {α:Type}[Dat α](w:World)(S:List Nat)(B:Zone)(v:Value)(l:List α):Prop where
 ex:(∃ao,v = .slice ao 0 0/\l=[]/\S=[])∨∃rs:List (Raw α),c_ w S v rs/\c_a w B rs l
structure rwS {α:Type}[Dat α](w:World)(B:Zone)(v:Value)(l:List α):Prop where
 ex:∃rs:List (Raw α),repS w w.heap.size v rs/\c_a w B rs l
section
variable {α:Type}[Dat α]{w w':World}{S:List Nat}{B:Zone}{v:Value}{l:List α}
theorem X_.lt (h:X_ w S B v l):∀k∈S,k<w.heap.size:=by
 obtain ⟨⟨_,_,_,rfl⟩ | ⟨rs,h1,_⟩⟩:=h
 .simp
 .exact c_.lt h1
theorem X_.mono {B':Zone}(h:X_ w S B v l)(hb:B<=B'):X_ w S B' v l:=by
 obtain ⟨h | ⟨rs,h1,h2⟩⟩:=h
 .exact ⟨.inl h⟩
 .exact ⟨.inr ⟨rs,h1,h2.mono hb⟩⟩
theorem X_.ext (h:X_ w S B v l)(hb:Below w.heap.size w w'):X_ w' S B v l:=by
 obtain ⟨h | ⟨rs,h1,h2⟩⟩:=h
 .exact ⟨.inl h⟩
 .exact ⟨.inr ⟨rs,h1.ext hb,h2.eq λk _ hk=>hb.block k hk⟩⟩
theorem X_.chg {X:Nat->Prop}(h:X_ w S B v l)(hc:Chg X w w')(hx:∀k∈S,¬X k)(hb:∀k,B k->¬X k):X_ w' S B v l:=by
 obtain ⟨h | ⟨rs,h1,h2⟩⟩:=h
 .exact ⟨.inl h⟩
 .exact ⟨.inr ⟨rs,h1.chg hc hx,h2.eq λk h3 hk=>hc.block k hk<|hb k h3⟩⟩
theorem X_.rep (h:X_ w S B v l){B':Zone}(hS:∀k∈S,B' k)(hb:B<=B'):repS w B' v l:=by
 obtain ⟨⟨ao,rfl,rfl,rfl⟩ | ⟨rs,h1,h2⟩⟩:=h
 .exact ⟨ao,0,rfl,QAB _,QAI _,λ_=>rfl,λp _=>⟨λh=>absurd rfl h,λh=>absurd rfl h,λi x hx=>by grind⟩⟩
 obtain ⟨ao,c,hv,g1,L,O,G⟩:=e_o h1 hS;have hl:=h2.1;refine ⟨ao,c,by grind,by omega,by omega,λh=>?_,λp hp=>?_⟩
 .grind
 .obtain ⟨k1,k2,k3⟩:=G p hp;have hne:l ≠ []->rs ≠ []:=by grind
  refine ⟨λh=>k1<|hne h,λh=>k2<|hne h,λi x hx=>?_⟩;obtain ⟨r,hr⟩:=j_k hl hx;obtain ⟨cs,H,I⟩:=k3 i r hr;have J:cs=r.cs:=I;subst J;exact ⟨r.cs,H,rep_mono (h2.2 i r x hr hx) hb⟩
theorem o_E {cs:List Value}{x:α}(h:rep w B cs x):∃r:Raw α,r.cs=cs:=⟨⟨cs,rep_len h,rep_one h⟩,rfl⟩
theorem t_a {l m:List α}{x:α}(h:psh l x=some m){rs:List (Raw α)}(hl:rs.length=l.length)(r:Raw α):psh rs r=some (rs++[r])/\m=l++[x]:=by
 unfold psh at *
 grind
theorem t_b {l m xs:List α}(h:app l xs=some m){rs ts:List (Raw α)}(hl:rs.length=l.length)(ht:ts.length=xs.length):app rs ts=some (rs++ts)/\m=l++xs:=by
 unfold app at *
 grind
theorem c_a.app {rs ts:List (Raw α)}{xs:List α}(h:c_a w B rs l)(k:c_a w B ts xs):c_a w B (rs++ts) (l++xs):=by
 refine ⟨by simp [h.1,k.1],λi r x a b=>?_⟩
 by_cases hi:i<rs.length
 .rw [List.getElem?_append_left hi] at a
  rw [List.getElem?_append_left (by rw [← h.1];omega)] at b
  exact h.2 i r x a b
 .rw [List.getElem?_append_right (by omega)] at a
  rw [List.getElem?_append_right (by rw [← h.1];omega),← h.1] at b
  exact k.2 _ r x a b
theorem c_a.set {rs:List (Raw α)}{i:Nat}{r:Raw α}{x:α}(h:c_a w B rs l)(hr:Dat.rep w B r.cs x):c_a w B (rs.set i r) (l.set i x):=by
 refine ⟨by simp [h.1],λj q y a b=>?_⟩
 by_cases hj:i=j
 .grind
 .rw [List.getElem?_set_ne hj] at a b
  exact h.2 j q y a b
theorem c_a.slc {rs:List (Raw α)}{m:List α}{a b:Int}(h:c_a w B rs l)(hm:slc l a b=some m):∃ts,slc rs a b=some ts/\c_a w B ts m:=by
 unfold Vw.slc at *
 split at hm
 .rename_i h1
  cases hm
  refine ⟨_,by rw [QAd ⟨h1.1,h1.2.1,by rw [h.1];omega⟩],by simp [h.1],λi r x p q=>?_⟩
  rw [List.getElem?_drop,List.getElem?_take] at p q
  split at p
  .rename_i h2;rw [QAd h2] at q;exact h.2 _ r x p q
  grind
 grind
end
section
variable {P:Program}{N:Nat}{X:Nat->Prop}{e:Env}{w:World}{dst:Option Tmp}{ty:TypeId}{pos:String}{aft:Array Edge}{gd:Option (Nat×Bool)}{x y:Operand}{T E:TypeId}
theorem t_c {α:Type}[Dat α]{bytes:Nat}{zz:Value}(hE:El P T E (sz α) bytes zz){B:Zone}{xs:List α}{ts:List (Raw α)}{V H:Nat}{I G:Option Addr}(hm:app ([]:List (Raw α)) ts=some ([]++ts))(hx:ev e x=some (.slice G 0 0))(hy:ev e y=some (.slice I V H))
  (h3:repS w w.heap.size (.slice I V H) ts) (h4:c_a w B ts xs) :
  Ef P N ⟨dst,.call { callee:=.builtin .append,args:=#[x,y],argTypes:=#[T,T] },ty,pos,aft,gd⟩ e w (λv' w'=>∃S' ao n c,v' = .slice ao n c/\Chg (· ∈ ([]:List Nat)) w w'/\X_ w' S' B (.slice ao n c) ([]++xs)/\S'.Nodup/\(∀k∈S',k∈([]:List Nat)∨w.heap.size<=k)):=by
 obtain ⟨_,hl⟩:=appS hm;have hLIM:LIM=4294967296:=rfl;have hLEN:LEN=140737488355328:=rfl;have hsm:=hE.small;obtain ⟨ao',c',he,g1,g2,g3,g4⟩:=h3
 simp only [Value.slice.injEq] at he
 obtain ⟨rfl,rfl,rfl⟩:=he;obtain ⟨i,hi,hz,hsz,hbz⟩:=info_parts hE.info;have hszR:i.size=sz (Raw α):=hsz
 constructor
 intro a ha Q;have hx':=ha.ev hx;have hy':=ha.ev hy;unfold Oper.wp
 have fin:∀v' w',(Builtin.append_ #[T,T] ty #[.slice G 0 0,.slice I ts.length H]).run P w = .ok v' w'->(execOp a.eval ⟨dst,.call { callee:=.builtin .append,args:=#[x,y],argTypes:=#[T,T] },ty,pos,aft,gd⟩).run P w = .ok (.value v') w':=by
  intro v' w' h
  simp [execOp,resolve,invoke,builtin,hx',hy',h]
 by_cases W:ts=[]
 .subst W;have hxs:xs=[]:=QAK (by simpa using h4.1.symm);subst hxs
  have hr:(Builtin.append_ #[T,T] ty #[.slice G 0 0,.slice I ([]:List (Raw α)).length H]).run P w = .ok (.slice G 0 0) w:=by
   cases G <;> cases I <;> simp [Builtin.append_,run_underlying hE.sl,sizeOf,typeInfo,hi,Builtin.lenOf,Builtin.firstCells,storeCells,loadCells,loadCellsFrom]
  rw [fin _ _ hr]
  exact ⟨_,rfl,[],G,0,0,rfl,Chg.refl _ _,⟨.inl ⟨G,rfl,rfl,rfl⟩⟩,E_,λk hk=>by grind⟩
 .have hpos:0<ts.length:=by grind
  cases hao:I with
  | none=>grind
  | some p =>
   obtain ⟨k1,_,k3⟩:=g4 p hao;obtain ⟨news,Y,n2,n3⟩:=q_5 ts k3;subst hao
   simp at hl
   have hby:(0+ts.length) * i.bytes<=140737488355328:=by
    rw [hbz]
    have:=Nat.mul_le_mul (show 0+ts.length<=4294967296 by omega) hsm
    omega
   -- as onto nil, but that the old row may have an address
   have hr:∃v' w',(Builtin.append_ #[T,T] ty #[.slice G 0 0,.slice (some p) ts.length H]).run P w = .ok v' w'/\App w w' 0 ts.length (sz<|Raw α) (.slice none 0 0) v' news:=by
    have hn':∀j u,news[j]? = some u->w.cell? (p.add j)=some u:=λj u hu=>by
     have hsp:=k1 W;have hpe:p=⟨p.block,p.off,none⟩:=by cases p;grind
     rw [hpe,Addr.add_lit];exact n2 j u hu
    have hge:=grownCap_ge w ts.length 0 E
    have a0:Blk (w.drew.alloc<|.cells (news.toArray++Builtin.zeroCells zz.cells (grownCap w ts.length 0 E - ts.length)) E) w.heap.size ([]++news++(Builtin.zeroCells zz.cells<|grownCap w ts.length 0 E - ts.length).toList):=by
     have:=alloc_blk' w.drew (news.toArray++Builtin.zeroCells zz.cells (grownCap w ts.length 0 E - ts.length)) E
     simp_all
    have O:([]++news++(Builtin.zeroCells zz.cells<|grownCap w ts.length 0 E - ts.length).toList).length=grownCap w ts.length 0 E * sz (Raw α):=by
     simp only [QAr,QAN,Y,Array.length_toList,size_zeroCells,hE.zlen]
     have:sz (Raw α)=sz α:=rfl
     rw [this,← Nat.add_mul];grind
    cases G with
    | none =>
     have hr:=run_append_nil (P:=P) w T ty E i zz hE.sl hi hz p ts.length H news (by grind) hn' hpos (by omega) (by grind);exact ⟨_,_,hr,.grown (grownCap w ts.length 0 E) [] _ (by simp) (by omega) a0 O (by simp) (λg c cur h=>by cases h)<|Below.trans (h_c w)<|b_s w.drew _⟩
    | some q =>
     have hr:=run_append_grow (P:=P) w T ty E i zz hE.sl hi hz q 0 0 [] (by simp) (λj v hv=>by grind) p ts.length H news (by grind) hn' (by omega) (by omega)<|growslice_fits (by omega) hby
     simp only [QAp] at hr
     refine ⟨_,_,hr,.grown (grownCap w ts.length 0 E) [] (Builtin.zeroCells zz.cells<|grownCap w ts.length 0 E - ts.length).toList (by simp) (by omega) ?_ O (by simp) (λg c cur h=>by cases h) (Below.trans (h_c w)<|b_s w.drew _)⟩
     grind
   obtain ⟨v',w',hr,happ⟩:=hr
   rw [fin _ _ hr]
   obtain ⟨S',J,q2,L,q4⟩:=q_6 (α:=Raw α) (S:=[]) (l:=[]) (xs:=ts) (Ts:=List.replicate ts.length []) (n_m w) E_ Y (by simp) (λi z Ti hz hT=>by
    have:Ti=[]:=by
     grind
    subst this
    exact ⟨rfl,n3 i z hz⟩) (by simp) (by simp) (by grind) happ
   have hch:=L
   rw [QAr] at J
   have he:∀k,B k->k<w.heap.size->w'.heap[k]? = w.heap[k]? := λk hk hk'=>L.block k hk' (by simp)
   obtain ⟨ao,c,hv,_⟩:=J.rep;subst hv;exact ⟨_,rfl,S',ao,_,c,rfl,L,⟨.inr ⟨ts,J,by rw [QAr];exact h4.eq he⟩⟩,q2,λk hk=>(q4 k hk).elim .inl λh=>.inr<|h.elim (λh=>by simp_all) λh=>Nat.le_of_eq h.symm⟩
theorem y_r {α:Type}[Dat α]{bytes:Nat}{zz:Value}(hE:El P T E (sz α) bytes zz){B:Zone}{G:Option Addr}{m:List α}{v:α}{g:Nat}{cs:List Value}(hm:psh ([]:List α) v=some m)(hx:ev e x=some (.slice G 0 0))(hy:ev e y=some (.slice (some ⟨g,0,none⟩) 1 1))
  (hB:Blk w g cs) (hv:rep w B cs v) :
  Ef P N ⟨dst,.call { callee:=.builtin .append,args:=#[x,y],argTypes:=#[T,T] },ty,pos,aft,gd⟩ e w (λv' w'=>∃S' ao n c,v' = .slice ao n c/\Chg (· ∈ ([]:List Nat)) w w'/\X_ w' S' B (.slice ao n c) m/\S'.Nodup/\(∀k∈S',k∈([]:List Nat)∨w.heap.size<=k)):=by
 obtain ⟨r,rfl⟩:=o_E hv;obtain ⟨_,rfl⟩:=t_a hm (rs:=([]:List (Raw α))) rfl r;refine t_c hE (ts:=[r]) (xs:=[v]) (by rfl) hx hy ?_ ⟨rfl,λi q z a b=>?_⟩
 .refine ⟨some ⟨g,0,none⟩,1,rfl,QAB _,by simp [LEN],λh=>(by cases h),λp hp=>?_⟩
  cases hp
  refine ⟨λ_=>rfl,λ_=>hB.lt,λi z hz=>?_⟩
  cases i with
  | succ i=>grind
  | zero =>
   simp only [List.getElem?_cons_zero,QAJ] at hz
   subst hz;refine ⟨r.cs,?_,rfl⟩;have:=hB.cells 0 r.cs.length
   grind
 grind
theorem m_i {α:Type}[Dat α]{bytes:Nat}{zz:Value}(hE:El P T E (sz α) bytes zz){S:List Nat}{B:Zone}{sv:Value}{l m:List α}{v:α}{g:Nat}{cs:List Value}(hm:psh l v=some m)(hx:ev e x=some sv)(hy:ev e y=some (.slice (some ⟨g,0,none⟩) 1 1))
  (ho:X_ w S B sv l) (hN:S.Nodup) (hB:Blk w g cs) (hv:rep w B cs v) (hS:∀k∈S,¬B k) :
  Ef P N ⟨dst,.call { callee:=.builtin .append,args:=#[x,y],argTypes:=#[T,T] },ty,pos,aft,gd⟩ e w (λv' w'=>∃S' ao n c,v' = .slice ao n c/\Chg (· ∈ S) w w'/\X_ w' S' B (.slice ao n c) m/\S'.Nodup/\(∀k∈S',k∈S∨w.heap.size<=k)):=by
 obtain ⟨⟨G,rfl,rfl,rfl⟩ | ⟨rs,h1,h2⟩⟩:=ho
 .grind [y_r]
 obtain ⟨r,rfl⟩:=o_E hv;obtain ⟨hp,rfl⟩:=t_a hm h2.1 r;have h:=a_W (α:=Raw α) (P:=P) (N:=N) (dst:=dst) (ty:=ty) (pos:=pos) (aft:=aft) (gd:=gd) hE hp hx hy h1 hN hB (show own w [] r.cs r from ⟨rfl,rfl⟩) all_nil E_
 constructor
 intro a ha Q;refine Oper.wp_mono ?_<|h.run a ha Q;rintro a' w' ⟨v',rfl,S',ao,n,c,rfl,k1,k2,k3,k4⟩;refine ⟨_,rfl,S',ao,n,c,rfl,k1,⟨.inr ⟨_,k2,?_⟩⟩,k3,λk hk=>(k4 k hk).elim .inl λh=>.inr<|h.elim (λh=>by cases h) id⟩;have he:∀k,B k->k<w.heap.size->w'.heap[k]? = w.heap[k]? := λk hk hk'=>k1.block k hk' λhm=>hS k hm hk
 refine (h2.eq he).app ⟨rfl,λi q z a b=>?_⟩
 grind [rep_eq]
theorem y_s {α:Type}[Dat α]{S:List Nat}{B:Zone}{g n c:Nat}{ao:Option Addr}{i:Int}{l m:List α}{v:α}{u:Value}{cs:List Value}{sz':Nat}(hs:∀w,(sizeOf T).run P w = .ok sz' w)(hsz:sz'=sz α)(hao:ao=some ⟨g,0,none⟩)(hx:ev e x=some (.pointer<|some ⟨g,0+i.toNat * sz',none⟩))(hy:ev e y=some u)(hu:u.cells.toList=cs)
  (hm:upd l i v=some m) (ho:X_ w S B (.slice ao n c) l) (hN:S.Nodup) (hv:rep w B cs v) (hS:∀k∈S,¬B k) :
  Ef P N ⟨none,.store T x y,ty,pos,aft,gd⟩ e w (λ_ w'=>∃S',Chg (· ∈ S) w w'/\X_ w' S' B (.slice ao n c) m/\S'.Nodup/\(∀k∈S',k∈S∨w.heap.size<=k)):=by
 obtain ⟨⟨G,_,rfl,rfl⟩ | ⟨rs,h1,h2⟩⟩:=ho
 .obtain ⟨_,J,h1⟩:=g_V hm
  grind
 obtain ⟨r,hrc⟩:=o_E hv;obtain ⟨rfl,H,I⟩:=g_V hm
 have hp:upd rs i r=some (rs.set i.toNat r):=by
  unfold upd at hm ⊢
  rw [h2.1]
  grind
 have h:=b_g (α:=Raw α) (P:=P) (N:=N) (ty:=ty) (pos:=pos) (aft:=aft) (gd:=gd) hs hsz hao hx hy hu hp h1 hN (show own w [] cs r from ⟨rfl,hrc.symm⟩) all_nil E_
 constructor
 intro a ha Q;refine Oper.wp_mono ?_<|h.run a ha Q;rintro a' w' ⟨v',rfl,S',k1,k2,k3,k4⟩;have he:∀k,B k->k<w.heap.size->w'.heap[k]? = w.heap[k]? := λk hk hk'=>k1.block k hk' λhm=>hS k hm hk
 exact ⟨v',rfl,S',k1,⟨.inr ⟨_,k2,(h2.eq he).set (hrc ▸ rep_eq hv he)⟩⟩,k3,λk hk=>(k4 k hk).elim .inl λh=>.inr<|h.elim (λh=>by cases h) id⟩
theorem y_t {α:Type}[Dat α]{bytes:Nat}{zz:Value}(hE:El P T E (sz α) bytes zz){S:List Nat}{B:Zone}{sv:Value}{l m xs:List α}{H I:Nat}{G:Option Addr}(hm:app l xs=some m)(hx:ev e x=some sv)(hy:ev e y=some (.slice G H I))
  (ho:X_ w S B sv l) (hN:S.Nodup) (hr:rwS w B (.slice G H I) xs) (hS:∀k∈S,¬B k) :
  Ef P N ⟨dst,.call { callee:=.builtin .append,args:=#[x,y],argTypes:=#[T,T] },ty,pos,aft,gd⟩ e w (λv' w'=>∃S' ao n c,v' = .slice ao n c/\Chg (· ∈ S) w w'/\X_ w' S' B (.slice ao n c) m/\S'.Nodup/\(∀k∈S',k∈S∨w.heap.size<=k)):=by
 obtain ⟨ts,h3,h4⟩:=hr;obtain ⟨⟨J,rfl,rfl,rfl⟩ | ⟨rs,h1,h2⟩⟩:=ho
 .obtain ⟨hp,rfl⟩:=t_b (rs:=([]:List (Raw α))) hm rfl h4.1
  grind [t_c]
 obtain ⟨hp,rfl⟩:=t_b hm h2.1 h4.1;have h:=f_S (α:=Raw α) (P:=P) (N:=N) (dst:=dst) (ty:=ty) (pos:=pos) (aft:=aft) (gd:=gd) hE hp hx hy h1 hN h3
 constructor
 intro a ha Q;refine Oper.wp_mono ?_<|h.run a ha Q;rintro a' w' ⟨v',rfl,S',ao,n,c,rfl,k1,k2,k3,k4⟩;have he:∀k,B k->k<w.heap.size->w'.heap[k]? = w.heap[k]? := λk hk hk'=>k1.block k hk' λhm=>hS k hm hk
 exact ⟨_,rfl,S',ao,n,c,rfl,k1,⟨.inr ⟨_,k2,(h2.eq he).app (h4.eq he)⟩⟩,k3,k4⟩
theorem y_u {α:Type}[Dat α]{S:List Nat}{B:Zone}{n c sz':Nat}{ao:Option Addr}{l m:List α}{a b:Int}{lo hi:Option Operand}(hT:P.underlying T=some (.slice E))(hs:∀w,(sizeOf E).run P w = .ok sz' w)(hsz:sz'=sz α)(hx:ev e x=some (.slice ao n c))(h:X_ w S B (.slice ao n c) l)
  (hlo:evo e lo 0 a) (hhi:evo e hi l.length b) (hm:slc l a b=some m) :
  ∃v,Rd X P N ⟨dst,.slice T x lo hi none,ty,pos,aft,gd⟩ e w v/\∃ao' n' c',v = .slice ao' n' c'/\rwS w B (.slice ao' n' c') m:=by
 obtain ⟨⟨H,he,rfl,rfl⟩ | ⟨rs,h1,h2⟩⟩:=h
 .cases he
  obtain ⟨I,J,L,O⟩:=e_u hm
  have hm':slc ([]:List (Raw α)) a b=some []:=by
   grind [slc]
  obtain rfl:m=[]:=by grind
  have G:repS w w.heap.size (.slice ao 0 0) ([]:List (Raw α)):=⟨ao,0,rfl,QAB _,QAI _,λ_=>rfl,λp _=>⟨λh=>absurd rfl h,λh=>absurd rfl h,λi x hx=>by grind⟩⟩;obtain ⟨v,k1,ao',n',c',rfl,k2⟩:=f_4 (α:=Raw α) (X:=X) (P:=P) (N:=N) (w:=w) (dst:=dst) (ty:=ty) (pos:=pos) (aft:=aft) (gd:=gd) hT hs hsz hx G hlo hhi hm';exact ⟨_,k1,ao',n',c',rfl,⟨⟨[],k2,rfl,λi r x a=>by simp⟩⟩⟩
 obtain ⟨ts,h3,h4⟩:=h2.slc hm;obtain ⟨v,k1,ao',n',c',rfl,k2⟩:=f_4 (α:=Raw α) (X:=X) (P:=P) (N:=N) (w:=w) (dst:=dst) (ty:=ty) (pos:=pos) (aft:=aft) (gd:=gd) hT hs hsz hx (e_o h1<|c_.lt h1) hlo (by rw [h2.1];omega) h3;exact ⟨_,k1,ao',n',c',rfl,⟨⟨ts,k2,h4⟩⟩⟩
theorem y_v (ao:Option Addr)(k:Nat):ao.map (·.add (0 * k))=ao:=by
 simp [Addr.add]
theorem y_w {α:Type}[Dat α][a_t α]{S:List Nat}{n c sz':Nat}{ao:Option Addr}{l m:List α}{b:Int}{hi:Option Operand}(hT:P.underlying T=some (.slice E))(hs:∀w,(sizeOf E).run P w = .ok sz' w)(hx:ev e x=some (.slice ao n c))(h:c_ w S (.slice ao n c) l)
  (hhi:evo e hi l.length b) (hm:slc l 0 b=some m) :
  ∃v,Rd X P N ⟨dst,.slice T x none hi none,ty,pos,aft,gd⟩ e w v/\∃n',v = .slice ao n' c/\c_ w S (.slice ao n' c) m:=by
 obtain ⟨g1,H,I,he⟩:=e_u hm;have hml:=n_n hm;obtain ⟨_,_,hv,k1,k2,_⟩:=h.rep
 simp only [Value.slice.injEq] at hv
 obtain ⟨rfl,rfl,rfl⟩:=hv;refine ⟨.slice ao b.toNat c,?_,_,rfl,?_⟩
 .intro act ha w' _
  have hsl:(Instr.sliceAt T (.slice ao l.length c) none (hi.map act.eval) none).run P w' = .ok (.slice ao b.toNat c) w':=by
   have hb:∀code,(Instr.sliceBound (vI b) c code).run P w' = .ok b.toNat w':=λcode=>run_sliceBound w' .i64 b c code (by omega) (by omega)
   have hbs:(Instr.sliceBounds true l.length c none (hi.map act.eval) none).run P w' = .ok (0,b.toNat,c) w':=by
    cases hi with
    | none =>
     obtain rfl:b=(l.length:Int):=hhi
     rfl
    | some y=>simp [Instr.sliceBounds,ha.ev hhi,hb]
   have:=y_v ao sz'
   simp_all [Instr.sliceAt,Instr.slice,run_underlying]
  simp only [execOp,ha.ev hx,QB_,Sem.run_bind,hsl,Result.andThen_ok]
  rfl
 .have hmn:b.toNat=m.length:=by omega
  rw [hmn]
  rcases h with ⟨h1,rfl,h2⟩ | ⟨g,c',cur,Ss,h1,h2,h3,h4,h5,h6,G,J⟩
  .have:m=[]:=QAK (by grind);subst this;exact .inl ⟨by omega,rfl,h2⟩
  .simp only [Value.slice.injEq] at h1
   obtain ⟨rfl,_,rfl⟩:=h1;refine .inr ⟨g,c,cur,Ss.take m.length,rfl,by omega,by omega,h4,h5,?_,by grind,λi z Si a b'=>?_⟩
   .rw [h6]
    have hz:∀L∈Ss,L=[]:=λL hL=>by
     obtain ⟨i,hi'⟩:=List.getElem?_of_mem hL;obtain ⟨z,hz⟩:=zip_some' G hi'
     grind [a_t.none]
    grind [List.flatten,List.flatten,List.flatten_eq_nil_iff,List.mem_of_mem_take,List.flatten_eq_nil_iff]
   grind
theorem y_x {α:Type}[Dat α]{S:List Nat}{B:Zone}{n c sz':Nat}{ao:Option Addr}{l m:List α}{b:Int}{hi:Option Operand}(hT:P.underlying T=some (.slice E))(hs:∀w,(sizeOf E).run P w = .ok sz' w)(hx:ev e x=some (.slice ao n c))(h:X_ w S B (.slice ao n c) l)
  (hhi:evo e hi l.length b) (hm:slc l 0 b=some m) :
  ∃v,Rd X P N ⟨dst,.slice T x none hi none,ty,pos,aft,gd⟩ e w v/\∃n',v = .slice ao n' c/\X_ w S B (.slice ao n' c) m:=by
 obtain ⟨⟨H,he,rfl,rfl⟩ | ⟨rs,h1,h2⟩⟩:=h
 .cases he
  obtain ⟨g1,I,G,he⟩:=e_u hm
  simp at G
  have hb:b=0:=by omega
  subst hb
  simp at he;subst he
  refine ⟨.slice ao 0 0,?_,0,rfl,⟨.inl ⟨ao,rfl,rfl,rfl⟩⟩⟩;intro act ha w' _
  have hsl:(Instr.sliceAt T (.slice ao 0 0) none (hi.map act.eval) none).run P w' = .ok (.slice ao 0 0) w':=by
   have hb:∀code,(Instr.sliceBound (vI 0) 0 code).run P w' = .ok 0 w':=λcode=>run_sliceBound w' .i64 0 0 code (by omega) (by omega)
   have hbs:(Instr.sliceBounds true 0 0 none (hi.map act.eval) none).run P w' = .ok (0,0,0) w':=by
    cases hi with
    | none=>rfl
    | some y=>simp [Instr.sliceBounds,ha.ev hhi,hb]
   simp_all [Instr.sliceAt,Instr.slice,run_underlying]
  simp only [execOp,ha.ev hx,QB_,Sem.run_bind,hsl,Result.andThen_ok]
  rfl
 obtain ⟨ts,h3,h4⟩:=h2.slc hm;obtain ⟨v,k1,n',rfl,k2⟩:=y_w (α:=Raw α) (X:=X) (P:=P) (N:=N) (w:=w) (dst:=dst) (ty:=ty) (pos:=pos) (aft:=aft) (gd:=gd) hT hs hx h1 (by rw [h2.1];omega) h3;exact ⟨_,k1,n',rfl,⟨.inr ⟨ts,k2,h4⟩⟩⟩
theorem y_y {α:Type}[Dat α]{ao:Option Addr}{B:Zone}{n c sz':Nat}{S:List Nat}{l m:List α}{i:Int}{v:α}{kk:IntKind}(hT:P.underlying T=some (.slice E))(hs:∀w,(sizeOf E).run P w = .ok sz' w)(hx:ev e x=some (.slice ao n c))(hy:ev e y=some (.int kk i))(hr:X_ w S B (.slice ao n c) l)(hi:upd l i v=some m) :
  ∃u,Rd X P N ⟨dst,.indexAddr T x y,ty,pos,aft,gd⟩ e w u/\∃g,ao=some ⟨g,0,none⟩/\u = .pointer (some ⟨g,0+i.toNat * sz',none⟩):=by
 obtain ⟨_,G,h1⟩:=g_V hi;obtain ⟨⟨_,_,rfl,_⟩ | ⟨rs,hr,h2⟩⟩:=hr
 .grind
 have hl:=h2.1;obtain ⟨g,rfl⟩:=hr.head (by omega);obtain ⟨_,_,he,_⟩:=hr.rep
 cases he
 exact ⟨_,l_t (k:=kk) hT hs hx hy G (by omega),g,rfl,rfl⟩
theorem t_d {α:Type}[Dat α]{bytes:Nat}{zz:Value}(hE:El P T E (sz α) bytes zz)(B:Zone) :
  Ef P N ⟨dst,.buildSlice T 0 #[],ty,pos,aft,gd⟩ e w (λv w'=>∃ao,v = .slice ao 0 0/\Below w.heap.size w w'/\X_ w' [] B (.slice ao 0 0) ([]:List α)):=by
 have h:=p_L (P:=P) (N:=N) (e:=e) (w:=w) (dst:=dst) (ty:=ty) (pos:=pos) (aft:=aft) (gd:=gd) hE
 constructor
 intro a ha Q;refine Oper.wp_mono ?_<|h.run a ha Q;rintro a' w' ⟨v',rfl,rfl,k⟩;exact ⟨_,rfl,_,rfl,k.below,⟨.inl ⟨_,rfl,rfl,rfl⟩⟩⟩
end
end Go.Vw
namespace Go.Vw
open Go.RowKit Dat
def b_f (l:Bt):List Value:=l.map λb=>vU<|b_ b
theorem g_L {l:Bt}{i:Nat}{x:UInt8}(h:l[i]? = some x):(b_f l)[i]? = some (vU<|b_ x):=by grind [b_f]
theorem d_W (l:Bt):(b_f l).length=l.length:=by simp [b_f]
theorem p_x (l:Bt):∀u∈b_f l,u.oneCell'=true:=by
 intro u hu
 simp only [b_f,List.mem_map] at hu
 obtain ⟨b,_,rfl⟩:=hu;rfl
theorem j_2:sz UInt8=1:=rfl
section
variable {w w':World}{S:List Nat}{v:Value}{l xs:Bt}{B:Zone}
theorem e_W:c_ w S v l ↔ (v = .slice none 0 0/\l=[]/\S=[])∨∃g c cur,v = .slice (some ⟨g,0,none⟩) l.length c/\l.length<=c/\l.length<=LEN/\Blk w g cur/\cur.length=c/\S=[g]/\cur.take l.length=b_f l:=by
 constructor
 .rintro (h | ⟨g,c,cur,Ss,h1,h2,h3,h4,h5,h6,G,H⟩)
  .grind
  .rw [j_2,QBG] at h5
   refine .inr ⟨g,c,cur,h1,h2,h3,h4,h5,?_,?_⟩
   .have I:List.flatten Ss=[]:=List.flatten_eq_nil_iff.2 λL hL=>by
     obtain ⟨i,hi⟩:=List.getElem?_of_mem hL;obtain ⟨x,hx⟩:=zip_some' G hi;exact (H i x L hx hi).1
    grind
   .apply List.ext_getElem?
    intro i
    by_cases hi:i<l.length
    .obtain ⟨Si,hSi⟩:=j_k G<|List.getElem?_eq_getElem hi;have:=H i _ Si (List.getElem?_eq_getElem hi) hSi;obtain ⟨_,u,hu,rfl⟩:=this
     rw [j_2,QBG] at hu
     rw [g_L (List.getElem?_eq_getElem hi),List.getElem?_take,QAd hi]
     have J:((cur.drop i).take 1)[0]? = some (vU<|b_ l[i]):=by grind
     grind
    grind [b_f]
 .rintro (h | ⟨g,c,cur,h1,h2,h3,h4,h5,h6,G⟩)
  .exact .inl h
  .refine .inr ⟨g,c,cur,List.replicate l.length [],h1,h2,h3,h4,by simp_all [j_2],?_,by simp,λi x Si hx hS=>?_⟩
   .simp_all
   .have hi:=(List.getElem?_eq_some_iff.1 hx).1
    have:Si=[]:=by
     grind
    refine ⟨this,vU<|b_ x,?_,rfl⟩
    rw [j_2,QBG]
    have H:cur[i]? = some (vU<|b_ x):=by
     rw [← g_L hx,← G,List.getElem?_take,QAd hi]
    grind [List.getElem?_eq_some_iff,List.drop_eq_getElem_cons,List.getElem?_eq_some_iff]
theorem t_T {ao:Option Addr}{n c:Nat}(h:repS w B (.slice ao n c) l):n=l.length/\(ao=none->l=[])/\∀p,ao=some p->(l ≠ []->p.spot=none)/\r_ w p.block p.off (b_f l):=by
 obtain ⟨_,_,he,h1,h2,h3,h4⟩:=h
 cases he
 refine ⟨rfl,h3,λp hp=>⟨(h4 p hp).1,λi v hv=>?_⟩⟩;have hil:i<l.length:=by grind [d_W,List.getElem?_eq_some_iff]
 obtain ⟨cs,hc,u,rfl,rfl⟩:=(h4 p hp).2.2 i l[i] (List.getElem?_eq_getElem hil)
 rw [g_L (List.getElem?_eq_getElem hil)] at hv
 cases hv
 have:=hc 0 _ rfl
 simp_all [j_2]
end
section
variable {P:Program}{N:Nat}{X:Nat->Prop}{e:Env}{w:World}{dst:Option Tmp}{ty:TypeId}{pos:String}{aft:Array Edge}{gd:Option (Nat×Bool)}{x y:Operand}{T T2 E:TypeId}
def cpy (l xs:Bt):Bt:=xs.take l.length++l.drop xs.length
theorem j_3 (l xs:Bt):(cpy l xs).length=l.length:=by grind [cpy]
theorem Blk.alloc' (w:World)(cur:Array Value)(T:TypeId)(fr:Nat×Nat)(h:fr.2<=fr.1∨cur.size<=fr.1):Blk (w.alloc<|.cells cur T fr) w.heap.size cur.toList:=by
 refine ⟨T,fr,?_,by omega⟩
 show (w.heap.push<|.cells cur T fr)[w.heap.size]? = _
 simp
theorem t_U {S:List Nat}{B:Zone}{n c I H:Nat}{ao G:Option Addr}{l xs:Bt}(hT:P.underlying T=some (.slice E))(hs:∀w,(sizeOf E).run P w = .ok 1 w)(hx:ev e x=some (.slice ao n c))(hy:ev e y=some (.slice G I H))
  (ho:c_ w S (.slice ao n c) l) (hr:repS w B (.slice G I H) xs) :
  Ef P N ⟨dst,.call { callee:=.builtin .copy,args:=#[x,y],argTypes:=#[T,T2] },ty,pos,aft,gd⟩ e w (λv w'=>v=vI (Nat.min xs.length l.length:Nat)/\Chg (· ∈ S) w w'/\c_ w' S (.slice ao n c) (cpy l xs)):=by
 obtain ⟨rfl,J,L⟩:=t_T hr
 constructor
 intro a ha Q;have hx':=ha.ev hx;have hy':=ha.ev hy
 have cells:∀k,k<=xs.length->(Builtin.firstCells 1 k<|.slice G xs.length H).run P w = .ok (b_f<|xs.take k).toArray w:=by
  intro k hk
  cases G with
  | none=>obtain rfl:=J rfl;simp [Builtin.firstCells,b_f]
  | some p =>
   obtain ⟨k1,k2⟩:=L p rfl
   have hl:=run_loadCells_list (P:=P) w p (b_f<|xs.take k) λj v hv=>by
    have hj:j<k:=by grind [d_W,List.getElem?_eq_some_iff]
    have hv':(b_f xs)[j]? = some v:=by
     grind [b_f]
    have hne:xs ≠ []:=by grind
    have:=k2 j v hv';have hpe:p=⟨p.block,p.off,none⟩:=by cases p;grind
    grind [Addr.add_lit]
   simp_all [Builtin.firstCells,d_W]
 have hk:=cells (Nat.min xs.length n)<|Nat.min_le_left _ _;unfold Oper.wp
 rcases e_W.1 ho with ⟨he,rfl,rfl⟩ | ⟨g,c',cur,he,h2,h3,h4,h5,rfl,O⟩
 .cases he
  have W:=cells 0<|QAI _
  have hrun:(execOp a.eval ⟨dst,.call { callee:=.builtin .copy,args:=#[x,y],argTypes:=#[T,T2] },ty,pos,aft,gd⟩).run P w = .ok (.value<|vI ((Nat.min xs.length 0:Nat):Int)) w:=by
   simp_all [execOp,resolve,invoke,builtin,Builtin.copy_,Builtin.lenOf,goInt,run_underlying]
  rw [hrun]
  refine ⟨_,rfl,rfl,Chg.refl _ _,e_W.2<|.inl ⟨rfl,?_,rfl⟩⟩
  simp [cpy]
 .cases he
  have hmn:Nat.min xs.length l.length<=cur.length:=QAG (Nat.min_le_right _ _) (by omega);obtain ⟨w',hst,hb',hch⟩:=j_i (P:=P) (o:=0) (b_f<|xs.take<|Nat.min xs.length l.length) 0 w cur h4 (by grind [d_W,List.length_take])<|p_x _
  have hrun:(execOp a.eval ⟨dst,.call { callee:=.builtin .copy,args:=#[x,y],argTypes:=#[T,T2] },ty,pos,aft,gd⟩).run P w = .ok (.value<|vI ((Nat.min xs.length l.length:Nat):Int)) w':=by
   simp_all [execOp,resolve,invoke,builtin,Builtin.copy_,Builtin.lenOf,goInt,run_underlying]
  rw [hrun]
  refine ⟨_,rfl,rfl,hch.mono λk _ hk=>by grind,e_W.2<|.inr ⟨g,c,_,?_,?_,?_,hb',?_,rfl,?_⟩⟩
  .rw [j_3]
  .grind [j_3]
  .grind [j_3]
  .grind [b_f]
  .have V:Nat.min xs.length l.length=min xs.length l.length:=rfl
   rw [j_3,V]
   apply List.ext_getElem?
   intro i
   rw [List.getElem?_take]
   by_cases hi:i<l.length
   .rw [QAd hi]
    have hc:cur[i]? = some (vU<|b_ l[i]):=by
     rw [← g_L (List.getElem?_eq_getElem hi),← O,List.getElem?_take,QAd hi]
    simp only [QAp,QA3,QAr]
    by_cases hx:i<xs.length
    .rw [List.getElem?_append_left (by grind [d_W,List.length_take])]
     have q:(cpy l xs)[i]? = some xs[i]:=by
      grind [cpy]
     rw [g_L q]
     refine g_L ?_
     rw [List.getElem?_take,QAd (by omega)]
     exact List.getElem?_eq_getElem hx
    .rw [List.getElem?_append_right (by rw [d_W,QAT];omega)]
     have q:(cpy l xs)[i]? = some l[i]:=by
      unfold cpy
      rw [List.getElem?_append_right (by rw [QAT];omega),List.getElem?_drop,QAT]
      rw [show xs.length+(i - min l.length xs.length)=i by omega]
      exact List.getElem?_eq_getElem hi
     rw [g_L q,List.getElem?_drop,d_W,QAT]
     rw [show min (min xs.length l.length) xs.length+(i - min (min xs.length l.length) xs.length)=i by omega]
     exact hc
   .rw [QA7 hi,List.getElem?_eq_none (by rw [d_W,j_3];omega)]
theorem t_V {S D:TypeId}{s:Str}(hS:P.underlying S=some .string)(hD:P.underlying D=some (.slice E))(hE:P.underlying E=some (.int .u8))(hx:ev e x=some s.v)(hl:s.b.length<=LEN) :
  Ef P N ⟨dst,.convert S D x,ty,pos,aft,gd⟩ e w (λv w'=>∃ao n c,v = .slice ao n c/\Below w.heap.size w w'/\c_ w' [w.heap.size] (.slice ao n c) s.b):=by
 constructor
 intro a ha Q;unfold Oper.wp;have hx':=ha.ev hx;have hr:=run_bytes_of_string (P:=P) w S D E ⟨s.b.toArray⟩ hS hD hE
 have hrun:(execOp a.eval ⟨dst,.convert S D x,ty,pos,aft,gd⟩).run P w = .ok (.value<|.slice (some ⟨w.heap.size,0,none⟩) s.b.length<|grownCap w s.b.length 0 E) (w.drew.alloc<|.cells (bytesRow ⟨s.b.toArray⟩<|grownCap w s.b.length 0 E) E ((bytesRow ⟨s.b.toArray⟩<|grownCap w s.b.length 0 E).size,(bytesRow ⟨s.b.toArray⟩<|grownCap w s.b.length 0 E).size+1)):=by
  have hr':(convert S D<|Str.v s).run P w=_:=hr
  simp only [execOp,hx',Sem.run_bind,hr',Result.andThen_ok]
  rfl
 rw [hrun]
 have hge:s.b.length<=grownCap w s.b.length 0 E:=grownCap_ge w s.b.length 0 E;refine ⟨_,rfl,_,_,_,rfl,Below.trans (h_c w)<|b_s w.drew _,e_W.2<|.inr ⟨w.heap.size,_,_,rfl,hge,hl,Blk.alloc' w.drew _ _ _<|.inr<|QAB _,?_,rfl,?_⟩⟩
 .grind [bytesRow,ByteArray.size]
 simp [bytesRow,b_f]
theorem strB (s:Str):Go.Lib.strCells ⟨s.b.toArray⟩=b_f s.b:=by rfl
theorem t_W {U:TypeId}{zz:Value}(hE:El P T E (sz UInt8) 1 zz)(hU:P.underlying U=some .string){S:List Nat}{sv:Value}{l m:Bt}{s:Str}(hm:app l s.b=some m)(hx:ev e x=some sv)(hy:ev e y=some s.v)
  (ho:c_ w S sv l) (hN:S.Nodup) :
  Ef P N ⟨dst,.call { callee:=.builtin .append,args:=#[x,y],argTypes:=#[T,U] },ty,pos,aft,gd⟩ e w (λv' w'=>∃S' ao n c,v' = .slice ao n c/\Chg (· ∈ S) w w'/\c_ w' S' (.slice ao n c) m/\S'.Nodup/\(∀k∈S',k∈S∨w.heap.size<=k)):=by
 obtain ⟨rfl,hl⟩:=appS hm;obtain ⟨i,hi,hz,hsz,hb⟩:=info_parts hE.info;have hLIM:LIM=4294967296:=rfl;have hLEN:LEN=140737488355328:=rfl;have hss:(⟨s.b.toArray⟩:ByteArray).size=s.b.length:=by rfl
 constructor
 intro a ha Q;have hx':=ha.ev hx;have hy':=ha.ev hy;unfold Oper.wp
 have fin:∀v' w',(Builtin.append_ #[T,U] ty #[sv,Str.v s]).run P w = .ok v' w'->(execOp a.eval ⟨dst,.call { callee:=.builtin .append,args:=#[x,y],argTypes:=#[T,U] },ty,pos,aft,gd⟩).run P w = .ok (.value v') w':=by
  intro v' w' h
  simp [execOp,resolve,invoke,builtin,hx',hy',h]
 rcases e_W.1 ho with ⟨rfl,rfl,rfl⟩ | ⟨g,c,cur,rfl,h2,h3,h4,h5,rfl,I⟩
 .by_cases H:s.b=[]
  .have hr:(Builtin.append_ #[T,U] ty #[.slice none 0 0,Str.v s]).run P w = .ok (.slice none 0 0) w:=by
    cases s with
    | mk b =>
     simp only at H
     subst H;have he:(⟨#[]⟩:ByteArray)=ByteArray.empty:=rfl
     simp [Builtin.append_,run_underlying hE.sl,run_underlying hU,sizeOf,typeInfo,hi,Builtin.lenOf,Builtin.firstCells,Str.v,he]
   rw [fin _ _ hr]
   exact ⟨_,rfl,[],_,_,_,rfl,Chg.refl _ _,by grind,E_,λk hk=>by grind⟩
  .have hpos:0<s.b.length:=by grind
   have hr:=run_append_nil_string (P:=P) (w:=w) T U ty E i zz hE.sl hU hi hz ⟨s.b.toArray⟩ (by omega) (by omega) (by grind)
   rw [hss] at hr
   rw [fin _ _ hr]
   have hge:s.b.length<=grownCap w s.b.length 0 E:=grownCap_ge w s.b.length 0 E;have hzl:=hE.zlen;refine ⟨_,rfl,[w.heap.size],_,_,_,rfl,Vw.Below.chg (Below.trans (h_c w)<|b_s w.drew _) _,e_W.2 (.inr ⟨w.heap.size,_,_,by rfl,by grind,by grind,alloc_blk' w.drew _ _,?_,rfl,?_⟩),S_,λk hk=>.inr (by grind)⟩
   .have hzl':zz.cells.size=1:=hzl
    grind [size_zeroCells]
   simp [b_f]
 .by_cases hroom:l.length+s.b.length<=c
  .have hf:=Go.Lib.run_firstCells_string (P:=P) w 1 ⟨s.b.toArray⟩
   rw [hss,strB] at hf
   obtain ⟨w',hst,hb',hch⟩:=j_i (P:=P) (o:=l.length) (b_f s.b) 0 w cur h4 (by grind [d_W])<|p_x _;have G:i.size=1:=hsz
   have hr:(Builtin.append_ #[T,U] ty #[.slice (some ⟨g,0,none⟩) l.length c,Str.v s]).run P w = .ok (.slice (some ⟨g,0,none⟩) (l.length+s.b.length) c) w':=by
    simp [Builtin.append_,run_underlying hE.sl,run_underlying hU,sizeOf,typeInfo,hi,G,Builtin.lenOf,hss,hroom,hf,Addr.add_lit,hst]
   rw [fin _ _ hr]
   refine ⟨_,rfl,[g],_,_,_,rfl,hch.mono λk _ hk=>by grind,e_W.2 (.inr ⟨g,c,_,by simp,by grind,by grind,hb',?_,rfl,?_⟩),S_,λk hk=>.inl hk⟩
   .grind [b_f]
   grind [b_f]
  .have holds:∀j v,(cur.take l.length)[j]? = some v->w.cell? ((⟨g,0,none⟩:Addr).add j)=some v:=λj v hv=>by
    rw [Addr.add_lit,QAp,h4.cell]
    grind
   have G:i.size=1:=hsz;have hr:=Go.Lib.run_append_grow_string (P:=P) w T U ty E i zz hE.sl hU hi hz ⟨g,0,none⟩ l.length c (cur.take l.length) (by grind) holds ⟨s.b.toArray⟩ (by omega) (by omega) (by rw [hss,hb];exact growslice_fits (by omega) (by omega))
   rw [hss,strB] at hr
   rw [fin _ _ hr]
   have hge:l.length+s.b.length<=grownCap w (l.length+s.b.length) c E:=grownCap_ge w (l.length+s.b.length) c E;have hzl':zz.cells.size=1:=hE.zlen;refine ⟨_,rfl,[w.heap.size],_,_,_,rfl,Vw.Below.chg (Below.trans (h_c w)<|b_s w.drew _) _,e_W.2 (.inr ⟨w.heap.size,grownCap w (l.length+s.b.length) c E,_,by simp,by grind,by grind,alloc_blk' w.drew _ _,?_,rfl,?_⟩),S_,λk hk=>.inr (by grind)⟩
   .grind [b_f,size_zeroCells]
   grind [b_f]
theorem h_S {g:Nat}{l:Bt}(h:Blk w g (b_f l))(hl:Nat.ble l.length 1000=true):c_ w [g] (.slice (some ⟨g,0,none⟩) l.length l.length) l :=
 e_W.2 (.inr ⟨g,l.length,_,rfl,QAB _,QAG (QAA hl) (by simp [LEN]),h,d_W l,rfl,by simp_all [QAR,d_W]⟩)
end
end Go.Vw
namespace Go.Vw
open Go.RowKit Dat
def m_9 (v:Value):List PanicEntry:=[{ v:=v,recovered:=false }]
def y_g (P:Program)(fn:Func)(pv:Value)(R:Bool->World->Prop)(r:Bool)(ex:Exit)(a:Act)(w:World):Prop :=
 (r=true/\ex = .ret/\a.defers=[]/\∃v,(results fn a.tmps).run P w = .ok v w/\R true w)∨(r=false/\ex = .panic (m_9 pv)/\a.defers=[]/\R false w)
def s_R (pv:Value)(R:Bool->World->Prop)(e:Ending)(w:World):Prop:=(∃v,e = .returned v/\R true w)∨(e = .panicked (m_9 pv)/\R false w)
def QP (P:Program)(fn:Func)(pv:Value)(R:Bool->World->Prop):Exit->Act->World->Prop:=λex a w=>∃r,y_g P fn pv R r ex a w
abbrev KP (P:Program)(fn:Func)(R:Bool->World->Prop):Act->World->Prop:=b_V P fn<|λ_ w=>R true w
section
variable {P:Program}{N:Nat}{e:Env}{w:World}{fn:Func}{pv:Value}{R:Bool->World->Prop}
theorem y_h {f:FuncId}{c:Code}{args:List Value}(hf:P.funcs[f]? = some fn)(hb:fn.body=some c)(hN:fn.ntmps=N)
  (hle:args.length<=N) (h:WC P N c (KP P fn R) (QP P fn pv R) (f_8 0 args) w):Calls P f args.toArray w (s_R pv R):=by
 refine calls_of_wp hf hb<|Code.wp_mono (λex a w q=>?_)<|h _ ⟨rfl,?_,?_⟩
 .cases ex with
  | normal=>obtain ⟨h1,v,h2,h3⟩:=q;exact ⟨h1,v,h2,.inl ⟨v,rfl,h3⟩⟩
  | ret =>
   obtain ⟨r,⟨_,_,h1,v,h2,h3⟩ | ⟨_,he,_⟩⟩:=q
   .exact ⟨h1,v,h2,.inl ⟨v,rfl,h3⟩⟩
   grind
  | panic ch =>
   obtain ⟨r,⟨_,he,_⟩ | ⟨_,he,h1,h2⟩⟩:=q
   .grind
   .cases he;exact ⟨h1,.inr ⟨rfl,h2⟩⟩
  | _=>obtain ⟨r,⟨_,he,_⟩ | ⟨_,he,_⟩⟩:=q <;> cases he
 .grind
 .intro t v ht;obtain ⟨_,h2⟩:=l_r args 0 t v ht
  grind
theorem o_z {K:Act->World->Prop}{Q:Exit->Act->World->Prop}{ops:Array Oper}{rest:List Oper}{dst:Option Tmp}{ty:TypeId}{pos:String}{aft:Array Edge}{x:Operand}{T:TypeId}{u:Value}
  (hx:ev e x=some (.iface T u)) (h:∀a,Sat N e a->Q (.panic<|m_9<|.iface T u) a w):WL P N ops K Q (⟨dst,.panic x,ty,pos,aft,none⟩::rest) e w:=λa ha =>
 wpList_plain rfl λK' hK=>by
  have hr:(execOp a.eval ⟨dst,.panic x,ty,pos,aft,none⟩).run P w = .halt (.panic<|.iface T u) w:=by
   simp only [execOp,ha.ev hx]
   rfl
  unfold Oper.wp
  rw [hr]
  exact h a ha
theorem y_i {σ ρ:Type}{K:Act->World->Prop}{Q:Exit->Act->World->Prop}{step:σ->Option (Out σ ρ)}{c:Code}{b n:Nat}{res:Sum σ ρ}(I:σ->Act->World->Prop)(D:σ->Act->World->Prop)(Qr:ρ->Exit->Act->World->Prop)
  {s:σ} (hm:F_ step n s=some res) (G:AtK N (λa w=>I s a w) e w)
  (hround:∀s a w o,I s a w->step s=some o->c.wp P (Exit.then (λa' w'=>∃s',o = .next s'/\I s' a' w')<|QO b D Qr o) a w)
  (hD:∀s a w,res = .inl s->D s a w->K a w) (hR:∀r ex a w,res = .inr r->Qr r ex a w->Q ex a w/\∃ch,ex = .panic ch):WC P N (.block b<|.loop c) K Q e w :=
 c_S λa ha=>Code.wp_mono (λex a' w' q=>by
  cases ex with
  | normal=>exact (show False from q).elim
  | _ =>
   rcases q with ⟨hx,s',he,hd⟩ | ⟨r,he,hq⟩
   .grind [Exit.then,inB]
   .obtain ⟨h1,ch,h2⟩:=hR r _ a' w' he hq
    first
     | (cases h2;exact h1)
     | cases h2) (q_2 I D Qr hround hm (G a ha))
end
end Go.Vw
