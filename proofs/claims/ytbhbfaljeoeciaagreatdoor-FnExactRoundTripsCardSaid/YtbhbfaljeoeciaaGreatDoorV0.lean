import Derived.WalkKit
import Derived.Below
import Derived.Orders
import Derived.Still
import Derived.Great.BuildSlice
import Derived.Deep.LoopGhost
import Derived.Laws.BytesString
import Derived.Lib.LaidTab
import Derived.Lib.ItoaLen
import Derived.Sort.Grow
import Derived.Lib.Join
import Derived.DeepKeys4
import Derived.Laws.StructEq
import Derived.RangeFuncFrom
import Derived.OrdersIn
import Derived.RangeFuncLeaves
import Derived.Laws.CopyRow
import Derived.Laws.IdiomStrings
import Derived.Lib.AppendStr
set_option linter.unusedVariables false
namespace Go.Vw
open Go.RowKit
abbrev Env:=List<|Nat×Value
def x_:Env->Nat->Option Value
 | [],_=>none
 | (k,v)::e,t=>bif Nat.beq k t then some v else x_ e t
def ev (e:Env):Operand->Option Value
 | .tmp t=>x_ e t
 | .const v=>some v
 | .global g=>some<|.pointer<|some ⟨g,0,none⟩
 | .func f=>some<|.func (.func f) #[] #[]
structure Sat (N:Nat)(e:Env)(a:Act):Prop where
 defers:a.defers=[]
 size:a.tmps.size=N
 at_:∀t v,x_ e t=some v->a.tmps[t]? = some v
theorem Sat.ev {N:Nat}{e:Env}{a:Act}(h:Sat N e a){x:Operand}{v:Value}(hx:ev e x=some v):a.eval x=v:=by
 cases x with
 | tmp t=>have:=h.at_ t v hx;simp [Act.eval,Array.getD_eq_getD_getElem?,this]
 | const u=>simpa [Vw.ev,Act.eval] using hx
 | global g=>simpa [Vw.ev,Act.eval] using hx
 | func f=>simpa [Vw.ev,Act.eval] using hx
theorem Sat.put {N:Nat}{e:Env}{a:Act}(h:Sat N e a){d:Nat}(hd:Nat.blt d N=true)(v:Value):Sat N ((d,v)::e) (a.put (some d) v):=by
 have hd':d<N:=by simpa [Nat.blt_eq] using hd
 refine ⟨h.defers,by simp [Act.put,h.size],fun t u hu=>?_⟩
 simp only [x_] at hu
 by_cases hk:d=t
 ·subst hk;have hb:Nat.beq d d=true:=by simp
  rw [hb] at hu
  simp only [cond_true,Option.some.injEq] at hu
  subst hu
  simp [Act.put,h.size,hd']
 ·have hb:Nat.beq d t=false:=by rw [← Bool.not_eq_true,Nat.beq_eq];exact hk
  rw [hb] at hu
  simp only [cond_false] at hu
  simp only [Act.put,Array.getElem?_setIfInBounds_ne hk]
  exact h.at_ t u hu
theorem Sat.none {N:Nat}{e:Env}{a:Act}(h:Sat N e a)(v:Value):Sat N e (a.put none v):=h
def sub (e:Env):Env->Prop
 | []=>True
 | (k,v)::e'=>x_ e k=some v/\sub e e'
theorem l_d {e:Env}:∀{e':Env},sub e e'->∀t v,x_ e' t=some v->x_ e t=some v
 | [],_,_,_,h=>by simp [x_] at h
 | (k,u)::e',hs,t,v,h=>by
  simp only [x_] at h
  by_cases hk:k=t
  ·subst hk;have hb:Nat.beq k k=true:=by simp
   rw [hb] at h
   simp only [cond_true,Option.some.injEq] at h
   subst h;exact hs.1
  ·have hb:Nat.beq k t=false:=by rw [← Bool.not_eq_true,Nat.beq_eq];exact hk
   rw [hb] at h
   exact l_d hs.2 t v h
theorem Sat.weaken {N:Nat}{e e':Env}{a:Act}(h:Sat N e a)(hs:sub e e'):Sat N e' a :=
 ⟨h.defers,h.size,fun t v ht=>h.at_ t v<|l_d hs t v ht⟩
def WC (P:Program)(N:Nat)(c:Code)(K:Act->World->Prop)(Q:Exit->Act->World->Prop)(e:Env)(w:World):Prop :=
 ∀a,Sat N e a->c.wp P (Exit.then K Q) a w
def KC (P:Program)(y:Code)(K:Act->World->Prop)(Q:Exit->Act->World->Prop):Act->World->Prop :=
 fun a w=>y.wp P (Exit.then K Q) a w
def inB (id:Nat)(K:Act->World->Prop)(Q:Exit->Act->World->Prop):Exit->Act->World->Prop
 | .exit i,a,w=>if i=id then K a w else Q (.exit i) a w
 | x,a,w=>Q x a w
def AtK (N:Nat)(K:Act->World->Prop)(e:Env)(w:World):Prop:=∀a,Sat N e a->K a w
section
variable {P:Program}{N:Nat}{K:Act->World->Prop}{Q:Exit->Act->World->Prop}{e:Env}{w:World}
theorem WC.of_KC {y:Code}(h:WC P N y K Q e w):AtK N (KC P y K Q) e w:=h
theorem f_U {x y:Code}(h:WC P N x (KC P y K Q) Q e w):WC P N (.seq x y) K Q e w:=fun a ha =>
 wp_seq (Code.wp_mono (fun ex a w q=>by cases ex <;> exact q)<|h a ha)
theorem a_I (h:AtK N K e w):WC P N .skip K Q e w:=fun a ha=>wp_skip<|h a ha
theorem h_F (h:∀a,Sat N e a->Q .ret a w):WC P N .ret K Q e w:=fun a ha=>wp_ret<|h a ha
theorem h_G {id:Nat}(h:∀a,Sat N e a->Q (.exit id) a w):WC P N (.exit id) K Q e w:=fun a ha=>wp_exit<|h a ha
theorem e_Q {id:Nat}{c:Code}(h:WC P N c K (inB id K Q) e w):WC P N (.block id c) K Q e w:=fun a ha =>
 wp_block (Code.wp_mono (fun ex a w q=>by
  cases ex with
  | exit i=>simp only [Exit.then,inB,Exit.inBlock] at *;split <;> simp_all
  | _=>exact q) (h a ha))
theorem f_V {c:Operand}{x y:Code}{b:Bool}(hc:ev e c=some (.bool b))(ht:b=true->WC P N x K Q e w)(hf:b=false->WC P N y K Q e w) :
  WC P N (.cond c x y) K Q e w:=fun a ha =>
 wp_cond_split (ha.ev hc) (fun h=>ht h a ha) (fun h=>hf h a ha)
theorem n_x {c:Code}{K':Act->World->Prop}{Q':Exit->Act->World->Prop}(hk:∀a w,K' a w->K a w)(hq:∀ex a w,Q' ex a w->Q ex a w)
  (h:WC P N c K' Q' e w):WC P N c K Q e w:=fun a ha =>
 Code.wp_mono (fun ex a w q=>by cases ex <;> first | exact hk _ _ q | exact hq _ _ _ q) (h a ha)
end
def WL (P:Program)(N:Nat)(ops:Array Oper)(K:Act->World->Prop)(Q:Exit->Act->World->Prop)(l:List Oper)(e:Env)(w:World):Prop :=
 ∀a,Sat N e a->wpList P ops (Exit.then K Q) l a w
structure Chg (X:Nat->Prop)(w w':World):Prop where
 os:w'.os=w.os
 tape:w'.tape=w.tape
 output:w'.output=w.output
 size:w.heap.size<=w'.heap.size
 block:∀k,k<w.heap.size->¬X k->w'.heap[k]? = w.heap[k]?
theorem Below.chg {w w':World}(h:Below w.heap.size w w')(X:Nat->Prop):Chg X w w':=⟨h.os,h.tape,h.output,h.size,fun k hk _=>h.block k hk⟩
theorem Chg.below {X:Nat->Prop}{w w':World}(h:Chg X w w'){B:Nat}(hB:B<=w.heap.size)(hX:∀k,k<B->¬X k):Below B w w':=⟨h.os,h.tape,h.output,h.size,fun k hk=>h.block k (by omega)<|hX k hk⟩
theorem Chg.refl (X:Nat->Prop)(w:World):Chg X w w:=⟨rfl,rfl,rfl,Nat.le_refl _,fun _ _ _=>rfl⟩
theorem Chg.trans {X:Nat->Prop}{a b c:World}(h:Chg X a b)(k:Chg X b c):Chg X a c :=
 ⟨k.os.trans h.os,k.tape.trans h.tape,k.output.trans h.output,Nat.le_trans h.size k.size,fun i hi hx=>(k.block i (Nat.lt_of_lt_of_le hi h.size) hx).trans (h.block i hi hx)⟩
theorem Chg.mono {X Y:Nat->Prop}{w w':World}(h:Chg X w w')(hxy:∀k,k<w.heap.size->X k->Y k):Chg Y w w':=⟨h.os,h.tape,h.output,h.size,fun k hk hy=>h.block k hk<|fun hx=>hy<|hxy k hk hx⟩
def noX:Nat->Prop:=fun _=>False
theorem Below.noX {w w':World}(h:Below w.heap.size w w'):Chg noX w w':=Vw.Below.chg h _
def Rd (X:Nat->Prop)(P:Program)(N:Nat)(o:Oper)(e:Env)(w:World)(v:Value):Prop :=
 ∀a,Sat N e a->∀w',Chg X w w'->(execOp a.eval o).run P w' = .ok (.value v) w'
structure Ef (P:Program)(N:Nat)(o:Oper)(e:Env)(w:World)(K:Value->World->Prop):Prop where
 run:∀a,Sat N e a->∀(Q:Exit->Act->World->Prop),o.wp P a w (fun a' w'=>∃v,a'=a.put o.dst v/\K v w') Q
def out (o:Oper)(v:Value)(e:Env):Env :=
 match o.dst with
 | some d=>(d,v)::e
 | none=>e
def b_s (N:Nat)(o:Oper):Bool :=
 match o.dst with
 | some d=>Nat.blt d N
 | none=>true
section
variable {P:Program}{N:Nat}{ops:Array Oper}{K:Act->World->Prop}{Q:Exit->Act->World->Prop}{e:Env}{w:World}{o:Oper}{rest:List Oper}
theorem Sat.out {a:Act}(h:Sat N e a)(hf:b_s N o=true)(v:Value):Sat N (out o v e) (a.put o.dst v):=by
 unfold Vw.out b_s at *
 cases hd:o.dst with
 | none=>exact h
 | some d=>rw [hd] at hf;exact h.put hf v
theorem e_R (h:AtK N K e w):WL P N ops K Q [] e w:=fun a ha=>h a ha
theorem WL_rd {v:Value}(hg:o.guard=none)(hf:b_s N o=true)(h:Rd noX P N o e w v)(k:WL P N ops K Q rest (out o v e) w):WL P N ops K Q (o::rest) e w:=fun a ha =>
 wpList_plain hg fun K' hK=>by
  unfold Oper.wp
  rw [h a ha w (Chg.refl _ _)]
  exact hK _ _<|k _<|ha.out hf v
theorem WL_ef {R:Value->World->Prop}(hg:o.guard=none)(hf:b_s N o=true)(h:Ef P N o e w R)(k:∀v w',R v w'->WL P N ops K Q rest (out o v e) w'):WL P N ops K Q (o::rest) e w:=fun a ha =>
 wpList_plain hg fun K' hK=>Oper.wp_mono (fun a' w' ⟨v,he,hr⟩=>by subst he;exact hK _ _<|k v w' hr _<|ha.out hf v)<|h.run a ha (Exit.then _ _)
theorem j_t {j:Nat}{want b:Bool}{d:Nat}(hg:o.guard=some (j,want))(hj:(ops[j]?).bind (·.dst)=some d)(hb:x_ e d=some (.bool b))
  (hf:b_s N o=true) (hy:b=want->∀a,Sat N e a->o.wp P a w (wpList P ops (Exit.then K Q) rest) (Exit.then K Q)) (hn:b ≠ want->WL P N ops K Q rest (out o undef e) w):WL P N ops K Q (o::rest) e w:=fun a ha=>by
 have hy':yielded ops a.tmps j=some b:=by
  have:=ha.at_ d _ hb
  simp [yielded,hj,this]
 unfold wpList
 by_cases hbw:b=want
 ·rw [if_pos (by simp [Region.wanted,hg,hy',hbw])]
  exact .inl<|hy hbw a ha
 ·rw [if_neg (by simp [Region.wanted,hg,hy',hbw])]
  exact hn hbw _<|ha.out hf undef
theorem n_y {j:Nat}{want:Bool}{d:Nat}{v:Value}(hg:o.guard=some (j,want))(hj:(ops[j]?).bind (·.dst)=some d)(hb:x_ e d=some (.bool want))
  (hf:b_s N o=true) (h:Rd noX P N o e w v) (k:WL P N ops K Q rest (out o v e) w):WL P N ops K Q (o::rest) e w :=
 j_t hg hj hb hf (fun _ a ha=>by
  unfold Oper.wp
  rw [h a ha w (Chg.refl _ _)]
  exact k _ (ha.out hf v)) (fun h=>absurd rfl h)
theorem n_z {j:Nat}{want:Bool}{d:Nat}{R:Value->World->Prop}(hg:o.guard=some (j,want))(hj:(ops[j]?).bind (·.dst)=some d)(hb:x_ e d=some (.bool want))
  (hf:b_s N o=true) (h:Ef P N o e w R) (k:∀v w',R v w'->WL P N ops K Q rest (out o v e) w'):WL P N ops K Q (o::rest) e w :=
 j_t hg hj hb hf (fun _ a ha=>Oper.wp_mono (fun a' w' ⟨v,he,hr⟩=>by subst he;exact k v w' hr _<|ha.out hf v)<|h.run a ha (Exit.then _ _)) (fun h=>absurd rfl h)
theorem n_A {j:Nat}{want:Bool}{d:Nat}(hg:o.guard=some (j,want))(hj:(ops[j]?).bind (·.dst)=some d)(hb:x_ e d=some (.bool (!want)))
  (hf:b_s N o=true) (k:WL P N ops K Q rest (out o undef e) w):WL P N ops K Q (o::rest) e w :=
 j_t hg hj hb hf (fun h=>by cases want <;> simp at h) (fun _=>k)
theorem n_B {j:Nat}{want:Bool}{d:Nat}(hg:o.guard=some (j,want))(hj:(ops[j]?).bind (·.dst)=some d)(hb:x_ e d=some undef)
  (hf:b_s N o=true) (k:WL P N ops K Q rest (out o undef e) w):WL P N ops K Q (o::rest) e w:=fun a ha=>by
 have hy':yielded ops a.tmps j=none:=by
  have:=ha.at_ d _ hb
  simp [yielded,hj,this,undef]
 unfold wpList
 rw [if_neg (by simp [Region.wanted,hg,hy'])]
 exact k _<|ha.out hf undef
theorem f_W {id:Nat}{l:List Oper}(h:WL P N l.toArray K Q l e w):WC P N (.region id l.toArray false) K Q e w:=fun a ha =>
 wp_region_lit (h a ha)
end
end Go.Vw
namespace Go.Vw
open Go.RowKit
variable {X:Nat->Prop}
def F3:Exit->Act->World->Prop:=fun _ _ _=>False
theorem n_C {P:Program}{o:Oper}{a:Act}{w:World}{K:Act->World->Prop}{Q:Exit->Act->World->Prop}(h:o.wp P a w K F3):o.wp P a w K Q:=by
 unfold Oper.wp at *
 generalize (execOp a.eval o).run P w=r at *
 cases r with
 | ok n w' =>
  cases n <;> simp only [Oper.upon] at h ⊢ <;>
   first
    | exact h
    | exact Calls.mono h (fun e w'' he=>by
      cases e with
      | returned v=>exact he
      | panicked c=>exact (show False from he).elim
      | outgrown=>obtain ⟨_,_,hq⟩:=he;exact (show False from hq).elim)
 | halt x w'=>cases x <;> simp only [Oper.upon] at h ⊢ <;> exact (show False from h).elim
def opW (P:Program)(ops:Array Oper)(i:Nat)(K:Act->World->Prop)(a:Act)(w:World):Prop :=
 match ops[i]? with
 | none=>K a w
 | some o=>if Region.wanted o (yielded ops a.tmps) then o.wp P a w K F3 else K (a.put o.dst undef) w
section
variable {P:Program}{ops:Array Oper}{T:Nat}
theorem n_D {Q:Exit->Act->World->Prop}{i:Nat}{K K':Act->World->Prop}{a:Act}{w:World}(hk:∀a w,K a w->K' a w)(h:opW P ops i K a w):wpOp P ops Q i K' a w:=by
 unfold opW at h
 unfold wpOp
 split
 ·rename_i ho;simp only [ho] at h;exact hk _ _ h
 ·rename_i o ho
  simp only [ho] at h
  split
  ·rename_i hw;simp only [hw,if_true] at h;exact .inl<|n_C<|Oper.wp_mono hk h
  ·rename_i hw;simp only [hw] at h;exact hk _ _ h
theorem d_F {i:Nat}{K K':Act->World->Prop}{a:Act}{w:World}(hk:∀a w,K a w->K' a w)(h:opW P ops i K a w):opW P ops i K' a w:=by
 unfold opW at *
 split
 ·rename_i ho;simp only [ho] at h;exact hk _ _ h
 ·rename_i o ho
  simp only [ho] at h
  split
  ·rename_i hw;simp only [hw,if_true] at h;exact Oper.wp_mono hk h
  ·rename_i hw;simp only [hw] at h;exact hk _ _ h
def YX (X:Nat->Prop)(P:Program)(ops:Array Oper)(o:Oper)(v:Value)(a:Act)(w:World):Prop :=
 (Region.wanted o (yielded ops a.tmps)=true/\∀w',Chg X w w'->(execOp a.eval o).run P w' = .ok (.value v) w') ∨
 (Region.wanted o (yielded ops a.tmps)=false/\v=undef)
theorem YX.of_same {o:Oper}{v:Value}{a a':Act}{w:World}(hy:YX X P ops o v a w)(he:execOp a'.eval o=execOp a.eval o)
  (hw:Region.wanted o (yielded ops a'.tmps)=Region.wanted o (yielded ops a.tmps)):YX X P ops o v a' w:=by
 unfold YX at *
 rw [he,hw]
 exact hy
theorem YX.ext {o:Oper}{v:Value}{a:Act}{w w':World}(hy:YX X P ops o v a w)(hb:Chg X w w'):YX X P ops o v a w':=by
 rcases hy with ⟨h1,h2⟩ | h
 ·exact .inl ⟨h1,fun w'' hb'=>h2 w''<|hb.trans hb'⟩
 ·exact .inr h
theorem YX.opW {i:Nat}{o:Oper}{v:Value}{a:Act}{w:World}{K:Act->World->Prop}(hi:ops[i]? = some o)(hy:YX X P ops o v a w)(h:K (a.put o.dst v) w):opW P ops i K a w:=by
 unfold Vw.opW
 simp only [hi]
 rcases hy with ⟨hw,hv⟩ | ⟨hw,rfl⟩
 ·simp only [hw,if_true,Oper.wp,hv w<|Chg.refl _ _,Oper.upon];exact h
 ·simp only [hw,Bool.false_eq_true,if_false];exact h
theorem n_E {j:Nat}{oi oj:Oper}{v:Value}(hj:ops[j]? = some oj)(hap:oi.apart ops oj=true)
  (hsi:∀cs b,oi.op ≠ .select cs b) (hsj:∀cs b,oj.op ≠ .select cs b) {K:Act->World->Prop} {a:Act} {w:World}
  (hy:YX X P ops oi v a w) (h:opW P ops j (fun a' w'=>Chg X w w'/\K a' w') (a.put oi.dst v) w) :
  opW P ops j (fun a' w'=>Chg X w w'/\YX X P ops oi v a' w'/\K (a'.put oi.dst v) w') a w:=by
 obtain ⟨h1,h2,h3⟩:=Oper.apart_spec hap
 have keep:∀(a:Act)(w':World),YX X P ops oi v a w->Chg X w w'->∀u,YX X P ops oi v (a.put oj.dst u) w':=fun a w' hy hb u =>
  (hy.of_same (execOp_put oi hsi a oj.dst u h3)<|wanted_put oi a oj.dst u h3).ext hb
 have keepD:∀d,YX X P ops oi v { a with defers:=d::a.defers } w:=fun d=>hy.of_same rfl rfl
 unfold opW at *
 simp only [hj] at *
 rw [wanted_put oj a oi.dst v h1] at h
 split
 ·rename_i hw
  simp only [hw,if_true] at h
  unfold Oper.wp at *
  rw [execOp_put oj hsj a oi.dst v h1] at h
  generalize (execOp a.eval oj).run P w=r at *
  cases r with
  | ok n w' =>
   cases n <;> simp only [Oper.upon] at h ⊢
   case value u=>exact ⟨h.1,keep a _ hy h.1 u,by rw [← Act.put_comm a v u h2];exact h.2⟩
   case skip=>exact ⟨h.1,keep a _ hy h.1 _,by rw [← Act.put_comm a v undef h2];exact h.2⟩
   case defer d =>
    refine ⟨h.1,keep _ _ (keepD d) h.1 _,?_⟩
    rw [← Act.put_comm _ v undef h2,← Act.put_defers]
    exact h.2
   case enter f args =>
    refine Calls.mono h fun e w'' he=>?_
    cases e with
    | returned u=>exact ⟨he.1,keep a _ hy he.1 u,by rw [← Act.put_comm a v u h2];exact he.2⟩
    | panicked c=>exact he
    | outgrown=>exact he
   case row row args=>exact Rows.mono h fun u w'' he=>⟨he.1,keep a _ hy he.1 u,by rw [← Act.put_comm a v u h2];exact he.2⟩
  | halt x w'=>cases x <;> simp only [Oper.upon] at h ⊢ <;> exact h
 ·rename_i hw
  simp only [hw] at h
  exact ⟨h.1,keep a _ hy h.1 _,by rw [← Act.put_comm a v undef h2];exact h.2⟩
def wpX (X:Nat->Prop)(P:Program)(ops:Array Oper)(T:Nat)(K:Act->World->Prop):Nat->Array Bool->Act->World->Prop
 | 0,L,a,w=>Region.ready .any ops L=[]/\K a w
 | n+1,L,a,w =>
  (Region.ready .any ops L=[]->K a w) /\
  ∀i∈Region.ready .any ops L,opW P ops i (fun a' w'=>(T.testBit i=false->Chg X w w')/\wpX X P ops T K n (L.setIfInBounds i true) a' w') a w
theorem l_e {K:Act->World->Prop}{Q:Exit->Act->World->Prop}(hk:∀a w,K a w->Q .normal a w):∀(n:Nat)(L:Array Bool)(a:Act)(w:World),wpX X P ops T K n L a w->wpAny P .any ops Q n L a w
 | 0,_,_,_,h=>⟨h.1,hk _ _ h.2⟩
 | n+1,_,_,_,h=>⟨fun G=>hk _ _<|h.1 G,fun i hi=>n_D (fun a' w' hx=>l_e hk n _ a' w' hx.2)<|h.2 i hi⟩
def h_H (acc:List Nat)(o:Oper):Nat :=
 o.after.toList.foldl (fun s e=>if Region.binds .any e then s ||| (2 ^ e.on ||| acc.getD e.on 0) else s) 0
def c_0:List Nat->List Oper->List Nat
 | acc,[]=>acc
 | acc,o::l=>c_0 (acc++[h_H acc o]) l
theorem l_f (acc:List Nat)(i:Nat):∀(l:List Edge)(s:Nat),
  (l.foldl (fun s e=>if Region.binds .any e then s ||| (2 ^ e.on ||| acc.getD e.on 0) else s) s).testBit i=true ->
  s.testBit i=true∨∃e∈l,Region.binds .any e=true/\(e.on=i∨(acc.getD e.on 0).testBit i=true)
 | [],_,h=>.inl h
 | e::l,s,h=>by
  simp only [List.foldl_cons] at h
  rcases l_f acc i l _ h with h1 | ⟨e',he',h1⟩
  ·by_cases hb:Region.binds .any e=true
   ·rw [if_pos hb,Nat.testBit_or,Bool.or_eq_true,Nat.testBit_or,Bool.or_eq_true] at h1
    rcases h1 with h1 | h1 | h1
    ·exact .inl h1
    ·exact .inr ⟨e,List.mem_cons_self,hb,.inl (by simpa [Nat.testBit_two_pow] using h1)⟩
    ·exact .inr ⟨e,List.mem_cons_self,hb,.inr h1⟩
   ·rw [if_neg hb] at h1
    exact .inl h1
  ·exact .inr ⟨e',List.mem_cons_of_mem _ he',h1⟩
theorem j_u (l r:List Nat)(k:Nat)(h:k<l.length):(l++r).getD k 0=l.getD k 0:=by
 simp [List.getD,List.getElem?_append_left h]
theorem l_g:∀(l:List Oper)(acc:List Nat)(pre:List Oper),acc.length=pre.length ->
  (∀j o i,pre[j]? = some o->(acc.getD j 0).testBit i=true->∃e∈o.after.toList,Region.binds .any e=true/\(e.on=i∨(e.on<j/\(acc.getD e.on 0).testBit i=true))) ->
  ∀j o i,(pre++l)[j]? = some o->((c_0 acc l).getD j 0).testBit i=true->∃e∈o.after.toList,Region.binds .any e=true/\(e.on=i∨(e.on<j/\((c_0 acc l).getD e.on 0).testBit i=true))
 | [],acc,pre,_,h=>by simpa [c_0] using h
 | o::l,acc,pre,hl,h=>by
  have:=l_g l (acc++[h_H acc o]) (pre++[o]) (by simp [hl]) (fun j oj i hj hb=>by
   by_cases hlt:j<pre.length
   ·rw [List.getElem?_append_left hlt] at hj
    rw [j_u _ _ _ (by omega)] at hb
    obtain ⟨e,he,hbi,h1⟩:=h j oj i hj hb;refine ⟨e,he,hbi,h1.imp id fun ⟨h2,h3⟩=>⟨h2,?_⟩⟩
    rw [j_u _ _ _ (by omega)]
    exact h3
   ·have hje:j=pre.length:=by
     rcases Nat.lt_or_ge j (pre++[o]).length with h' | h'
     ·simp at h';omega
     ·rw [List.getElem?_eq_none h'] at hj;cases hj
    subst hje
    simp only [List.getElem?_concat_length,Option.some.injEq] at hj
    subst hj
    have hm:(acc++[h_H acc o]).getD pre.length 0=h_H acc o:=by
     rw [← hl];simp [List.getD]
    rw [hm] at hb
    rcases l_f acc i _ _ hb with G | ⟨e,he,hbi,h1⟩
    ·simp at G
    ·refine ⟨e,he,hbi,?_⟩
     rcases h1 with h1 | h1
     ·exact .inl h1
     ·have hlt':e.on<acc.length:=by
       rcases Nat.lt_or_ge e.on acc.length with h' | h'
       ·exact h'
       ·simp [List.getD,List.getElem?_eq_none h'] at h1
      exact .inr ⟨by omega,by rw [j_u _ _ _ hlt'];exact h1⟩)
  simpa [c_0] using this
def c_S (ops:Array Oper)(L:Array Bool):Prop:=∀j o,ops[j]? = some o->L.getD j false=true->∀e∈o.after,Region.binds .any e=true->L.getD e.on false=true
theorem c_S.set {L:Array Bool}(h:c_S ops L){i:Nat}(hi:i∈Region.ready .any ops L):c_S ops (L.setIfInBounds i true):=by
 obtain ⟨_,oi,hoi,hall⟩:=mem_ready.1 hi;intro j o hj hl e he hb
 by_cases hij:i=j
 ·subst hij;obtain rfl:oi=o:=Option.some.inj<|hoi.symm.trans hj;exact getD_set_true<|hall e he hb
 ·rw [getD_set_ne false hij] at hl
  exact getD_set_true<|h j o hj hl e he hb
theorem l_h {L:Array Bool}(h:c_S ops L)(i:Nat):∀(n j:Nat)(o:Oper),j<n->ops[j]? = some o->(∀e∈o.after,Region.binds .any e=true->L.getD e.on false=true) ->
  ((c_0 [] ops.toList).getD j 0).testBit i=true->L.getD i false=true
 | 0,_,_,hn,_,_,_=>absurd hn<|Nat.not_lt_zero _
 | n+1,j,o,hn,hj,hall,hb=>by
  obtain ⟨e,he,hbi,h1⟩:=l_g ops.toList [] [] rfl (fun _ _ _ h=>by simp at h) j o i (by simpa using hj) hb;have hL:=hall e (by simpa using he) hbi
  rcases h1 with h1 | ⟨h2,h3⟩
  ·rw [← h1];exact hL
  ·obtain ⟨oe,hoe⟩:∃oe,ops[e.on]? = some oe:=by
    have:e.on<ops.size:=Nat.lt_trans h2 (Array.getElem?_eq_some_iff.1 hj).1;exact ⟨ops[e.on],by simp [this]⟩
   exact l_h h i n e.on oe (by omega) hoe (h _ _ hoe hL) h3
theorem n_F {L:Array Bool}(h:c_S ops L){i j:Nat}(hj:j∈Region.ready .any ops L)(hi:L.getD i true=false):((c_0 [] ops.toList).getD j 0).testBit i=false:=by
 obtain ⟨_,o,ho,hall⟩:=mem_ready.1 hj
 cases hb:((c_0 [] ops.toList).getD j 0).testBit i with
 | false=>rfl
 | true =>
  have:=l_h h i (j+1) j o (by omega) ho hall hb
  rcases Nat.lt_or_ge i L.size with h' | h'
  ·simp [h'] at this hi;rw [hi] at this;cases this
  ·simp [Array.getElem?_eq_none h'] at this
theorem n_G {K:Act->World->Prop}{i:Nat}{oi:Oper}{v:Value}(hi:ops[i]? = some oi)(hsel:∀(j:Nat)(o:Oper) cs b,ops[j]? = some o->o.op ≠ .select cs b) :
  ∀(n:Nat)(L:Array Bool)(a:Act)(w:World),c_S ops L ->
   (∀j oj,ops[j]? = some oj->j ≠ i->L.getD j true=false->((c_0 [] ops.toList).getD j 0).testBit i=false->oi.apart ops oj=true/\T.testBit j=false) ->
   i∈Region.ready .any ops L->YX X P ops oi v a w->wpX X P ops T K n (L.setIfInBounds i true) (a.put oi.dst v) w->wpX X P ops T K (n+1) L a w:=by
 intro n
 induction n with
 | zero =>
  intro L a w _ _ hr hy H;refine ⟨fun h=>(by rw [h] at hr;cases hr),fun j hj=>?_⟩
  by_cases hji:j=i
  ·subst hji;exact hy.opW hi ⟨fun _=>Chg.refl _ _,H⟩
  ·have:=ready_mono hj hji
   rw [H.1] at this
   cases this
 | succ n ih =>
  intro L a w hd hfree hr hy H;refine ⟨fun h=>(by rw [h] at hr;cases hr),fun j hj=>?_⟩
  by_cases hji:j=i
  ·subst hji;exact hy.opW hi ⟨fun _=>Chg.refl _ _,H⟩
  ·have h1:=H.2 j<|ready_mono hj hji;obtain ⟨hjun,oj,hoj,_⟩:=mem_ready.1 hj;have hnw:=n_F hd hj (mem_ready.1 hr).1;obtain ⟨hap,hT⟩:=hfree j oj hoj hji hjun hnw;have h1':=d_F (K':=fun a' w'=>Chg X w w'/\wpX X P ops T K n ((L.setIfInBounds i true).setIfInBounds j true) a' w') (fun a' w' hx=>⟨hx.1 hT,hx.2⟩) h1;have h2:=n_E hoj hap (fun cs b=>hsel i oi cs b hi) (fun cs b=>hsel j oj cs b hoj) hy h1'
   have hfree':∀k ok,ops[k]? = some ok->k ≠ i->(L.setIfInBounds j true).getD k true=false->((c_0 [] ops.toList).getD k 0).testBit i=false->oi.apart ops ok=true/\T.testBit k=false:=fun k ok hk hki hun hno=>by
    refine hfree k ok hk hki ?_ hno
    by_cases hjk:j=k
    ·subst hjk;exact hjun
    ·rw [getD_set_ne true hjk] at hun;exact hun
   refine d_F (fun a' w' h3=>⟨fun _=>h3.1,ih (L.setIfInBounds j true) a' w' (hd.set hj) hfree' (ready_mono hr<|Ne.symm hji) h3.2.1 ?_⟩) h2
   rw [Array.setIfInBounds_comm _ _ hji]
   exact h3.2.2
inductive a_r where
 | done
 | rd (i:Nat) (p:a_r)
 | ef (i:Nat) (p:a_r)
 | br (i:Nat) (p:a_r) (j:Nat) (q:a_r)
 | br3 (i:Nat) (p:a_r) (j:Nat) (q:a_r) (l:Nat) (r:a_r)
def a_r.len:a_r->Nat
 | done=>0
 | rd _ p=>p.len+1
 | ef _ p=>p.len+1
 | br _ p _ _=>p.len+1
 | br3 _ p _ _ _ _=>p.len+1
def j_v (ops:Array Oper)(anc:List Nat)(T:Nat)(L:Array Bool)(i:Nat):Bool :=
 match ops[i]? with
 | none=>false
 | some oi=>(List.range ops.size).all fun j=>j==i || L.getD j true || (anc.getD j 0).testBit i || match ops[j]? with
   | some oj=>oi.apart ops oj && !T.testBit j
   | none=>true
def a_r.ok (ops:Array Oper)(anc:List Nat)(T:Nat):a_r->Array Bool->Bool
 | done,L=>(Region.ready .any ops L).isEmpty
 | rd i p,L=>(Region.ready .any ops L).contains i && j_v ops anc T L i && p.ok ops anc T (L.setIfInBounds i true)
 | ef i p,L=>(Region.ready .any ops L==[i]) && p.ok ops anc T (L.setIfInBounds i true)
 | br i p j q,L=>(Region.ready .any ops L==[i,j]) && p.len==q.len && p.ok ops anc T (L.setIfInBounds i true) && q.ok ops anc T (L.setIfInBounds j true)
 | br3 i p j q l r,L=>(Region.ready .any ops L==[i,j,l]) && p.len==q.len && p.len==r.len && p.ok ops anc T (L.setIfInBounds i true) && q.ok ops anc T (L.setIfInBounds j true) && r.ok ops anc T (L.setIfInBounds l true)
def a_r.run (X:Nat->Prop)(P:Program)(ops:Array Oper)(T:Nat)(K:Act->World->Prop):a_r->Act->World->Prop
 | done,a,w=>K a w
 | rd i p,a,w=>∃o v,ops[i]? = some o/\YX X P ops o v a w/\p.run X P ops T K (a.put o.dst v) w
 | ef i p,a,w=>opW P ops i (fun a' w'=>(T.testBit i=false->Chg X w w')/\p.run X P ops T K a' w') a w
 | br i p j q,a,w=>opW P ops i (fun a' w'=>(T.testBit i=false->Chg X w w')/\p.run X P ops T K a' w') a w /\
   opW P ops j (fun a' w'=>(T.testBit j=false->Chg X w w')/\q.run X P ops T K a' w') a w
 | br3 i p j q l r,a,w=>opW P ops i (fun a' w'=>(T.testBit i=false->Chg X w w')/\p.run X P ops T K a' w') a w /\
   opW P ops j (fun a' w'=>(T.testBit j=false->Chg X w w')/\q.run X P ops T K a' w') a w /\
   opW P ops l (fun a' w'=>(T.testBit l=false->Chg X w w')/\r.run X P ops T K a' w') a w
theorem n_H {L:Array Bool}{i:Nat}{oi:Oper}(hi:ops[i]? = some oi)(h:j_v ops (c_0 [] ops.toList) T L i=true):∀j oj,ops[j]? = some oj->j ≠ i->L.getD j true=false->((c_0 [] ops.toList).getD j 0).testBit i=false->oi.apart ops oj=true/\T.testBit j=false:=by
 intro j oj hj hne hun hno
 simp only [j_v,hi,List.all_eq_true,List.mem_range] at h
 have h1:=h j (Array.getElem?_eq_some_iff.1 hj).1
 simp only [hj,Bool.or_eq_true,beq_iff_eq,hne,false_or,hun,Bool.false_eq_true,hno,Bool.and_eq_true,Bool.not_eq_true'] at h1
 exact h1
theorem d_G {K:Act->World->Prop}(hsel:Region.noSelect ops=true):∀(p:a_r)(L:Array Bool)(a:Act)(w:World),c_S ops L->p.ok ops (c_0 [] ops.toList) T L=true->p.run X P ops T K a w->wpX X P ops T K p.len L a w
 | .done,L,a,w,_,hok,h=>⟨by simpa [a_r.ok] using hok,h⟩
 | .rd i p,L,a,w,hd,hok,h=>by
  simp only [a_r.ok,Bool.and_eq_true] at hok
  obtain ⟨⟨hr,hf⟩,hok'⟩:=hok;obtain ⟨o,v,ho,hy,h'⟩:=h;have hr':i∈Region.ready .any ops L:=by simpa using hr
  exact n_G ho (Region.noSelect_spec hsel) p.len L a w hd (n_H ho hf) hr' hy<|d_G hsel p _ _ _ (hd.set hr') hok' h'
 | .ef i p,L,a,w,hd,hok,h=>by
  simp only [a_r.ok,Bool.and_eq_true,beq_iff_eq] at hok
  obtain ⟨hr,hok'⟩:=hok;refine ⟨fun G=>(by rw [hr] at G;cases G),fun j hj=>?_⟩;have hj':=hj
  rw [hr] at hj
  obtain rfl:j=i:=by simpa using hj
  exact d_F (fun a' w' hx=>⟨hx.1,d_G hsel p _ a' w' (hd.set hj') hok' hx.2⟩) h
 | .br i p k q,L,a,w,hd,hok,h=>by
  simp only [a_r.ok,Bool.and_eq_true,beq_iff_eq] at hok
  obtain ⟨⟨⟨hr,hlen⟩,hp⟩,hq⟩:=hok;refine ⟨fun G=>(by rw [hr] at G;cases G),fun j hj=>?_⟩;have hj':=hj
  rw [hr] at hj
  simp only [List.mem_cons,List.not_mem_nil,or_false] at hj
  rcases hj with rfl | rfl
  ·exact d_F (fun a' w' hx=>⟨hx.1,d_G hsel p _ a' w' (hd.set hj') hp hx.2⟩) h.1
  ·exact d_F (fun a' w' hx=>⟨hx.1,by have:=d_G hsel q _ a' w' (hd.set hj') hq hx.2;rw [← hlen] at this;exact this⟩) h.2
 | .br3 i p k q l r,L,a,w,hd,hok,h=>by
  simp only [a_r.ok,Bool.and_eq_true,beq_iff_eq] at hok
  obtain ⟨⟨⟨⟨⟨hr,hlen⟩,hlen2⟩,hp⟩,hq⟩,hs⟩:=hok;refine ⟨fun G=>(by rw [hr] at G;cases G),fun j hj=>?_⟩;have hj':=hj
  rw [hr] at hj
  simp only [List.mem_cons,List.not_mem_nil,or_false] at hj
  rcases hj with rfl | rfl | rfl
  ·exact d_F (fun a' w' hx=>⟨hx.1,d_G hsel p _ a' w' (hd.set hj') hp hx.2⟩) h.1
  ·exact d_F (fun a' w' hx=>⟨hx.1,by have:=d_G hsel q _ a' w' (hd.set hj') hq hx.2;rw [← hlen] at this;exact this⟩) h.2.1
  ·exact d_F (fun a' w' hx=>⟨hx.1,by have:=d_G hsel r _ a' w' (hd.set hj') hs hx.2;rw [← hlen2] at this;exact this⟩) h.2.2
def a_r.okAll (ops:Array Oper)(T:Nat)(p:a_r):Bool :=
 Region.noSelect ops && p.len==ops.size && p.ok ops (c_0 [] ops.toList) T (Array.replicate ops.size false)
theorem c_S.start (ops:Array Oper)(n:Nat):c_S ops (Array.replicate n false):=by
 intro j o _ hl
 rcases Nat.lt_or_ge j n with h | h
 ·simp [h] at hl
 ·simp [Nat.not_lt.2 h] at hl
structure PR (X:Nat->Prop)(P:Program)(N:Nat)(ops:Array Oper)(T:Nat)(K:Act->World->Prop)(p:a_r)(e:Env)(w:World):Prop where
 run:∀a,Sat N e a->p.run X P ops T K a w
end
section
variable {P:Program}{N:Nat}{ops:Array Oper}{T:Nat}{K:Act->World->Prop}{Q:Exit->Act->World->Prop}{e:Env}{w:World}{o:Oper}{p:a_r}
theorem h_I {id:Nat}{l:List Oper}(T:Nat)(p:a_r)(hm:P.follows .mixedOrders=true)(hok:p.okAll l.toArray T=true)(h:∀w',Below w.heap.size w w'->w'.heap=w.heap->PR X P N l.toArray T K p e w') :
  WC P N (.region id l.toArray true) K Q e w:=fun a ha=>by
 simp only [a_r.okAll,Bool.and_eq_true,beq_iff_eq] at hok
 obtain ⟨⟨hsel,hlen⟩,hp⟩:=hok;have:=d_G (P:=P) hsel p _ a { w with drawn:=w.drawn+1 } (c_S.start _ _) hp<|(h { w with drawn:=w.drawn+1 } ⟨rfl,rfl,rfl,Nat.le_refl _,fun _ _=>rfl⟩ rfl).run a ha
 rw [hlen] at this
 exact wp_region_any hm<|l_e (Q:=Exit.then K Q) (fun _ _ h=>h) _ _ _ _ this
theorem h_J (h:AtK N K e w):PR X P N ops T K .done e w:=⟨fun a ha=>h a ha⟩
theorem PR_rd {i:Nat}{v:Value}(ho:ops[i]? = some o)(hg:o.guard=none)(hf:b_s N o=true)(h:Rd X P N o e w v)(k:PR X P N ops T K p (out o v e) w):PR X P N ops T K (.rd i p) e w:=⟨fun a ha =>
 ⟨o,v,ho,.inl ⟨by simp [Region.wanted,hg],h a ha⟩,k.run _ (ha.out hf v)⟩⟩
theorem n_I {i j:Nat}{v:Value}{want:Bool}{d:Nat}(ho:ops[i]? = some o)(hg:o.guard=some (j,want))(hj:(ops[j]?).bind (·.dst)=some d)(hb:x_ e d=some (.bool want))(hf:b_s N o=true)
  (h:Rd X P N o e w v) (k:PR X P N ops T K p (out o v e) w):PR X P N ops T K (.rd i p) e w:=by
 constructor
 intro a ha
 have hy':yielded ops a.tmps j=some want:=by
  have:=ha.at_ d _ hb
  simp [yielded,hj,this]
 exact ⟨o,v,ho,.inl ⟨by simp [Region.wanted,hg,hy'],h a ha⟩,k.run _<|ha.out hf v⟩
theorem n_J {i j:Nat}{want:Bool}{d:Nat}(ho:ops[i]? = some o)(hg:o.guard=some (j,want))(hj:(ops[j]?).bind (·.dst)=some d)(hb:x_ e d=some (.bool (!want)))(hf:b_s N o=true)
  (k:PR X P N ops T K p (out o undef e) w):PR X P N ops T K (.rd i p) e w:=by
 constructor
 intro a ha
 have hy':yielded ops a.tmps j=some (!want):=by
  have:=ha.at_ d _ hb
  simp [yielded,hj,this]
 exact ⟨o,undef,ho,.inr ⟨(by cases want <;> simp [Region.wanted,hg,hy']),rfl⟩,k.run _<|ha.out hf undef⟩
theorem n_K {i j:Nat}{want:Bool}{d:Nat}(ho:ops[i]? = some o)(hg:o.guard=some (j,want))(hj:(ops[j]?).bind (·.dst)=some d)(hb:x_ e d=some undef)(hf:b_s N o=true)
  (k:PR X P N ops T K p (out o undef e) w):PR X P N ops T K (.rd i p) e w:=by
 constructor
 intro a ha
 have hy':yielded ops a.tmps j=none:=by
  have:=ha.at_ d _ hb
  simp [yielded,hj,this,undef]
 exact ⟨o,undef,ho,.inr ⟨by simp [Region.wanted,hg,hy'],rfl⟩,k.run _<|ha.out hf undef⟩
theorem l_i {i:Nat}{R:Value->World->Prop}(ho:ops[i]? = some o)(hw:∀a,Sat N e a->Region.wanted o (yielded ops a.tmps)=true)(hf:b_s N o=true)(h:Ef P N o e w R)
  (hT:T.testBit i=true∨∀v w',R v w'->Chg X w w') {a:Act} (ha:Sat N e a) (k:∀v w',R v w'->PR X P N ops T K p (out o v e) w') :
  opW P ops i (fun a' w'=>(T.testBit i=false->Chg X w w')/\p.run X P ops T K a' w') a w:=by
 unfold opW
 simp only [ho,hw a ha,if_true]
 refine Oper.wp_mono (fun a' w' ⟨v,he,hr⟩=>?_)<|h.run a ha F3;subst he;exact ⟨fun ht=>(hT.resolve_left (by simp [ht])) v w' hr,(k v w' hr).run _ (ha.out hf v)⟩
theorem j_w {i:Nat}{R:Value->World->Prop}(ho:ops[i]? = some o)(hg:o.guard=none)(hf:b_s N o=true)(h:Ef P N o e w R)
  (hT:T.testBit i=true∨∀v w',R v w'->Chg X w w') (k:∀v w',R v w'->PR X P N ops T K p (out o v e) w'):PR X P N ops T K (.ef i p) e w:=⟨fun a ha =>
 l_i ho (fun _ _=>by simp [Region.wanted,hg]) hf h hT ha k⟩
theorem n_L {i j:Nat}{want:Bool}{d:Nat}{R:Value->World->Prop}(ho:ops[i]? = some o)(hg:o.guard=some (j,want))(hj:(ops[j]?).bind (·.dst)=some d)(hb:x_ e d=some (.bool want))(hf:b_s N o=true)(h:Ef P N o e w R)
  (hT:T.testBit i=true∨∀v w',R v w'->Chg X w w') (k:∀v w',R v w'->PR X P N ops T K p (out o v e) w'):PR X P N ops T K (.ef i p) e w:=⟨fun a ha =>
 l_i ho (fun a ha=>by
  have hy':yielded ops a.tmps j=some want:=by
   have:=ha.at_ d _ hb
   simp [yielded,hj,this]
  simp [Region.wanted,hg,hy']) hf h hT ha k⟩
theorem n_M {i:Nat}(ho:ops[i]? = some o)(hw:∀a,Sat N e a->Region.wanted o (yielded ops a.tmps)=false)(hf:b_s N o=true)(k:PR X P N ops T K p (out o undef e) w):PR X P N ops T K (.ef i p) e w:=by
 constructor
 intro a ha;unfold a_r.run opW
 simp only [ho,hw a ha]
 exact ⟨fun _=>Chg.refl _ _,k.run _<|ha.out hf undef⟩
theorem n_N {i j:Nat}{want:Bool}{d:Nat}(ho:ops[i]? = some o)(hg:o.guard=some (j,want))(hj:(ops[j]?).bind (·.dst)=some d)(hb:x_ e d=some (.bool (!want)))(hf:b_s N o=true)
  (k:PR X P N ops T K p (out o undef e) w):PR X P N ops T K (.ef i p) e w :=
 n_M ho (fun a ha=>by
  have hy':yielded ops a.tmps j=some (!want):=by
   have:=ha.at_ d _ hb
   simp [yielded,hj,this]
  cases want <;> simp [Region.wanted,hg,hy']) hf k
theorem b_x {i j:Nat}{q:a_r}(h1:PR X P N ops T K (.ef i p) e w)(h2:PR X P N ops T K (.ef j q) e w):PR X P N ops T K (.br i p j q) e w:=⟨fun a ha=>⟨h1.run a ha,h2.run a ha⟩⟩
end
end Go.Vw
namespace Go.Vw
open Go.RowKit
def LEN:Nat:=140737488355328
theorem G_:LEN<=9223372036854775807:=by decide
def LIM:Nat:=4294967296
def Blk (w:World)(g:Nat)(l:List Value):Prop:=∃T fr,w.heap[g]? = some (.cells l.toArray T fr)/\(fr.2<=fr.1∨l.length<=fr.1)
theorem Blk.lt {w:World}{g:Nat}{l:List Value}(h:Blk w g l):g<w.heap.size:=by
 obtain ⟨T,fr,h,_⟩:=h;exact (Array.getElem?_eq_some_iff.1 h).1
theorem Blk.of_eq {w w':World}{g:Nat}{l:List Value}(h:Blk w g l)(he:w'.heap[g]? = w.heap[g]?):Blk w' g l:=by
 unfold Blk;rw [he];exact h
theorem Blk.chg {X:Nat->Prop}{w w':World}{g:Nat}{l:List Value}(h:Blk w g l)(hc:Chg X w w')(hx:¬X g):Blk w' g l:=h.of_eq<|hc.block g h.lt hx
theorem Blk.ext {w w':World}{g:Nat}{l:List Value}(h:Blk w g l)(hb:Below w.heap.size w w'):Blk w' g l:=h.of_eq<|hb.block g h.lt
theorem Blk.cell {w:World}{g:Nat}{l:List Value}(h:Blk w g l)(i:Nat):w.cell? ⟨g,i,none⟩=l[i]? := by
 obtain ⟨T,fr,h,_⟩:=h
 simp [World.cell?,h]
theorem Blk.free {w:World}{g:Nat}{l:List Value}(h:Blk w g l){i:Nat}(hi:i<l.length):w.frozen? ⟨g,i,none⟩=false:=by
 obtain ⟨T,fr,h,hf⟩:=h
 simp only [World.frozen?,h]
 rcases fr with ⟨lo,hi'⟩
 simp only [Bool.and_eq_false_iff,decide_eq_false_iff_not]
 simp only at hf
 omega
theorem Blk.set {w:World}{g:Nat}{l:List Value}(h:Blk w g l)(i:Nat)(v:Value):Blk (w.setCell ⟨g,i,none⟩ v) g (l.set i v):=by
 obtain ⟨T,fr,h,hf⟩:=h;refine ⟨T,fr,?_,by simpa using hf⟩
 simp only [World.setCell,Array.getElem?_modify,if_true,h,Option.map_some]
 simp
theorem l_J (w:World)(a:Addr)(v:Value):Chg (· = a.block) w (w.setCell a v) :=
 ⟨rfl,rfl,rfl,by simp,fun k _ hx=>Below.heap_setCell w a v k hx⟩
theorem c_o (w:World)(o:Obj):Below w.heap.size w (w.alloc o):=(Below.refl _ _).alloc (Nat.le_refl _) o
theorem o_N (w:World)(l:List Value)(T:TypeId):Blk (w.alloc<|.cells l.toArray T) w.heap.size l :=
 ⟨T,(0,0),heap_alloc_new w _,.inl<|Nat.le_refl _⟩
theorem alloc_blk' (w:World)(c:Array Value)(T:TypeId):Blk (w.alloc<|.cells c T) w.heap.size c.toList:=by
 have:=o_N w c.toList T
 simpa using this
def L_ (w:World)(b o:Nat)(cs:List Value):Prop:=∀j v,cs[j]? = some v->w.cell? ⟨b,o+j,none⟩=some v
theorem L_.of_block {w w':World}{b o:Nat}{cs:List Value}(h:L_ w b o cs)(he:w'.heap[b]? = w.heap[b]?):L_ w' b o cs:=fun j v hv=>by
 rw [World.cell?_of_block (w:=w) (a:=⟨b,o+j,none⟩) he];exact h j v hv
theorem L_.lt {w:World}{b o:Nat}{cs:List Value}(h:L_ w b o cs)(hn:cs ≠ []):b<w.heap.size:=by
 cases cs with
 | nil=>exact absurd rfl hn
 | cons v r=>exact World.block_lt_of_cell? w ⟨b,o+0,none⟩<|h 0 v rfl
theorem Blk.cells {w:World}{g:Nat}{l:List Value}(h:Blk w g l)(o n:Nat):L_ w g o ((l.drop o).take n):=fun j v hv=>by
 rw [h.cell]
 rw [List.getElem?_take] at hv
 split at hv
 ·rw [List.getElem?_drop] at hv;exact hv
 ·cases hv
theorem j_H {P:Program}{g o:Nat}:∀(vs:List Value)(i:Nat)(w:World)(l:List Value),Blk w g l->o+i+vs.length<=l.length->(∀v∈vs,v.oneCell'=true) ->
  ∃w',(storeCells ⟨g,o,none⟩ vs i).run P w = .ok () w'/\Blk w' g (l.take (o+i)++vs++l.drop (o+i+vs.length))/\Chg (· = g) w w'
 | [],i,w,l,h,_,_=>⟨w,rfl,by simpa using h,Chg.refl _ _⟩
 | v::vs,i,w,l,h,hl,h1=>by
  simp only [List.length_cons] at hl
  have hc:w.cell? ⟨g,o+i,none⟩=some l[o+i]:=by rw [h.cell];simp
  have hf:=h.free (i:=o+i) (by omega);obtain ⟨w',hrun,hb,hch⟩:=j_H (P:=P) (o:=o) vs (i+1) (w.setCell ⟨g,o+i,none⟩ v) (l.set (o+i) v) (h.set _ _) (by simp;omega)<|fun u hu=>h1 u<|List.mem_cons_of_mem _ hu;refine ⟨w',?_,?_,(l_J w ⟨g,o+i,none⟩ v).trans hch⟩
  ·simp only [storeCells,Sem.run_bind,Addr.add_lit,run_store _ _ _ _ _<|h1 v List.mem_cons_self,hc,hf,Bool.false_eq_true,if_false,Result.andThen_ok]
   exact hrun
  ·have hs:=list_seg_step l (o+i) v vs (by omega);have:o+(i+1)=o+i+1:=by omega
   rw [this] at hb
   simp only [List.length_cons]
   rw [← hs]
   exact hb
def Zone:=Nat->Prop
def bl (n:Nat):Zone:=fun k=>k<n
instance:Coe Nat Zone:=⟨bl⟩
instance:LE Zone:=⟨fun A B=>∀k,A k->B k⟩
def zn (B:Zone)(i j:Nat):Zone:=fun k=>B k∨(i<=k/\k<j)
theorem zr {B:Zone}:B<=B:=fun _ h=>h
theorem zt {A B C:Zone}(h:A<=B)(h':B<=C):A<=C:=fun k hk=>h' k<|h k hk
theorem M_ {m n:Nat}(h:m<=n):bl m<=bl n:=fun _ hk=>Nat.lt_of_lt_of_le hk h
theorem zt' {B:Zone}{m n:Nat}(h:B<=bl m)(h':m<=n):B<=bl n:=zt h<|M_ h'
theorem b_y {B:Zone}{i j:Nat}:B<=zn B i j:=fun _ h=>.inl h
theorem l_K {B:Zone}{i j i' j':Nat}(h:i'<=i)(h':j<=j'):zn B i j<=zn B i' j':=fun _ hk=>hk.imp id fun g=>⟨Nat.le_trans h g.1,Nat.lt_of_lt_of_le g.2 h'⟩
theorem c_p {B:Zone}{i j n:Nat}(h:B<=bl n)(h':j<=n):zn B i j<=bl n:=fun k hk=>hk.elim (h k) fun g=>Nat.lt_of_lt_of_le g.2 h'
class Dat (α:Type) where
 sz:Nat
 rep:World->Zone->List Value->α->Prop
 own:World->List Nat->List Value->α->Prop
 rep_len:∀{w B cs x},rep w B cs x->cs.length=sz
 rep_one:∀{w B cs x},rep w B cs x->∀c∈cs,c.oneCell'=true
 rep_eq:∀{w w' B cs x},rep w B cs x->(∀k,B k->k<w.heap.size->w'.heap[k]? = w.heap[k]?)->rep w' B cs x
 rep_mono:∀{w B B' cs x},rep w B cs x->B<=B'->rep w B' cs x
 own_eq:∀{w w' S cs x},own w S cs x->(∀k∈S,w'.heap[k]? = w.heap[k]?)->own w' S cs x
 own_lt:∀{w S cs x},own w S cs x->∀k∈S,k<w.heap.size
 own_rep:∀{w S cs x B},own w S cs x->(∀k∈S,B k)->rep w B cs x
 pos:0<sz
open Dat
theorem o_O {α:Type}[Dat α]{w w':World}{B:Zone}{cs:List Value}{x:α}(h:rep w B cs x)(hb:Below w.heap.size w w'):rep w' B cs x:=rep_eq h fun k _ hk=>hb.block k hk
theorem o_P {α:Type}[Dat α]{X:Nat->Prop}{w w':World}{B:Zone}{cs:List Value}{x:α}(h:rep w B cs x)(hc:Chg X w w')(hx:∀k,B k->¬X k):rep w' B cs x:=rep_eq h fun k hk hk'=>hc.block k hk'<|hx k hk
theorem g_h {α:Type}[Dat α]{w w':World}{S:List Nat}{cs:List Value}{x:α}(h:own w S cs x)(hb:Below w.heap.size w w'):own w' S cs x:=own_eq h fun k hk=>hb.block k<|own_lt h k hk
theorem e_Z {α:Type}[Dat α]{X:Nat->Prop}{w w':World}{S:List Nat}{cs:List Value}{x:α}(h:own w S cs x)(hc:Chg X w w')(hx:∀k∈S,¬X k):own w' S cs x:=own_eq h fun k hk=>hc.block k (own_lt h k hk)<|hx k hk
theorem own_rep' {α:Type}[Dat α]{w:World}{S:List Nat}{cs:List Value}{x:α}(h:own w S cs x):rep w w.heap.size cs x:=own_rep h<|own_lt h
@[reducible] def Dat.flat {α:Type} (f:α->Value->Prop) (h1:∀{x v},f x v->v.oneCell'=true):Dat α where
 sz:=1
 rep _ _ cs x:=∃v,cs=[v]/\f x v
 own _ S cs x:=S=[]/\∃v,cs=[v]/\f x v
 rep_len:=by rintro _ _ _ _ ⟨v,rfl,_⟩;rfl
 rep_one:=by rintro _ _ _ _ ⟨v,rfl,hv⟩ c hc;rw [List.mem_singleton] at hc;subst hc;exact h1 hv
 rep_eq h _:=h
 rep_mono h _:=h
 own_eq h _:=h
 own_lt:=by rintro _ _ _ _ ⟨rfl,_⟩ k hk;cases hk
 own_rep:=by rintro _ _ _ _ _ ⟨rfl,h⟩ _;exact h
 pos:=Nat.one_pos
def inI (x:Int):Prop:=-9223372036854775808<=x/\x<=9223372036854775807
structure Str where
 b:List UInt8
deriving DecidableEq,Inhabited
@[reducible] def Str.v (s:Str):Value:=.string ⟨s.b.toArray⟩
@[reducible] def vI (x:Int):Value:=.int .i64 x
@[reducible] def vB (b:Bool):Value:=.bool b
@[reducible] def vU (x:Int):Value:=.int .u8 x
@[reducible] def byteI (x:UInt8):Int:=(x.toNat:Int)
instance:Dat Int:=Dat.flat (fun x v=>v=vI x/\inI x) (fun h=>by rw [h.1];rfl)
instance:Dat Bool:=Dat.flat (fun x v=>v=vB x) (fun h=>by rw [h];rfl)
instance:Dat UInt8:=Dat.flat (fun x v=>v=vU (byteI x)) (fun h=>by rw [h];rfl)
instance:Dat Str:=Dat.flat (fun x v=>v=x.v/\x.b.length<=LEN) (fun h=>by rw [h.1];rfl)
@[reducible] def Dat.via {α β:Type} [Dat β] (f:α->β):Dat α where
 sz:=sz β
 rep w B cs x:=rep w B cs<|f x
 own w S cs x:=own w S cs<|f x
 rep_len h:=rep_len (α:=β) h
 rep_one h:=rep_one (α:=β) h
 rep_eq h he:=rep_eq (α:=β) h he
 rep_mono h hb:=rep_mono (α:=β) h hb
 own_eq h he:=own_eq (α:=β) h he
 own_lt h:=own_lt (α:=β) h
 own_rep h hb:=own_rep (α:=β) h hb
 pos:=pos (α:=β)
instance {α β:Type}[Dat α][Dat β]:Dat (α×β) where
 sz:=sz α+sz β
 rep w B cs x:=∃c d,cs=c++d/\rep w B c x.1/\rep w B d x.2
 own w S cs x:=∃c d S1 S2,cs=c++d/\S=S1++S2/\own w S1 c x.1/\own w S2 d x.2
 rep_len:=by rintro _ _ _ _ ⟨c,d,rfl,h1,h2⟩;simp [rep_len h1,rep_len h2]
 rep_one:=by
  rintro _ _ _ _ ⟨c,d,rfl,h1,h2⟩ x hx
  rcases List.mem_append.1 hx with h | h
  ·exact rep_one h1 x h
  ·exact rep_one h2 x h
 rep_eq:=by rintro _ _ _ _ _ ⟨c,d,rfl,h1,h2⟩ he;exact ⟨c,d,rfl,rep_eq h1 he,rep_eq h2 he⟩
 rep_mono:=by rintro _ _ _ _ _ ⟨c,d,rfl,h1,h2⟩ he;exact ⟨c,d,rfl,rep_mono h1 he,rep_mono h2 he⟩
 own_eq:=by
  rintro _ _ _ _ _ ⟨c,d,S1,S2,rfl,rfl,h1,h2⟩ he;exact ⟨c,d,S1,S2,rfl,rfl,own_eq h1<|fun k hk=>he k<|List.mem_append_left _ hk,own_eq h2<|fun k hk=>he k<|List.mem_append_right _ hk⟩
 own_lt:=by
  rintro _ _ _ _ ⟨c,d,S1,S2,rfl,rfl,h1,h2⟩ k hk
  rcases List.mem_append.1 hk with h | h
  ·exact own_lt h1 k h
  ·exact own_lt h2 k h
 own_rep:=by
  rintro _ _ _ _ _ ⟨c,d,S1,S2,rfl,rfl,h1,h2⟩ hk;exact ⟨c,d,rfl,own_rep h1<|fun k h=>hk k<|List.mem_append_left _ h,own_rep h2<|fun k h=>hk k<|List.mem_append_right _ h⟩
 pos:=Nat.add_pos_left (pos (α:=α)) _
def repS {α:Type}[Dat α](w:World)(B:Zone)(v:Value)(l:List α):Prop :=
 ∃ao c,v = .slice ao l.length c/\l.length<=c/\l.length<=LEN/\(ao=none->l=[]) /\
  ∀p,ao=some p->(l ≠ []->p.spot=none)/\(l ≠ []->B p.block)/\∀(i:Nat)(x:α),l[i]? = some x->∃cs,L_ w p.block (p.off+i * sz α) cs/\rep w B cs x
def a_ {α:Type}[Dat α](w:World)(S:List Nat)(v:Value)(l:List α):Prop :=
 (v = .slice none 0 0/\l=[]/\S=[]) ∨
 ∃g c cur Ss,v = .slice (some ⟨g,0,none⟩) l.length c/\l.length<=c/\l.length<=LEN/\Blk w g cur/\cur.length=c * sz α/\S=g::List.flatten Ss/\Ss.length=l.length /\
  ∀(i:Nat)(x:α)(Si:List Nat),l[i]? = some x->Ss[i]? = some Si->own w Si ((cur.drop<|i * sz α).take (sz α)) x
theorem e_k {S:List Nat}{Ss:List (List Nat)}{i k:Nat}(h:Ss[i]? = some S)(hk:k∈S):k∈List.flatten Ss:=List.mem_flatten.2 ⟨S,List.mem_of_getElem? h,hk⟩
theorem i_s {α β:Type}{l:List α}{m:List β}(h:m.length=l.length){i:Nat}{x:α}(hx:l[i]? = some x):∃y,m[i]? = some y:=by
 have:=(List.getElem?_eq_some_iff.1 hx).1;exact ⟨m[i],by simp⟩
theorem zip_some' {α β:Type}{l:List α}{m:List β}(h:m.length=l.length){i:Nat}{y:β}(hy:m[i]? = some y):∃x,l[i]? = some x:=by
 have:=(List.getElem?_eq_some_iff.1 hy).1;exact ⟨l[i],by simp⟩
instance {α:Type}[Dat α]:Dat (List α) where
 sz:=1
 rep w B cs l:=∃v,cs=[v]/\repS w B v l
 own w S cs l:=∃v,cs=[v]/\a_ w S v l
 rep_len:=by rintro _ _ _ _ ⟨v,rfl,_⟩;rfl
 rep_one:=by
  rintro _ _ _ _ ⟨v,rfl,⟨ao,c,rfl,_⟩⟩ x hx
  rw [List.mem_singleton] at hx;subst hx;rfl
 rep_eq:=by
  rintro w w' B _ l ⟨v,rfl,⟨ao,c,hv,h1,h2,h3,h4⟩⟩ he;refine ⟨v,rfl,ao,c,hv,h1,h2,h3,fun p hp=>?_⟩;obtain ⟨k1,k2,k3⟩:=h4 p hp;refine ⟨k1,k2,fun i x hx=>?_⟩;obtain ⟨cs,g1,g2⟩:=k3 i x hx;have hn:l ≠ []:=by rintro rfl;simp at hx
  refine ⟨cs,g1.of_block<|he _ (k2 hn)<|g1.lt ?_,rep_eq g2 he⟩;have:=rep_len g2;have:=pos (α:=α);rintro rfl;simp at *;omega
 rep_mono:=by
  rintro w B B' _ l ⟨v,rfl,⟨ao,c,hv,h1,h2,h3,h4⟩⟩ hB;refine ⟨v,rfl,ao,c,hv,h1,h2,h3,fun p hp=>?_⟩;obtain ⟨k1,k2,k3⟩:=h4 p hp;refine ⟨k1,fun hn=>hB _<|k2 hn,fun i x hx=>?_⟩;obtain ⟨cs,g1,g2⟩:=k3 i x hx;exact ⟨cs,g1,rep_mono g2 hB⟩
 own_eq:=by
  rintro w w' S _ l ⟨v,rfl,h⟩ he;refine ⟨v,rfl,?_⟩
  rcases h with h | ⟨g,c,cur,Ss,hv,h1,h2,h3,h4,rfl,h6,h7⟩
  ·exact .inl h
  ·refine .inr ⟨g,c,cur,Ss,hv,h1,h2,h3.of_eq<|he g List.mem_cons_self,h4,rfl,h6,fun i x Si hx hS=>own_eq (h7 i x Si hx hS) fun k hk=>he k<|List.mem_cons_of_mem _<|e_k hS hk⟩
 own_lt:=by
  rintro w S _ l ⟨v,rfl,h⟩ k hk
  rcases h with ⟨_,_,rfl⟩ | ⟨g,c,cur,Ss,hv,h1,h2,h3,h4,rfl,h6,h7⟩
  ·cases hk
  ·rcases List.mem_cons.1 hk with rfl | hk
   ·exact h3.lt
   ·obtain ⟨Si,hSi,hk⟩:=List.mem_flatten.1 hk;obtain ⟨i,hi⟩:=List.getElem?_of_mem hSi;obtain ⟨x,hx⟩:=zip_some' h6 hi;exact own_lt (h7 i x Si hx hi) k hk
 own_rep:=by
  rintro w S _ l B ⟨v,rfl,h⟩ hB;refine ⟨v,rfl,?_⟩
  rcases h with ⟨rfl,rfl,_⟩ | ⟨g,c,cur,Ss,rfl,h1,h2,h3,h4,rfl,h6,h7⟩
  ·exact ⟨none,0,rfl,Nat.le_refl _,Nat.zero_le _,fun _=>rfl,fun p hp=>by cases hp⟩
  ·refine ⟨some ⟨g,0,none⟩,c,rfl,h1,h2,fun h=>(by cases h),fun p hp=>?_⟩;obtain rfl:=Option.some.inj hp;refine ⟨fun _=>rfl,fun _=>hB g List.mem_cons_self,fun i x hx=>?_⟩;obtain ⟨Si,hSi⟩:=i_s h6 hx;refine ⟨(cur.drop<|i * sz α).take (sz α),?_,own_rep (h7 i x Si hx hSi) fun k hk=>hB k<|List.mem_cons_of_mem _<|e_k hSi hk⟩
   simpa using h3.cells (i * sz α) (sz α)
 pos:=Nat.one_pos
end Go.Vw
namespace Go.Vw
open Go.RowKit
def m_ (x y:Int):Int:=IntKind.i64.wrap<|x+y
def r_ (x y:Int):Int:=IntKind.i64.wrap<|x - y
def a_f (x y:Int):Int:=IntKind.i64.wrap<|x * y
def c_C (x y:Int):Int:=IntKind.i64.wrap<|x.tdiv y
def b_2 (x y:Int):Int:=x.tmod y
def f_0 (x:Int):Int:=IntKind.i64.wrap<|0 - x
def b_n (k:IntKind)(f:BitVec k.bits->BitVec k.bits->BitVec k.bits)(x y:Int):Int:=k.wrap (f (BitVec.ofInt k.bits x)<|BitVec.ofInt k.bits y).toNat
def b_3 (k:IntKind)(x y:Int):Int:=k.wrap<|x * 2 ^ (min y.toNat k.bits)
def a_y (k:IntKind)(x y:Int):Int:=x.fdiv<|2 ^ (min y.toNat k.bits)
def usub (x y:Int):Int:=IntKind.u8.wrap<|x - y
section
variable {X:Nat->Prop}{P:Program}{N:Nat}{e:Env}{w:World}{dst:Option Tmp}{ty:TypeId}{pos:String}{aft:Array Edge}{gd:Option (Nat×Bool)}{x y z:Operand}
theorem f_1 {v:Value}(h:ev e x=some v):Rd X P N ⟨dst,.move x,ty,pos,aft,gd⟩ e w v:=fun a ha w' _=>by
 simp [execOp,ha.ev h]
theorem f_2 {v:Value}(h:ev e x=some v):Rd X P N ⟨dst,.assign x,ty,pos,aft,gd⟩ e w v:=fun a ha w' _=>by
 simp [execOp,ha.ev h]
theorem C_ {p:Addr}(h:ev e x=some (.pointer<|some p)):Rd X P N ⟨dst,.nilCheck x,ty,pos,aft,gd⟩ e w (.pointer<|some p):=fun a ha w' _=>by
 simp [execOp,ha.ev h]
theorem o_Q {v:Value}{y z:Operand}(h:ev e x=some (.bool true))(hy:ev e y=some v):Rd X P N ⟨dst,.pick x y z,ty,pos,aft,gd⟩ e w v:=fun a ha w' _=>by
 simp [execOp,ha.ev h,ha.ev hy,asBool]
theorem o_R {v:Value}{y z:Operand}(h:ev e x=some (.bool false))(hz:ev e z=some v):Rd X P N ⟨dst,.pick x y z,ty,pos,aft,gd⟩ e w v:=fun a ha w' _=>by
 simp [execOp,ha.ev h,ha.ev hz,asBool]
def Fld (P:Program)(T k off:Nat):Prop:=∃fs f,P.underlying T=some (.struct fs)/\fs[k]? = some f/\f.offset=off/\∃n,(∀w,(sizeOf f.type).run P w = .ok n w)/\n ≠ 0
theorem g_j {T k off g o:Nat}(hf:Fld P T k off)(h:ev e x=some (.pointer<|some ⟨g,o,none⟩)):Rd X P N ⟨dst,.fieldAddr T x k,ty,pos,aft,gd⟩ e w (.pointer<|some ⟨g,o+off,none⟩):=fun a ha w' _=>by
 obtain ⟨fs,f,h1,h2,h3,n,h4,h5⟩:=hf
 simp [execOp,ha.ev h,Instr.fieldAt,Instr.sureAddr,run_underlying h1,h2,fieldPlace,h4,h5,h3,Addr.add_lit]
theorem g_k {T g o:Nat}{v:Value}(hT:∀w,(isAgg T).run P w = .ok false w)(h:ev e x=some (.pointer<|some ⟨g,o,none⟩))(hX:¬X g)(hc:w.cell? ⟨g,o,none⟩=some v):Rd X P N ⟨dst,.load T x,ty,pos,aft,gd⟩ e w v:=fun a ha w' hb=>by
 have hc':w'.cell? ⟨g,o,none⟩=some v:=(World.cell?_of_block (w:=w) (a:=⟨g,o,none⟩)<|hb.block g (World.block_lt_of_cell? w _ hc) hX).trans hc
 simp [execOp,ha.ev h,Instr.loadAt,Instr.sureAddr,loadVar,hT,hc']
theorem i_t {T g o n:Nat}{vs:List Value}(hT:∀w,(isAgg T).run P w = .ok true w)(hs:∀w,(sizeOf T).run P w = .ok n w)(h:ev e x=some (.pointer<|some ⟨g,o,none⟩))(hl:vs.length=n)(hX:¬X g)(hc:L_ w g o vs):Rd X P N ⟨dst,.load T x,ty,pos,aft,gd⟩ e w (.agg vs.toArray):=fun a ha w' hb=>by
 have hc':∀j v,vs[j]? = some v->w'.cell? ((⟨g,o,none⟩:Addr).add j)=some v:=fun j v hv=>by
  rw [Addr.add_lit]
  have:=hc j v hv;exact (World.cell?_of_block (w:=w) (a:=⟨g,o+j,none⟩)<|hb.block g (World.block_lt_of_cell? w _ this) hX).trans this
 have hr:=run_loadCells_list (P:=P) (w:=w') ⟨g,o,none⟩ vs hc';subst hl
 simp [execOp,ha.ev h,Instr.loadAt,Instr.sureAddr,loadVar,hT,hs,hr]
theorem l_M {T E b o len cap sz:Nat}{k:IntKind}{i:Int}(hT:P.underlying T=some (.slice E))(hs:∀w,(sizeOf E).run P w = .ok sz w)(h:ev e x=some (.slice (some ⟨b,o,none⟩) len cap))(hi:ev e y=some (.int k i))(G:0<=i)(h1:i<len) :
  Rd X P N ⟨dst,.indexAddr T x y,ty,pos,aft,gd⟩ e w (.pointer<|some ⟨b,o+i.toNat * sz,none⟩):=fun a ha w' _=>by
 simp [execOp,ha.ev h,ha.ev hi,Instr.indexAt,asIntOf,run_underlying hT,hs,G,h1,Addr.add_lit]
theorem b_a {T:Nat}{s:Str}{k:IntKind}{i:Int}{c:UInt8}(hT:P.underlying T=some .string)(h:ev e x=some s.v)(hi:ev e y=some (.int k i))(G:0<=i)(h1:s.b[i.toNat]? = some c) :
  Rd X P N ⟨dst,.index T x y,ty,pos,aft,gd⟩ e w (vU<|byteI c):=fun a ha w' _=>by
 have:(⟨s.b.toArray⟩:ByteArray)[i.toNat]? = some c:=by
  have hlt:=List.getElem?_eq_some_iff.1 h1;obtain ⟨hlt,hv⟩:=hlt
  show (if h:i.toNat<s.b.toArray.size then some (s.b.toArray[i.toNat]) else none)=some c
  rw [dif_pos (by simpa using hlt)]
  simpa using hv
 simp [execOp,ha.ev h,ha.ev hi,Instr.index,asIntOf,run_underlying hT,G,this]
theorem g_l {vs:Array Value}{i:Nat}{v:Value}(h:ev e x=some (.tuple vs))(hv:vs[i]? = some v):Rd X P N ⟨dst,.extract x i,ty,pos,aft,gd⟩ e w v:=fun a ha w' _=>by
 simp [execOp,ha.ev h,Instr.extract,hv]
theorem o_S {T E:Nat}{ao:Option Addr}{len cap:Nat}{args:Array Operand}{tys:Array TypeId}(hT:P.underlying T=some (.slice E))(h:ev e x=some (.slice ao len cap)) :
  Rd X P N ⟨dst,.call { callee:=.builtin .len,args:=#[x],argTypes:=#[T] },ty,pos,aft,gd⟩ e w (vI len):=fun a ha w' _=>by
 simp [execOp,resolve,invoke,builtin,Builtin.len_,ha.ev h,run_underlying hT,goInt]
theorem i_u {T:Nat}{s:Str}(hT:P.underlying T=some .string)(h:ev e x=some s.v) :
  Rd X P N ⟨dst,.call { callee:=.builtin .len,args:=#[x],argTypes:=#[T] },ty,pos,aft,gd⟩ e w (vI s.b.length):=fun a ha w' _=>by
 simp [execOp,resolve,invoke,builtin,Builtin.len_,ha.ev h,run_underlying hT,goInt]
 show ((s.b.toArray.size:Nat):Int)=_
 simp
theorem b_e {op:BinOp}{T T':Nat}{G a2 v:Value}(h1:ev e x=some G)(h2:ev e y=some a2)(hr:∀w,((do eqGuard op T x y G a2;binOp op T G a2):Sem Value).run P w = .ok v w) :
  Rd X P N ⟨dst,.binOp op T x y T',ty,pos,aft,gd⟩ e w v:=fun a ha w' _=>by
 have:=hr w'
 simp only [execOp,ha.ev h1,ha.ev h2]
 rw [Sem.run_bind,this]
 rfl
section
variable {T T':Nat}{p q:Int}{k:IntKind}
theorem g_m (h1:ev e x=some (vI p))(h2:ev e y=some (vI q)):Rd X P N ⟨dst,.binOp .add T x y T',ty,pos,aft,gd⟩ e w (vI<|m_ p q):=b_e h1 h2 fun w=>by simp [eqGuard,binOp,Op.intArith,m_]
theorem i_v (h1:ev e x=some (vI p))(h2:ev e y=some (vI q)):Rd X P N ⟨dst,.binOp .sub T x y T',ty,pos,aft,gd⟩ e w (vI<|r_ p q):=b_e h1 h2 fun w=>by simp [eqGuard,binOp,Op.intArith,r_]
theorem d_p (h1:ev e x=some (vI p))(h2:ev e y=some (vI q)):Rd X P N ⟨dst,.binOp .mul T x y T',ty,pos,aft,gd⟩ e w (vI<|a_f p q):=b_e h1 h2 fun w=>by simp [eqGuard,binOp,Op.intArith,a_f]
theorem o_T (h1:ev e x=some (vU p))(h2:ev e y=some (vU q)):Rd X P N ⟨dst,.binOp .sub T x y T',ty,pos,aft,gd⟩ e w (vU<|usub p q):=b_e h1 h2 fun w=>by simp [eqGuard,binOp,Op.intArith,usub]
theorem l_N (h1:ev e x=some (vI p))(h2:ev e y=some (vI q))(G:q ≠ 0):Rd X P N ⟨dst,.binOp .quo T x y T',ty,pos,aft,gd⟩ e w (vI<|c_C p q):=b_e h1 h2 fun w=>by simp [eqGuard,binOp,Op.intDiv,G,c_C]
theorem g_n (h1:ev e x=some (vI p))(h2:ev e y=some (vI q))(G:q ≠ 0):Rd X P N ⟨dst,.binOp .rem T x y T',ty,pos,aft,gd⟩ e w (vI<|b_2 p q):=b_e h1 h2 fun w=>by simp [eqGuard,binOp,Op.intDiv,G,b_2]
theorem rd_and (h1:ev e x=some (.int k p))(h2:ev e y=some (.int k q)):Rd X P N ⟨dst,.binOp .and T x y T',ty,pos,aft,gd⟩ e w (.int k<|b_n k (· &&& ·) p q):=b_e h1 h2 fun w=>by simp [eqGuard,binOp,Op.intBits,b_n]
theorem j_I (h1:ev e x=some (.int k p))(h2:ev e y=some (.int k q)):Rd X P N ⟨dst,.binOp .or T x y T',ty,pos,aft,gd⟩ e w (.int k<|b_n k (· ||| ·) p q):=b_e h1 h2 fun w=>by simp [eqGuard,binOp,Op.intBits,b_n]
theorem f_3 {k':IntKind}(h1:ev e x=some (.int k p))(h2:ev e y=some (.int k' q))(G:0<=q):Rd X P N ⟨dst,.binOp .shl T x y T',ty,pos,aft,gd⟩ e w (.int k<|b_3 k p q):=b_e h1 h2 fun w=>by simp [eqGuard,binOp,Op.shift,Int.not_lt.2 G,b_3]
theorem j_J {k':IntKind}(h1:ev e x=some (.int k p))(h2:ev e y=some (.int k' q))(G:0<=q):Rd X P N ⟨dst,.binOp .shr T x y T',ty,pos,aft,gd⟩ e w (.int k<|a_y k p q):=b_e h1 h2 fun w=>by simp [eqGuard,binOp,Op.shift,Int.not_lt.2 G,a_y]
theorem g_o (h1:ev e x=some (.int k p))(h2:ev e y=some (.int k q)):Rd X P N ⟨dst,.binOp .eql T x y T',ty,pos,aft,gd⟩ e w (vB<|p==q):=b_e h1 h2 fun w=>by simp [eqGuard,binOp,Op.intCmp]
theorem i_w (h1:ev e x=some (.int k p))(h2:ev e y=some (.int k q)):Rd X P N ⟨dst,.binOp .neq T x y T',ty,pos,aft,gd⟩ e w (vB<|p != q):=b_e h1 h2 fun w=>by simp [eqGuard,binOp,Op.intCmp]
theorem g_p (h1:ev e x=some (.int k p))(h2:ev e y=some (.int k q)):Rd X P N ⟨dst,.binOp .lss T x y T',ty,pos,aft,gd⟩ e w (vB<|decide<|p<q):=b_e h1 h2 fun w=>by simp [eqGuard,binOp,Op.intCmp]
theorem b_o (h1:ev e x=some (.int k p))(h2:ev e y=some (.int k q)):Rd X P N ⟨dst,.binOp .leq T x y T',ty,pos,aft,gd⟩ e w (vB<|decide<|p<=q):=b_e h1 h2 fun w=>by simp [eqGuard,binOp,Op.intCmp]
theorem a_C (h1:ev e x=some (.int k p))(h2:ev e y=some (.int k q)):Rd X P N ⟨dst,.binOp .gtr T x y T',ty,pos,aft,gd⟩ e w (vB<|decide<|q<p):=b_e h1 h2 fun w=>by simp [eqGuard,binOp,Op.intCmp]
theorem a_z (h1:ev e x=some (.int k p))(h2:ev e y=some (.int k q)):Rd X P N ⟨dst,.binOp .geq T x y T',ty,pos,aft,gd⟩ e w (vB<|decide<|q<=p):=b_e h1 h2 fun w=>by simp [eqGuard,binOp,Op.intCmp]
end
section
variable {T T':Nat}{p q:Bool}
theorem o_U (d:Nat)(hT:P.underlying T=some .bool)(w:World):(Op.equalIn (d+1) T (.bool p)<|.bool q).run P w = .ok (p==q) w:=by
 simp [Op.equalIn,run_underlying hT]
theorem l_O (hT:P.underlying T=some .bool)(h1:ev e x=some (vB p))(h2:ev e y=some (vB q)):Rd X P N ⟨dst,.binOp .neq T x y T',ty,pos,aft,gd⟩ e w (vB<|p != q):=b_e h1 h2 fun w=>by simp [eqGuard,binOp,Op.equal,Op.maxDepth,o_U 9999 hT,bne]
theorem i_x (h1:ev e x=some (vB p)):Rd X P N ⟨dst,.unOp .not T x,ty,pos,aft,gd⟩ e w (vB (!p)):=fun a ha w' _=>by
 simp [execOp,ha.ev h1,Op.unary]
theorem rd_neg {p:Int}(h1:ev e x=some (vI p)):Rd X P N ⟨dst,.unOp .neg T x,ty,pos,aft,gd⟩ e w (vI<|f_0 p):=fun a ha w' _=>by
 simp [execOp,ha.ev h1,Op.unary,Op.intArith,f_0]
end
theorem l_P (l:List UInt8):(⟨l.toArray⟩:ByteArray).toList=l:=by
 have:∀(n i:Nat)(r:List UInt8),l.length - i=n->ByteArray.toList.loop ⟨l.toArray⟩ i r=r.reverse++l.drop i:=by
  intro n
  induction n with
  | zero =>
   intro i r h;unfold ByteArray.toList.loop
   rw [if_neg (by show ¬i<l.toArray.size;simp;omega),List.drop_of_length_le (by omega)]
   simp
  | succ n ih =>
   intro i r h;unfold ByteArray.toList.loop;have hi:i<l.length:=by omega
   rw [if_pos (by show i<l.toArray.size;simpa using hi),ih (i+1) _ (by omega)]
   have:ByteArray.get! ⟨l.toArray⟩ i=l[i]:=by
    show l.toArray[i]! = l[i]
    simp [hi]
   rw [this,List.reverse_cons,List.append_assoc,List.singleton_append,List.getElem_cons_drop]
 unfold ByteArray.toList
 rw [this _ 0 [] rfl]
 simp
theorem o_V (a b:List UInt8):(⟨a.toArray⟩:ByteArray)++⟨b.toArray⟩=⟨(a++b).toArray⟩:=by
 apply ByteArray.ext
 rw [ByteArray.data_append]
 simp
section
variable {T T':Nat}{s t:Str}
theorem e_l (h1:ev e x=some s.v)(h2:ev e y=some t.v):Rd X P N ⟨dst,.binOp .eql T x y T',ty,pos,aft,gd⟩ e w (vB<|s.b==t.b):=b_e h1 h2 fun w=>by simp [eqGuard,binOp,Op.stringOp]
theorem g_q (h1:ev e x=some s.v)(h2:ev e y=some t.v):Rd X P N ⟨dst,.binOp .neq T x y T',ty,pos,aft,gd⟩ e w (vB<|s.b != t.b):=b_e h1 h2 fun w=>by simp [eqGuard,binOp,Op.stringOp,bne]
theorem o_W (h1:ev e x=some s.v)(h2:ev e y=some t.v)(hl:s.b.length+t.b.length<=LEN):Rd X P N ⟨dst,.binOp .add T x y T',ty,pos,aft,gd⟩ e w (Str.v ⟨s.b++t.b⟩):=b_e h1 h2 fun w=>by
 have h:¬((s.b.length:Int)+(t.b.length:Int)) > 9223372036854775807:=by have:=G_;omega
 have hm:IntKind.i64.max=9223372036854775807:=by decide
 simp only [eqGuard,binOp,Op.stringOp]
 simp [ByteArray.size,hm,o_V]
 omega
end
theorem l_Q {S D:Nat}{k k':IntKind}{p:Int}{d:TypeDesc}(hS:P.underlying S=some d)(hD:P.underlying D=some (.int k'))(h:ev e x=some (.int k p)):Rd X P N ⟨dst,.convert S D x,ty,pos,aft,gd⟩ e w (.int k'<|k'.wrap p):=fun a ha w' _=>by
 simp [execOp,ha.ev h,convert,run_underlying hS,run_underlying hD,Conv.intToInt]
theorem c_Y {T:Nat}{v:Value}{d:TypeDesc}(hT:P.underlying T=some d)(hd:∀ms,d ≠ .interface ms)(h:ev e x=some v):Rd X P N ⟨dst,.makeInterface T x,ty,pos,aft,gd⟩ e w (.iface T v):=fun a ha w' _=>by
 have:(Instr.makeInterface T v).run P w' = .ok (.iface T v) w':=by
  unfold Instr.makeInterface
  rw [Sem.run_bind,run_underlying hT]
  cases d <;> first | rfl | exact absurd rfl<|hd _
 simp [execOp,ha.ev h,this]
end
end Go.Vw
namespace Go.Vw
open Go.RowKit Dat
class a_u (α:Type)[Dat α]:Prop where
 flat:∀{w:World}{B:Zone}{cs:List Value}{x:α},rep w B cs x->own w [] cs x
 none:∀{w:World}{S:List Nat}{cs:List Value}{x:α},own w S cs x->S=[]
instance:a_u Int:=⟨fun h=>⟨rfl,h⟩,fun h=>h.1⟩
instance:a_u Bool:=⟨fun h=>⟨rfl,h⟩,fun h=>h.1⟩
instance:a_u UInt8:=⟨fun h=>⟨rfl,h⟩,fun h=>h.1⟩
instance:a_u Str:=⟨fun h=>⟨rfl,h⟩,fun h=>h.1⟩
instance {α β:Type}[Dat α][Dat β][a_u α][a_u β]:a_u (α×β) :=
 ⟨fun ⟨c,d,he,h1,h2⟩=>⟨c,d,[],[],he,rfl,a_u.flat h1,a_u.flat h2⟩,fun ⟨_,_,S1,S2,_,hS,h1,h2⟩=>by
  rw [hS,a_u.none h1,a_u.none h2];rfl⟩
def a_m (n i:Nat)(l:List Value):List Value:=(l.drop<|i * n).take n
theorem d_K {n i k:Nat}{l r:List Value}(h:l.length=k * n)(hi:i<k):a_m n i (l++r)=a_m n i l:=by
 unfold a_m;have h1:(i+1) * n<=k * n:=Nat.mul_le_mul_right n hi
 rw [Nat.succ_mul] at h1
 rw [List.drop_append_of_le_length (by omega),List.take_append_of_le_length (by simp;omega)]
theorem g_r {n i k:Nat}{l r:List Value}(h:l.length=k * n)(hi:k<=i):a_m n i (l++r)=a_m n (i - k) r:=by
 unfold a_m;have h1:k * n<=i * n:=Nat.mul_le_mul_right n hi
 rw [List.drop_append,List.drop_of_length_le (by omega),List.nil_append,h,Nat.sub_mul]
theorem j_K {n i k:Nat}{l:List Value}(hi:i<k):a_m n i (l.take<|k * n)=a_m n i l:=by
 unfold a_m;have h1:(i+1) * n<=k * n:=Nat.mul_le_mul_right n hi
 rw [Nat.succ_mul] at h1
 rw [List.drop_take,List.take_take]
 congr 1
 omega
theorem i_y (l:List Value)(n:Nat)(h:l.length=n):a_m n 0 l=l:=by
 unfold a_m;simp [← h]
theorem repS_row' {α:Type}[Dat α]{w:World}{B:Zone}{p:Addr}(xs:List α)(h:∀(i:Nat)(x:α),xs[i]? = some x->∃cs,L_ w p.block (p.off+i * sz α) cs/\rep w B cs x):∀k,k<=xs.length ->
  ∃news,news.length=k * sz α/\L_ w p.block p.off news/\∀(i:Nat)(x:α),i<k->xs[i]? = some x->rep w B (a_m (sz α) i news) x
 | 0,_=>⟨[],by simp,fun j v hv=>by simp at hv,fun i x hi=>absurd hi<|Nat.not_lt_zero _⟩
 | k+1,hk=>by
  obtain ⟨news,h1,h2,h3⟩:=repS_row' xs h k (by omega);have hkl:k<xs.length:=by omega
  obtain ⟨cs,g1,G⟩:=h k xs[k] (by simp);have hl:=rep_len G;refine ⟨news++cs,by simp [h1,hl,Nat.succ_mul],?_,?_⟩
  ·intro j v hv
   by_cases hj:j<news.length
   ·rw [List.getElem?_append_left hj] at hv;exact h2 j v hv
   ·rw [List.getElem?_append_right (by omega)] at hv
    have:=g1 _ _ hv
    rw [h1] at this hj
    have he:p.off+k * sz α+(j - k * sz α)=p.off+j:=by omega
    rwa [he] at this
  ·intro i y hik hy
   by_cases hi:i<k
   ·rw [d_K h1 hi]
    exact h3 i y hi hy
   ·have hi':i=k:=by omega
    subst hi'
    rw [g_r h1 (Nat.le_refl _),Nat.sub_self,i_y cs _ hl]
    rw [List.getElem?_eq_getElem hkl,Option.some.injEq] at hy
    subst hy;exact G
theorem o_X {α:Type}[Dat α]{w:World}{B:Zone}{p:Addr}(xs:List α)(h:∀(i:Nat)(x:α),xs[i]? = some x->∃cs,L_ w p.block (p.off+i * sz α) cs/\rep w B cs x) :
  ∃news,news.length=xs.length * sz α/\L_ w p.block p.off news/\∀(i:Nat)(x:α),xs[i]? = some x->rep w B (a_m (sz α) i news) x:=by
 obtain ⟨news,h1,h2,h3⟩:=repS_row' xs h xs.length<|Nat.le_refl _;exact ⟨news,h1,h2,fun i x hx=>h3 i x (List.getElem?_eq_some_iff.1 hx).1 hx⟩
structure El (P:Program)(T E n bytes:Nat)(z:Value):Prop where
 sl:P.underlying T=some (.slice E)
 info:(P.info? E).map (fun i=>(i.zero,i.size,i.bytes))=some (some z,n,bytes)
 zlen:z.cells.size=n
 pos:0<n
 small:bytes<=32768
theorem El.sm {P:Program}{T E n bytes:Nat}{z:Value}(h:El P T E n bytes z):Nat.ble bytes 32768=true:=Nat.ble_eq_true_of_le h.small
inductive App (w w':World)(n m sz:Nat)(sv v':Value)(news:List Value):Prop
 | same (hm:m=0) (hv:v'=sv) (hw:w'=w)
 | place (g c:Nat) (cur:List Value) (hs:sv = .slice (some ⟨g,0,none⟩) n c) (hv:v' = .slice (some ⟨g,0,none⟩) (n+m) c) (hc:n+m<=c) (hb:Blk w g cur) (hl:cur.length=c * sz) (hb':Blk w' g (cur.take (n * sz)++news++cur.drop (n * sz+m * sz))) (ch:Chg (· = g) w w')
 | grown (c:Nat) (olds zs:List Value) (hv:v' = .slice (some ⟨w.heap.size,0,none⟩) (n+m) c) (hc:n+m<=c) (hb':Blk w' w.heap.size (olds++news++zs)) (hl:(olds++news++zs).length=c * sz) (ho:olds.length=n * sz)
   (hold:∀g c cur,sv = .slice (some ⟨g,0,none⟩) n c->Blk w g cur->cur.length=c * sz->n<=c->olds=cur.take (n * sz)) (hb:Below w.heap.size w w')
theorem Blk.uniq {w:World}{g:Nat}{l l':List Value}(h:Blk w g l)(h':Blk w g l'):l=l':=by
 obtain ⟨T,fr,h,_⟩:=h;obtain ⟨T',fr',h',_⟩:=h';have:=h.symm.trans h'
 simp at this
 exact this.1
theorem l_R (w:World):Below w.heap.size w w.drew:=⟨rfl,rfl,rfl,Nat.le_refl _,fun _ _=>rfl⟩
theorem o_Y {P:Program}{T E sz bytes:Nat}{z:Value}(hE:El P T E sz bytes z)(w:World)(ty:TypeId){n:Nat}{sv:Value}
  (hs:(sv = .slice none 0 0/\n=0)∨∃g c cur,sv = .slice (some ⟨g,0,none⟩) n c/\n<=c/\Blk w g cur/\cur.length=c * sz)
  {p:Addr} {m c':Nat} {news:List Value} (hp:news ≠ []->p.spot=none) (hl:news.length=m * sz) (hn:L_ w p.block p.off news) (h1:∀u∈news,u.oneCell'=true)
  (hlen:n+m<=LEN) (hby:(n+m) * bytes<=140737488355328) :
  ∃v' w',(Builtin.append_ #[T,T] ty #[sv,.slice (some p) m c']).run P w = .ok v' w'/\App w w' n m sz sv v' news:=by
 obtain ⟨i,hi,hz,rfl,rfl⟩:=info_parts hE.info
 have hn':∀j u,news[j]? = some u->w.cell? (p.add j)=some u:=fun j u hu=>by
  have hsp:=hp (by rintro rfl;simp at hu);have hpe:p=⟨p.block,p.off,none⟩:=by cases p;simp only at hsp;rw [hsp]
  rw [hpe,Addr.add_lit];exact hn j u hu
 have hL:=G_
 rcases hs with ⟨rfl,rfl⟩ | ⟨g,c,cur,rfl,hnc,hB,hcl⟩
 ·by_cases hm:m=0
  ·subst hm;have hnil:news=[]:=List.eq_nil_of_length_eq_zero (by simpa using hl);subst hnil;refine ⟨.slice none 0 0,w,?_,.same rfl rfl rfl⟩
   simp [Builtin.append_,run_underlying hE.sl,sizeOf,typeInfo,hi,Builtin.lenOf,Builtin.firstCells,loadCells,loadCellsFrom]
  ·have hr:=run_append_nil (P:=P) w T ty E i z hE.sl hi hz p m c' news hl hn' (by omega) (by omega) (by have:=hby;simp only [Nat.zero_add] at this;omega);have hge:=grownCap_ge w m 0 E;refine ⟨_,_,hr,.grown (grownCap w m 0 E) [] (Builtin.zeroCells z.cells<|grownCap w m 0 E - m).toList (by simp) (by simpa using hge) ?_ ?_ (by simp) (fun g c cur h=>by cases h) ?_⟩
   ·have:=alloc_blk' w.drew (news.toArray++Builtin.zeroCells z.cells (grownCap w m 0 E - m)) E
    simpa using this
   ·simp only [List.nil_append,List.length_append,hl,Array.length_toList,size_zeroCells,hE.zlen,← Nat.add_mul]
    congr 1;omega
   ·exact Below.trans (l_R w)<|c_o w.drew _
 ·by_cases hroom:n+m<=c
  ·obtain ⟨w',hst,hb',hch⟩:=j_H (P:=P) (o:=n * i.size) news 0 w cur hB (by rw [hl,hcl,Nat.add_zero,← Nat.add_mul];exact Nat.mul_le_mul_right _ hroom) h1;have hf:=run_firstCells_some (P:=P) w i.size m p m c' news hl hn';refine ⟨.slice (some ⟨g,0,none⟩) (n+m) c,w',?_,.place g c cur rfl rfl hroom hB hcl (by simpa [hl] using hb') hch⟩
   simp [Builtin.append_,run_underlying hE.sl,sizeOf,typeInfo,hi,Builtin.lenOf,hroom,hf,Addr.add_lit,hst]
  ·have holds:∀j v,(cur.take<|n * i.size)[j]? = some v->w.cell? ((⟨g,0,none⟩:Addr).add j)=some v:=fun j v hv=>by
    rw [Addr.add_lit,Nat.zero_add,hB.cell]
    rw [List.getElem?_take] at hv
    split at hv
    ·exact hv
    ·cases hv
   have hle:n * i.size<=cur.length:=by rw [hcl];exact Nat.mul_le_mul_right _ hnc
   have hr:=run_append_grow (P:=P) w T ty E i z hE.sl hi hz ⟨g,0,none⟩ n c (cur.take<|n * i.size) (by simp [hle]) holds p m c' news hl hn' (by omega) (by omega)<|growslice_fits (by omega) hby;have hge:=grownCap_ge w (n+m) c E;refine ⟨_,_,hr,.grown (grownCap w (n+m) c E) (cur.take<|n * i.size) (Builtin.zeroCells z.cells<|grownCap w (n+m) c E - (n+m)).toList rfl hge ?_ ?_ (by simp [hle]) ?_ ?_⟩
   ·have:=alloc_blk' w.drew ((cur.take<|n * i.size).toArray++news.toArray++Builtin.zeroCells z.cells (grownCap w (n+m) c E - (n+m))) E
    simpa using this
   ·simp only [List.length_append,hl,Array.length_toList,size_zeroCells,hE.zlen,List.length_take,Nat.min_eq_left hle,← Nat.add_mul]
    congr 1;omega
   ·intro g' c'' cur' he hB' _ _
    simp only [Value.slice.injEq,Option.some.injEq,Addr.mk.injEq,and_true,true_and] at he
    obtain ⟨rfl,rfl⟩:=he
    rw [hB.uniq hB']
   ·exact Below.trans (l_R w)<|c_o w.drew _
theorem a_.row {α:Type}[Dat α]{w:World}{S:List Nat}{v:Value}{l:List α}(h:a_ w S v l) :
  (v = .slice none 0 0/\l.length=0)∨∃g c cur,v = .slice (some ⟨g,0,none⟩) l.length c/\l.length<=c/\Blk w g cur/\cur.length=c * sz α:=by
 rcases h with ⟨h1,rfl,_⟩ | ⟨g,c,cur,Ss,h1,h2,h3,h4,h5,_⟩
 ·exact .inl ⟨h1,rfl⟩
 ·exact .inr ⟨g,c,cur,h1,h2,h4,h5⟩
theorem o_Z {α:Type}[Dat α]{w w':World}{S:List Nat}{sv v':Value}{l:List α}
  (ho:a_ w S sv l) (hN:S.Nodup) {news:List Value} {xs:List α} {Ts:List (List Nat)} (hl:news.length=xs.length * sz α)
  (hTl:Ts.length=xs.length) (hx:∀(i:Nat)(x:α)(Ti:List Nat),xs[i]? = some x->Ts[i]? = some Ti->own w Ti (a_m (sz α) i news) x)
  (hD:∀k∈List.flatten Ts,k∉S) (hTN:(List.flatten Ts).Nodup) (hlen:l.length+xs.length<=LEN) (happ:App w w' l.length xs.length (sz α) sv v' news) :
  ∃S',a_ w' S' v' (l++xs)/\S'.Nodup/\Chg (· ∈ S) w w'/\(∀k∈S',k∈S∨k∈List.flatten Ts∨k=w.heap.size):=by
 have hll:(l++xs).length=l.length+xs.length:=by simp
 -- the elements, in whatever row they lie now
 have elems:∀(Ss:List (List Nat))(cur cur':List Value)(w':World),Ss.length=l.length->(∀(i:Nat)(x:α)(Si:List Nat),l[i]? = some x->Ss[i]? = some Si->own w' Si (a_m (sz α) i cur) x) ->
   (∀(i:Nat)(x:α)(Ti:List Nat),xs[i]? = some x->Ts[i]? = some Ti->own w' Ti (a_m (sz α) i news) x) ->
   (∀i,i<l.length->a_m (sz α) i cur'=a_m (sz α) i cur)->(∀i,i<xs.length->a_m (sz α) (l.length+i) cur'=a_m (sz α) i news) ->
   ∀(i:Nat)(x:α)(Si:List Nat),(l++xs)[i]? = some x->(Ss++Ts)[i]? = some Si->own w' Si ((cur'.drop<|i * sz α).take (sz α)) x:=by
  intro Ss cur cur' w' hS g1 I J L i x Si hx' hSi
  by_cases hi:i<l.length
  ·rw [List.getElem?_append_left hi] at hx'
   rw [List.getElem?_append_left (by omega)] at hSi
   have:=g1 i x Si hx' hSi
   rw [← J i hi] at this
   exact this
  ·rw [List.getElem?_append_right (by omega)] at hx'
   rw [List.getElem?_append_right (by omega),hS] at hSi
   have:=I _ x Si hx' hSi
   rw [← L _ (List.getElem?_eq_some_iff.1 hx').1] at this
   have he:l.length+(i - l.length)=i:=by omega
   rw [he] at this
   exact this
 cases happ with
 | same hm hv hw =>
  have hxs:xs=[]:=List.eq_nil_of_length_eq_zero hm;subst hxs hv hw;exact ⟨S,by simpa using ho,hN,Chg.refl _ _,fun k hk=>.inl hk⟩
 | place g c cur hs hv hc hb hcl hb' hch =>
  subst hv
  rcases ho with ⟨h,_⟩ | ⟨g',c'',cur',Ss,hs',h2,h3,h4,h5,rfl,G,H⟩
  ·rw [h] at hs;cases hs
  ·rw [hs] at hs'
   simp only [Value.slice.injEq,Option.some.injEq,Addr.mk.injEq,and_true,true_and] at hs'
   obtain ⟨rfl,rfl⟩:=hs';obtain rfl:=hb.uniq h4;have hgS:∀(i:Nat) Si,Ss[i]? = some Si->∀k∈Si,¬k=g:=fun i Si hSi k hk he=>(List.nodup_cons.1 hN).1 (he ▸ e_k hSi hk)
   have hgT:∀(i:Nat) Ti,Ts[i]? = some Ti->∀k∈Ti,¬k=g:=fun i Ti hTi k hk he=>hD k (e_k hTi hk)<|he ▸ List.mem_cons_self
   have hle:l.length * sz α<=cur.length:=by rw [hcl];exact Nat.mul_le_mul_right _ h2
   have htk:(cur.take<|l.length * sz α).length=l.length * sz α:=by simp [hle]
   refine ⟨g::List.flatten (Ss++Ts),.inr ⟨g,c,_,Ss++Ts,by rw [hll],by rw [hll];exact hc,by rw [hll];exact hlen,hb',?_,rfl,by simp [G,hTl],?_⟩,?_,hch.mono fun k _ hk=>by rw [hk];exact List.mem_cons_self,?_⟩
   ·have:l.length * sz α+xs.length * sz α<=cur.length:=by rw [hcl,← Nat.add_mul];exact Nat.mul_le_mul_right _ hc
    simp only [List.length_append,htk,hl,List.length_drop];omega
   ·refine elems Ss cur _ w' G (fun i x Si a b=>e_Z (H i x Si a b) hch<|hgS i Si b) (fun i x Ti a b=>e_Z (hx i x Ti a b) hch<|hgT i Ti b) ?_ ?_
    ·intro i hi
     rw [List.append_assoc,d_K htk hi,j_K hi]
    ·intro i hi
     rw [List.append_assoc,g_r htk (by omega),Nat.add_sub_cancel_left,d_K hl hi]
   ·rw [List.flatten_append,List.nodup_cons]
    obtain ⟨ha,hb⟩:=List.nodup_cons.1 hN;refine ⟨fun hm=>?_,List.nodup_append.2 ⟨hb,hTN,fun a ha' b hb' he=>hD b hb'<|List.mem_cons_of_mem _<|he ▸ ha'⟩⟩
    rcases List.mem_append.1 hm with h | h
    ·exact ha h
    ·exact hD g h List.mem_cons_self
   ·intro k hk
    rw [List.flatten_append] at hk
    rcases List.mem_cons.1 hk with rfl | hk
    ·exact .inl List.mem_cons_self
    ·rcases List.mem_append.1 hk with h | h
     ·exact .inl<|List.mem_cons_of_mem _ h
     ·exact .inr<|.inl h
 | grown c olds zs hv hc hb' hcl hol hold hbel =>
  subst hv
  have hTlt:∀k∈List.flatten Ts,k<w.heap.size:=fun k hk=>by
   obtain ⟨Ti,hTi,hk⟩:=List.mem_flatten.1 hk;obtain ⟨i,hi⟩:=List.getElem?_of_mem hTi;obtain ⟨x,hx'⟩:=zip_some' hTl hi;exact own_lt (hx i x Ti hx' hi) k hk
  have hch:Chg (· ∈ S) w w':=Vw.Below.chg hbel _
  -- the old elements
  obtain ⟨Ss,cur,hSl,hSe,hSS,hcur⟩:∃(Ss:List (List Nat))(cur:List Value),Ss.length=l.length/\(∀(i:Nat)(x:α)(Si:List Nat),l[i]? = some x->Ss[i]? = some Si->own w Si (a_m (sz α) i cur) x)/\((List.flatten Ss).Nodup/\∀k∈List.flatten Ss,k∈S)/\(∀i,i<l.length->a_m (sz α) i olds=a_m (sz α) i cur):=by
   rcases ho with ⟨_,rfl,rfl⟩ | ⟨g',c'',cur',Ss,hs',h2,h3,h4,h5,rfl,G,H⟩
   ·exact ⟨[],[],rfl,fun i x Si h=>by simp at h,⟨by simp,fun k hk=>by simp at hk⟩,fun i hi=>absurd hi<|Nat.not_lt_zero _⟩
   ·refine ⟨Ss,cur',G,H,⟨(List.nodup_cons.1 hN).2,fun k hk=>List.mem_cons_of_mem _ hk⟩,fun i hi=>?_⟩
    rw [hold _ _ _ hs' h4 h5 h2,j_K hi]
  refine ⟨w.heap.size::List.flatten (Ss++Ts),.inr ⟨w.heap.size,c,_,Ss++Ts,by rw [hll],by rw [hll];exact hc,by rw [hll];exact hlen,hb',hcl,rfl,by simp [hSl,hTl],?_⟩,?_,hch,?_⟩
  ·refine elems Ss cur _ w' hSl (fun i x Si a b=>g_h (hSe i x Si a b) hbel) (fun i x Ti a b=>g_h (hx i x Ti a b) hbel) ?_ ?_
   ·intro i hi
    rw [List.append_assoc,d_K hol hi,hcur i hi]
   ·intro i hi
    rw [List.append_assoc,g_r hol (by omega),Nat.add_sub_cancel_left,d_K hl hi]
  ·rw [List.flatten_append,List.nodup_cons]
   have hSlt:∀k∈List.flatten Ss,k<w.heap.size:=fun k hk=>by
    obtain ⟨Si,hSi,hk⟩:=List.mem_flatten.1 hk;obtain ⟨i,hi⟩:=List.getElem?_of_mem hSi;obtain ⟨x,hx'⟩:=zip_some' hSl hi;exact own_lt (hSe i x Si hx' hi) k hk
   refine ⟨fun hm=>?_,List.nodup_append.2 ⟨hSS.1,hTN,fun a ha' b hb' he=>hD b hb'<|he ▸ hSS.2 a ha'⟩⟩
   rcases List.mem_append.1 hm with h | h
   ·exact absurd (hSlt _ h)<|Nat.lt_irrefl _
   ·exact absurd (hTlt _ h)<|Nat.lt_irrefl _
  ·intro k hk
   rw [List.flatten_append] at hk
   rcases List.mem_cons.1 hk with rfl | hk
   ·exact .inr<|.inr rfl
   ·rcases List.mem_append.1 hk with h | h
    ·exact .inl<|hSS.2 k h
    ·exact .inr<|.inl h
theorem p_0 {α:Type}[Dat α]{P:Program}{T E bytes:Nat}{z:Value}(hE:El P T E (sz α) bytes z)(w:World)(ty:TypeId){S:List Nat}{sv:Value}{l:List α}
  (ho:a_ w S sv l) (hN:S.Nodup) {p:Addr} {c':Nat} {news:List Value} {xs:List α} {Ts:List (List Nat)} (hp:news ≠ []->p.spot=none) (hl:news.length=xs.length * sz α) (hn:L_ w p.block p.off news)
  (hTl:Ts.length=xs.length) (hx:∀(i:Nat)(x:α)(Ti:List Nat),xs[i]? = some x->Ts[i]? = some Ti->own w Ti (a_m (sz α) i news) x)
  (hD:∀k∈List.flatten Ts,k∉S) (hTN:(List.flatten Ts).Nodup) (hlen:l.length+xs.length<=LEN) (hby:(l.length+xs.length) * bytes<=140737488355328) :
  ∃v' w' S',(Builtin.append_ #[T,T] ty #[sv,.slice (some p) xs.length c']).run P w = .ok v' w'/\a_ w' S' v' (l++xs)/\S'.Nodup/\Chg (· ∈ S) w w'/\(∀k∈S',k∈S∨k∈List.flatten Ts∨k=w.heap.size):=by
 have h1:∀u∈news,u.oneCell'=true:=by
  intro u hu;obtain ⟨j,hj⟩:=List.getElem?_of_mem hu;have hjl:=(List.getElem?_eq_some_iff.1 hj).1;have hi:j / sz α<xs.length:=by rw [hl] at hjl;exact Nat.div_lt_of_lt_mul (by rwa [Nat.mul_comm])
  have hown:=hx (j / sz α) xs[j / sz α] Ts[j / sz α] (by simp) (by simp);refine rep_one (own_rep' hown) u ?_;have hmod:=Nat.mod_lt j<|pos (α:=α);have hdm:=Nat.div_add_mod j<|sz α
  have:(a_m (sz α) (j / sz α) news)[j % sz α]? = some u:=by
   unfold a_m
   rw [List.getElem?_take,if_pos hmod,List.getElem?_drop,Nat.mul_comm,hdm]
   exact hj
  exact List.mem_of_getElem? this
 obtain ⟨v',w',hrun,happ⟩:=o_Y (P:=P) hE w ty ho.row (c':=c') hp hl hn h1 hlen hby;obtain ⟨S',h⟩:=o_Z ho hN hl hTl hx hD hTN hlen happ;exact ⟨v',w',S',hrun,h⟩
end Go.Vw
namespace Go.Vw
open Go.RowKit Dat
def evs (e:Env):List Operand->Option (List Value)
 | []=>some []
 | x::l=>match ev e x,evs e l with
  | some v,some vs=>some (v::vs)
  | _,_=>none
theorem Sat.evs {N:Nat}{e:Env}{a:Act}(h:Sat N e a):∀{l:List Operand}{vs:List Value},evs e l=some vs->l.map a.eval=vs
 | [],vs,hv=>by simp only [Vw.evs,Option.some.injEq] at hv;subst hv;rfl
 | x::l,vs,hv=>by
  simp only [Vw.evs] at hv
  split at hv
  ·rename_i v vs' h1 h2
   simp only [Option.some.injEq] at hv
   subst hv
   simp [h.ev h1,Sat.evs h h2]
  ·cases hv
structure New (w w':World)(cs:List Value):Prop where
 blk:Blk w' w.heap.size cs
 below:Below w.heap.size w w'
 size:w'.heap.size=w.heap.size+1
theorem New.alloc (w:World)(cs:Array Value)(T:TypeId):New w (w.alloc<|.cells cs T) cs.toList:=⟨alloc_blk' w cs T,c_o w _,by simp⟩
structure l_ (P:Program)(f:FuncId)(args:List Value)(w:World)(R:Value->World->Prop):Prop where
 run:Calls P f args.toArray w (fun e w'=>∃v,e = .returned v/\R v w')
theorem l_.mono {P:Program}{f:FuncId}{args:List Value}{w:World}{R R':Value->World->Prop}(h:l_ P f args w R)(hr:∀v w',R v w'->R' v w'):l_ P f args w R' :=
 ⟨Calls.mono h.run fun _ _ ⟨v,he,h⟩=>⟨v,he,hr _ _ h⟩⟩
section
variable {P:Program}{N:Nat}{e:Env}{w:World}{dst:Option Tmp}{ty:TypeId}{pos:String}{aft:Array Edge}{gd:Option (Nat×Bool)}{x y z:Operand}
theorem c_U {o:Oper}{K:Value->World->Prop}(h:∀a,Sat N e a->∃v w',(execOp a.eval o).run P w = .ok (.value v) w'/\K v w'):Ef P N o e w K:=⟨fun a ha Q=>by
 obtain ⟨v,w',hr,hk⟩:=h a ha;unfold Oper.wp
 rw [hr]
 exact ⟨v,rfl,hk⟩⟩
theorem n_X {o:Oper}{K:Value->World->Prop}(h:∀a,Sat N e a->∃w',(execOp a.eval o).run P w = .ok .skip w'/\K undef w'):Ef P N o e w K:=⟨fun a ha Q=>by
 obtain ⟨w',hr,hk⟩:=h a ha;unfold Oper.wp
 rw [hr]
 exact ⟨undef,rfl,hk⟩⟩
theorem h_L {T:Nat}{z:Value}(hz:∀w,(zeroValue T).run P w = .ok z w):Ef P N ⟨dst,.alloc T,ty,pos,aft,gd⟩ e w (fun v w'=>v = .pointer (some ⟨w.heap.size,0,none⟩)/\New w w' z.cells.toList) :=
 c_U fun a ha=>⟨_,w.alloc<|.cells z.cells T,by simp [execOp,Instr.alloc,hz,newVar,newRow],rfl,New.alloc _ _ _⟩
theorem h_M {T:Nat}{v:Value}(hx:ev e x=some v):Ef P N ⟨dst,.box T x,ty,pos,aft,gd⟩ e w (fun v' w'=>v' = .pointer (some ⟨w.heap.size,0,none⟩)/\New w w' v.cells.toList) :=
 c_U fun a ha=>⟨_,w.alloc<|.cells v.cells T,by simp [execOp,Instr.box,ha.ev hx,newVar,newRow],rfl,New.alloc _ _ _⟩
theorem e_S {T n g o:Nat}{v:Value}{cur cur':List Value}(hs:∀w,(sizeOf T).run P w = .ok n w)(hp:ev e x=some (.pointer<|some ⟨g,o,none⟩))(hv:ev e y=some v)(hB:Blk w g cur)(hn:v.cells.size=n)
  (ho:o+n<=cur.length) (h1:∀u∈v.cells.toList,u.oneCell'=true) (hcur:cur.take o++v.cells.toList++cur.drop (o+v.cells.toList.length)=cur') :
  Ef P N ⟨none,.store T x y,ty,pos,aft,gd⟩ e w (fun _ w'=>Blk w' g cur'/\Chg (· = g) w w'):=by
 refine n_X fun a ha=>?_
 obtain ⟨w',hr,hb,hc⟩:=j_H (P:=P) (o:=o) v.cells.toList 0 w cur hB (by simpa [hn] using ho) h1;refine ⟨w',?_,?_,hc⟩
 ·simp [execOp,Instr.storeAt,Instr.sureAddr,ha.ev hp,ha.ev hv,storeVar,hs,hn,hr]
 ·subst hcur;simpa using hb
theorem n_Y (ρ:Operand->Value)(f:FuncId)(args:Array Operand)(tys:Array TypeId)(ty:TypeId)(w:World)(hρ:ρ (.func f) = .func (.func f) #[] #[]) :
  (resolve ρ { callee:=.value<|.func f,args,argTypes:=tys } ty).run P w = .ok { target:=.fn (.func f) #[],args:=args.map ρ } w:=by
 simp [resolve,hρ,Deferred.ofValue]
theorem h_N {f:FuncId}{args:List Operand}{tys:Array TypeId}{vs:List Value}{R:Value->World->Prop}(hcall:∀(args:Array Value)(w:World),(callFunc f args).run P w = .ok (.enter f args) w)(hv:evs e args=some vs)(hc:l_ P f vs w R) :
  Ef P N ⟨dst,.call { callee:=.value (.func f),args:=args.toArray,argTypes:=tys },ty,pos,aft,gd⟩ e w R:=⟨fun a ha Q=>by
 have hm:(args.toArray.map a.eval)=vs.toArray:=by rw [List.map_toArray,ha.evs hv]
 unfold Oper.wp
 have hr:(execOp a.eval ⟨dst,.call { callee:=.value<|.func f,args:=args.toArray,argTypes:=tys },ty,pos,aft,gd⟩).run P w = .ok (.enter f vs.toArray) w:=by
  simp [execOp,n_Y a.eval f args.toArray tys ty w rfl,invoke,hcall,hm]
 rw [hr]
 exact Calls.mono hc.run fun e' w' ⟨v,he,hR⟩=>by subst he;exact ⟨v,rfl,hR⟩⟩
theorem h_O {T E n bytes:Nat}{zz:Value}{len:Nat}{pa:Array (Nat×Operand)}{vs:List Value}(parts:List Operand)(hE:El P T E n bytes zz)(hpa:pa=((parts.zipIdx 0).map fun p=>(p.2,p.1)).toArray)(hv:evs e parts=some vs)(hl:len=parts.length)(hsz:∀v∈vs,v.cells.size=n)(hsmall:len * n<=16777216)(hpos:0<len) :
  Ef P N ⟨dst,.buildSlice T len pa,ty,pos,aft,gd⟩ e w (fun v w'=>v = .slice (some ⟨w.heap.size,0,none⟩) len len/\New w w' (vs.flatMap fun v=>v.cells.toList)):=by
 refine c_U fun a ha=>?_
 subst hpa;obtain ⟨i,hi,hz,rfl,rfl⟩:=info_parts hE.info;have hvs:=ha.evs hv;have hlen:vs.length=parts.length:=by rw [← hvs];simp
 have hm:((((parts.zipIdx 0).map fun p=>(p.2,p.1)).toArray).map fun (i,x)=>(i,a.eval x)).toList=(vs.zipIdx 0).map fun p=>(p.2,p.1):=by
  rw [← hvs,List.zipIdx_map]
  simp [List.map_map,Function.comp_def]
 have hf:Instr.fill (fun k=>some (k * i.size,i.size)) ((Array.range<|len * i.size).map (zz.cells[· % zz.cells.size]!)) ((((parts.zipIdx 0).map fun p=>(p.2,p.1)).toArray).map fun (i,x)=>(i,a.eval x)).toList=some (vs.flatMap fun v=>v.cells.toList).toArray:=by
  rw [hm]
  exact Great.fill_whole hE.pos vs _ hsz (by simp [hlen,hl])
 have hr:=run_buildSlice (P:=P) w T E len _ _ i zz hE.sl hi hz (by omega) (by have:=hE.pos;intro h;rcases Nat.mul_eq_zero.1 h with h | h <;> omega) hf;refine ⟨_,w.alloc<|.cells (vs.flatMap fun v=>v.cells.toList).toArray E,?_,rfl,?_⟩
 ·simp only [execOp,Sem.run_bind,hr,Result.andThen_ok];rfl
 ·simpa using New.alloc w (vs.flatMap fun v=>v.cells.toList).toArray E
theorem n_Z {T E n bytes:Nat}{zz:Value}(hE:El P T E n bytes zz) :
  Ef P N ⟨dst,.buildSlice T 0 #[],ty,pos,aft,gd⟩ e w (fun v w'=>v = .slice (some ⟨w.heap.size,0,none⟩) 0 0/\New w w' []):=by
 refine c_U fun a ha=>?_
 obtain ⟨i,hi,hz,rfl,rfl⟩:=info_parts hE.info;refine ⟨.slice (some ⟨w.heap.size,0,none⟩) 0 0,w.alloc<|.cells #[] E,?_,rfl,by simpa using New.alloc w #[] E⟩
 simp [execOp,Instr.buildSlice,run_underlying hE.sl,sizeOf,typeInfo,hi,newRow,Instr.fill,Array.range_zero']
theorem l_s {T E n bytes:Nat}{zz:Value}{l c:Int}(hE:El P T E n bytes zz)(hl:ev e x=some (vI l))(hc:ev e y=some (vI c))(H:0<=l)(hlc:l<=c)(hb:(bytes:Int) * c<=281474976710656)(G:c<=9223372036854775807) :
  Ef P N ⟨dst,.makeSlice T x y,ty,pos,aft,gd⟩ e w (fun v w'=>v = .slice (some ⟨w.heap.size,0,none⟩) l.toNat c.toNat/\New w w' (madeCells zz.cells<|c.toNat * n).toList):=by
 refine c_U fun a ha=>?_
 obtain ⟨i,hi,hz,rfl,rfl⟩:=info_parts hE.info;have hr:=run_make (P:=P) w T E i zz hE.sl hi hz .i64 .i64 l c H hlc hb G;exact ⟨_,_,by simp only [execOp,ha.ev hl,ha.ev hc,Sem.run_bind,hr,Result.andThen_ok];rfl,rfl,New.alloc _ _ _⟩
theorem l_t {α:Type}[Dat α]{T E bytes:Nat}{zz:Value}(hE:El P T E (sz α) bytes zz){S:List Nat}{sv:Value}{l:List α}(hx:ev e x=some sv)(ho:a_ w S sv l)(hN:S.Nodup)
  {p:Addr} {m c':Nat} {news:List Value} {xs:List α} {Ts:List (List Nat)} (hy:ev e y=some (.slice (some p) m c')) (hm:m=xs.length) (hp:news ≠ []->p.spot=none) (hl:news.length=xs.length * sz α) (hn:L_ w p.block p.off news)
  (hTl:Ts.length=xs.length) (hxs:∀(i:Nat)(x:α)(Ti:List Nat),xs[i]? = some x->Ts[i]? = some Ti->own w Ti (a_m (sz α) i news) x)
  (hD:∀k∈List.flatten Ts,k∉S) (hTN:(List.flatten Ts).Nodup) (hlen:l.length+xs.length<=LEN) (hby:(l.length+xs.length) * bytes<=140737488355328) :
  Ef P N ⟨dst,.call { callee:=.builtin .append,args:=#[x,y],argTypes:=#[T,T] },ty,pos,aft,gd⟩ e w (fun v w'=>∃S',a_ w' S' v (l++xs)/\S'.Nodup/\Chg (· ∈ S) w w'/\(∀k∈S',k∈S∨k∈List.flatten Ts∨k=w.heap.size)):=by
 refine c_U fun a ha=>?_
 subst hm;obtain ⟨v',w',S',hr,h1,h2,h3,h4⟩:=p_0 (P:=P) hE w ty ho hN (c':=c') hp hl hn hTl hxs hD hTN hlen hby;exact ⟨v',w',by simp [execOp,resolve,invoke,builtin,ha.ev hx,ha.ev hy,hr],S',h1,h2,h3,h4⟩
end
end Go.Vw
namespace Go.Vw
open Go.RowKit Dat
def e_j:Nat->List Value->Env
 | _,[]=>[]
 | k,v::l=>(k,v)::e_j (k+1) l
theorem l_I:∀(l:List Value)(k t:Nat)(v:Value),x_ (e_j k l) t=some v->k<=t/\l[t - k]? = some v
 | [],k,t,v,h=>by simp [e_j,x_] at h
 | u::l,k,t,v,h=>by
  simp only [e_j,x_] at h
  by_cases hk:k=t
  ·subst hk;have hb:Nat.beq k k=true:=by simp
   rw [hb] at h
   simp only [cond_true,Option.some.injEq] at h
   subst h
   simp
  ·have hb:Nat.beq k t=false:=by rw [← Bool.not_eq_true,Nat.beq_eq];exact hk
   rw [hb] at h
   simp only [cond_false] at h
   obtain ⟨h1,h2⟩:=l_I l (k+1) t v h;refine ⟨by omega,?_⟩;have:t - k=(t - (k+1))+1:=by omega
   rw [this,List.getElem?_cons_succ]
   exact h2
def c_B (P:Program)(fn:Func)(R:Value->World->Prop)(a:Act)(w:World):Prop :=
 a.defers=[]/\∃v,(results fn a.tmps).run P w = .ok v w/\R v w
def QR (P:Program)(fn:Func)(R:Value->World->Prop):Exit->Act->World->Prop
 | .ret,a,w=>c_B P fn R a w
 | _,_,_=>False
theorem o_K {P:Program}{f:FuncId}{fn:Func}{c:Code}{N:Nat}{args:List Value}{w:World}{R:Value->World->Prop}(hf:P.funcs[f]? = some fn)(hb:fn.body=some c)(hN:fn.ntmps=N)
  (hle:args.length<=N) (h:WC P N c (c_B P fn R) (QR P fn R) (e_j 0 args) w):l_ P f args w R:=by
 refine ⟨calls_of_wp hf hb<|Code.wp_mono (fun ex a w q=>?_)<|h _ ⟨rfl,?_,?_⟩⟩
 ·cases ex with
  | normal=>obtain ⟨h1,v,h2,h3⟩:=q;exact ⟨h1,v,h2,v,rfl,h3⟩
  | ret=>obtain ⟨h1,v,h2,h3⟩:=q;exact ⟨h1,v,h2,v,rfl,h3⟩
  | _=>exact (show False from q).elim
 ·simp [hN];omega
 ·intro t v ht;obtain ⟨_,h2⟩:=l_I args 0 t v ht;have hlt:=(List.getElem?_eq_some_iff.1 h2).1
  simp only [Nat.sub_zero] at h2 hlt
  rw [Array.getElem?_append_left (by simpa using hlt)]
  simpa using h2
def resA (tmps:Array Value):ResultVar->Sem Value
 | .tmp t=>pure<|tmps.getD t undef
 | .cell a t=>do loadVar t<|← asAddr (tmps.getD a undef)
theorem i_o (fn:Func)(tmps:Array Value):results fn tmps=(do
 let vs ← fn.results.mapM (resA tmps)
 pure (if h:vs.size=1 then vs[0] else .tuple vs)):=rfl
def d_o (P:Program)(e:Env)(w:World):ResultVar->Value->Prop
 | .tmp t,v=>x_ e t=some v
 | .cell a T,v=>∃p,x_ e a=some (.pointer<|some p)/\(loadVar T p).run P w = .ok v w
section
variable {P:Program}{N:Nat}{e:Env}{w:World}{fn:Func}{R:Value->World->Prop}
theorem d_o.run {r:ResultVar}{v:Value}{a:Act}(ha:Sat N e a)(h:d_o P e w r v):(resA a.tmps r).run P w = .ok v w:=by
 cases r with
 | tmp t=>simp [resA,Array.getD_eq_getD_getElem?,ha.at_ t v h]
 | cell b T =>
  obtain ⟨p,hp,hl⟩:=h
  simp [resA,Array.getD_eq_getD_getElem?,ha.at_ b _ hp,asAddr,hl]
theorem u_ {a T g n:Nat}{cs:List Value}(hT:∀w,(isAgg T).run P w = .ok true w)(hs:∀w,(sizeOf T).run P w = .ok n w)(hp:x_ e a=some (.pointer<|some ⟨g,0,none⟩))(hB:Blk w g cs)(hl:cs.length=n):d_o P e w (.cell a T) (.agg cs.toArray):=by
 refine ⟨_,hp,?_⟩
 have hc:∀j v,cs[j]? = some v->w.cell? ((⟨g,0,none⟩:Addr).add j)=some v:=fun j v hv=>by
  rw [Addr.add_lit,Nat.zero_add,hB.cell];exact hv
 have hr:=run_loadCells_list (P:=P) (w:=w) ⟨g,0,none⟩ cs hc;subst hl
 simp [loadVar,hT,hs,hr]
theorem ret0 (hr:fn.results = #[])(hR:R (.tuple #[]) w):∀a,Sat N e a->c_B P fn R a w:=fun a ha =>
 ⟨ha.defers,_,by rw [i_o,hr];simp,hR⟩
theorem f_ {G:ResultVar}{v1:Value}(hr:fn.results = #[G])(h1:d_o P e w G v1)(hR:R v1 w):∀a,Sat N e a->c_B P fn R a w:=fun a ha =>
 ⟨ha.defers,v1,by rw [i_o,hr];simp [h1.run ha],hR⟩
theorem F_ {G H:ResultVar}{v1 v2:Value}(hr:fn.results = #[G,H])(h1:d_o P e w G v1)(h2:d_o P e w H v2)(hR:R (.tuple #[v1,v2]) w):∀a,Sat N e a->c_B P fn R a w:=fun a ha =>
 ⟨ha.defers,_,by rw [i_o,hr];simp [h1.run ha,h2.run ha],hR⟩
theorem B_ {G H I:ResultVar}{v1 v2 v3:Value}(hr:fn.results = #[G,H,I])(h1:d_o P e w G v1)(h2:d_o P e w H v2)(h3:d_o P e w I v3)(hR:R (.tuple #[v1,v2,v3]) w):∀a,Sat N e a->c_B P fn R a w:=fun a ha =>
 ⟨ha.defers,_,by rw [i_o,hr];simp [h1.run ha,h2.run ha,h3.run ha],hR⟩
theorem i_p {c:Code}{K:Act->World->Prop}{Q:Exit->Act->World->Prop}{a:Act}(h:WC P N c K Q e w)(ha:Sat N e a):c.wp P (Exit.then K Q) a w:=h a ha
end
inductive Out (σ ρ:Type) where
 | next (s:σ)
 | brk (s:σ)
 | ret (r:ρ)
def z_ {σ ρ:Type}(body:Nat->σ->Option (Out σ ρ)):Nat->Nat->σ->Option (Sum σ ρ)
 | 0,_,s=>some<|.inl s
 | n+1,k,s=>match body k s with
  | none=>none
  | some (.next s')=>z_ body n (k+1) s'
  | some (.brk s')=>some<|.inl s'
  | some (.ret r)=>some<|.inr r
def U_ {σ ρ:Type}(step:σ->Option (Out σ ρ)):Nat->σ->Option (Sum σ ρ)
 | 0,_=>none
 | n+1,s=>match step s with
  | none=>none
  | some (.next s')=>U_ step n s'
  | some (.brk s')=>some<|.inl s'
  | some (.ret r)=>some<|.inr r
def QL {σ ρ:Type}(b:Nat)(D:σ->Act->World->Prop)(Qr:ρ->Exit->Act->World->Prop)(res:Sum σ ρ):Exit->Act->World->Prop:=fun ex a w =>
 (ex = .exit b/\∃s,res = .inl s/\D s a w)∨∃r,res = .inr r/\Qr r ex a w
def QO {σ ρ:Type}(b:Nat)(D:σ->Act->World->Prop)(Qr:ρ->Exit->Act->World->Prop)(o:Out σ ρ):Exit->Act->World->Prop:=fun ex a w =>
 (ex = .exit b/\∃s,o = .brk s/\D s a w)∨∃r,o = .ret r/\Qr r ex a w
def noK:Act->World->Prop:=fun _ _=>False
section
variable {P:Program}
theorem o_L {σ ρ:Type}{body:Nat->σ->Option (Out σ ρ)}{c:Code}{b n:Nat}{res:Sum σ ρ}(I:Nat->σ->Act->World->Prop)(D:σ->Act->World->Prop)(Qr:ρ->Exit->Act->World->Prop)
  (hround:∀k s a w o,k<n->I k s a w->body k s=some o->c.wp P (Exit.then (fun a' w'=>∃s',o = .next s'/\I (k+1) s' a' w')<|QO b D Qr o) a w)
  (hlast:∀s a w,I n s a w->c.wp P (Exit.then noK<|fun ex a' w'=>ex = .exit b/\D s a' w') a w)
  {s:σ} {a:Act} {w:World} (hm:z_ body n 0 s=some res) (G:I 0 s a w):(Code.loop c).wp P (Exit.then noK<|QL b D Qr res) a w:=by
 refine wp_loop_ghost (fun m a w=>∃k s,k+m=n/\z_ body m k s=some res/\I k s a w) n ⟨0,s,by omega,hm,G⟩ ?_
 clear hm G
 rintro m a w ⟨k,s,hk,hm,hI⟩
 cases m with
 | zero =>
  obtain rfl:k=n:=by omega
  obtain rfl:Sum.inl s=res:=Option.some.inj hm;refine Code.wp_mono (fun ex a' w' q=>?_)<|hlast s a w hI
  cases ex with
  | normal=>exact (show False from q).elim
  | _=>exact .inl ⟨q.1,s,rfl,q.2⟩
 | succ m =>
  simp only [z_] at hm
  split at hm
  ·cases hm
  ·rename_i s' hb
   refine Code.wp_mono (fun ex a' w' q=>?_)<|hround k s a w _ (by omega) hI hb
   cases ex <;> simp only [Exit.then,QO] at q ⊢ <;> first
    | (obtain ⟨s'',he,hI'⟩:=q;cases he;exact ⟨m,Nat.lt_succ_self _,k+1,s',by omega,hm,hI'⟩)
    | (rcases q with ⟨_,_,he,_⟩ | ⟨_,he,_⟩ <;> cases he)
  ·rename_i s' hb
   simp only [Option.some.injEq] at hm
   subst hm;refine Code.wp_mono (fun ex a' w' q=>?_)<|hround k s a w _ (by omega) hI hb
   cases ex <;> simp only [Exit.then,QO] at q ⊢ <;> first
    | (obtain ⟨_,he,_⟩:=q;cases he)
    | (rcases q with ⟨hx,_,he,hd⟩ | ⟨_,he,_⟩ <;> cases he;exact .inl ⟨hx,_,rfl,hd⟩)
  ·rename_i r hb
   simp only [Option.some.injEq] at hm
   subst hm;refine Code.wp_mono (fun ex a' w' q=>?_)<|hround k s a w _ (by omega) hI hb
   cases ex <;> simp only [Exit.then,QO] at q ⊢ <;> first
    | (obtain ⟨_,he,_⟩:=q;cases he)
    | (rcases q with ⟨_,_,he,_⟩ | ⟨_,he,hq⟩ <;> cases he;exact .inr ⟨_,rfl,hq⟩)
theorem o_M {σ ρ:Type}{step:σ->Option (Out σ ρ)}{c:Code}{b n:Nat}{res:Sum σ ρ}(I:σ->Act->World->Prop)(D:σ->Act->World->Prop)(Qr:ρ->Exit->Act->World->Prop)
  (hround:∀s a w o,I s a w->step s=some o->c.wp P (Exit.then (fun a' w'=>∃s',o = .next s'/\I s' a' w')<|QO b D Qr o) a w)
  {s:σ} {a:Act} {w:World} (hm:U_ step n s=some res) (G:I s a w):(Code.loop c).wp P (Exit.then noK<|QL b D Qr res) a w:=by
 refine wp_loop_ghost (fun m a w=>∃s,U_ step m s=some res/\I s a w) n ⟨s,hm,G⟩ ?_
 clear hm G
 rintro m a w ⟨s,hm,hI⟩
 cases m with
 | zero=>cases hm
 | succ m =>
  simp only [U_] at hm
  split at hm
  ·cases hm
  ·rename_i s' hb
   refine Code.wp_mono (fun ex a' w' q=>?_)<|hround s a w _ hI hb
   cases ex <;> simp only [Exit.then,QO] at q ⊢ <;> first
    | (obtain ⟨s'',he,hI'⟩:=q;cases he;exact ⟨m,Nat.lt_succ_self _,s',hm,hI'⟩)
    | (rcases q with ⟨_,_,he,_⟩ | ⟨_,he,_⟩ <;> cases he)
  ·rename_i s' hb
   simp only [Option.some.injEq] at hm
   subst hm;refine Code.wp_mono (fun ex a' w' q=>?_)<|hround s a w _ hI hb
   cases ex <;> simp only [Exit.then,QO] at q ⊢ <;> first
    | (obtain ⟨_,he,_⟩:=q;cases he)
    | (rcases q with ⟨hx,_,he,hd⟩ | ⟨_,he,_⟩ <;> cases he;exact .inl ⟨hx,_,rfl,hd⟩)
  ·rename_i r hb
   simp only [Option.some.injEq] at hm
   subst hm;refine Code.wp_mono (fun ex a' w' q=>?_)<|hround s a w _ hI hb
   cases ex <;> simp only [Exit.then,QO] at q ⊢ <;> first
    | (obtain ⟨_,he,_⟩:=q;cases he)
    | (rcases q with ⟨_,_,he,_⟩ | ⟨_,he,hq⟩ <;> cases he;exact .inr ⟨_,rfl,hq⟩)
theorem i_q {σ ρ:Type}{N:Nat}{e:Env}{w:World}{K:Act->World->Prop}{Q:Exit->Act->World->Prop}{body:Nat->σ->Option (Out σ ρ)}{c:Code}{b n:Nat}{res:Sum σ ρ}(I:Nat->σ->Act->World->Prop)(D:σ->Act->World->Prop)(Qr:ρ->Exit->Act->World->Prop)
  {s:σ} (hm:z_ body n 0 s=some res) (G:AtK N (fun a w=>I 0 s a w) e w)
  (hround:∀k s a w o,k<n->I k s a w->body k s=some o->c.wp P (Exit.then (fun a' w'=>∃s',o = .next s'/\I (k+1) s' a' w')<|QO b D Qr o) a w)
  (hlast:∀s a w,I n s a w->c.wp P (Exit.then noK<|fun ex a' w'=>ex = .exit b/\D s a' w') a w)
  (hD:∀s a w,res = .inl s->D s a w->K a w) (hR:∀r ex a w,res = .inr r->Qr r ex a w->Q ex a w/\ex = .ret):WC P N (.block b<|.loop c) K Q e w :=
 e_Q fun a ha=>Code.wp_mono (fun ex a' w' q=>by
  cases ex with
  | normal=>exact (show False from q).elim
  | _ =>
   rcases q with ⟨hx,s',he,hd⟩ | ⟨r,he,hq⟩
   ·first
     | (cases hx;simp only [Exit.then,inB,if_true];exact hD s' a' w' he hd)
     | cases hx
   ·obtain ⟨h1,h2⟩:=hR r _ a' w' he hq
    first
     | (cases h2;exact h1)
     | cases h2) (o_L I D Qr hround hlast hm (G a ha))
theorem b_S {σ ρ:Type}{N:Nat}{e:Env}{w:World}{K:Act->World->Prop}{Q:Exit->Act->World->Prop}{step:σ->Option (Out σ ρ)}{c:Code}{b n:Nat}{res:Sum σ ρ}(I:σ->Act->World->Prop)(D:σ->Act->World->Prop)(Qr:ρ->Exit->Act->World->Prop)
  {s:σ} (hm:U_ step n s=some res) (G:AtK N (fun a w=>I s a w) e w)
  (hround:∀s a w o,I s a w->step s=some o->c.wp P (Exit.then (fun a' w'=>∃s',o = .next s'/\I s' a' w')<|QO b D Qr o) a w)
  (hD:∀s a w,res = .inl s->D s a w->K a w) (hR:∀r ex a w,res = .inr r->Qr r ex a w->Q ex a w/\ex = .ret):WC P N (.block b<|.loop c) K Q e w :=
 e_Q fun a ha=>Code.wp_mono (fun ex a' w' q=>by
  cases ex with
  | normal=>exact (show False from q).elim
  | _ =>
   rcases q with ⟨hx,s',he,hd⟩ | ⟨r,he,hq⟩
   ·first
     | (cases hx;simp only [Exit.then,inB,if_true];exact hD s' a' w' he hd)
     | cases hx
   ·obtain ⟨h1,h2⟩:=hR r _ a' w' he hq
    first
     | (cases h2;exact h1)
     | cases h2) (o_M I D Qr hround hm (G a ha))
end
end Go.Vw
namespace Go.Vw
open Go.RowKit Dat
def bd {α β:Type}(o:Option α)(f:α->Option β):Option β:=match o with
 | none=>none
 | some a=>f a
def bd2 {α β γ:Type}(o:Option (α×β))(f:α->β->Option γ):Option γ:=match o with
 | none=>none
 | some (a,b)=>f a b
def bd3 {α β γ δ:Type}(o:Option (α×β×γ))(f:α->β->γ->Option δ):Option δ:=match o with
 | none=>none
 | some (a,b,c)=>f a b c
def bd4 {α β γ δ ε:Type}(o:Option (α×β×γ×δ))(f:α->β->γ->δ->Option ε):Option ε:=match o with
 | none=>none
 | some (a,b,c,d)=>f a b c d
def bd5 {α β γ δ ε ζ:Type}(o:Option (α×β×γ×δ×ε))(f:α->β->γ->δ->ε->Option ζ):Option ζ:=match o with
 | none=>none
 | some (a,b,c,d,e)=>f a b c d e
def bd6 {α β γ δ ε ζ η:Type}(o:Option (α×β×γ×δ×ε×ζ))(f:α->β->γ->δ->ε->ζ->Option η):Option η:=match o with
 | none=>none
 | some (a,b,c,d,e,g)=>f a b c d e g
def el {σ ρ β:Type}(f:σ->Option β)(g:ρ->Option β):Sum σ ρ->Option β
 | .inl s=>f s
 | .inr r=>g r
@[reducible] def un2 {α β δ:Type} (f:α->β->δ):α×β->δ | (a,b)=>f a b
@[reducible] def un3 {α β γ δ:Type} (f:α->β->γ->δ):α×β×γ->δ | (a,b,c)=>f a b c
@[reducible] def un4 {α β γ ε δ:Type} (f:α->β->γ->ε->δ):α×β×γ×ε->δ | (a,b,c,d)=>f a b c d
@[reducible] def un5 {α β γ ε ζ δ:Type} (f:α->β->γ->ε->ζ->δ):α×β×γ×ε×ζ->δ | (a,b,c,d,e)=>f a b c d e
@[reducible] def un6 {α β γ ε ζ η δ:Type} (f:α->β->γ->ε->ζ->η->δ):α×β×γ×ε×ζ×η->δ | (a,b,c,d,e,g)=>f a b c d e g
def idx {α:Type}(l:List α)(i:Int):Option α:=if 0<=i then l[i.toNat]? else none
def slc {α:Type}(l:List α)(a b:Int):Option (List α):=if 0<=a/\a<=b/\b<=l.length then some ((l.take b.toNat).drop a.toNat) else none
def b_O (s:Str)(a b:Int):Option Str:=(slc s.b a b).map Str.mk
def psh {α:Type}(l:List α)(x:α):Option (List α):=if l.length<LIM then some (l++[x]) else none
def app {α:Type}(l m:List α):Option (List α):=if l.length+m.length<=LIM then some (l++m) else none
def cat (s t:Str):Option Str:=if s.b.length+t.b.length<=LIM then some ⟨s.b++t.b⟩ else none
def upd {α:Type}(l:List α)(i:Int)(x:α):Option (List α):=if 0<=i/\i<l.length then some (l.set i.toNat x) else none
def mk0 {α:Type}(z:α)(n:Int):Option (List α):=if 0<=n/\n<=LIM then some (List.replicate n.toNat z) else none
def nz (y:Int):Option Unit:=if y=0 then none else some ()
def nn (y:Int):Option Unit:=if 0<=y then some () else none
section
variable {α β γ δ ε:Type}
theorem bdS {o:Option α}{f:α->Option β}{r:β}(h:bd o f=some r):∃a,o=some a/\f a=some r:=by
 cases o with
 | none=>cases h
 | some a=>exact ⟨a,rfl,h⟩
theorem V_ {o:Option (α×β)}{f:α->β->Option γ}{r:γ}(h:bd2 o f=some r):∃a b,o=some (a,b)/\f a b=some r:=by
 cases o with
 | none=>cases h
 | some x=>exact ⟨x.1,x.2,rfl,h⟩
theorem O_ {o:Option (α×β×γ)}{f:α->β->γ->Option δ}{r:δ}(h:bd3 o f=some r):∃a b c,o=some (a,b,c)/\f a b c=some r:=by
 cases o with
 | none=>cases h
 | some x=>exact ⟨x.1,x.2.1,x.2.2,rfl,h⟩
theorem ifT {c:Bool}{x y z:α}(h:(if c=true then x else y)=z)(hc:c=true):x=z:=by rw [if_pos hc] at h;exact h
theorem ifF {c:Bool}{x y z:α}(h:(if c=true then x else y)=z)(hc:c=false):y=z:=by rw [if_neg (by rw [hc];simp)] at h;exact h
theorem elL {σ ρ β:Type}{f:σ->Option β}{g:ρ->Option β}{s:σ}{r:β}(h:el f g (.inl s)=some r):f s=some r:=h
theorem elR {σ ρ β:Type}{f:σ->Option β}{g:ρ->Option β}{s:ρ}{r:β}(h:el f g (.inr s)=some r):g s=some r:=h
theorem som {a b:α}(h:some a=some b):a=b:=Option.some.inj h
@[simp] theorem bd_some (a:α) (f:α->Option β):bd (some a) f=f a:=rfl
@[simp] theorem bd_none (f:α->Option β):bd none f=none:=rfl
@[simp] theorem bd2_some (a:α) (b:β) (f:α->β->Option γ):bd2 (some (a,b)) f=f a b:=rfl
@[simp] theorem bd2_none (f:α->β->Option γ):bd2 none f=none:=rfl
@[simp] theorem bd3_some (a:α) (b:β) (c:γ) (f:α->β->γ->Option δ):bd3 (some (a,b,c)) f=f a b c:=rfl
@[simp] theorem bd3_none (f:α->β->γ->Option δ):bd3 none f=none:=rfl
@[simp] theorem bd4_some (a:α) (b:β) (c:γ) (d:δ) (f:α->β->γ->δ->Option ε):bd4 (some (a,b,c,d)) f=f a b c d:=rfl
@[simp] theorem bd5_some {ζ:Type} (a:α) (b:β) (c:γ) (d:δ) (e:ε) (f:α->β->γ->δ->ε->Option ζ):bd5 (some (a,b,c,d,e)) f=f a b c d e:=rfl
@[simp] theorem bd6_some {ζ η:Type} (a:α) (b:β) (c:γ) (d:δ) (e:ε) (g:ζ) (f:α->β->γ->δ->ε->ζ->Option η):bd6 (some (a,b,c,d,e,g)) f=f a b c d e g:=rfl
@[simp] theorem bd4_none (f:α->β->γ->δ->Option ε):bd4 none f=none:=rfl
@[simp] theorem el_inl {σ ρ β:Type} (f:σ->Option β) (g:ρ->Option β) (s:σ):el f g (.inl s)=f s:=rfl
@[simp] theorem el_inr {σ ρ β:Type} (f:σ->Option β) (g:ρ->Option β) (r:ρ):el f g (.inr r)=g r:=rfl
@[simp] theorem un2_mk {α β δ:Type} (f:α->β->δ) (a:α) (b:β):un2 f (a,b)=f a b:=rfl
@[simp] theorem un3_mk {α β γ δ:Type} (f:α->β->γ->δ) (a:α) (b:β) (c:γ):un3 f (a,b,c)=f a b c:=rfl
@[simp] theorem un4_mk {α β γ ε δ:Type} (f:α->β->γ->ε->δ) (a:α) (b:β) (c:γ) (d:ε):un4 f (a,b,c,d)=f a b c d:=rfl
@[simp] theorem un5_mk {α β γ ε ζ δ:Type} (f:α->β->γ->ε->ζ->δ) (a:α) (b:β) (c:γ) (d:ε) (e:ζ):un5 f (a,b,c,d,e)=f a b c d e:=rfl
@[simp] theorem un6_mk {α β γ ε ζ η δ:Type} (f:α->β->γ->ε->ζ->η->δ) (a:α) (b:β) (c:γ) (d:ε) (e:ζ) (g:η):un6 f (a,b,c,d,e,g)=f a b c d e g:=rfl
end
theorem a_4 {α:Type}{l:List α}{i:Int}{x:α}(h:idx l i=some x):0<=i/\l[i.toNat]? = some x/\i<l.length:=by
 unfold idx at h
 split at h
 ·rename_i G
  refine ⟨G,h,?_⟩;have:=(List.getElem?_eq_some_iff.1 h).1
  omega
 ·cases h
theorem o_2 {α:Type}(l:List α)(k:Nat):idx l (k:Int)=l[k]? := by unfold idx;rw [if_pos (by omega)];rfl
theorem e_T (x:Int):inI (IntKind.i64.wrap x):=by rw [IntKind.wrap_i64];unfold inI;omega
theorem h_Q (x y:Int):inI (m_ x y):=e_T _
theorem h_R (x y:Int):inI (r_ x y):=e_T _
theorem o_3 (x y:Int):inI (c_C x y):=e_T _
theorem o_4 (x:Int):inI (f_0 x):=e_T _
theorem b_h {n:Nat}(h:n<=LEN):inI (n:Int):=by unfold inI;have:=G_;omega
theorem j_A {x y:Int}(h:inI x):inI (b_2 x y):=by
 unfold b_2 inI at *
 have h3:=Int.natAbs_tmod x y;have h4:(x.tmod y).natAbs<=x.natAbs:=by rw [h3];exact Nat.mod_le _ _
 rcases Int.le_total 0 x with G | G
 ·have h1:=Int.tmod_nonneg y G
  omega
 ·have h1:=Int.tmod_nonneg y (show 0 <= -x by omega)
  rw [Int.neg_tmod] at h1
  omega
theorem e_b:LIM<=LEN:=by decide
theorem o_5 (c:UInt8):IntKind.i64.wrap (byteI c)=byteI c:=by
 rw [IntKind.wrap_i64];have:=c.toNat_lt;unfold byteI;omega
theorem iinc {k n:Nat}(h:k<n)(hn:n<=9223372036854775807):m_ (k:Int) 1=((k+1:Nat):Int):=by
 unfold m_;rw [IntKind.wrap_i64];have:=G_;omega
theorem a_0 {k n:Nat}(hk:k<n)(hc:decide ((k:Int)<(n:Int))=false):False:=by
 simp at hc;omega
theorem a_1 {n:Nat}(hc:decide ((n:Int)<(n:Int))=true):False:=by
 simp at hc
section
variable {P:Program}{N:Nat}{ops:Array Oper}{K:Act->World->Prop}{Q:Exit->Act->World->Prop}{e:Env}{w:World}{rest:List Oper}{T:Nat}{p:a_r}{X:Nat->Prop}
variable {d:Nat}{op:Op}{ty:TypeId}{pos:String}{aft:Array Edge}
theorem R {v:Value}(hf:Nat.blt d N=true)(h:Rd noX P N ⟨some d,op,ty,pos,aft,none⟩ e w v)(k:WL P N ops K Q rest ((d,v)::e) w):WL P N ops K Q (⟨some d,op,ty,pos,aft,none⟩::rest) e w:=WL_rd rfl hf h k
theorem E {S:Value->World->Prop}(hf:Nat.blt d N=true)(h:Ef P N ⟨some d,op,ty,pos,aft,none⟩ e w S)(k:∀v w',S v w'->WL P N ops K Q rest ((d,v)::e) w'):WL P N ops K Q (⟨some d,op,ty,pos,aft,none⟩::rest) e w:=WL_ef rfl hf h k
theorem E0 {S:Value->World->Prop}(h:Ef P N ⟨none,op,ty,pos,aft,none⟩ e w S)(k:∀v w',S v w'->WL P N ops K Q rest e w'):WL P N ops K Q (⟨none,op,ty,pos,aft,none⟩::rest) e w:=WL_ef rfl rfl h k
section guards
variable {j gd:Nat}{want b:Bool}
theorem Rg {v:Value}(hj:(ops[j]?).bind (·.dst)=some gd)(hb:x_ e gd=some (.bool b))(hw:b=want)(hf:Nat.blt d N=true)(h:Rd noX P N ⟨some d,op,ty,pos,aft,some (j,want)⟩ e w v)(k:WL P N ops K Q rest ((d,v)::e) w):WL P N ops K Q (⟨some d,op,ty,pos,aft,some (j,want)⟩::rest) e w :=
 n_y rfl hj (hw ▸ hb) hf h k
theorem Eg {S:Value->World->Prop}(hj:(ops[j]?).bind (·.dst)=some gd)(hb:x_ e gd=some (.bool b))(hw:b=want)(hf:Nat.blt d N=true)(h:Ef P N ⟨some d,op,ty,pos,aft,some (j,want)⟩ e w S)(k:∀v w',S v w'->WL P N ops K Q rest ((d,v)::e) w'):WL P N ops K Q (⟨some d,op,ty,pos,aft,some (j,want)⟩::rest) e w :=
 n_z rfl hj (hw ▸ hb) hf h k
theorem Ng (hj:(ops[j]?).bind (·.dst)=some gd)(hb:x_ e gd=some (.bool b))(hw:b = !want)(hf:Nat.blt d N=true)(k:WL P N ops K Q rest ((d,undef)::e) w):WL P N ops K Q (⟨some d,op,ty,pos,aft,some (j,want)⟩::rest) e w :=
 n_A rfl hj (hw ▸ hb) hf k
theorem Nu (hj:(ops[j]?).bind (·.dst)=some gd)(hb:x_ e gd=some undef)(hf:Nat.blt d N=true)(k:WL P N ops K Q rest ((d,undef)::e) w):WL P N ops K Q (⟨some d,op,ty,pos,aft,some (j,want)⟩::rest) e w :=
 n_B rfl hj hb hf k
end guards
theorem dR {i:Nat}{v:Value}(ho:ops[i]? = some ⟨some d,op,ty,pos,aft,none⟩)(hf:Nat.blt d N=true)(h:Rd X P N ⟨some d,op,ty,pos,aft,none⟩ e w v)(k:PR X P N ops T K p ((d,v)::e) w):PR X P N ops T K (.rd i p) e w:=PR_rd ho rfl hf h k
theorem dE {i:Nat}{S:Value->World->Prop}(ho:ops[i]? = some ⟨some d,op,ty,pos,aft,none⟩)(hf:Nat.blt d N=true)(h:Ef P N ⟨some d,op,ty,pos,aft,none⟩ e w S)(hT:T.testBit i=true∨∀v w',S v w'->Chg X w w')(k:∀v w',S v w'->PR X P N ops T K p ((d,v)::e) w'):PR X P N ops T K (.ef i p) e w:=j_w ho rfl hf h hT k
theorem dE0 {i:Nat}{S:Value->World->Prop}(ho:ops[i]? = some ⟨none,op,ty,pos,aft,none⟩)(h:Ef P N ⟨none,op,ty,pos,aft,none⟩ e w S)(hT:T.testBit i=true∨∀v w',S v w'->Chg X w w')(k:∀v w',S v w'->PR X P N ops T K p e w'):PR X P N ops T K (.ef i p) e w:=j_w ho rfl rfl h hT k
section guards
variable {i j gd:Nat}{want b:Bool}
theorem dRg {v:Value}(ho:ops[i]? = some ⟨some d,op,ty,pos,aft,some (j,want)⟩)(hj:(ops[j]?).bind (·.dst)=some gd)(hb:x_ e gd=some (.bool b))(hw:b=want)(hf:Nat.blt d N=true)(h:Rd X P N ⟨some d,op,ty,pos,aft,some (j,want)⟩ e w v)(k:PR X P N ops T K p ((d,v)::e) w):PR X P N ops T K (.rd i p) e w :=
 n_I ho rfl hj (hw ▸ hb) hf h k
theorem dRn (ho:ops[i]? = some ⟨some d,op,ty,pos,aft,some (j,want)⟩)(hj:(ops[j]?).bind (·.dst)=some gd)(hb:x_ e gd=some (.bool b))(hw:b = !want)(hf:Nat.blt d N=true)(k:PR X P N ops T K p ((d,undef)::e) w):PR X P N ops T K (.rd i p) e w :=
 n_J ho rfl hj (hw ▸ hb) hf k
theorem dRu (ho:ops[i]? = some ⟨some d,op,ty,pos,aft,some (j,want)⟩)(hj:(ops[j]?).bind (·.dst)=some gd)(hb:x_ e gd=some undef)(hf:Nat.blt d N=true)(k:PR X P N ops T K p ((d,undef)::e) w):PR X P N ops T K (.rd i p) e w :=
 n_K ho rfl hj hb hf k
theorem dEg {S:Value->World->Prop}(ho:ops[i]? = some ⟨some d,op,ty,pos,aft,some (j,want)⟩)(hj:(ops[j]?).bind (·.dst)=some gd)(hb:x_ e gd=some (.bool b))(hw:b=want)(hf:Nat.blt d N=true)(h:Ef P N ⟨some d,op,ty,pos,aft,some (j,want)⟩ e w S)(hT:T.testBit i=true∨∀v w',S v w'->Chg X w w')(k:∀v w',S v w'->PR X P N ops T K p ((d,v)::e) w'):PR X P N ops T K (.ef i p) e w :=
 n_L ho rfl hj (hw ▸ hb) hf h hT k
theorem dEn (ho:ops[i]? = some ⟨some d,op,ty,pos,aft,some (j,want)⟩)(hj:(ops[j]?).bind (·.dst)=some gd)(hb:x_ e gd=some (.bool b))(hw:b = !want)(hf:Nat.blt d N=true)(k:PR X P N ops T K p ((d,undef)::e) w):PR X P N ops T K (.ef i p) e w :=
 n_N ho rfl hj (hw ▸ hb) hf k
end guards
theorem h_S {c:Code}{K':Act->World->Prop}(J:Act->World->Prop)(h1:WC P N c J Q e w)(h2:∀a w',J a w'->K' a w'):WC P N c K' Q e w:=n_x h2 (fun _ _ _ h=>h) h1
end
section
variable {α:Type}[Dat α]{w w':World}{B:Zone}{v:Value}{l:List α}{S:List Nat}{X:Nat->Prop}
theorem repS.rep (h:repS w B v l):Dat.rep w B [v] l:=⟨v,rfl,h⟩
theorem repS.of (h:Dat.rep w B [v] l):repS w B v l:=by
 obtain ⟨v',he,h⟩:=h;obtain rfl:=(List.cons.inj he).1;exact h
theorem repS.ext (h:repS w B v l)(hb:Below w.heap.size w w'):repS w' B v l:=repS.of<|o_O h.rep hb
theorem repS.chg (h:repS w B v l)(hc:Chg X w w')(hx:∀k,B k->¬X k):repS w' B v l:=repS.of<|o_P h.rep hc hx
theorem a_.own (h:a_ w S v l):Dat.own w S [v] l:=⟨v,rfl,h⟩
theorem a_.of (h:Dat.own w S [v] l):a_ w S v l:=by
 obtain ⟨v',he,h⟩:=h;obtain rfl:=(List.cons.inj he).1;exact h
theorem a_.ext (h:a_ w S v l)(hb:Below w.heap.size w w'):a_ w' S v l:=a_.of<|g_h h.own hb
theorem a_.chg (h:a_ w S v l)(hc:Chg X w w')(hx:∀k∈S,¬X k):a_ w' S v l:=a_.of<|e_Z h.own hc hx
theorem a_.lt (h:a_ w S v l):∀k∈S,k<w.heap.size:=own_lt h.own
theorem a_.rep (h:a_ w S v l):repS w w.heap.size v l:=repS.of<|own_rep' h.own
theorem a_.len (h:a_ w S v l):l.length<=LEN:=by
 rcases h with ⟨_,rfl,_⟩ | ⟨g,c,cur,Ss,_,_,h3,_⟩
 ·exact Nat.zero_le _
 ·exact h3
theorem repS.len (h:repS w B v l):l.length<=LEN:=by obtain ⟨ao,c,_,_,h,_⟩:=h;exact h
theorem a_.shape (h:a_ w S v l):∃ao c,v = .slice ao l.length c:=by
 rcases h with ⟨rfl,rfl,_⟩ | ⟨g,c,cur,Ss,rfl,_⟩
 ·exact ⟨none,0,rfl⟩
 ·exact ⟨_,c,rfl⟩
theorem repS.shape (h:repS w B v l):∃ao c,v = .slice ao l.length c:=by obtain ⟨ao,c,h,_⟩:=h;exact ⟨ao,c,h⟩
theorem repS.at {ao:Option Addr}{c n:Nat}{i:Int}{x:α}(h:repS w B (.slice ao n c) l)(hx:idx l i=some x):∃b o cs,ao=some ⟨b,o,none⟩/\0<=i/\i<(n:Int)/\L_ w b (o+i.toNat * sz α) cs/\Dat.rep w B cs x:=by
 obtain ⟨G,h1,h2⟩:=a_4 hx;obtain ⟨ao',c',he,_,_,hn,hp⟩:=h
 simp only [Value.slice.injEq] at he
 obtain ⟨rfl,rfl,rfl⟩:=he
 cases ao with
 | none=>rw [hn rfl] at h1;simp at h1
 | some p =>
  obtain ⟨H,_,k3⟩:=hp p rfl;have k1:=H (by rintro rfl;simp at h1);obtain ⟨cs,g1,I⟩:=k3 _ _ h1;exact ⟨p.block,p.off,cs,by cases p;simp_all,G,h2,g1,I⟩
end
theorem L_.ext {w w':World}{b o:Nat}{cs:List Value}(h:L_ w b o cs)(hb:Below w.heap.size w w'):L_ w' b o cs:=fun j v hv=>(hb.cell<|World.block_lt_of_cell? w _<|h j v hv).trans (h j v hv)
theorem L_.chg {X:Nat->Prop}{w w':World}{b o:Nat}{cs:List Value}(h:L_ w b o cs)(hc:Chg X w w')(hx:¬X b):L_ w' b o cs:=fun j v hv=>by
 have:=h j v hv
 rw [← this]
 exact World.cell?_of_block (w:=w)<|hc.block b (World.block_lt_of_cell? w _ this) hx
theorem L_.at {w:World}{b o j:Nat}{cs:List Value}{v:Value}(h:L_ w b o cs)(hv:cs[j]? = some v):w.cell? ⟨b,o+j,none⟩=some v:=h j v hv
theorem L_.sub {w:World}{b o j n:Nat}{cs vs:List Value}(h:L_ w b o cs)(hv:(cs.drop j).take n=vs):L_ w b (o+j) vs:=by
 subst hv;intro i v hi
 rw [List.getElem?_take] at hi
 split at hi
 ·rw [List.getElem?_drop] at hi
  have:=h _ _ hi
  rwa [← Nat.add_assoc] at this
 ·cases hi
theorem Blk.at {w:World}{g i:Nat}{l:List Value}{v:Value}(h:Blk w g l)(hv:l[i]? = some v):w.cell? ⟨g,i,none⟩=some v:=by rw [h.cell,hv]
theorem Blk.row {w:World}{g:Nat}{l:List Value}(h:Blk w g l)(o n:Nat){vs:List Value}(hv:(l.drop o).take n=vs):L_ w g o vs:=by subst hv;exact h.cells o n
theorem Blk.all {w:World}{g:Nat}{l:List Value}(h:Blk w g l):L_ w g 0 l:=fun j v hv=>by rw [Nat.zero_add,h.cell];exact hv
theorem Chg.comp {X Y:Nat->Prop}{a b c:World}(h:Chg X a b)(h':Chg Y b c)(hy:∀k,k<a.heap.size->Y k->X k):Chg X a c :=
 ⟨h'.os.trans h.os,h'.tape.trans h.tape,h'.output.trans h.output,Nat.le_trans h.size h'.size,fun k hk hx=>(h'.block k (Nat.lt_of_lt_of_le hk h.size)<|fun y=>hx<|hy k hk y).trans (h.block k hk hx)⟩
theorem Chg.ext {X:Nat->Prop}{a b c:World}(h:Chg X a b)(h':Below b.heap.size b c):Chg X a c:=h.comp (Vw.Below.chg h'<|fun _=>False)<|fun _ _=>False.elim
theorem bup {a b c:World}(h:Below a.heap.size a b)(h':Below b.heap.size b c):Below a.heap.size a c:=h.trans<|h'.mono h.size
theorem bchg {X:Nat->Prop}{a b c:World}(h:Below a.heap.size a b)(h':Chg X b c)(hx:∀k,k<a.heap.size->¬X k):Below a.heap.size a c:=h.trans<|h'.below h.size hx
theorem g_0 (a:World):Below a.heap.size a a:=Below.refl _ _
end Go.Vw
namespace Go.Vw
open Go.RowKit Dat
theorem e_U (c:UInt8):byteI c<256:=by have:=c.toNat_lt;unfold byteI;omega
theorem e_V (c:UInt8):0<=byteI c:=by unfold byteI;omega
def mkB (x:Int):UInt8:=UInt8.ofNat (IntKind.u8.wrap x).toNat
theorem g_1 (x:Int):byteI (mkB x)=IntKind.u8.wrap x:=by
 unfold byteI mkB;have h:0<=IntKind.u8.wrap x/\IntKind.u8.wrap x<256:=by rw [IntKind.wrap_u8];omega
 rw [UInt8.toNat_ofNat']
 omega
theorem j_B (c:UInt8):inI (byteI c):=by unfold inI;have:=e_U c;have:=e_V c;omega
theorem inI_of (x:Int)(h:(decide (-9223372036854775808<=x) && decide (x<=9223372036854775807))=true):inI x:=by
 simp at h;exact h
section
variable {X:Nat->Prop}{P:Program}{N:Nat}{e:Env}{w:World}{dst:Option Tmp}{ty:TypeId}{pos:String}{aft:Array Edge}{gd:Option (Nat×Bool)}{x y z:Operand}{T T':Nat}
theorem d_m {S D:Nat}{k:IntKind}{p:Int}{d:TypeDesc}(hS:P.underlying S=some d)(hD:P.underlying D=some (.int .u8))(h:ev e x=some (.int k p)):Rd X P N ⟨dst,.convert S D x,ty,pos,aft,gd⟩ e w (vU<|byteI<|mkB p):=by
 rw [g_1];exact l_Q hS hD h
theorem b_E {S D:Nat}{c:UInt8}{d:TypeDesc}(hS:P.underlying S=some d)(hD:P.underlying D=some (.int .i64))(h:ev e x=some (vU<|byteI c)):Rd X P N ⟨dst,.convert S D x,ty,pos,aft,gd⟩ e w (vI<|byteI c):=by
 have:=l_Q (X:=X) (P:=P) (N:=N) (w:=w) (dst:=dst) (ty:=ty) (pos:=pos) (aft:=aft) (gd:=gd) hS hD h
 rwa [o_5] at this
theorem e_W {p q:Int}(h1:ev e x=some (vU p))(h2:ev e y=some (vU q)):Rd X P N ⟨dst,.binOp .sub T x y T',ty,pos,aft,gd⟩ e w (vU<|byteI<|mkB<|p - q):=by
 rw [g_1];exact o_T h1 h2
theorem h_T {k n:Nat}(hk:k<n)(hn:n<=9223372036854775807)(h1:ev e x=some (vI (k:Int)))(h2:ev e y=some (vI 1)):Rd X P N ⟨dst,.binOp .add T x y T',ty,pos,aft,gd⟩ e w (vI ((k+1:Nat):Int)):=by
 rw [← iinc hk hn];exact g_m h1 h2
end
section
variable {w:World}{B:Zone}{S:List Nat}{cs:List Value}
theorem T_ {x:Int}(h:rep w B cs x):cs=[vI x]/\inI x:=by obtain ⟨v,rfl,rfl,h⟩:=h;exact ⟨rfl,h⟩
theorem o_6 {x:Bool}(h:rep w B cs x):cs=[vB x]:=by obtain ⟨v,rfl,rfl⟩:=h;rfl
theorem g_2 {x:UInt8}(h:rep w B cs x):cs=[vU (byteI x)]:=by obtain ⟨v,rfl,rfl⟩:=h;rfl
theorem b_P {x:Str}(h:rep w B cs x):cs=[x.v]/\x.b.length<=LEN:=by obtain ⟨v,rfl,rfl,h⟩:=h;exact ⟨rfl,h⟩
theorem o_7 {α:Type}[Dat α]{l:List α}(h:rep w B cs l):∃ao c,cs=[.slice ao l.length c]/\repS w B (.slice ao l.length c) l:=by
 obtain ⟨v,rfl,h⟩:=h;obtain ⟨ao,c,rfl⟩:=repS.shape h;exact ⟨ao,c,rfl,h⟩
theorem e_c {x:Int}(h:inI x):own w [] [vI x] x:=⟨rfl,_,rfl,rfl,h⟩
theorem o_8 {x:Bool}:own w [] [vB x] x:=⟨rfl,_,rfl,rfl⟩
theorem a_s {x:UInt8}:own w [] [vU (byteI x)] x:=⟨rfl,_,rfl,rfl⟩
theorem e_d {x:Str}(h:x.b.length<=LEN):own w [] [x.v] x:=⟨rfl,_,rfl,rfl,h⟩
end
theorem e_e {α β:Type}[Dat α][Dat β]{w:World}{B:Zone}{c d:List Value}{x:α}{y:β}(h1:rep w B c x)(h2:rep w B d y):rep w B (c++d) (x,y):=⟨c,d,rfl,h1,h2⟩
theorem e_f {α β:Type}[Dat α][Dat β]{w:World}{S1 S2:List Nat}{c d:List Value}{x:α}{y:β}(h1:own w S1 c x)(h2:own w S2 d y):own w (S1++S2) (c++d) (x,y):=⟨c,d,S1,S2,rfl,rfl,h1,h2⟩
theorem l_x {α:Type}[Dat α](w:World):a_ w [] (.slice none 0 0) ([]:List α):=.inl ⟨rfl,rfl,rfl⟩
theorem o_9 {α:Type}[Dat α]{w w':World}(h:New w w' []):a_ w' [w.heap.size] (.slice (some ⟨w.heap.size,0,none⟩) 0 0) ([]:List α) :=
 .inr ⟨w.heap.size,0,[],[],rfl,Nat.le_refl _,Nat.zero_le _,h.blk,by simp,rfl,rfl,fun i x Si hx=>by simp at hx⟩
theorem g_6 {l:List Value}(h:l.all Value.oneCell'=true):∀u∈l,u.oneCell'=true:=fun u hu=>List.all_eq_true.1 h u hu
theorem b_0 {α:Type}[Dat α]{w w':World}{cs:List Value}{Si:List Nat}{x:α}(h:New w w' cs)(ho:own w Si cs x):a_ w' (w.heap.size::Si) (.slice (some ⟨w.heap.size,0,none⟩) 1 1) [x]:=by
 have hl:=rep_len<|own_rep' ho;refine .inr ⟨w.heap.size,1,cs,[Si],rfl,Nat.le_refl _,by simp [LEN],h.blk,by simp [hl],by simp,rfl,fun i y Sj hy hS=>?_⟩
 cases i with
 | zero =>
  simp at hy hS
  subst hy hS;have:=i_y cs _ hl;unfold a_m at this
  rw [this]
  exact g_h ho h.below
 | succ i=>simp at hy
theorem pshS {α:Type}{l:List α}{x:α}{m:List α}(h:psh l x=some m):m=l++[x]/\l.length<LIM:=by
 unfold psh at h
 split at h
 ·rename_i hl;exact ⟨(Option.some.inj h).symm,hl⟩
 ·cases h
theorem appS {α:Type}{l x m:List α}(h:app l x=some m):m=l++x/\l.length+x.length<=LIM:=by
 unfold app at h
 split at h
 ·rename_i hl;exact ⟨(Option.some.inj h).symm,hl⟩
 ·cases h
theorem catS {s t u:Str}(h:cat s t=some u):u=⟨s.b++t.b⟩/\s.b.length+t.b.length<=LEN:=by
 unfold cat at h
 split at h
 ·rename_i hl;exact ⟨(Option.some.inj h).symm,Nat.le_trans hl e_b⟩
 ·cases h
theorem b_8 {s t u:Str}(h:cat s t=some u):u.b.length<=LEN:=by
 obtain ⟨rfl,h'⟩:=catS h;simpa using h'
theorem h_U {n b:Nat}(h:n<=LIM)(hb:Nat.ble b 32768=true):n * b<=140737488355328:=by
 have h2:b<=32768:=Nat.le_of_ble_eq_true hb
 calc n * b<=LIM * 32768:=Nat.mul_le_mul h h2
  _=140737488355328:=by decide
section
variable {X:Nat->Prop}{P:Program}{N:Nat}{e:Env}{w:World}{dst:Option Tmp}{ty:TypeId}{pos:String}{aft:Array Edge}{gd:Option (Nat×Bool)}{x y z:Operand}{T T':Nat}
theorem o_a {α:Type}[Dat α]{E bytes:Nat}{zz:Value}(hE:El P T E (sz α) bytes zz){S Si:List Nat}{sv:Value}{l m:List α}{v:α}{g:Nat}{cs:List Value}(hm:psh l v=some m)(hx:ev e x=some sv)(hy:ev e y=some (.slice (some ⟨g,0,none⟩) 1 1))
  (ho:a_ w S sv l) (hN:S.Nodup) (hB:Blk w g cs) (hv:own w Si cs v) (hD:∀k∈Si,k∉S) (hSi:Si.Nodup) :
  Ef P N ⟨dst,.call { callee:=.builtin .append,args:=#[x,y],argTypes:=#[T,T] },ty,pos,aft,gd⟩ e w (fun v' w'=>∃S' ao c,v' = .slice ao m.length c/\a_ w' S' (.slice ao m.length c) m/\S'.Nodup/\Chg (· ∈ S) w w'/\(∀k∈S',k∈S∨k∈Si∨k=w.heap.size)):=by
 obtain ⟨rfl,hl⟩:=pshS hm;have hcs:=rep_len<|own_rep' hv
 have h:=l_t (P:=P) (N:=N) (dst:=dst) (ty:=ty) (pos:=pos) (aft:=aft) (gd:=gd) hE hx ho hN (p:=⟨g,0,none⟩) (c':=1) (news:=cs) (xs:=[v]) (Ts:=[Si]) hy rfl (fun _=>rfl) (by simp [hcs]) hB.all rfl
  (fun i a Ti ha hT=>by
   cases i with
   | zero =>
    simp at ha hT
    subst ha hT
    rw [i_y cs _ hcs]
    exact hv
   | succ i=>simp at ha) (by simpa using hD) (by simpa using hSi) (by have:=e_b;simp;omega) (h_U (by simp;omega) hE.sm)
 constructor
 intro a ha Q;refine Oper.wp_mono ?_<|h.run a ha Q;rintro a' w' ⟨v',rfl,S',h1,h2,h3,h4⟩;obtain ⟨ao,c,rfl⟩:=a_.shape h1;exact ⟨_,rfl,S',ao,c,rfl,h1,h2,h3,by simpa using h4⟩
theorem o_b {α:Type}[Dat α][a_u α]{E bytes:Nat}{zz:Value}(hE:El P T E (sz α) bytes zz){S:List Nat}{sv:Value}{l m xs:List α}{B:Zone}{G:Nat}{H:Option Addr}(hm:app l xs=some m)(hx:ev e x=some sv)(hy:ev e y=some (.slice H xs.length G))
  (ho:a_ w S sv l) (hN:S.Nodup) (hr:repS w B (.slice H xs.length G) xs) :
  Ef P N ⟨dst,.call { callee:=.builtin .append,args:=#[x,y],argTypes:=#[T,T] },ty,pos,aft,gd⟩ e w (fun v' w'=>∃S' ao c,v' = .slice ao m.length c/\a_ w' S' (.slice ao m.length c) m/\S'.Nodup/\Chg (· ∈ S) w w'/\(∀k∈S',k∈S∨k∈([]:List Nat)∨k=w.heap.size)):=by
 obtain ⟨rfl,hl⟩:=appS hm;obtain ⟨ao,c,he,h1,h2,h3,h4⟩:=hr
 simp only [Value.slice.injEq,true_and] at he
 obtain ⟨rfl,rfl⟩:=he
 cases H with
 | none =>
  obtain rfl:=h3 rfl
  constructor
  intro a ha Q;obtain ⟨ao,c,rfl⟩:=a_.shape ho
  have hc:l.length<=c:=by
   rcases ho with ⟨h,rfl,_⟩ | ⟨_,_,_,_,h,hh,_⟩ <;> cases h
   ·exact Nat.le_refl _
   ·exact hh
  have L:G=G:=rfl;unfold Oper.wp;obtain ⟨i,hi,hz,_,_⟩:=info_parts hE.info
  have hr:(execOp a.eval ⟨dst,.call { callee:=.builtin .append,args:=#[x,y],argTypes:=#[T,T] },ty,pos,aft,gd⟩).run P w = .ok (.value<|.slice ao l.length c) w:=by
   have:(Builtin.append_ #[T,T] ty #[.slice ao l.length c,.slice none 0 G]).run P w = .ok (.slice ao l.length c) w:=by
    cases ao <;> simp [Builtin.append_,run_underlying hE.sl,sizeOf,typeInfo,hi,Builtin.lenOf,Builtin.firstCells,hc,storeCells]
   have hy':a.eval y = .slice none 0 G:=ha.ev hy
   simp [execOp,resolve,invoke,builtin,ha.ev hx,hy',this]
  rw [hr]
  refine ⟨_,rfl,S,ao,c,by simp,by simpa using ho,hN,Chg.refl _ _,fun k hk=>.inl hk⟩
 | some p =>
  obtain ⟨k1,_,k3⟩:=h4 p rfl;obtain ⟨news,g1,I,J⟩:=o_X xs k3
  have h:=l_t (P:=P) (N:=N) (dst:=dst) (ty:=ty) (pos:=pos) (aft:=aft) (gd:=gd) hE hx ho hN (p:=p) (c':=G) (news:=news) (xs:=xs) (Ts:=List.replicate xs.length []) hy rfl (fun hne=>k1<|fun hx=>hne<|List.eq_nil_of_length_eq_zero (by rw [g1,hx];simp)) g1 I (by simp)
   (fun i a Ti ha hT=>by
    have:Ti=[]:=by
     rw [List.getElem?_replicate] at hT
     split at hT <;> simp at hT
     first | exact hT | exact hT.symm
    subst this
    exact a_u.flat (J i a ha)) (by simp) (by simp) (by have:=e_b;omega) (h_U hl hE.sm)
  constructor
  intro a ha Q;refine Oper.wp_mono ?_<|h.run a ha Q;rintro a' w' ⟨v',rfl,S',h1,h2,h3,h4⟩;obtain ⟨ao,c,rfl⟩:=a_.shape h1;exact ⟨_,rfl,S',ao,c,rfl,h1,h2,h3,by simpa using h4⟩
def evo (e:Env)(o:Option Operand)(d b:Int):Prop:=match o with
 | none=>b=d
 | some x=>ev e x=some (vI b)
theorem slcS {α:Type}{l m:List α}{a b:Int}(h:slc l a b=some m):0<=a/\a<=b/\b<=l.length/\m=(l.take b.toNat).drop a.toNat:=by
 unfold slc at h
 split at h
 ·rename_i hl;exact ⟨hl.1,hl.2.1,hl.2.2,(Option.some.inj h).symm⟩
 ·cases h
theorem o_c {α:Type}{l m:List α}{a b:Int}(h:slc l a b=some m):(m.length:Int)=b - a:=by
 obtain ⟨h1,h2,h3,rfl⟩:=slcS h
 simp;omega
theorem o_d {α:Type}[Dat α]{B:Zone}{n c sz':Nat}{ao:Option Addr}{l m:List α}{a b mx:Int}(hsz:sz'=sz α)(h:repS w B (.slice ao n c) l)(hs:slc l a b=some m)(h1:b<=mx)(h2:mx<=c) :
  repS w B (.slice (if mx.toNat=a.toNat then ao else ao.map (·.add (a.toNat * sz'))) m.length<|mx.toNat - a.toNat) m:=by
 subst hsz;obtain ⟨g1,O,V,rfl⟩:=slcS hs;obtain ⟨ao',c',he,k1,k2,k3,k4⟩:=h
 simp only [Value.slice.injEq] at he
 obtain ⟨rfl,rfl,rfl⟩:=he;refine ⟨_,_,rfl,by simp;omega,by simp;omega,fun hn=>?_,fun p hp=>?_⟩
 ·have:ao=none:=by
   split at hn
   ·exact hn
   ·simpa using hn
  rw [k3 this]
  simp
 ·by_cases hmx:mx.toNat=a.toNat
  ·rw [if_pos hmx] at hp
   obtain ⟨G,H,I⟩:=k4 p hp
   have hnil:(l.take b.toNat).drop a.toNat=[]:=by
    apply List.drop_of_length_le;simp;omega
   rw [hnil]
   exact ⟨fun h=>absurd rfl h,fun h=>absurd rfl h,fun i x hx=>by simp at hx⟩
  ·rw [if_neg hmx] at hp
   cases ao with
   | none=>simp at hp
   | some q =>
    simp only [Option.map_some,Option.some.injEq] at hp
    subst hp;obtain ⟨G,H,I⟩:=k4 q rfl
    by_cases hemp:(l.take b.toNat).drop a.toNat=[]
    ·rw [hemp]
     exact ⟨fun h=>absurd rfl h,fun h=>absurd rfl h,fun i x hx=>by simp at hx⟩
    have j1':=G<|fun h=>hemp (by rw [h];simp);have hq:q=⟨q.block,q.off,none⟩:=by cases q;simp_all
    rw [hq,Addr.add_lit]
    refine ⟨fun _=>rfl,fun hne=>H<|fun h=>hne (by rw [h];simp),fun i x hx=>?_⟩
    rw [List.getElem?_drop,List.getElem?_take] at hx
    split at hx
    ·obtain ⟨cs,J,L⟩:=I _ _ hx;refine ⟨cs,?_,L⟩;have:q.off+a.toNat * sz α+i * sz α=q.off+(a.toNat+i) * sz α:=by rw [Nat.add_mul];omega
     rw [this]
     exact J
    ·cases hx
theorem o_e {α:Type}[Dat α]{B:Zone}{E n c sz':Nat}{ao:Option Addr}{l m:List α}{a b:Int}{lo hi:Option Operand}(hT:P.underlying T=some (.slice E))(hs:∀w,(sizeOf E).run P w = .ok sz' w)(hsz:sz'=sz α)(hx:ev e x=some (.slice ao n c))(h:repS w B (.slice ao n c) l)
  (hlo:evo e lo 0 a) (hhi:evo e hi n b) (hm:slc l a b=some m) :
  ∃ao' c',Rd X P N ⟨dst,.slice T x lo hi none,ty,pos,aft,gd⟩ e w (.slice ao' m.length c')/\repS w B (.slice ao' m.length c') m:=by
 obtain ⟨g1,H,I,_⟩:=slcS hm;have hml:=o_c hm;have h':=h;obtain ⟨ao',c',he,k1,k2,k3,k4⟩:=h'
 simp only [Value.slice.injEq] at he
 obtain ⟨rfl,rfl,rfl⟩:=he;refine ⟨_,_,?_,o_d (mx:=(c:Int)) hsz h hm (by omega) (by omega)⟩;intro act ha w' _
 have hsl:(Instr.sliceAt T (.slice ao l.length c) (lo.map act.eval) (hi.map act.eval) none).run P w' = .ok (.slice (if c=a.toNat then ao else ao.map (·.add (a.toNat * sz'))) (b.toNat - a.toNat)<|c - a.toNat) w':=by
  have hb:∀code,(Instr.sliceBound (vI b) c code).run P w' = .ok b.toNat w':=fun code=>run_sliceBound w' .i64 b c code (by omega) (by omega)
  have hal:∀code,(Instr.sliceBound (vI a) b.toNat code).run P w' = .ok a.toNat w':=fun code=>run_sliceBound w' .i64 a b.toNat code g1 (by omega)
  have hbs:(Instr.sliceBounds true l.length c (lo.map act.eval) (hi.map act.eval) none).run P w' = .ok (a.toNat,b.toNat,c) w':=by
   cases lo with
   | none =>
    obtain rfl:a=0:=hlo
    cases hi with
    | none =>
     obtain rfl:b=(l.length:Int):=hhi
     simp [Instr.sliceBounds]
    | some y=>simp [Instr.sliceBounds,ha.ev hhi,hb]
   | some u =>
    cases hi with
    | none =>
     obtain rfl:b=(l.length:Int):=hhi;have hal':∀code,(Instr.sliceBound (vI a) l.length code).run P w' = .ok a.toNat w':=fun code=>by simpa using hal code
     simp [Instr.sliceBounds,ha.ev hlo,hal']
    | some y=>simp [Instr.sliceBounds,ha.ev hlo,ha.ev hhi,hb,hal]
  simp [Instr.sliceAt,run_underlying hT,Instr.slice,hbs,hs]
 have hmm:b.toNat - a.toNat=m.length:=by omega
 have G:((c:Int)).toNat=c:=by simp
 simp only [execOp,ha.ev hx,Option.map_none,Sem.run_bind,hsl,Result.andThen_ok,hmm,G]
 rfl
structure b_Q (P:Program)(T:Nat)(zs:List Value)(places:List (Nat×Nat)):Prop where
 zero:∀w,(zeroValue T).run P w = .ok (.agg zs.toArray) w
 und:∃fs,P.underlying T=some (.struct fs)/\∀w,(fs.toList.mapM fun f=>Functor.map (Prod.mk f.offset)<|sizeOf f.type).run P w = .ok places w
theorem o_f {zs cs:List Value}{places:List (Nat×Nat)}{parts:Array (Nat×Operand)}{vs:List (Nat×Value)}(hB:b_Q P T zs places)(hv:∀a,Sat N e a->(parts.map fun (i,x)=>(i,a.eval x)).toList=vs)(hf:Instr.fill (places.toArray[·]?) zs.toArray vs=some cs.toArray) :
  Rd X P N ⟨dst,.build T parts,ty,pos,aft,gd⟩ e w (.agg cs.toArray):=fun a ha w' _=>by
 obtain ⟨fs,hu,hpl⟩:=hB.und
 have h1:(Instr.build T<|parts.map fun (i,x)=>(i,a.eval x)).run P w' = .ok (.agg cs.toArray) w':=by
  unfold Instr.build
  have hp:(fs.mapM fun f=>Functor.map (Prod.mk f.offset) (sizeOf f.type):Sem (Array<|Nat×Nat)).run P w' = .ok places.toArray w':=by
   rw [Array.mapM_eq_mapM_toList]
   simp [hpl]
  have G:(fs.mapM fun f=>do pure (f.offset,← sizeOf f.type):Sem (Array<|Nat×Nat)).run P w' = .ok places.toArray w':=hp
  simp only [Sem.run_bind,hB.zero,Result.andThen_ok,run_underlying hu,Value.cells,G,hv a ha,hf]
  rfl
 simp only [execOp,Sem.run_bind,h1,Result.andThen_ok]
 rfl
end
end Go.Vw
namespace Go.Vw
open Go.RowKit Dat
theorem updS {α:Type}{l m:List α}{i:Int}{x:α}(h:upd l i x=some m):m=l.set i.toNat x/\0<=i/\i<l.length:=by
 unfold upd at h
 split at h
 ·rename_i hl;exact ⟨(Option.some.inj h).symm,hl⟩
 ·cases h
theorem o_g {n i j k:Nat}{l cs:List Value}(hl:l.length=k * n)(hc:cs.length=n)(hi:i<k)(hj:j<k) :
  a_m n j (l.take (i * n)++cs++l.drop (i * n+n))=if j=i then cs else a_m n j l:=by
 have h1:(i+1) * n<=k * n:=Nat.mul_le_mul_right n hi
 rw [Nat.succ_mul] at h1
 have htk:(l.take<|i * n).length=i * n:=by simp;omega
 have htc:(l.take (i * n)++cs).length=(i+1) * n:=by simp [hc,Nat.succ_mul];omega
 by_cases hji:j=i
 ·subst hji
  rw [if_pos rfl,d_K htc<|Nat.lt_succ_self _,g_r htk<|Nat.le_refl _,Nat.sub_self,i_y cs _ hc]
 ·rw [if_neg hji]
  by_cases hlt:j<i
  ·rw [d_K htc (by omega),d_K htk hlt,j_K hlt]
  ·rw [g_r htc (by omega)]
   unfold a_m
   rw [List.drop_drop]
   congr 2
   have:j=(i+1)+(j - (i+1)):=by omega
   calc i * n+n+(j - (i+1)) * n=(i+1) * n+(j - (i+1)) * n:=by rw [Nat.succ_mul]
    _=j * n:=by rw [← Nat.add_mul,← this]
theorem o_h {α:Type}[Dat α]{w w':World}{S Si:List Nat}{g n c i:Nat}{l:List α}{x:α}{cs:List Value}(ho:a_ w S (.slice (some ⟨g,0,none⟩) n c) l)(hN:S.Nodup)(hi:i<l.length)(hx:own w Si cs x)(hD:∀k∈Si,k∉S)(hSi:Si.Nodup)
  (hB:∀cur,Blk w g cur->Blk w' g (cur.take (i * sz α)++cs++cur.drop (i * sz α+sz α))) (hch:Chg (· = g) w w') :
  ∃S',a_ w' S' (.slice (some ⟨g,0,none⟩) (l.set i x).length c) (l.set i x)/\S'.Nodup/\(∀k∈S',k∈S∨k∈Si):=by
 rcases ho with ⟨h,_⟩ | ⟨g',c',cur,Ss,he,h1,h2,h3,h4,rfl,h6,H⟩
 ·cases h
 ·simp only [Value.slice.injEq,Option.some.injEq,Addr.mk.injEq,and_true] at he
  obtain ⟨rfl,rfl,rfl⟩:=he;have hcs:=rep_len<|own_rep' hx;have hic:i<c:=Nat.lt_of_lt_of_le hi h1;have hle:i * sz α+sz α<=cur.length:=by rw [h4,← Nat.succ_mul];exact Nat.mul_le_mul_right _ hic
  obtain ⟨hgn,hfn⟩:=List.nodup_cons.1 hN;have hgS:∀(j:Nat) Sj,Ss[j]? = some Sj->∀k∈Sj,¬k=g:=fun j Sj hSj k hk hk'=>hgn<|hk' ▸ e_k hSj hk
  have hsub:∀k∈List.flatten (Ss.set i Si),k∈List.flatten Ss∨k∈Si:=by
   intro k hk;obtain ⟨Sj,hSj,hk⟩:=List.mem_flatten.1 hk
   rcases List.mem_or_eq_of_mem_set hSj with h | h
   ·exact .inl<|List.mem_flatten.2 ⟨Sj,h,hk⟩
   ·exact .inr<|h ▸ hk
  refine ⟨g::List.flatten (Ss.set i Si),.inr ⟨g,c,_,Ss.set i Si,rfl,by simpa using h1,by simpa using h2,hB cur h3,?_,rfl,by simp [h6],?_⟩,?_,?_⟩
  ·rw [← h4];simp [hcs];omega
  ·intro j y Sj hy hSj;have hj:j<l.length:=by have:=(List.getElem?_eq_some_iff.1 hy).1;simpa using this
   show own w' Sj (a_m (sz α) j _) y
   rw [o_g h4 hcs hic (Nat.lt_of_lt_of_le hj h1)]
   by_cases hji:j=i
   ·subst hji
    rw [if_pos rfl]
    rw [List.getElem?_set_self hj] at hy
    rw [List.getElem?_set_self (by omega)] at hSj
    simp only [Option.some.injEq] at hy hSj
    subst hy hSj;exact e_Z hx hch<|fun k hk hk'=>hD k hk<|hk' ▸ List.mem_cons_self
   ·rw [if_neg hji]
    rw [List.getElem?_set_ne (Ne.symm hji)] at hy hSj
    exact e_Z (H j y Sj hy hSj) hch<|hgS j Sj hSj
  ·refine List.nodup_cons.2 ⟨fun hm=>?_,?_⟩
   ·rcases hsub g hm with h | h
    ·exact hgn h
    ·exact hD g h List.mem_cons_self
   ·rw [List.nodup_iff_pairwise_ne] at *
    rw [List.pairwise_flatten] at hfn ⊢
    obtain ⟨I,G⟩:=hfn;refine ⟨fun Sj hSj=>?_,?_⟩
    ·rcases List.mem_or_eq_of_mem_set hSj with h | rfl
     ·exact I Sj h
     ·exact hSi
    ·rw [List.pairwise_iff_getElem] at G ⊢
     intro a b ha hb hab u hu v hv;have ha':a<Ss.length:=by simpa using ha
     have hb':b<Ss.length:=by simpa using hb
     have notS:∀(j:Nat)(hj:j<Ss.length)(t:Nat),t∈Ss[j]->t∉Si:=fun j hj t ht ht'=>hD t ht'<|List.mem_cons_of_mem _<|List.mem_flatten.2 ⟨Ss[j],List.getElem_mem hj,ht⟩
     rw [List.getElem_set] at hu hv
     by_cases hai:i=a
     ·rw [if_pos hai] at hu
      rw [if_neg (by omega)] at hv
      intro huv;exact notS b hb' v hv<|huv ▸ hu
     ·rw [if_neg hai] at hu
      by_cases hbi:i=b
      ·rw [if_pos hbi] at hv
       intro huv;exact notS a ha' u hu<|huv ▸ hv
      ·rw [if_neg hbi] at hv
       exact G a b ha' hb' hab u hu v hv
  ·intro k hk
   rcases List.mem_cons.1 hk with rfl | hk
   ·exact .inl List.mem_cons_self
   ·exact (hsub k hk).imp (List.mem_cons_of_mem _) id
theorem a_.blk {α:Type}[Dat α]{w:World}{S:List Nat}{g n c:Nat}{l:List α}(h:a_ w S (.slice (some ⟨g,0,none⟩) n c) l):∃cur,Blk w g cur/\cur.length=c * sz α/\l.length<=c/\g∈S:=by
 rcases h with ⟨h,_⟩ | ⟨g',c',cur,Ss,he,h1,h2,h3,h4,rfl,_⟩
 ·cases h
 ·simp only [Value.slice.injEq,Option.some.injEq,Addr.mk.injEq,and_true] at he
  obtain ⟨rfl,rfl,rfl⟩:=he;exact ⟨cur,h3,h4,h1,List.mem_cons_self⟩
theorem a_.head {α:Type}[Dat α]{w:World}{S:List Nat}{ao:Option Addr}{n c:Nat}{l:List α}(h:a_ w S (.slice ao n c) l)(hl:0<l.length):∃g,ao=some ⟨g,0,none⟩:=by
 rcases h with ⟨_,rfl,_⟩ | ⟨g',c',cur,Ss,he,_⟩
 ·simp at hl
 ·simp only [Value.slice.injEq] at he
  exact ⟨g',he.1⟩
section
variable {P:Program}{N:Nat}{e:Env}{w:World}{dst:Option Tmp}{ty:TypeId}{pos:String}{aft:Array Edge}{gd:Option (Nat×Bool)}{x y z:Operand}{T T':Nat}
theorem ef_set {α:Type}[Dat α]{S Si:List Nat}{g n c:Nat}{i:Int}{l m:List α}{v:α}{u:Value}{cs:List Value}{sz':Nat}(hs:∀w,(sizeOf T).run P w = .ok sz' w)(hsz:sz'=sz α)(hx:ev e x=some (.pointer<|some ⟨g,0+i.toNat * sz',none⟩))(hy:ev e y=some u)(hu:u.cells.toList=cs)
  (hm:upd l i v=some m) (ho:a_ w S (.slice (some ⟨g,0,none⟩) n c) l) (hN:S.Nodup) (hv:own w Si cs v) (hD:∀k∈Si,k∉S) (hSi:Si.Nodup) :
  Ef P N ⟨none,.store T x y,ty,pos,aft,gd⟩ e w (fun _ w'=>∃S',a_ w' S' (.slice (some ⟨g,0,none⟩) m.length c) m/\S'.Nodup/\Chg (· = g) w w'/\(∀k∈S',k∈S∨k∈Si)):=by
 subst hsz hu;obtain ⟨rfl,G,h1⟩:=updS hm;obtain ⟨cur,hB,hcl,hlc,_⟩:=ho.blk;have hcs:=rep_len<|own_rep' hv;have hi:i.toNat<l.length:=by omega
 have hle:i.toNat * sz α+sz α<=cur.length:=by rw [hcl,← Nat.succ_mul];exact Nat.mul_le_mul_right _<|Nat.lt_of_lt_of_le hi hlc
 have h:=e_S (P:=P) (N:=N) (ty:=ty) (pos:=pos) (aft:=aft) (gd:=gd) hs hx hy hB (by simpa using hcs) (by omega) (rep_one<|own_rep' hv) rfl
 constructor
 intro a ha Q;refine Oper.wp_mono ?_<|h.run a ha Q;rintro a' w' ⟨v',rfl,hb,hch⟩
 obtain ⟨S',k1,k2,k3⟩:=o_h (i:=i.toNat) (x:=v) (cs:=u.cells.toList) ho hN hi hv hD hSi (fun cur' hc'=>by
  obtain rfl:=hB.uniq hc'
  rw [hcs,Nat.zero_add] at hb
  exact hb) hch
 exact ⟨v',rfl,S',k1,k2,hch,k3⟩
theorem mk0S {α:Type}{z:α}{n:Int}{l:List α}(h:mk0 z n=some l):l=List.replicate n.toNat z/\0<=n/\n<=LIM:=by
 unfold mk0 at h
 split at h
 ·rename_i hl;exact ⟨(Option.some.inj h).symm,hl⟩
 ·cases h
theorem o_i {n i k:Nat}{z:Array Value}(hz:z.size=n)(hi:i<k):a_m n i (madeCells z<|k * n).toList=z.toList:=by
 have h1:(i+1) * n<=k * n:=Nat.mul_le_mul_right n hi
 rw [Nat.succ_mul] at h1
 unfold a_m madeCells
 apply List.ext_getElem?
 intro j
 rw [List.getElem?_take]
 by_cases hj:j<n
 ·rw [if_pos hj,List.getElem?_drop]
  have hmod:(i * n+j) % n=j:=by rw [Nat.add_comm,Nat.add_mul_mod_self_right,Nat.mod_eq_of_lt hj]
  simp only [Array.toList_map,Array.toList_range,List.getElem?_map]
  rw [List.getElem?_range (by omega)]
  have hjz:j<z.size:=by omega
  simp [hz,hmod]
  simp [hjz]
 ·rw [if_neg hj]
  simp [hz];omega
theorem o_j {α:Type}[Dat α]{E bytes:Nat}{zz:Value}{n:Int}{l:List α}{G:α}(hE:El P T E (sz α) bytes zz)(hz:∀w,own w [] zz.cells.toList G)(hm:mk0 G n=some l)(hx:ev e x=some (vI n))(hy:ev e y=some (vI n)) :
  Ef P N ⟨dst,.makeSlice T x y,ty,pos,aft,gd⟩ e w (fun v w'=>v = .slice (some ⟨w.heap.size,0,none⟩) l.length l.length/\a_ w' [w.heap.size] (.slice (some ⟨w.heap.size,0,none⟩) l.length l.length) l/\Below w.heap.size w w'/\w'.heap.size=w.heap.size+1):=by
 obtain ⟨rfl,H,h1⟩:=mk0S hm
 have hb:(bytes:Int) * n<=281474976710656:=by
  have:=h_U (n:=n.toNat) (by omega) hE.sm;have h2:((n.toNat * bytes:Nat):Int)<=140737488355328:=by omega
  rw [Int.natCast_mul,Int.toNat_of_nonneg H] at h2
  rw [Int.mul_comm];omega
 have h:=l_s (P:=P) (N:=N) (w:=w) (dst:=dst) (ty:=ty) (pos:=pos) (aft:=aft) (gd:=gd) hE hx hy H (Int.le_refl _) hb (by have:=e_b;have:=G_;omega)
 constructor
 intro a ha Q;refine Oper.wp_mono ?_<|h.run a ha Q;rintro a' w' ⟨v',rfl,rfl,hn⟩;refine ⟨_,rfl,by simp,.inr ⟨w.heap.size,n.toNat,_,List.replicate n.toNat [],by simp,by simp,?_,hn.blk,by simp [size_madeCells],?_,by simp,?_⟩,hn.below,hn.size⟩
 ·simp;have:=e_b;omega
 ·simp
 ·intro i y Si hy hSi;have hi:i<n.toNat:=by have:=(List.getElem?_eq_some_iff.1 hy).1;simpa using this
  rw [List.getElem?_replicate,if_pos hi] at hy hSi
  simp only [Option.some.injEq] at hy hSi
  subst hy hSi
  show own w' [] (a_m (sz α) i _) G
  rw [o_i hE.zlen hi]
  exact hz w'
theorem o_k {α:Type}[Dat α]{E bytes:Nat}{zz:Value}{n:Int}(hE:El P T E (sz α) bytes zz)(G:0<=n)(h1:n<=LIM)(hx:ev e x=some (vI 0))(hy:ev e y=some (vI n)) :
  Ef P N ⟨dst,.makeSlice T x y,ty,pos,aft,gd⟩ e w (fun v w'=>v = .slice (some ⟨w.heap.size,0,none⟩) 0 n.toNat/\a_ w' [w.heap.size] (.slice (some ⟨w.heap.size,0,none⟩) 0 n.toNat) ([]:List α)/\Below w.heap.size w w'/\w'.heap.size=w.heap.size+1):=by
 have hb:(bytes:Int) * n<=281474976710656:=by
  have:=h_U (n:=n.toNat) (by omega) hE.sm;have h2:((n.toNat * bytes:Nat):Int)<=140737488355328:=by omega
  rw [Int.natCast_mul,Int.toNat_of_nonneg G] at h2
  rw [Int.mul_comm];omega
 have h:=l_s (P:=P) (N:=N) (w:=w) (dst:=dst) (ty:=ty) (pos:=pos) (aft:=aft) (gd:=gd) hE hx hy (Int.le_refl _) G hb (by have:=e_b;have:=G_;omega)
 constructor
 intro a ha Q;refine Oper.wp_mono ?_<|h.run a ha Q;rintro a' w' ⟨v',rfl,rfl,hn⟩;refine ⟨_,rfl,rfl,.inr ⟨w.heap.size,n.toNat,_,[],rfl,Nat.zero_le _,Nat.zero_le _,hn.blk,by simp [size_madeCells],rfl,rfl,fun i y Si hy=>by simp at hy⟩,hn.below,hn.size⟩
end
end Go.Vw
namespace Go.Vw
open Go.RowKit Dat
section
variable {X:Nat->Prop}{P:Program}{N:Nat}{ops:Array Oper}{K:Act->World->Prop}{Q:Exit->Act->World->Prop}{e:Env}{w:World}{rest:List Oper}{T:Nat}{p:a_r}
variable {d:Nat}{op:Op}{ty:TypeId}{pos:String}{aft:Array Edge}{F:Value->Prop}
theorem RX (hf:Nat.blt d N=true)(h:∃v,Rd noX P N ⟨some d,op,ty,pos,aft,none⟩ e w v/\F v)(k:∀v,F v->WL P N ops K Q rest ((d,v)::e) w):WL P N ops K Q (⟨some d,op,ty,pos,aft,none⟩::rest) e w:=by
 obtain ⟨v,h,hF⟩:=h;exact R hf h<|k v hF
theorem dRX {i:Nat}(ho:ops[i]? = some ⟨some d,op,ty,pos,aft,none⟩)(hf:Nat.blt d N=true)(h:∃v,Rd X P N ⟨some d,op,ty,pos,aft,none⟩ e w v/\F v)(k:∀v,F v->PR X P N ops T K p ((d,v)::e) w):PR X P N ops T K (.rd i p) e w:=by
 obtain ⟨v,h,hF⟩:=h;exact dR ho hf h<|k v hF
section guards
variable {j gd:Nat}{want b:Bool}
theorem RXg (hj:(ops[j]?).bind (·.dst)=some gd)(hb:x_ e gd=some (.bool b))(hw:b=want)(hf:Nat.blt d N=true)(h:∃v,Rd noX P N ⟨some d,op,ty,pos,aft,some (j,want)⟩ e w v/\F v)(k:∀v,F v->WL P N ops K Q rest ((d,v)::e) w):WL P N ops K Q (⟨some d,op,ty,pos,aft,some (j,want)⟩::rest) e w:=by
 obtain ⟨v,h,hF⟩:=h;exact Rg hj hb hw hf h<|k v hF
theorem c_n {i:Nat}(ho:ops[i]? = some ⟨some d,op,ty,pos,aft,some (j,want)⟩)(hj:(ops[j]?).bind (·.dst)=some gd)(hb:x_ e gd=some (.bool b))(hw:b=want)(hf:Nat.blt d N=true)(h:∃v,Rd X P N ⟨some d,op,ty,pos,aft,some (j,want)⟩ e w v/\F v)(k:∀v,F v->PR X P N ops T K p ((d,v)::e) w):PR X P N ops T K (.rd i p) e w:=by
 obtain ⟨v,h,hF⟩:=h;exact dRg ho hj hb hw hf h<|k v hF
end guards
theorem exO {id j:Nat}{K':Act->World->Prop}(hne:Nat.beq id j=false)(h:∀a,Sat N e a->Q (.exit id) a w):∀a,Sat N e a->inB j K' Q (.exit id) a w:=fun a ha=>by
 have:id ≠ j:=by rintro rfl;simp at hne
 simp only [inB,if_neg this];exact h a ha
theorem rtO {j:Nat}{K':Act->World->Prop}(h:∀a,Sat N e a->Q .ret a w):∀a,Sat N e a->inB j K' Q .ret a w:=h
end
theorem h_V (b:Bool):b=true∨b=false:=by cases b <;> simp
theorem a_t {α β γ:Type}{f:α->β->Option γ}{a:α}{b:β}{r:Option γ}(h:un2 f (a,b)=r):f a b=r:=h
theorem d_H {α β δ γ:Type}{f:α->β->δ->Option γ}{a:α}{b:β}{c:δ}{r:Option γ}(h:un3 f (a,b,c)=r):f a b c=r:=h
theorem un4S {α β δ ε γ:Type}{f:α->β->δ->ε->Option γ}{a:α}{b:β}{c:δ}{d:ε}{r:Option γ}(h:un4 f (a,b,c,d)=r):f a b c d=r:=h
theorem un5S {α β δ ε ζ γ:Type}{f:α->β->δ->ε->ζ->Option γ}{a:α}{b:β}{c:δ}{d:ε}{e:ζ}{r:Option γ}(h:un5 f (a,b,c,d,e)=r):f a b c d e=r:=h
section
variable {S T A M:List Nat}{m n:Nat}{p:Nat->Prop}
theorem d_ {g:Nat}(h:p g):∀k∈[g],p k:=fun k hk=>by rw [List.mem_singleton.1 hk];exact h
theorem or0 (hs:∀k∈S,n<=k)(h:∀k,n<=k->p k):∀k∈S,p k:=fun k hk=>h k<|hs k hk
theorem or1 (hs:∀k∈S,k∈A∨n<=k)(ha:∀k∈A,p k)(h:∀k,n<=k->p k):∀k∈S,p k:=fun k hk=>(hs k hk).elim (ha k) (h k)
theorem or2 (hs:∀k∈S,k∈A∨k∈T∨n<=k)(ha:∀k∈A,p k)(hb:∀k∈T,p k)(h:∀k,n<=k->p k):∀k∈S,p k:=fun k hk=>(hs k hk).elim (ha k) (fun h'=>h'.elim (hb k)<|h k)
theorem all_nil:∀k∈([]:List Nat),p k:=fun k hk=>by cases hk
theorem g_7 (h1:∀k∈A,p k)(h2:∀k∈T,p k):∀k∈A++T,p k:=fun k hk=>(List.mem_append.1 hk).elim (h1 k) (h2 k)
theorem h_W (h:∀k∈A++T,p k):∀k∈A,p k:=fun k hk=>h k<|List.mem_append_left _ hk
theorem h_X (h:∀k∈A++T,p k):∀k∈T,p k:=fun k hk=>h k<|List.mem_append_right _ hk
theorem ltge (h:∀k∈A,n<=k):∀k,k<n->k∉A:=fun k hk ha=>absurd hk<|Nat.not_lt.2<|h k ha
theorem nmN (q:Nat->Prop):∀k,q k->k∉([]:List Nat):=fun _ _ h=>by cases h
theorem nmA {q:Nat->Prop}(h1:∀k,q k->k∉A)(h2:∀k,q k->k∉T):∀k,q k->k∉A++T:=fun k hk hm=>(List.mem_append.1 hm).elim (h1 k hk) (h2 k hk)
theorem S_ (h:∀ k∈T,k<m)(hmn:m<=n):∀k,n<=k->k∉T:=fun k hk ht=>absurd (h k ht)<|Nat.not_lt.2<|Nat.le_trans hmn hk
theorem h_Y (h:∀ k∈S,k∉T):∀k∈T,k∉S:=fun k hk hs=>h k hs hk
theorem b_9 (h:m<=n):∀k,n<=k->m<=k:=fun _ hk=>Nat.le_trans h hk
theorem q_ (h:m<=n):∀k,n<=k->k∈M∨m<=k:=fun _ hk=>.inr<|Nat.le_trans h hk
theorem inor (h:∀ k∈A,k∈M):∀k∈A,k∈M∨m<=k:=fun k hk=>.inl<|h k hk
theorem h_Z:∀k∈A,k∈A:=fun _ h=>h
theorem a_5 (h:∀ k∈A,k∈S):∀k∈A,k∈S++T:=fun k hk=>List.mem_append_left _<|h k hk
theorem a_c (h:∀ k∈A,k∈T):∀k∈A,k∈S++T:=fun k hk=>List.mem_append_right _<|h k hk
theorem K_:([]:List Nat).Nodup:=List.nodup_nil
theorem a_e {g:Nat}:[g].Nodup:=by simp
theorem g_8 (h1:S.Nodup)(h2:T.Nodup)(h:∀ k∈S,k∉T):(S++T).Nodup:=List.nodup_append.2 ⟨h1,h2,fun a ha b hb he=>h a ha<|he ▸ hb⟩
theorem i_0 (h:(S++T).Nodup):S.Nodup:=(List.nodup_append.1 h).1
theorem i_1 (h:(S++T).Nodup):T.Nodup:=(List.nodup_append.1 h).2.1
theorem i_2 (h:(S++T).Nodup):∀k∈S,k∉T:=fun k hs ht=>(List.nodup_append.1 h).2.2 k hs k ht rfl
end
section
variable {a b c:World}{A M:List Nat}
theorem Chg.one {g:Nat}(h:Chg (· = g) a b):Chg (· ∈ [g]) a b:=h.mono fun k _ hk=>List.mem_singleton.2 hk
theorem i_3 (h:Below a.heap.size a b)(h':Chg (· ∈ A) b c)(hx:∀k∈A,a.heap.size<=k):Below a.heap.size a c:=bchg h h' fun k hk hm=>absurd hk<|Nat.not_lt.2<|hx k hm
theorem i_4 (M:List Nat)(a:World):Chg (· ∈ M) a a:=Chg.refl _ _
theorem i_5 (h:Chg (· ∈ M) a b)(h':Chg (· ∈ A) b c)(hx:∀k∈A,k∈M∨a.heap.size<=k):Chg (· ∈ M) a c:=h.comp h' fun k hk hm=>(hx k hm).elim id fun h=>absurd hk<|Nat.not_lt.2 h
theorem k_ (h:Chg (· ∈ M) a b)(h':Below b.heap.size b c):Chg (· ∈ M) a c:=h.ext h'
end
section
variable {X:Nat->Prop}{P:Program}{N:Nat}{e:Env}{w:World}{dst:Option Tmp}{ty:TypeId}{pos:String}{aft:Array Edge}{gd:Option (Nat×Bool)}{x y z:Operand}{T E:Nat}
theorem i_6 {b:Bool}{v:Value}(h:ev e x=some (.bool b))(hb:b=true)(hy:ev e y=some v):Rd X P N ⟨dst,.pick x y z,ty,pos,aft,gd⟩ e w v:=by subst hb;exact o_Q h hy
theorem i_7 {b:Bool}{v:Value}(h:ev e x=some (.bool b))(hb:b=false)(hz:ev e z=some v):Rd X P N ⟨dst,.pick x y z,ty,pos,aft,gd⟩ e w v:=by subst hb;exact o_R h hz
theorem i_8 {α:Type}[Dat α]{ao:Option Addr}{B:Zone}{n c:Nat}{l:List α}(hT:P.underlying T=some (.slice E))(h:ev e x=some (.slice ao n c))(hr:repS w B (.slice ao n c) l) :
  Rd X P N ⟨dst,.call { callee:=.builtin .len,args:=#[x],argTypes:=#[T] },ty,pos,aft,gd⟩ e w (vI (l.length:Int)):=by
 obtain ⟨_,_,he,_⟩:=hr
 cases he
 exact o_S (args:=#[]) (tys:=#[]) hT h
theorem i_9 {α:Type}[Dat α]{ao:Option Addr}{B:Zone}{n c sz':Nat}{l:List α}{i:Int}{v:α}{kk:IntKind}(hT:P.underlying T=some (.slice E))(hs:∀w,(sizeOf E).run P w = .ok sz' w)(hsz:sz'=sz α)(hx:ev e x=some (.slice ao n c))(hy:ev e y=some (.int kk i))(hr:repS w B (.slice ao n c) l)(hi:idx l i=some v) :
  ∃u,Rd X P N ⟨dst,.indexAddr T x y,ty,pos,aft,gd⟩ e w u/\∃b o cs,u = .pointer (some ⟨b,o,none⟩)/\L_ w b o cs/\rep w B cs v/\B b:=by
 have G:=hr;obtain ⟨ao',c',he,_,_,_,hp⟩:=hr
 cases he
 obtain ⟨b,o,cs,rfl,H,h1,h2,h3⟩:=repS.at G hi
 refine ⟨_,l_M (k:=kk) hT hs hx hy H h1,b,_,cs,rfl,?_,h3,?_⟩
 ·rw [hsz];exact h2
 ·refine (hp _ rfl).2.1 ?_;rintro rfl
  simp at h1;omega
theorem c_W {α:Type}[Dat α]{ao:Option Addr}{n c sz':Nat}{S:List Nat}{l m:List α}{i:Int}{v:α}{kk:IntKind}(hT:P.underlying T=some (.slice E))(hs:∀w,(sizeOf E).run P w = .ok sz' w)(hx:ev e x=some (.slice ao n c))(hy:ev e y=some (.int kk i))(hr:a_ w S (.slice ao n c) l)(hi:upd l i v=some m) :
  ∃u,Rd X P N ⟨dst,.indexAddr T x y,ty,pos,aft,gd⟩ e w u/\∃g,ao=some ⟨g,0,none⟩/\u = .pointer (some ⟨g,0+i.toNat * sz',none⟩):=by
 obtain ⟨_,G,h1⟩:=updS hi;obtain ⟨g,rfl⟩:=hr.head (by omega);obtain ⟨_,_,he,_⟩:=hr.rep
 cases he
 exact ⟨_,l_M (k:=kk) hT hs hx hy G h1,g,rfl,rfl⟩
theorem i_a {α:Type}[Dat α]{B:Zone}{n c sz':Nat}{ao:Option Addr}{l m:List α}{a b:Int}{lo hi:Option Operand}(hT:P.underlying T=some (.slice E))(hs:∀w,(sizeOf E).run P w = .ok sz' w)(hsz:sz'=sz α)(hx:ev e x=some (.slice ao n c))(h:repS w B (.slice ao n c) l)
  (hlo:evo e lo 0 a) (hhi:evo e hi l.length b) (hm:slc l a b=some m) :
  ∃v,Rd X P N ⟨dst,.slice T x lo hi none,ty,pos,aft,gd⟩ e w v/\∃ao' n' c',v = .slice ao' n' c'/\repS w B (.slice ao' n' c') m:=by
 have h':=h;obtain ⟨_,_,he,_⟩:=h'
 cases he
 obtain ⟨ao',c',k1,k2⟩:=o_e (X:=X) (P:=P) (N:=N) (w:=w) (dst:=dst) (ty:=ty) (pos:=pos) (aft:=aft) (gd:=gd) hT hs hsz hx h hlo hhi hm;exact ⟨_,k1,ao',_,c',rfl,k2⟩
def evp (e:Env):List (Nat×Operand)->Option (List<|Nat×Value)
 | []=>some []
 | (i,x)::l=>match ev e x,evp e l with
  | some v,some vs=>some ((i,v)::vs)
  | _,_=>none
theorem Sat.evp {a:Act}(h:Sat N e a):∀{l:List (Nat×Operand)}{vs:List (Nat×Value)},evp e l=some vs->(l.map fun p=>(p.1,a.eval p.2))=vs
 | [],vs,hv=>by simp only [Vw.evp,Option.some.injEq] at hv;subst hv;rfl
 | (i,x)::l,vs,hv=>by
  simp only [Vw.evp] at hv
  split at hv
  ·rename_i v vs' h1 h2
   simp only [Option.some.injEq] at hv
   subst hv
   simp [h.ev h1,Sat.evp h h2]
  ·cases hv
theorem i_b {zs cs:List Value}{places:List (Nat×Nat)}{parts:List (Nat×Operand)}{vs:List (Nat×Value)}(hB:b_Q P T zs places)(hv:evp e parts=some vs)(hf:Instr.fill (places.toArray[·]?) zs.toArray vs=some cs.toArray) :
  Rd X P N ⟨dst,.build T parts.toArray,ty,pos,aft,gd⟩ e w (.agg cs.toArray) :=
 o_f hB (fun a ha=>by rw [List.map_toArray];exact ha.evp hv) hf
end
section
variable {X:Nat->Prop}{P:Program}{N:Nat}{e:Env}{w:World}{dst:Option Tmp}{ty:TypeId}{pos:String}{aft:Array Edge}{gd:Option (Nat×Bool)}{x y z:Operand}{T E:Nat}
theorem c_X {α:Type}[Dat α]{S Si:List Nat}{g n c:Nat}{ao:Option Addr}{i:Int}{l m:List α}{v:α}{u:Value}{cs:List Value}{sz':Nat}(hs:∀w,(sizeOf T).run P w = .ok sz' w)(hsz:sz'=sz α)(hao:ao=some ⟨g,0,none⟩)(hx:ev e x=some (.pointer<|some ⟨g,0+i.toNat * sz',none⟩))(hy:ev e y=some u)(hu:u.cells.toList=cs)
  (hm:upd l i v=some m) (ho:a_ w S (.slice ao n c) l) (hN:S.Nodup) (hv:own w Si cs v) (hD:∀k∈Si,k∉S) (hSi:Si.Nodup) :
  Ef P N ⟨none,.store T x y,ty,pos,aft,gd⟩ e w (fun _ w'=>∃S',Chg (· ∈ S) w w'/\a_ w' S' (.slice ao n c) m/\S'.Nodup/\(∀k∈S',k∈S∨k∈Si∨w.heap.size<=k)):=by
 subst hao;have h:=ef_set (P:=P) (N:=N) (ty:=ty) (pos:=pos) (aft:=aft) (gd:=gd) hs hsz hx hy hu hm ho hN hv hD hSi
 constructor
 intro a ha Q;refine Oper.wp_mono ?_<|h.run a ha Q;rintro a' w' ⟨v',rfl,S',k1,k2,k3,k4⟩
 have hn:n=m.length:=by
  obtain ⟨rfl,_,_⟩:=updS hm;obtain ⟨_,_,he,_⟩:=ho.rep
  cases he;simp
 obtain ⟨_,_,_,_,hg⟩:=ho.blk;subst hn;exact ⟨v',rfl,S',k3.mono<|fun k _ hk=>hk ▸ hg,k1,k2,fun k hk=>(k4 k hk).elim .inl fun h=>.inr<|.inl h⟩
theorem b_i {α:Type}[Dat α]{bytes:Nat}{zz:Value}(hE:El P T E (sz α) bytes zz){S Si:List Nat}{sv:Value}{l m:List α}{v:α}{g:Nat}{cs:List Value}(hm:psh l v=some m)(hx:ev e x=some sv)(hy:ev e y=some (.slice (some ⟨g,0,none⟩) 1 1))
  (ho:a_ w S sv l) (hN:S.Nodup) (hB:Blk w g cs) (hv:own w Si cs v) (hD:∀k∈Si,k∉S) (hSi:Si.Nodup) :
  Ef P N ⟨dst,.call { callee:=.builtin .append,args:=#[x,y],argTypes:=#[T,T] },ty,pos,aft,gd⟩ e w (fun v' w'=>∃S' ao n c,v' = .slice ao n c/\Chg (· ∈ S) w w'/\a_ w' S' (.slice ao n c) m/\S'.Nodup/\(∀k∈S',k∈S∨k∈Si∨w.heap.size<=k)):=by
 have h:=o_a (P:=P) (N:=N) (w:=w) (dst:=dst) (ty:=ty) (pos:=pos) (aft:=aft) (gd:=gd) hE hm hx hy ho hN hB hv hD hSi
 constructor
 intro a ha Q;refine Oper.wp_mono ?_<|h.run a ha Q;rintro a' w' ⟨v',rfl,S',ao,c,rfl,k1,k2,k3,k4⟩;exact ⟨_,rfl,S',ao,_,c,rfl,k3,k1,k2,fun k hk=>(k4 k hk).elim .inl fun h=>.inr<|h.elim .inl fun h=>.inr<|Nat.le_of_eq h.symm⟩
theorem i_c {α:Type}[Dat α][a_u α]{bytes:Nat}{zz:Value}(hE:El P T E (sz α) bytes zz){S:List Nat}{sv:Value}{l m xs:List α}{B:Zone}{H I:Nat}{G:Option Addr}(hm:app l xs=some m)(hx:ev e x=some sv)(hy:ev e y=some (.slice G H I))
  (ho:a_ w S sv l) (hN:S.Nodup) (hr:repS w B (.slice G H I) xs) :
  Ef P N ⟨dst,.call { callee:=.builtin .append,args:=#[x,y],argTypes:=#[T,T] },ty,pos,aft,gd⟩ e w (fun v' w'=>∃S' ao n c,v' = .slice ao n c/\Chg (· ∈ S) w w'/\a_ w' S' (.slice ao n c) m/\S'.Nodup/\(∀k∈S',k∈S∨w.heap.size<=k)):=by
 have hr':=hr;obtain ⟨_,_,he,_⟩:=hr'
 cases he
 have h:=o_b (P:=P) (N:=N) (w:=w) (dst:=dst) (ty:=ty) (pos:=pos) (aft:=aft) (gd:=gd) hE hm hx hy ho hN hr
 constructor
 intro a ha Q;refine Oper.wp_mono ?_<|h.run a ha Q;rintro a' w' ⟨v',rfl,S',ao,c,rfl,k1,k2,k3,k4⟩;exact ⟨_,rfl,S',ao,_,c,rfl,k3,k1,k2,fun k hk=>(k4 k hk).elim .inl fun h=>.inr<|h.elim (fun h=>by cases h) fun h=>Nat.le_of_eq h.symm⟩
theorem e_X {α:Type}[Dat α]{bytes:Nat}{zz:Value}{n:Int}{l:List α}{G:α}(hE:El P T E (sz α) bytes zz)(hz:∀w,own w [] zz.cells.toList G)(hm:mk0 G n=some l)(hx:ev e x=some (vI n))(hy:ev e y=some (vI n)) :
  Ef P N ⟨dst,.makeSlice T x y,ty,pos,aft,gd⟩ e w (fun v w'=>∃ao n c,v = .slice ao n c/\Below w.heap.size w w'/\a_ w' [w.heap.size] (.slice ao n c) l):=by
 have h:=o_j (P:=P) (N:=N) (w:=w) (dst:=dst) (ty:=ty) (pos:=pos) (aft:=aft) (gd:=gd) hE hz hm hx hy
 constructor
 intro a ha Q;refine Oper.wp_mono ?_<|h.run a ha Q;rintro a' w' ⟨v',rfl,rfl,k1,k2,k3⟩;exact ⟨_,rfl,_,_,_,rfl,k2,k1⟩
theorem l_y {α:Type}[Dat α]{bytes:Nat}{zz:Value}{n:Int}{l0:List Unit}(hE:El P T E (sz α) bytes zz)(hm:mk0 () n=some l0)(hx:ev e x=some (vI 0))(hy:ev e y=some (vI n)) :
  Ef P N ⟨dst,.makeSlice T x y,ty,pos,aft,gd⟩ e w (fun v w'=>∃ao n c,v = .slice ao n c/\Below w.heap.size w w'/\a_ w' [w.heap.size] (.slice ao n c) ([]:List α)):=by
 obtain ⟨_,G,h1⟩:=mk0S hm;have h:=o_k (α:=α) (P:=P) (N:=N) (w:=w) (dst:=dst) (ty:=ty) (pos:=pos) (aft:=aft) (gd:=gd) hE G h1 hx hy
 constructor
 intro a ha Q;refine Oper.wp_mono ?_<|h.run a ha Q;rintro a' w' ⟨v',rfl,rfl,k1,k2,k3⟩;exact ⟨_,rfl,_,_,_,rfl,k2,k1⟩
theorem i_d {α:Type}[Dat α]{bytes:Nat}{zz:Value}(hE:El P T E (sz α) bytes zz) :
  Ef P N ⟨dst,.buildSlice T 0 #[],ty,pos,aft,gd⟩ e w (fun v w'=>∃ao n c,v = .slice ao n c/\Below w.heap.size w w'/\a_ w' [w.heap.size] (.slice ao n c) ([]:List α)):=by
 have h:=n_Z (P:=P) (N:=N) (e:=e) (w:=w) (dst:=dst) (ty:=ty) (pos:=pos) (aft:=aft) (gd:=gd) hE
 constructor
 intro a ha Q;refine Oper.wp_mono ?_<|h.run a ha Q;rintro a' w' ⟨v',rfl,rfl,k⟩;exact ⟨_,rfl,_,_,_,rfl,k.below,o_9 k⟩
end
end Go.Vw
namespace Go.Vw
open Go.RowKit Dat
theorem i_e {x:Int}(h:inI x):x.toNat<=9223372036854775807:=by unfold inI at h;omega
theorem i_f {k n:Nat}(h:k<=n)(hn:n<=9223372036854775807):inI (k:Int):=by unfold inI;omega
theorem noltI {k:Nat}{x:Int}(hk:k<x.toNat)(hc:decide ((k:Int)<x)=false):False:=by simp at hc;omega
theorem l_z {x:Int}(hc:decide ((x.toNat:Int)<x)=true):False:=by simp at hc;omega
theorem sn {e:Env}:sub e []:=trivial
theorem sc {e e':Env}{k:Nat}{v:Value}(h:x_ e k=some v)(t:sub e e'):sub e ((k,v)::e'):=⟨h,t⟩
theorem a_w {b:Bool}(h:b=true)(h':b=false):False:=by rw [h] at h';cases h'
theorem nmL {q:Nat->Prop}{A B:List Nat}(h:∀k,q k->k∉A++B):∀k,q k->k∉A:=fun k hk hm=>h k hk<|List.mem_append_left _ hm
theorem nmR {q:Nat->Prop}{A B:List Nat}(h:∀k,q k->k∉A++B):∀k,q k->k∉B:=fun k hk hm=>h k hk<|List.mem_append_right _ hm
theorem nnS {y:Int}{u:Unit}(h:nn y=some u):0<=y:=by
 unfold nn at h;split at h
 ·assumption
 ·cases h
theorem a_J {n:Nat}{l:List Value}(h:l.all (fun v=>Nat.beq v.cells.size n)=true):∀v∈l,v.cells.size=n:=fun v hv=>Nat.eq_of_beq_eq_true<|List.all_eq_true.1 h v hv
theorem o_l {x y:Int}(_:inI x):inI (b_3 .i64 x y):=e_T _
theorem l_A (f:BitVec IntKind.i64.bits->BitVec IntKind.i64.bits->BitVec IntKind.i64.bits)(x y:Int):inI (b_n .i64 f x y):=e_T _
theorem o_m {x y:Int}(h:inI x):inI (a_y .i64 x y):=by
 unfold a_y;have hp:(0:Int)<2 ^ (min y.toNat IntKind.i64.bits):=Int.pow_pos (by decide)
 rw [Int.fdiv_eq_ediv_of_nonneg _ (Int.le_of_lt hp)]
 generalize (2:Int) ^ (min y.toNat IntKind.i64.bits)=m at *
 unfold inI at *
 have h1:=Int.natAbs_ediv_le_natAbs x m
 rcases Int.le_total 0 x with G | G
 ·have:=Int.ediv_nonneg G<|Int.le_of_lt hp;omega
 ·have:x / m<=0:=by
   have h2:=Int.ediv_le_ediv hp G
   rwa [Int.zero_ediv] at h2
  omega
theorem L_.at0 {w:World}{b o:Nat}{cs:List Value}{v:Value}(h:L_ w b o cs)(hv:cs[0]? = some v):w.cell? ⟨b,o,none⟩=some v:=h 0 v hv
theorem repS.mono {α:Type}[Dat α]{w:World}{B B':Zone}{v:Value}{l:List α}(h:repS w B v l)(hb:B<=B'):repS w B' v l:=repS.of<|rep_mono h.rep hb
theorem e_Y {α:Type}[Dat α]{w:World}{B:Zone}{cs:List Value}{l:List α}(h:rep w B cs l):∃ao n c,cs=[.slice ao n c]/\repS w B (.slice ao n c) l:=by
 obtain ⟨ao,c,h1,h2⟩:=o_7 h;exact ⟨ao,_,c,h1,h2⟩
theorem i_g {α:Type}[Dat α]{w:World}{S:List Nat}{ao:Option Addr}{n c:Nat}{l:List α}(h:a_ w S (.slice ao n c) l):own w S [.slice ao n c] l:=h.own
theorem QO_ret {σ ρ:Type}{b:Nat}{D:σ->Act->World->Prop}{Qr:ρ->Exit->Act->World->Prop}{o:Out σ ρ}{r:ρ}{ex:Exit}{a:Act}{w:World}(he:o = .ret r)(h:Qr r ex a w):QO b D Qr o ex a w:=.inr ⟨r,he,h⟩
theorem i_h {P:Program}{N:Nat}{e:Env}{w:World}{fn:Func}{σ ρ:Type}{b:Nat}{D:σ->Act->World->Prop}{Rr:ρ->Value->World->Prop}{o:Out σ ρ}{r:ρ}(he:o = .ret r)(h:∀a,Sat N e a->c_B P fn (Rr r) a w):∀a,Sat N e a->QO b D (fun r ex a w=>ex = .ret/\c_B P fn (Rr r) a w) o .ret a w:=fun a ha=>QO_ret he ⟨rfl,h a ha⟩
theorem l_B {w:World}:own w [] [.int .u8 0] (0:UInt8):=⟨rfl,_,rfl,rfl⟩
theorem b_F {σ ρ:Type}{b:Nat}{D:σ->Act->World->Prop}{Qr:ρ->Exit->Act->World->Prop}{o:Out σ ρ}{s:σ}{a:Act}{w:World}(he:o = .brk s)(h:D s a w):QO b D Qr o (.exit b) a w:=.inl ⟨rfl,s,he,h⟩
section
variable {P:Program}{N:Nat}{e:Env}{w:World}{fn:Func}
end
section
variable {X:Nat->Prop}{P:Program}{N:Nat}{e:Env}{w:World}{dst:Option Tmp}{ty:TypeId}{pos:String}{aft:Array Edge}{gd:Option (Nat×Bool)}{x y z:Operand}{T T' E:Nat}
theorem a_o {s t u:Str}(h1:ev e x=some s.v)(h2:ev e y=some t.v)(h:cat s t=some u):Rd X P N ⟨dst,.binOp .add T x y T',ty,pos,aft,gd⟩ e w (Str.v u):=by
 obtain ⟨rfl,hl⟩:=catS h;exact o_W h1 h2 hl
theorem o_n {s t:Str}{a b:Int}(h:b_O s a b=some t)(hs:s.b.length<=LEN):t.b.length<=LEN:=by
 unfold b_O at h
 cases hm:slc s.b a b with
 | none=>rw [hm] at h;cases h
 | some m =>
  rw [hm] at h
  obtain rfl:=som h;obtain ⟨_,_,_,rfl⟩:=slcS hm
  show ((s.b.take b.toNat).drop a.toNat).length<=LEN
  simp;omega
theorem l_C:∀(l:List UInt8)(s:ByteArray),((l.map byteI).foldl (fun r (n:Int)=>r.push<|UInt8.ofNat n.toNat) s)=⟨s.data++l.toArray⟩
 | [],s=>by simp
 | c::l,s=>by
  rw [List.map_cons,List.foldl_cons,l_C l]
  have h:UInt8.ofNat (byteI c).toNat=c:=by unfold byteI;simp
  rw [h]
  simp [ByteArray.push]
theorem i_i {S D:Nat}{B:Zone}{n c:Nat}{ao:Option Addr}{l:List UInt8}(hS:P.underlying S=some (.slice E))(hD:P.underlying D=some .string)(hE:P.underlying E=some (.int .u8))(hs:∀w,(sizeOf E).run P w = .ok 1 w)(hx:ev e x=some (.slice ao n c))(hr:repS w B (.slice ao n c) l) :
  Rd noX P N ⟨dst,.convert S D x,ty,pos,aft,gd⟩ e w (Str.v ⟨l⟩):=fun a ha w' hb=>by
 obtain ⟨ao',c',G,h1,h2,h3,h4⟩:=hr
 cases G
 have hrun:(Conv.bytesToString<|.slice ao l.length c).run P w' = .ok (Str.v ⟨l⟩) w':=by
  cases ao with
  | none =>
   obtain rfl:=h3 rfl
   rfl
  | some p =>
   obtain ⟨g1,J,H⟩:=h4 p rfl
   have hc:∀(j:Nat) v,((l.map byteI).map (Value.int .u8))[j]? = some v->w'.cell? (p.add j)=some v:=fun j v hv=>by
    rw [List.getElem?_map,List.getElem?_map] at hv
    cases hj:l[j]? with
    | none=>rw [hj] at hv;cases hv
    | some x =>
     rw [hj] at hv
     obtain rfl:=Option.some.inj hv;obtain ⟨cs,k1,k2⟩:=H j x hj;obtain rfl:=g_2 k2;have hne:l ≠ []:=by intro h;rw [h] at hj;cases hj
     have k3:=k1 0 _ rfl
     have hp:p.add j=⟨p.block,p.off+j * sz UInt8+0,none⟩:=by
      have I:sz UInt8=1:=rfl
      cases p with
      | mk b o sp =>
       obtain rfl:sp=none:=g1 hne
       rw [Addr.add_lit,I];simp
     rw [hp]
     exact (World.cell?_of_block (w:=w)<|hb.block _ (World.block_lt_of_cell? w _ k3)<|fun h=>h).trans k3
   have hl:=run_loadCells_list (P:=P) w' p ((l.map byteI).map (Value.int .u8)) hc
   rw [List.length_map,List.length_map] at hl
   rw [run_bytesToString w' p l.length c (l.map byteI) hl,l_C]
   simp [Str.v]
 simp only [execOp,ha.ev hx]
 rw [Sem.run_bind,run_convert_bytes_string w' S D E ao l.length c hS hE hD,hrun]
 rfl
end
def a_x (T:Nat)(w:World)(S:List Nat)(v:Value):Option (Int×Int)->Prop
 | none=>v = .nilIface/\S=[]
 | some (p,c)=>∃b,v = .iface T (.pointer<|some ⟨b,0,none⟩)/\S=[b]/\Blk w b [vI p,vI c]/\inI p/\inI c
section
variable {T:Nat}{S:List Nat}{w w':World}{v:Value}{o:Option (Int×Int)}
theorem d_I:a_x T w [] .nilIface none:=⟨rfl,rfl⟩
theorem o_o {g:Nat}{p c:Int}(h:Blk w g [vI p,vI c])(hp:inI p)(hc:inI c):a_x T w [g] (.iface T<|.pointer<|some ⟨g,0,none⟩) (some (p,c)):=⟨g,rfl,rfl,h,hp,hc⟩
theorem o_p {g:Nat}{off:Nat}{p c:Int}(h:Blk w g [vI p,vI c])(hp:inI p)(hc:inI c)(G:off=0):a_x T w [g] (.iface T<|.pointer<|some ⟨g,off,none⟩) (some (p,c)):=by subst G;exact o_o h hp hc
theorem a_x.chg {X:Nat->Prop}(h:a_x T w S v o)(hc:Chg X w w')(hx:∀k∈S,¬X k):a_x T w' S v o:=by
 cases o with
 | none=>exact h
 | some pc=>obtain ⟨b,h1,rfl,h3,h4⟩:=h;exact ⟨b,h1,rfl,h3.chg hc<|hx b<|List.mem_singleton.2 rfl,h4⟩
theorem a_x.ext (h:a_x T w S v o)(hb:Below w.heap.size w w'):a_x T w' S v o:=h.chg (Vw.Below.chg hb<|fun _=>False)<|fun _ _ h=>h
theorem a_x.lt (h:a_x T w S v o):∀k∈S,k<w.heap.size:=by
 cases o with
 | none=>obtain ⟨_,rfl⟩:=h;exact all_nil
 | some pc=>obtain ⟨b,h1,rfl,h3,h4⟩:=h;exact d_ h3.lt
theorem a_x.one (h:a_x T w S v o):v.oneCell'=true:=by
 cases o with
 | none=>obtain ⟨rfl,_⟩:=h;rfl
 | some pc=>obtain ⟨b,h1,_⟩:=h;subst h1;rfl
variable {X:Nat->Prop}{P:Program}{N:Nat}{e:Env}{dst:Option Tmp}{ty:TypeId}{pos:String}{aft:Array Edge}{gd:Option (Nat×Bool)}{x y:Operand}{T1 T2:Nat}
theorem chgIn {g:Nat}{M:List Nat}{w w':World}(hm:g∈M)(h:Chg (· = g) w w'):Chg (· ∈ M) w w':=h.mono fun _ _ hk=>hk ▸ hm
theorem l_D {g n:Nat}{M:List Nat}{w w':World}(hm:g∈M)(h:Chg (· = g) w w'):Chg (fun k=>k∈M∨n<=k) w w':=h.mono fun _ _ hk=>.inl<|hk ▸ hm
theorem b_1 {g n:Nat}{M:List Nat}{w w':World}(hm:n<=g)(h:Chg (· = g) w w'):Chg (fun k=>k∈M∨n<=k) w w':=h.mono fun _ _ hk=>.inr<|hk ▸ hm
theorem b_t {k n:Nat}{M:List Nat}(h:k∉M)(hl:k<n):¬(k∈M∨n<=k):=fun h'=>h'.elim h<|fun h2=>absurd hl<|Nat.not_lt.2 h2
theorem o_ {X:Nat->Prop}{w w':World}(h:Below w.heap.size w w'):Chg X w w':=Vw.Below.chg h X
theorem o_q (d:Nat){D:TypeDesc}(hT:P.underlying T1=some D)(hD:(match D with | .interface _=>true | _=>false)=true)(h:a_x T w S v o)(G:World):(Op.equalIn (d+1) T1 v .nilIface).run P G = .ok o.isNone G:=by
 cases D <;> simp at hD
 cases o with
 | none=>obtain ⟨rfl,_⟩:=h;simp [Op.equalIn,run_underlying hT]
 | some pc=>obtain ⟨p,c⟩:=pc;obtain ⟨b,rfl,_⟩:=h;simp [Op.equalIn,run_underlying hT]
theorem o_r {op:BinOp}{u:Value}(G:World):(eqGuard op T1 x (.const .nilIface) u .nilIface).run P G = .ok () G:=by
 unfold eqGuard
 cases u <;> cases op <;> simp
theorem d_n {D:TypeDesc}(hT:P.underlying T1=some D)(hD:(match D with | .interface _=>true | _=>false)=true)(hx:ev e x=some v)(h:a_x T w S v o):Rd X P N ⟨dst,.binOp .neq T1 x (.const .nilIface) T2,ty,pos,aft,gd⟩ e w (vB o.isSome) :=
 b_e (a2:=.nilIface) hx rfl fun G=>by
  have h1:=o_q 9999 hT hD h G
  have H:(binOp .neq T1 v .nilIface)=(do pure (.bool (!(← Op.equal T1 v .nilIface))):Sem Value):=by
   cases o with
   | none=>obtain ⟨rfl,_⟩:=h;rfl
   | some pc=>obtain ⟨p,c⟩:=pc;obtain ⟨b,rfl,_⟩:=h;rfl
  rw [Sem.run_bind,o_r,H]
  cases o <;> simp [Op.equal,Op.maxDepth,h1]
end
def dec (s:Str)(pos:Nat):Int×Nat:=((Utf8.decode ⟨s.b.toArray⟩ pos).1,(Utf8.decode ⟨s.b.toArray⟩ pos).2)
def b_m (w:World)(g:Nat)(s:Str)(pos:Nat):Prop:=w.heap[g]? = some (.stringIter ⟨s.b.toArray⟩ pos)
section
variable {w w':World}{g:Nat}{s:Str}{pos:Nat}
theorem b_m.lt (h:b_m w g s pos):g<w.heap.size:=(Array.getElem?_eq_some_iff.1 h).1
theorem b_m.ext (h:b_m w g s pos)(hb:Below w.heap.size w w'):b_m w' g s pos:=(hb.block g h.lt).trans h
theorem b_m.chg {X:Nat->Prop}(h:b_m w g s pos)(hc:Chg X w w')(hx:¬X g):b_m w' g s pos:=(hc.block g h.lt hx).trans h
variable {P:Program}{N:Nat}{e:Env}{dst:Option Tmp}{ty:TypeId}{p:String}{aft:Array Edge}{gd:Option (Nat×Bool)}{x:Operand}{T:Nat}
theorem o_s (hT:P.underlying T=some .string)(hx:ev e x=some s.v):Ef P N ⟨dst,.range T x,ty,p,aft,gd⟩ e w (fun v w'=>v = .pointer (some ⟨w.heap.size,0,none⟩)/\Below w.heap.size w w'/\b_m w' w.heap.size s 0) :=
 c_U fun a ha=>⟨_,w.alloc<|.stringIter ⟨s.b.toArray⟩ 0,by simp [execOp,Instr.range,ha.ev hx,run_underlying hT],rfl,c_o w _,heap_alloc_new w _⟩
theorem o_t (hx:ev e x=some (.pointer<|some ⟨g,0,none⟩))(h:b_m w g s pos)(hp:pos<s.b.length):Ef P N ⟨dst,.next x true,ty,p,aft,gd⟩ e w (fun v w'=>v = .tuple #[.bool true,vI (pos:Int),.int .i32 (dec s pos).1]/\b_m w' g s (pos+(dec s pos).2)/\Chg (· ∈ [g]) w w'):=by
 have hg:(getObj g).run P w = .ok (.stringIter ⟨s.b.toArray⟩ pos) w:=by simp [getObj,Sem.run,show w.heap[g]? = _ from h]
 have hs:∀o,(setObj g o).run P w = .ok () { w with heap:=w.heap.setIfInBounds g o }:=fun o=>by simp [setObj,Sem.run,show w.heap[g]? = _ from h]
 have hsz:(⟨s.b.toArray⟩:ByteArray).size=s.b.length:=by show s.b.toArray.size=_;simp
 refine c_U fun a ha=>⟨_,{ w with heap:=w.heap.setIfInBounds g (.stringIter ⟨s.b.toArray⟩<|pos+(dec s pos).2) },?_,rfl,?_,?_⟩
 ·simp [execOp,Instr.next,ha.ev hx,hg,hsz,hp,hs,goInt,dec]
 ·simp [b_m,h.lt]
 ·exact ⟨rfl,rfl,rfl,by simp,fun k hk hx=>by
   have:g ≠ k:=fun h=>hx<|List.mem_singleton.2 h.symm
   simp [Array.getElem?_setIfInBounds_ne this]⟩
theorem o_u (hx:ev e x=some (.pointer<|some ⟨g,0,none⟩))(h:b_m w g s pos)(hp:¬pos<s.b.length):Ef P N ⟨dst,.next x true,ty,p,aft,gd⟩ e w (fun v w'=>v = .tuple #[.bool false]/\Below w.heap.size w w'):=by
 have hg:(getObj g).run P w = .ok (.stringIter ⟨s.b.toArray⟩ pos) w:=by simp [getObj,Sem.run,show w.heap[g]? = _ from h]
 have hsz:(⟨s.b.toArray⟩:ByteArray).size=s.b.length:=by show s.b.toArray.size=_;simp
 refine c_U fun a ha=>⟨_,w,?_,rfl,Below.refl _ _⟩
 simp [execOp,Instr.next,ha.ev hx,hg,hsz,hp]
end
section
variable {A:List Nat}{B C Z:Zone}{i j k l m n:Nat}
theorem e_ (h:∀k∈A,¬B k):∀k,B k->k∉A:=fun k hk ha=>h k ha hk
theorem p_ (h:B<=bl n):∀k,n<=k->¬B k:=fun k hk hb=>absurd (h k hb)<|Nat.not_lt.2 hk
theorem lenz (h:∀k,n<=k->¬B k)(h':j<=n):∀k,n<=k->¬zn B i j k:=fun k hk hz=>hz.elim (h k hk) fun g=>absurd g.2<|Nat.not_lt.2<|Nat.le_trans h' hk
theorem b_G (h:∀k∈A,¬B k)(h1:∀k∈A,k<m)(h2:m<=i):∀k∈A,¬zn B i j k:=fun k hk hz=>hz.elim (h k hk) fun g=>absurd (h1 k hk)<|Nat.not_lt.2<|Nat.le_trans h2 g.1
theorem nbl (h:∀k∈A,n<=k):∀k∈A,¬bl n k:=fun k hk hz=>absurd hz<|Nat.not_lt.2<|h k hk
theorem zin (h1:∀k∈A,i<=k)(h2:∀k∈A,k<j):∀k∈A,zn B i j k:=fun k hk=>.inr ⟨h1 k hk,h2 k hk⟩
theorem zall (h:∀ k∈A,B k)(h':B<=C):∀k∈A,C k:=fun k hk=>h' k<|h k hk
theorem zap (h:B<=bl n)(hk:B k):k<n:=h k hk
theorem zap' (h:B<=C)(hk:B k):C k:=h k hk
end
structure Ag (B:Zone)(w w':World):Prop where
 eq:∀k,B k->k<w.heap.size->w'.heap[k]? = w.heap[k]?
 size:w.heap.size<=w'.heap.size
theorem _root_.Go.RowKit.Below.ag {w w':World}(h:Below w.heap.size w w')(B:Zone):Ag B w w':=⟨fun k _ hk=>h.block k hk,h.size⟩
theorem Chg.agc {X:Nat->Prop}{w w':World}(h:Chg X w w')(B:Zone)(hx:∀k,B k->¬X k):Ag B w w':=⟨fun k hk hl=>h.block k hl<|hx k hk,h.size⟩
theorem Ag.e {B:Zone}{w w' G:World}(h:Ag B w w')(h':Below w'.heap.size w' G):Ag B w G:=⟨fun k hk hl=>(h'.block k<|Nat.lt_of_lt_of_le hl h.size).trans (h.eq k hk hl),Nat.le_trans h.size h'.size⟩
theorem Ag.c {B:Zone}{X:Nat->Prop}{w w' G:World}(h:Ag B w w')(h':Chg X w' G)(hx:∀k,B k->¬X k):Ag B w G:=⟨fun k hk hl=>(h'.block k (Nat.lt_of_lt_of_le hl h.size)<|hx k hk).trans (h.eq k hk hl),Nat.le_trans h.size h'.size⟩
theorem repS.g {α:Type}[Dat α]{w w':World}{B:Zone}{v:Value}{l:List α}(h:repS w B v l)(a:Ag B w w'):repS w' B v l:=repS.of<|rep_eq h.rep a.eq
theorem j_C {n:Nat}{S:List Nat}(h:S.Nodup)(hl:∀k∈S,k<n):(n::S).Nodup:=List.nodup_cons.2 ⟨fun hn=>Nat.lt_irrefl _<|hl n hn,h⟩
theorem c_1 {n:Nat}{S:List Nat}:∀k∈n::S,k∈S∨n<=k:=fun _ hk=>(List.mem_cons.1 hk).elim (fun e=>.inr<|e ▸ Nat.le_refl _) .inl
end Go.Vw
namespace Go.Vw
open Go.RowKit Dat
inductive Val where
 | mk (number:Int) (bytes:List UInt8) (items:List Val)
deriving Inhabited
def Val.number:Val->Int
 | .mk n _ _=>n
def Val.bytes:Val->List UInt8
 | .mk _ b _=>b
def Val.items:Val->List Val
 | .mk _ _ i=>i
inductive RepV (w:World)(B:Zone):List Value->Val->Prop
 | mk {x:Int} {bs:List UInt8} {vs:List Val} {v1:Value} {ao:Option Addr} {c:Nat} {css:Nat->List Value} (hx:inI x) (hb:repS w B v1 bs)
   (h1:vs.length<=c) (h2:vs.length<=LEN) (h3:ao=none->vs=[])
   (h4:∀p,ao=some p->(vs ≠ []->p.spot=none)/\(vs ≠ []->B p.block))
   (h5:∀p,ao=some p->∀(i:Nat)(y:Val),vs[i]? = some y->L_ w p.block (p.off+i * 3) (css i))
   (h6:∀(i:Nat)(y:Val),vs[i]? = some y->RepV w B (css i) y):RepV w B [vI x,v1,.slice ao vs.length c] (.mk x bs vs)
inductive e_D (w:World):List Nat->List Value->Val->Prop
 | nil {x:Int} {bs:List UInt8} {v1:Value} {S1:List Nat} (hx:inI x) (hb:a_ w S1 v1 bs):e_D w S1 [vI x,v1,.slice none 0 0] (.mk x bs [])
 | mk {x:Int} {bs:List UInt8} {vs:List Val} {v1:Value} {S1:List Nat} {g c:Nat} {cur:List Value} {Ss:List (List Nat)} (hx:inI x) (hb:a_ w S1 v1 bs)
   (h1:vs.length<=c) (h2:vs.length<=LEN) (h3:Blk w g cur) (h4:cur.length=c * 3) (h5:Ss.length=vs.length)
   (h6:∀(i:Nat)(y:Val)(Si:List Nat),vs[i]? = some y->Ss[i]? = some Si->e_D w Si ((cur.drop<|i * 3).take 3) y):e_D w (S1++g::List.flatten Ss) [vI x,v1,.slice (some ⟨g,0,none⟩) vs.length c] (.mk x bs vs)
theorem q_L {α:Type}[Dat α]{w:World}{B:Zone}{v:Value}{l:List α}(h:repS w B v l):v.oneCell'=true:=by
 obtain ⟨ao,c,rfl,_⟩:=h;rfl
theorem q_M {α:Type}[Dat α]{w w':World}{B:Zone}{v:Value}{l:List α}(h:repS w B v l)(he:∀k,B k->k<w.heap.size->w'.heap[k]? = w.heap[k]?):repS w' B v l:=repS.of<|rep_eq h.rep he
theorem m_Z {α:Type}[Dat α]{w w':World}{S:List Nat}{v:Value}{l:List α}(h:a_ w S v l)(he:∀k∈S,w'.heap[k]? = w.heap[k]?):a_ w' S v l:=a_.of<|own_eq h.own he
theorem e_E {α:Type}[Dat α]{w:World}{S:List Nat}{v:Value}{l:List α}{B:Zone}(h:a_ w S v l)(he:∀k∈S,B k):repS w B v l:=repS.of<|own_rep h.own he
instance:Dat Val where
 sz:=3
 rep w B cs x:=RepV w B cs x
 own w S cs x:=e_D w S cs x
 rep_len:=by rintro _ _ _ _ ⟨⟩;rfl
 rep_one:=by
  rintro _ _ _ _ ⟨_,hb⟩ c hc
  simp at hc
  rcases hc with rfl | rfl | rfl
  ·rfl
  ·exact q_L hb
  ·rfl
 rep_eq:=by
  intro w w' B cs x h he
  induction h with
  | mk hx hb h1 h2 h3 h4 h5 h6 ih =>
   refine .mk hx (q_M hb he) h1 h2 h3 h4 (fun p hp i y hy=>(h5 p hp i y hy).of_block (he _ ((h4 p hp).2 (by rintro rfl;simp at hy))<|(h5 p hp i y hy).lt ?_)) ih;rintro hn;have:=h6 i y hy
   rw [hn] at this
   cases this
 rep_mono:=by
  intro w B B' cs x h hb
  induction h with
  | mk hx hb' h1 h2 h3 h4 h5 h6 ih=>exact .mk hx (repS.mono hb' hb) h1 h2 h3 (fun p hp=>⟨(h4 p hp).1,fun hn=>hb _<|(h4 p hp).2 hn⟩) h5 ih
 own_eq:=by
  intro w w' S cs x h he
  induction h with
  | nil hx hb=>exact .nil hx<|m_Z hb he
  | mk hx hb h1 h2 h3 h4 h5 h6 ih =>
   exact .mk hx (m_Z hb fun k hk=>he k<|List.mem_append_left _ hk) h1 h2 (h3.of_eq<|he _<|List.mem_append_right _ List.mem_cons_self) h4 h5 fun i y Si hy hS=>ih i y Si hy hS fun k hk=>he k<|List.mem_append_right _<|List.mem_cons_of_mem _<|e_k hS hk
 own_lt:=by
  intro w S cs x h
  induction h with
  | nil hx hb=>exact hb.lt
  | mk hx hb h1 h2 h3 h4 h5 h6 ih =>
   intro k hk
   rcases List.mem_append.1 hk with hk | hk
   ·exact hb.lt k hk
   ·rcases List.mem_cons.1 hk with rfl | hk
    ·exact h3.lt
    ·obtain ⟨Si,hSi,hk⟩:=List.mem_flatten.1 hk;obtain ⟨i,hi⟩:=List.getElem?_of_mem hSi;obtain ⟨y,hy⟩:=zip_some' h5 hi;exact ih i y Si hy hi k hk
 own_rep:=by
  intro w S cs x B h hB
  induction h with
  | nil hx hb=>exact .mk (css:=fun _=>[]) hx (e_E hb hB) (Nat.zero_le _) (Nat.zero_le _) (fun _=>rfl) (fun p hp=>by cases hp) (fun p hp=>by cases hp) (fun i y hy=>by simp at hy)
  | @mk x bs vs v1 S1 g c cur Ss hx hb h1 h2 h3 h4 h5 h6 ih =>
   refine .mk (css:=fun i=>(cur.drop<|i * 3).take 3) hx (e_E hb fun k hk=>hB k<|List.mem_append_left _ hk) h1 h2 (fun h=>by cases h) ?_ ?_ ?_
   ·intro p hp;obtain rfl:=Option.some.inj hp;exact ⟨fun _=>rfl,fun _=>hB g<|List.mem_append_right _ List.mem_cons_self⟩
   ·intro p hp i y hy;obtain rfl:=Option.some.inj hp
    simpa using h3.cells (i * 3) 3
   ·intro i y hy;obtain ⟨Si,hSi⟩:=i_s h5 hy;exact ih i y Si hy hSi fun k hk=>hB k<|List.mem_append_right _<|List.mem_cons_of_mem _<|e_k hSi hk
 pos:=by decide
theorem d_f {w:World}{B:Zone}{cs:List Value}{x:Val}(h:rep w B cs x):∃(G:Option Addr)(I H:Nat)(a2:Option Addr)(J L:Nat),cs=[vI x.number,.slice G I H,.slice a2 J L]/\inI x.number/\repS w B (.slice G I H) x.bytes/\repS w B (.slice a2 J L) x.items:=by
 cases (show RepV w B cs x from h) with
 | @mk x bs vs v1 ao c css hx hb h1 h2 h3 h4 h5 h6 =>
  obtain ⟨G,H,rfl⟩:=repS.shape hb;exact ⟨G,_,H,ao,_,c,rfl,hx,hb,ao,c,rfl,h1,h2,h3,fun p hp=>⟨(h4 p hp).1,(h4 p hp).2,fun i y hy=>⟨css i,h5 p hp i y hy,h6 i y hy⟩⟩⟩
theorem e_0 {w:World}{x:Val}{G:Option Addr}{H I:Nat}{a2:Option Addr}{J L:Nat}{S1 S2:List Nat}(O:inI x.number)(V:a_ w S1 (.slice G H I) x.bytes)(W:a_ w S2 (.slice a2 J L) x.items):own w (S1++S2) [vI x.number,.slice G H I,.slice a2 J L] x:=by
 obtain ⟨x,bs,vs⟩:=x
 rcases W with ⟨he,hv,rfl⟩ | ⟨g,c,cur,Ss,he,h1,h2,h3,h4,rfl,h6,Y⟩
 ·cases he
  cases (show vs=[] from hv)
  rw [List.append_nil]
  exact e_D.nil O V
 ·cases he
  exact e_D.mk O V h1 h2 h3 h4 h6 Y
theorem q_N {w:World}{S:List Nat}{cs:List Value}{x:Val}(h:own w S cs x):∃(G:Option Addr)(I H:Nat)(a2:Option Addr)(J L:Nat)(S1 S2:List Nat),cs=[vI x.number,.slice G I H,.slice a2 J L]/\S=S1++S2/\inI x.number/\a_ w S1 (.slice G I H) x.bytes/\a_ w S2 (.slice a2 J L) x.items:=by
 cases (show e_D w S cs x from h) with
 | nil hx hb =>
  obtain ⟨G,H,rfl⟩:=a_.shape hb;exact ⟨G,_,H,none,0,0,S,[],rfl,by simp,hx,hb,l_x _⟩
 | @mk x bs vs v1 S1 g c cur Ss hx hb h1 h2 h3 h4 h5 h6 =>
  obtain ⟨G,H,rfl⟩:=a_.shape hb;exact ⟨G,_,H,_,_,c,S1,_,rfl,rfl,hx,hb,.inr ⟨g,c,cur,Ss,rfl,h1,h2,h3,h4,rfl,h5,h6⟩⟩
end Go.Vw
namespace Go.Vw
open Go.RowKit Dat
structure g_ where
 name:Str
 kind:Int
 size:Int
 little:Bool
 bytes:List UInt8
 names:List Str
 tags:List Int
 kids:List Int
deriving DecidableEq,Inhabited
instance:Dat g_:=Dat.via<|fun r=>(r.name,r.kind,r.size,r.little,r.bytes,r.names,r.tags,r.kids)
theorem a_v {w:World}{B:Zone}{cs:List Value}{x:g_}(h:rep w B cs x):∃(G:Option Addr)(H I:Nat)(a2:Option Addr)(J L:Nat)(O:Option Addr)(V W:Nat)(Y:Option Addr)(n4 c4:Nat),cs=[x.name.v,vI x.kind,vI x.size,vB x.little,.slice G H I,.slice a2 J L,.slice O V W,.slice Y n4 c4]/\x.name.b.length<=LEN/\inI x.kind/\inI x.size/\repS w B (.slice G H I) x.bytes/\repS w B (.slice a2 J L) x.names/\repS w B (.slice O V W) x.tags/\repS w B (.slice Y n4 c4) x.kids:=by
 obtain ⟨c1_,d1_,rfl,g1,t1⟩:=h;obtain ⟨rfl,p0⟩:=b_P g1;obtain ⟨c2_,d2_,rfl,g2,t2⟩:=t1;obtain ⟨rfl,p1⟩:=T_ g2;obtain ⟨c3_,d3_,rfl,g3,t3⟩:=t2;obtain ⟨rfl,p2⟩:=T_ g3;obtain ⟨c4_,d4_,rfl,g4,t4⟩:=t3;obtain rfl:=o_6 g4;obtain ⟨c5_,d5_,rfl,g5,t5⟩:=t4;obtain ⟨G,H,I,rfl,p3⟩:=e_Y g5;obtain ⟨c6_,d6_,rfl,g6,t6⟩:=t5;obtain ⟨a2,J,L,rfl,p4⟩:=e_Y g6;obtain ⟨c7_,d7_,rfl,g7,t7⟩:=t6;obtain ⟨O,V,W,rfl,p5⟩:=e_Y g7;obtain ⟨Y,n4,c4,rfl,p6⟩:=e_Y t7;exact ⟨G,H,I,a2,J,L,O,V,W,Y,n4,c4,rfl,p0,p1,p2,p3,p4,p5,p6⟩
theorem l_l {w:World}{x:g_}{G:Option Addr}{H I:Nat}{a2:Option Addr}{J L:Nat}{O:Option Addr}{V W:Nat}{Y:Option Addr}{n4 c4:Nat}{S1:List Nat}{S2:List Nat}{S3:List Nat}{S4:List Nat}(p0:x.name.b.length<=LEN)(p1:inI x.kind)(p2:inI x.size)(p3:a_ w S1 (.slice G H I) x.bytes)(p4:a_ w S2 (.slice a2 J L) x.names)(p5:a_ w S3 (.slice O V W) x.tags)(p6:a_ w S4 (.slice Y n4 c4) x.kids):own w (S1++(S2++(S3++(S4)))) [x.name.v,vI x.kind,vI x.size,vB x.little,.slice G H I,.slice a2 J L,.slice O V W,.slice Y n4 c4] x:=by
 have h:own w _ _ x:=(e_f (e_d p0)<|e_f (e_c p1)<|e_f (e_c p2)<|e_f o_8<|e_f (i_g p3)<|e_f (i_g p4)<|e_f (i_g p5)<|i_g p6)
 simpa using h
structure c_ where
 rules:List g_
deriving DecidableEq,Inhabited
instance:Dat c_:=Dat.via<|fun r=>r.rules
theorem n_S {w:World}{B:Zone}{cs:List Value}{x:c_}(h:rep w B cs x):∃(G:Option Addr)(H I:Nat),cs=[.slice G H I]/\repS w B (.slice G H I) x.rules:=by
 obtain ⟨G,H,I,rfl,J⟩:=e_Y h;exact ⟨G,H,I,rfl,J⟩
structure j_z where
 path:Str
 rule:Int
 start:Int
 end_:Int
deriving DecidableEq,Inhabited
instance:Dat j_z:=Dat.via<|fun r=>(r.path,r.rule,r.start,r.end_)
instance:a_u j_z:=⟨fun h=>a_u.flat (α:=Str×Int×Int×Int) h,fun h=>a_u.none (α:=Str×Int×Int×Int) h⟩
structure l_m where
 rule:Int
 tag:Int
deriving DecidableEq,Inhabited
instance:Dat l_m:=Dat.via<|fun r=>(r.rule,r.tag)
instance:a_u l_m:=⟨fun h=>a_u.flat (α:=Int×Int) h,fun h=>a_u.none (α:=Int×Int) h⟩
structure n_T where
 d:c_
 b:List UInt8
 rule:Int
 at_:Int
deriving DecidableEq,Inhabited
instance:Dat n_T:=Dat.via<|fun r=>(r.d,r.b,r.rule,r.at_)
structure n_U where
 d:c_
 b:List UInt8
 list_:List j_z
deriving DecidableEq,Inhabited
instance:Dat n_U:=Dat.via<|fun r=>(r.d,r.b,r.list_)
structure a_n where
 d:c_
 b:List UInt8
deriving DecidableEq,Inhabited
instance:Dat a_n:=Dat.via<|fun r=>(r.d,r.b)
structure l_n where
 position:Int
 code:Int
deriving DecidableEq,Inhabited
instance:Dat l_n:=Dat.via<|fun r=>(r.position,r.code)
instance:a_u l_n:=⟨fun h=>a_u.flat (α:=Int×Int) h,fun h=>a_u.none (α:=Int×Int) h⟩
structure n_V where
 d:c_
 b:List UInt8
 applied:Int
deriving DecidableEq,Inhabited
instance:Dat n_V:=Dat.via<|fun r=>(r.d,r.b,r.applied)
structure Spot where
 at_:Int
 code:Int
deriving DecidableEq,Inhabited
instance:Dat Spot:=Dat.via<|fun r=>(r.at_,r.code)
instance:a_u Spot:=⟨fun h=>a_u.flat (α:=Int×Int) h,fun h=>a_u.none (α:=Int×Int) h⟩
structure l_o where
 code:Int
 position:Int
 path:Str
 rule:Int
deriving DecidableEq,Inhabited
instance:Dat l_o:=Dat.via<|fun r=>(r.code,r.position,r.path,r.rule)
instance:a_u l_o:=⟨fun h=>a_u.flat (α:=Int×Int×Str×Int) h,fun h=>a_u.none (α:=Int×Int×Str×Int) h⟩
structure Tracer where
 d:c_
 b:List UInt8
 path:Str
 rule:Int
deriving DecidableEq,Inhabited
instance:Dat Tracer:=Dat.via<|fun r=>(r.d,r.b,r.path,r.rule)
structure L1Cur where
 b:List UInt8
 i:Int
 h:Int
deriving DecidableEq,Inhabited
instance:Dat L1Cur:=Dat.via<|fun r=>(r.b,r.i,r.h)
structure l_p where
 versions:List c_
deriving DecidableEq,Inhabited
instance:Dat l_p:=Dat.via<|fun r=>r.versions
structure Log where
 bytes:List UInt8
 stored:Int
deriving DecidableEq,Inhabited
instance:Dat Log:=Dat.via<|fun r=>(r.bytes,r.stored)
structure n_W where
 registry:l_p
 log:Log
deriving DecidableEq,Inhabited
instance:Dat n_W:=Dat.via<|fun r=>(r.registry,r.log)
structure l_q where
 name:Str
 version:Int
 data:List UInt8
deriving DecidableEq,Inhabited
instance:Dat l_q:=Dat.via<|fun r=>(r.name,r.version,r.data)
structure l_r where
 kind:Int
 name:Str
 version:Int
 data:List UInt8
deriving DecidableEq,Inhabited
instance:Dat l_r:=Dat.via<|fun r=>(r.kind,r.name,r.version,r.data)
end Go.Vw
namespace Go.Vw
open Go.RowKit Dat
structure GlW (NG:Nat)(D:World->Prop)(w:World)(B:Zone):Prop where
 le:bl NG<=B
 nw:NG<=w.heap.size
 at_:∃u,D u/\∀k,k<NG->w.heap[k]? = u.heap[k]?
section
variable {NG:Nat}{D:World->Prop}{w w':World}{B:Zone}
theorem GlW.mk0 (h:D w)(hB:bl NG<=B)(hw:NG<=w.heap.size):GlW NG D w B:=⟨hB,hw,w,h,fun _ _=>rfl⟩
theorem GlW.ext (h:GlW NG D w B)(hb:Below w.heap.size w w'):GlW NG D w' B:=by
 obtain ⟨u,hu,he⟩:=h.at_;exact ⟨h.le,Nat.le_trans h.nw hb.size,u,hu,fun k hk=>(hb.block k<|Nat.lt_of_lt_of_le hk h.nw).trans (he k hk)⟩
theorem GlW.chg {X:Nat->Prop}(h:GlW NG D w B)(hc:Chg X w w')(hx:∀k,B k->¬X k):GlW NG D w' B:=by
 obtain ⟨u,hu,he⟩:=h.at_;exact ⟨h.le,Nat.le_trans h.nw hc.size,u,hu,fun k hk=>(hc.block k (Nat.lt_of_lt_of_le hk h.nw)<|hx k<|h.le k hk).trans (he k hk)⟩
theorem GlW.mono {B':Zone}(h:GlW NG D w B)(hb:B<=B'):GlW NG D w B':=⟨zt h.le hb,h.nw,h.at_⟩
theorem GlW.cell (h:GlW NG D w B){a:Addr}{v:Value}(hD:∀u,D u->u.cell? a=some v)(ha:a.block<NG):w.cell? a=some v:=by
 obtain ⟨u,hu,he⟩:=h.at_
 rw [World.cell?_of_block (w:=u) (he _ ha)];exact hD u hu
theorem GlW.tab {P:Program}(h:GlW NG D w B){name:String}{k:IntKind}{zs:List Int}{g:Nat}(hD:∀u,D u->Lib.TabIs P u name k zs)(hg:P.globalNamed name=some g)(ha:g<NG):Lib.TabIs P w name k zs:=by
 obtain ⟨u,hu,he⟩:=h.at_;have:=hD u hu;unfold Lib.TabIs World.var? at *
 rw [hg] at *
 simp only [Option.bind_some] at *
 rw [he g ha];exact this
end
theorem o_v (w:World)(os:Array Obj)(k:Nat):Below w.heap.size w (Sort.grow (w.drewN k) os) :=
 ⟨rfl,rfl,rfl,by simp [Sort.grow,World.drewN],fun j hj=>by
  simp only [Sort.grow,World.drewN]
  rw [Array.getElem?_append_left hj]⟩
theorem o_w {P:Program}{f:FuncId}{args:Array Value}{w:World}{v:Value}(h:Calls P f args w fun e w'=>e = .returned v/\∃k os,w'=Sort.grow (w.drewN k) os) :
  l_ P f args.toList w (fun r w'=>v=r/\Below w.heap.size w w') :=
 ⟨by
  have:args.toList.toArray=args:=by simp
  rw [this]
  exact h.mono fun e w' ⟨he,k,os,hw⟩=>⟨_,he,rfl,hw ▸ o_v _ _ _⟩⟩
theorem as_chg {w:World}{g:Nat}{u v:Value}{o1 o2 o3 o4:Obj}(_h:Blk w g [u]):Chg (· = g) w (((((w.alloc o1).alloc o2).alloc o3).alloc o4).setCell ⟨g,0,none⟩ v):=by
 exact Chg.comp (X:=(· = g)) (Y:=(· = g)) (Vw.Below.chg (bup (bup (bup (c_o w o1)<|c_o _ o2)<|c_o _ o3)<|c_o _ o4) _) (show Chg (· = g) _ _ from l_J _ ⟨g,0,none⟩ _)<|fun _ _ h=>h
theorem as_blk {w:World}{g:Nat}{u v:Value}{o1 o2 o3 o4:Obj}(h:Blk w g [u]):Blk (((((w.alloc o1).alloc o2).alloc o3).alloc o4).setCell ⟨g,0,none⟩ v) g [v]:=by
 have h1:=(((h.ext<|c_o w o1).ext (c_o _ o2)).ext (c_o _ o3)).ext (c_o _ o4)
 simpa using h1.set 0 v
def j_D (x:Int):Option Str:=some ⟨Lib.itoa x⟩
end Go.Vw
namespace Go.Vw
open Go.RowKit Dat
section
variable {X:Nat->Prop}{P:Program}{N:Nat}{e:Env}{w:World}{dst:Option Tmp}{ty:TypeId}{pos:String}{aft:Array Edge}{gd:Option (Nat×Bool)}{x y z:Operand}{T T' E:Nat}
end
def anyX:Nat->Prop:=fun _=>True
theorem i_j {X:Nat->Prop}{w w':World}(h:Chg X w w'):Chg anyX w w':=⟨h.os,h.tape,h.output,h.size,fun _ _ hn=>absurd trivial hn⟩
@[reducible] def un7 {G H I J L O V δ:Type} (f:G->H->I->J->L->O->V->δ):G×H×I×J×L×O×V->δ | (W,a2,Y,a4,a5,a6,a7)=>f W a2 Y a4 a5 a6 a7
@[simp] theorem un7_mk {G H I J L O V δ:Type} (f:G->H->I->J->L->O->V->δ) (W:G) (a2:H) (Y:I) (a4:J) (a5:L) (a6:O) (a7:V):un7 f (W,a2,Y,a4,a5,a6,a7)=f W a2 Y a4 a5 a6 a7:=rfl
@[reducible] def un8 {G H I J L O V t8 δ:Type} (f:G->H->I->J->L->O->V->t8->δ):G×H×I×J×L×O×V×t8->δ | (W,a2,Y,a4,a5,a6,a7,a8)=>f W a2 Y a4 a5 a6 a7 a8
@[simp] theorem un8_mk {G H I J L O V t8 δ:Type} (f:G->H->I->J->L->O->V->t8->δ) (W:G) (a2:H) (Y:I) (a4:J) (a5:L) (a6:O) (a7:V) (a8:t8):un8 f (W,a2,Y,a4,a5,a6,a7,a8)=f W a2 Y a4 a5 a6 a7 a8:=rfl
@[reducible] def un9 {G H I J L O V t8 t9 δ:Type} (f:G->H->I->J->L->O->V->t8->t9->δ):G×H×I×J×L×O×V×t8×t9->δ | (W,a2,Y,a4,a5,a6,a7,a8,a9)=>f W a2 Y a4 a5 a6 a7 a8 a9
@[simp] theorem un9_mk {G H I J L O V t8 t9 δ:Type} (f:G->H->I->J->L->O->V->t8->t9->δ) (W:G) (a2:H) (Y:I) (a4:J) (a5:L) (a6:O) (a7:V) (a8:t8) (a9:t9):un9 f (W,a2,Y,a4,a5,a6,a7,a8,a9)=f W a2 Y a4 a5 a6 a7 a8 a9:=rfl
@[reducible] def un10 {G H I J L O V t8 t9 a0 δ:Type} (f:G->H->I->J->L->O->V->t8->t9->a0->δ):G×H×I×J×L×O×V×t8×t9×a0->δ | (W,a2,Y,a4,a5,a6,a7,a8,a9,aa)=>f W a2 Y a4 a5 a6 a7 a8 a9 aa
@[simp] theorem un10_mk {G H I J L O V t8 t9 a0 δ:Type} (f:G->H->I->J->L->O->V->t8->t9->a0->δ) (W:G) (a2:H) (Y:I) (a4:J) (a5:L) (a6:O) (a7:V) (a8:t8) (a9:t9) (aa:a0):un10 f (W,a2,Y,a4,a5,a6,a7,a8,a9,aa)=f W a2 Y a4 a5 a6 a7 a8 a9 aa:=rfl
end Go.Vw
namespace Go.Vw
open Go.RowKit Dat
def PtrR {α:Type}[Dat α](w:World)(B:Zone)(b o:Nat)(x:α):Prop:=∃cs,L_ w b o cs/\rep w B cs x/\B b
def ptrO {α:Type}[Dat α](w:World)(B:Zone)(v:Value):Option α->Prop
 | none=>v = .pointer none
 | some x=>∃b o,v = .pointer (some ⟨b,o,none⟩)/\PtrR w B b o x
theorem PtrR.mk {α:Type}[Dat α]{w:World}{B:Zone}{b o:Nat}{cs:List Value}{x:α}(h:L_ w b o cs)(hr:rep w B cs x)(hb:B b):PtrR w B b o x:=⟨cs,h,hr,hb⟩
theorem ptrO.mk {α:Type}[Dat α]{w:World}{B:Zone}{b o:Nat}{x:α}(h:PtrR w B b o x):ptrO w B (.pointer<|some ⟨b,o,none⟩) (some x):=⟨b,o,rfl,h⟩
theorem ptrO.nil {α:Type}[Dat α]{w:World}{B:Zone}:ptrO w B (.pointer none) (none:Option α):=rfl
section
variable {X:Nat->Prop}{P:Program}{N:Nat}{e:Env}{w:World}{dst:Option Tmp}{ty:TypeId}{pos:String}{aft:Array Edge}{gd:Option (Nat×Bool)}{x:Operand}{T1 T2 E:Nat}
end
end Go.Vw
namespace Go.Vw
open Go.RowKit Dat
structure RowI (m:Nat)(l:List Int):Prop where
 len:l.length=m
 inn:∀x∈l,inI x
section
variable {P:Program}{N:Nat}{e:Env}{w:World}{X:Nat->Prop}{dst:Option Tmp}{T E m:Nat}{ty:TypeId}{pos:String}{aft:Array Edge}{gd:Option (Nat×Bool)}{x y:Operand}
theorem RowI.at {l:List Int}{i z:Int}(hr:RowI m l)(hi:idx l i=some z):inI z :=
 hr.inn _ (List.mem_of_getElem? (a_4 hi).2.1)
end
end Go.Vw
namespace Go.Vw
open Go.RowKit Dat
def Hole (w:World)(G:Nat)(S:List Nat)(b o:Nat)(x:Val)(k:Val->Val):Prop :=
 ∃cur Sx,Blk w b cur/\o+3<=cur.length/\own w Sx ((cur.drop o).take 3) x/\Sx.Nodup/\b∉Sx/\b∈G::S/\(∀j∈Sx,j∈S) /\
  ∀(Y:Nat->Prop)(w':World)(cur':List Value)(x':Val)(Sx':List Nat),(∀j∈G::S,Y j->j=b∨j∈Sx)->Blk w' b cur'->cur'.length=cur.length->(∀j,j<o∨o+3<=j->cur'[j]? = cur[j]?)->own w' Sx' ((cur'.drop o).take 3) x'->Chg Y w w'->Sx'.Nodup->(∀j∈Sx',j∈Sx∨w.heap.size<=j) ->
   ∃cs S',Blk w' G cs/\own w' S' cs (k x')/\S'.Nodup/\(∀j∈S',j∈S∨w.heap.size<=j)
theorem o_z {w:World}{S:List Nat}{cs:List Value}{x:Val}(h:own w S cs x):cs.length=3:=by
 obtain ⟨_,_,_,_,_,_,_,_,rfl,_⟩:=q_N h;rfl
theorem Hole.rd {w w':World}{B:Zone}{G:Nat}{S:List Nat}{b o:Nat}{x:Val}{k:Val->Val}(h:Hole w G S b o x k)(hb:Below w.heap.size w w')(hS:∀j∈G::S,B j):PtrR w' B b o x:=by
 obtain ⟨cur,Sx,h1,h2,h3,h4,h5,h6,H,I⟩:=h;exact ⟨_,(h1.ext hb).row o 3 rfl,own_rep (g_h h3 hb)<|fun j hj=>hS j<|List.mem_cons_of_mem _<|H j hj,hS b h6⟩
theorem Hole.put {w I:World}{J:Nat}{S:List Nat}{b o:Nat}{x y:Val}{k:Val->Val}{Sy:List Nat}{cs:List Value}(h:Hole w J S b o x k)(hb:Below w.heap.size w I)(hy:own I Sy cs y)(hn:Sy.Nodup)(hs:∀j∈Sy,w.heap.size<=j) :
  ∃cur,Blk I b cur/\o+3<=cur.length/\cs.length=3/\∀G,Blk G b (cur.take o++cs++cur.drop (o+3))->Chg (· = b) I G->∃c' S',Blk G J c'/\own G S' c' (k y)/\S'.Nodup/\(∀j∈S',j∈S∨w.heap.size<=j):=by
 obtain ⟨cur,Sx,h1,h2,h3,h4,h5,h6,O,L⟩:=h;have H:=o_z hy;refine ⟨cur,h1.ext hb,h2,H,fun G hB hc=>?_⟩;have hbl:b<w.heap.size:=h1.lt;have hlc:(cur.take o).length=o:=by rw [List.length_take];omega
 have hnb:b∉Sy:=fun q=>absurd (hs b q)<|Nat.not_le.2 hbl
 refine L (fun j=>j=b) G _ y Sy (fun j hj e=>.inl e) hB ?_ ?_ ?_ ?_ hn<|fun j hj=>.inr<|hs j hj
 ·simp only [List.length_append,List.length_drop,hlc,H];omega
 ·intro j hj
  rcases hj with q | q
  ·rw [List.append_assoc,List.getElem?_append_left (by omega),List.getElem?_take,if_pos q]
  ·rw [List.getElem?_append_right (by simp only [List.length_append,hlc,H];omega),List.getElem?_drop]
   congr 1
   simp only [List.length_append,hlc,H];omega
 ·rw [List.append_assoc,List.drop_append,List.drop_of_length_le (by omega),hlc,Nat.sub_self,List.drop_zero,List.nil_append,List.take_append,List.take_of_length_le (by omega),H,Nat.sub_self,List.take_zero,List.append_nil]
  exact e_Z hy hc fun j hj e=>hnb<|e ▸ hj
 ·exact ((Chg.refl _ w).ext hb).comp hc fun j hlt e=>e
end Go.Vw
namespace Go.Vw
open Go.RowKit Dat
section
variable {P:Program}{N:Nat}{e:Env}{w:World}{X:Nat->Prop}{dst:Option Tmp}{ty:TypeId}{pos:String}{aft:Array Edge}{gd:Option (Nat×Bool)}{x:Operand}
theorem o_0 {f:FuncId}{first:List Operand}{vs:List Value}(hv:evs e first=some vs):Rd X P N ⟨dst,.makeFunc (.func f) first.toArray #[],ty,pos,aft,gd⟩ e w (.func (.func f) vs.toArray #[]):=fun a ha w' _=>by
 have hm:(first.toArray.map a.eval)=vs.toArray:=by rw [List.map_toArray,ha.evs hv]
 simp [execOp,Instr.makeFunc,hm]
theorem o_1 {f:FuncId}{args:List Operand}{tys:Array TypeId}{vs first:List Value}{R:Value->World->Prop}(hcall:∀(args:Array Value)(w:World),(callFunc f args).run P w = .ok (.enter f args) w)(hx:ev e x=some (.func (.func f) first.toArray #[]))(hv:evs e args=some vs)(hc:l_ P f (first++vs) w R) :
  Ef P N ⟨dst,.call { callee:=.value x,args:=args.toArray,argTypes:=tys },ty,pos,aft,gd⟩ e w R:=⟨fun a ha Q=>by
 have hm:(args.toArray.map a.eval)=vs.toArray:=by rw [List.map_toArray,ha.evs hv]
 unfold Oper.wp
 have hr:(execOp a.eval ⟨dst,.call { callee:=.value x,args:=args.toArray,argTypes:=tys },ty,pos,aft,gd⟩).run P w = .ok (.enter f (first++vs).toArray) w:=by
  simp [execOp,resolve,ha.ev hx,Deferred.ofValue,invoke,hcall,hm]
 rw [hr]
 exact Calls.mono hc.run fun e' w' ⟨v,he,hR⟩=>by subst he;exact ⟨v,rfl,hR⟩⟩
end
end Go.Vw
namespace Go.Vw
open Go.RowKit Dat
abbrev c_A:Type:=Nat×List Str
def g_a (l:List Str)(s:Str):Str:=⟨Lib.join (l.map (·.b)) s.b⟩
def i_k (l:List Str)(s:Str):Option Str:=if (g_a l s).b.length<=LEN then some (g_a l s) else none
def shU (c:UInt8)(k:Nat):UInt8:=UInt8.ofNat<|c.toNat / 2 ^ k
theorem shU_eq {c:UInt8}{q:Int}(G:0<=q)(H:q<=8):a_y .u8 (byteI c) q=byteI (shU c q.toNat):=by
 have hc:=c.toNat_lt;unfold a_y shU byteI
 rw [show min q.toNat IntKind.u8.bits=q.toNat from Nat.min_eq_left (by show q.toNat<=8;omega)]
 have h1:c.toNat / 2 ^ q.toNat<256:=Nat.lt_of_le_of_lt (Nat.div_le_self _ _) hc
 rw [Int.fdiv_eq_ediv_of_nonneg _ (by exact Int.le_of_lt<|Int.pow_pos (by decide))]
 rw [UInt8.toNat_ofNat',Nat.mod_eq_of_lt h1]
 simp
theorem and_eq (a b:UInt8):b_n .u8 (· &&& ·) (byteI a) (byteI b)=byteI (a &&& b):=by
 unfold b_n byteI;have ha:=a.toNat_lt;have hb:=b.toNat_lt
 have G:BitVec.ofInt IntKind.u8.bits (a.toNat:Int)=a.toBitVec:=by
  apply BitVec.eq_of_toNat_eq
  rw [BitVec.toNat_ofInt]
  show ((a.toNat:Int) % 256).toNat=a.toNat
  omega
 have H:BitVec.ofInt IntKind.u8.bits (b.toNat:Int)=b.toBitVec:=by
  apply BitVec.eq_of_toNat_eq
  rw [BitVec.toNat_ofInt]
  show ((b.toNat:Int) % 256).toNat=b.toNat
  omega
 rw [G,H]
 show IntKind.u8.wrap (((a &&& b).toNat:Nat):Int)=_
 have hab:=(a &&& b).toNat_lt
 rw [IntKind.wrap_u8]
 omega
section
variable {X:Nat->Prop}{P:Program}{N:Nat}{e:Env}{w:World}{dst:Option Tmp}{ty:TypeId}{pos:String}{aft:Array Edge}{gd:Option (Nat×Bool)}{x y:Operand}{T T':TypeId}
theorem o_x {k':IntKind}{c:UInt8}{q:Int}(h1:ev e x=some (vU<|byteI c))(h2:ev e y=some (.int k' q))(G:0<=q/\q<=8):Rd X P N ⟨dst,.binOp .shr T x y T',ty,pos,aft,gd⟩ e w (vU<|byteI<|shU c q.toNat):=by
 have:=j_J (X:=X) (P:=P) (N:=N) (w:=w) (dst:=dst) (ty:=ty) (pos:=pos) (aft:=aft) (gd:=gd) (T:=T) (T':=T') (k':=k') h1 h2 G.1
 rw [shU_eq G.1 G.2] at this
 exact this
theorem o_y {a b:UInt8}(h1:ev e x=some (vU<|byteI a))(h2:ev e y=some (vU<|byteI b)):Rd X P N ⟨dst,.binOp .and T x y T',ty,pos,aft,gd⟩ e w (vU<|byteI<|a &&& b):=by
 have:=rd_and (X:=X) (P:=P) (N:=N) (w:=w) (dst:=dst) (ty:=ty) (pos:=pos) (aft:=aft) (gd:=gd) (T:=T) (T':=T') h1 h2
 rw [and_eq] at this
 exact this
end
end Go.Vw
namespace Go.Vw
open Go.RowKit Dat
theorem o_A {w:World}{B:Zone}{ao:Option Addr}{n c:Nat}{l:List Str}(h:repS w B (.slice ao n c) l) :
  n=l.length/\l.length<=c/\l.length<=LEN/\(l=[]∨∃b o,ao=some ⟨b,o,none⟩/\B b/\∀(j:Nat) x,(l.map<|fun s=>(⟨s.b.toArray⟩:ByteArray))[j]? = some x->w.cell? ⟨b,o+j,none⟩=some (.string x)):=by
 obtain ⟨ao',c',he,h1,h2,h3,h4⟩:=h
 cases he
 refine ⟨rfl,h1,h2,?_⟩
 by_cases hl:l=[]
 ·exact .inl hl
 right
 cases ao with
 | none=>exact absurd (h3 rfl) hl
 | some p =>
  obtain ⟨G,H,I⟩:=h4 p rfl;have hs:=G hl;obtain ⟨b,o,s⟩:=p
  simp only at hs
  subst hs;refine ⟨b,o,rfl,H hl,fun j x hx=>?_⟩
  rw [List.getElem?_map] at hx
  cases hj:l[j]? with
  | none=>rw [hj] at hx;cases hx
  | some t =>
   rw [hj] at hx
   obtain rfl:=Option.some.inj hx;obtain ⟨cs,J,L⟩:=I j t hj;obtain ⟨rfl,_⟩:=b_P L;have:=J 0 t.v rfl
   simpa [show sz Str=1 from rfl] using this
theorem o_B {P:Program}{f:FuncId}{G a2 v:Value}{w:World}{R:Value->World->Prop}(h:Calls P f #[G,a2] w fun e w'=>e = .returned v/\Below w.heap.size w w')(hR:∀w',Below w.heap.size w w'->R v w'):l_ P f [G,a2] w R :=
 ⟨h.mono fun e w' ⟨he,hb⟩=>⟨_,he,hR w' hb⟩⟩
theorem l_E (l:List Str)(s:Str):(⟨(Lib.join ((l.map<|fun s=>(⟨s.b.toArray⟩:ByteArray)).map (·.data.toList)) (⟨s.b.toArray⟩:ByteArray).data.toList).toArray⟩:ByteArray)=⟨(g_a l s).b.toArray⟩:=by
 unfold g_a
 simp [List.map_map,Function.comp_def]
end Go.Vw
namespace Go.Vw
open Go.RowKit Dat
def b_T {α:Type}(kv:α->Value)(ok:α->Prop)(w:World)(g:Nat)(f:α->Bool):Prop :=
 ∃es clock,w.heap[g]? = some (.map es clock)/\(∀e∈es.toList,∃x,ok x/\e.key=kv x/\e.val = .bool (f x))/\(∀x,(∀e∈es.toList,e.key ≠ kv x)->f x=false) /\
  es.toList.Pairwise (fun a b=>a.key ≠ b.key)
section
variable {α:Type}{kv:α->Value}{ok:α->Prop}{w w':World}{g:Nat}{f:α->Bool}
theorem b_T.lt (h:b_T kv ok w g f):g<w.heap.size:=by obtain ⟨es,c,h,_⟩:=h;exact (Array.getElem?_eq_some_iff.1 h).1
theorem b_T.of_eq (h:b_T kv ok w g f)(he:w'.heap[g]? = w.heap[g]?):b_T kv ok w' g f:=by obtain ⟨es,c,h,r⟩:=h;exact ⟨es,c,he.trans h,r⟩
theorem b_T.ext (h:b_T kv ok w g f)(hb:Below w.heap.size w w'):b_T kv ok w' g f:=h.of_eq<|hb.block g h.lt
theorem b_T.chg {X:Nat->Prop}(h:b_T kv ok w g f)(hc:Chg X w w')(hx:¬X g):b_T kv ok w' g f:=h.of_eq<|hc.block g h.lt hx
variable {X:Nat->Prop}{P:Program}{N:Nat}{e:Env}{dst:Option Tmp}{ty:TypeId}{p:String}{aft:Array Edge}{gd:Option (Nat×Bool)}{x y z:Operand}{T:Nat}{k:α}
end
theorem nm0 {k:Nat}:k∉([]:List Nat):=by simp
theorem i_r {X:Nat->Prop}{P:Program}{N:Nat}{e:Env}{w:World}{dst:Option Tmp}{ty:TypeId}{p:String}{aft:Array Edge}{gd:Option (Nat×Bool)}{x:Operand}{T:Nat}{s t:Str}{a b:Int}{lo hi:Option Operand}(hT:P.underlying T=some .string)(hx:ev e x=some s.v)
  (hlo:evo e lo 0 a) (hhi:evo e hi s.b.length b) (hs:s.b.length<=LEN) (hm:b_O s a b=some t):Rd X P N ⟨dst,.slice T x lo hi none,ty,p,aft,gd⟩ e w t.v:=by
 unfold b_O at hm
 obtain ⟨m,G,rfl⟩:=Option.map_eq_some_iff.1 hm;obtain ⟨g1,H,I,rfl⟩:=slcS G;have:=G_;intro act ha w' _;have hsz:(⟨s.b.toArray⟩:ByteArray).size=s.b.length:=by show s.b.toArray.size=_;simp
 have hb:∀code,(Instr.sliceBound (vI b) s.b.length code).run P w' = .ok b.toNat w':=fun code=>run_sliceBound w' .i64 b s.b.length code (by omega) (by omega)
 have hal:∀code,(Instr.sliceBound (vI a) b.toNat code).run P w' = .ok a.toNat w':=fun code=>run_sliceBound w' .i64 a b.toNat code g1 (by omega)
 have hbs:(Instr.sliceBounds false s.b.length s.b.length (lo.map act.eval) (hi.map act.eval) none).run P w' = .ok (a.toNat,b.toNat,s.b.length) w':=by
  cases lo with
  | none =>
   obtain rfl:a=0:=hlo
   cases hi with
   | none =>
    obtain rfl:b=(s.b.length:Int):=hhi
    simp [Instr.sliceBounds]
   | some y=>simp [Instr.sliceBounds,ha.ev hhi,hb]
  | some u =>
   cases hi with
   | none =>
    obtain rfl:b=(s.b.length:Int):=hhi;have hal':∀code,(Instr.sliceBound (vI a) s.b.length code).run P w' = .ok a.toNat w':=fun code=>by simpa using hal code
    simp [Instr.sliceBounds,ha.ev hlo,hal']
   | some y=>simp [Instr.sliceBounds,ha.ev hlo,ha.ev hhi,hb,hal]
 have he:(⟨s.b.toArray⟩:ByteArray).extract a.toNat b.toNat=⟨((s.b.take b.toNat).drop a.toNat).toArray⟩:=by
  apply ByteArray.ext
  rw [ByteArray.data_extract]
  simp [List.drop_take]
 have h1:(Instr.sliceAt T s.v (lo.map act.eval) (hi.map act.eval) none).run P w' = .ok (.string<|(⟨s.b.toArray⟩:ByteArray).extract a.toNat b.toNat) w':=by
  show (Instr.sliceAt T (.string ⟨s.b.toArray⟩) _ _ none).run P w'=_
  simp [Instr.sliceAt,run_underlying hT,Instr.slice,hsz,hbs]
 simp only [execOp,ha.ev hx,Option.map_none,Sem.run_bind,h1,Result.andThen_ok,he]
 rfl
end Go.Vw
namespace Go.Vw
open Go.RowKit Dat
inductive LfE (P:Program):Nat->Value->Value->Bool->Prop
 | int {t:Nat} {p q:Int} (h:P.underlying t=some (.int .i64)):LfE P t (vI p) (vI q) (p==q)
 | str {t:Nat} {s r:Str} (h:P.underlying t=some .string):LfE P t s.v r.v (s.b==r.b)
 | bool {t:Nat} {p q:Bool} (h:P.underlying t=some .bool):LfE P t (vB p) (vB q) (p==q)
inductive FsE (P:Program)(xs ys:Array Value):List Field->Bool->Prop
 | nil:FsE P xs ys [] true
 | cons {f:Field} {fs:List Field} {a b:Value} {r q:Bool} (hn:(f.name != "_")=true) (hg:∀w,(isAgg f.type).run P w = .ok false w) (hx:xs[f.offset]? = some a) (hy:ys[f.offset]? = some b) (hl:LfE P f.type a b r) (ht:FsE P xs ys fs q):FsE P xs ys (f::fs) (r && q)
theorem LfE.run {P:Program}{t:Nat}{a b:Value}{r:Bool}(h:LfE P t a b r)(d:Nat)(w:World):(Op.equalIn (d+1) t a b).run P w = .ok r w:=by
 cases h with
 | int h=>exact run_equalIn_int w d t _ _ _ _ h
 | str h =>
  rename_i s r
  have:=run_equalIn_string w d t ⟨s.b.toArray⟩ ⟨r.b.toArray⟩ h
  rw [l_P,l_P] at this
  exact this
 | bool h=>exact run_equalIn_bool' w d t _ _ h
theorem l_u {P:Program}{t:Nat}{xs:Array Value}{o:Nat}{v:Value}(hg:∀w,(isAgg t).run P w = .ok false w)(hx:xs[o]? = some v)(w:World):(part t xs o).run P w = .ok v w:=by
 simp [part,hg,hx,Result.andThen]
theorem FsE.run {P:Program}{xs ys:Array Value}{fs:List Field}{r:Bool}(h:FsE P xs ys fs r)(d:Nat)(w:World):(Op.eqFields (d+1) xs ys fs).run P w = .ok r w:=by
 induction h with
 | nil=>simp [Op.eqFields]
 | cons hn hg hx hy hl ht ih =>
  rename_i f fs a b r q
  have hn':f.name ≠ "_" := by simpa using hn
  simp only [Op.eqFields,if_pos hn',Sem.run_bind,l_u hg hx,l_u hg hy,Result.andThen_ok,hl.run d w]
  cases r with
  | true=>simp only [Bool.not_true,Bool.false_eq_true,if_false,Bool.true_and];exact ih
  | false=>simp
structure EqA {α:Type}[DecidableEq α](P:Program)(T:Nat)(kv:α->Value):Prop where
 run:∀x y,∃xs ys fs,kv x = .agg xs/\kv y = .agg ys/\P.underlying T=some (.struct fs)/\FsE P xs ys fs.toList (decide<|x=y)
 stood:P.stoodInHeld T=false
 guard:P.eqGuardType P.depth T=false
section
variable {α:Type}[DecidableEq α]{kv:α->Value}{w:World}{X:Nat->Prop}{P:Program}{N:Nat}{e:Env}{dst:Option Tmp}{ty:TypeId}{pos:String}{aft:Array Edge}{gd:Option (Nat×Bool)}{x y:Operand}{T T':Nat}{a b:α}
theorem EqA.eql (E:EqA P T kv)(w:World):(Op.equalIn 10000 T (kv a)<|kv b).run P w = .ok (decide<|a=b) w:=by
 obtain ⟨xs,ys,fs,h1,h2,h3,h4⟩:=E.run a b;have hf:P.fieldsOf T=fs:=by unfold Program.fieldsOf;rw [h3]
 rw [h1,h2,run_equalIn_struct w 9999 T xs ys (by rw [h3,hf]) E.stood,hf]
 exact h4.run 9998 w
end
theorem h_P {w:World}{x:UInt8}{i:Int}(h:byteI x=i):own w [] [.int .u8 i] x:=by subst h;exact a_s
section
variable {α:Type}{kv:α->Value}{ok:α->Prop}{w w':World}{g:Nat}{f:α->Bool}{P:Program}{N:Nat}{e:Env}{dst:Option Tmp}{ty:TypeId}{p:String}{aft:Array Edge}{gd:Option (Nat×Bool)}{x y z:Operand}{T U:Nat}{k:α}
end
section
variable {P:Program}{N:Nat}{e:Env}{w:World}{fn:Func}{R:Value->World->Prop}
end
end Go.Vw
namespace Go.Vw
open Go.RowKit Dat
section
variable {P:Program}{N:Nat}{ops:Array Oper}{K:Act->World->Prop}{T0:Nat}{p:a_r}{op:Op}{d:Nat}{e:Env}{w:World}{X:Nat->Prop}{dst:Option Tmp}{T E:Nat}{ty:TypeId}{pos:String}{aft:Array Edge}{gd:Option (Nat×Bool)}{x y:Operand}
theorem dAn {i:Nat}{v:Value}(ho:ops[i]? = some ⟨some d,op,ty,pos,aft,none⟩)(hf:Nat.blt d N=true)(h:Rd noX P N ⟨some d,op,ty,pos,aft,none⟩ e w v)(k:PR X P N ops T0 K p ((d,v)::e) w):PR X P N ops T0 K (.ef i p) e w :=
 j_w (R:=fun v' w'=>v'=v/\w'=w) ho rfl hf (c_U fun a ha=>⟨v,w,h a ha w<|Chg.refl _ _,rfl,rfl⟩) (.inr fun _ _ h=>by rw [h.2];exact Chg.refl _ _) (fun v' w' h=>by obtain ⟨rfl,rfl⟩:=h;exact k)
end
end Go.Vw
namespace Go.Vw
open Go.RowKit Dat
section
variable {X:Nat->Prop}{P:Program}{N:Nat}{e:Env}{w:World}{dst:Option Tmp}{ty:TypeId}{pos:String}{aft:Array Edge}{gd:Option (Nat×Bool)}{x:Operand}
theorem l_v {f:FuncId}{caps:List Operand}{vs:List Value}(hv:evs e caps=some vs):Rd X P N ⟨dst,.makeFunc (.func f) #[] caps.toArray,ty,pos,aft,gd⟩ e w (.func (.func f) #[] vs.toArray):=fun a ha w' _=>by
 have hm:(caps.toArray.map a.eval)=vs.toArray:=by rw [List.map_toArray,ha.evs hv]
 simp [execOp,Instr.makeFunc,hm]
theorem c_V {f:FuncId}{args:List Operand}{tys:Array TypeId}{vs caps:List Value}{R:Value->World->Prop}(hcall:∀(args:Array Value)(w:World),(callFunc f args).run P w = .ok (.enter f args) w)(hx:ev e x=some (.func (.func f) #[] caps.toArray))(hv:evs e args=some vs)(hc:l_ P f (vs++caps) w R) :
  Ef P N ⟨dst,.call { callee:=.value x,args:=args.toArray,argTypes:=tys },ty,pos,aft,gd⟩ e w R:=⟨fun a ha Q=>by
 have hm:(args.toArray.map a.eval)=vs.toArray:=by rw [List.map_toArray,ha.evs hv]
 unfold Oper.wp
 have hr:(execOp a.eval ⟨dst,.call { callee:=.value x,args:=args.toArray,argTypes:=tys },ty,pos,aft,gd⟩).run P w = .ok (.enter f (vs++caps).toArray) w:=by
  simp [execOp,resolve,ha.ev hx,Deferred.ofValue,invoke,hcall,hm]
 rw [hr]
 exact Calls.mono hc.run fun e' w' ⟨v,he,hR⟩=>by subst he;exact ⟨v,rfl,hR⟩⟩
end
end Go.Vw
namespace Go.Vw
open Go.RowKit Dat
def WCI (P:Program)(N n l:Nat)(c:Code)(K:Act->World->Prop)(Q:Exit->Act->World->Prop)(e:Env)(w:World):Prop :=
 ∀a,Sat N e a->c.wpIn (Fence.wide.inRound l) n P (Exit.then K Q) a w
section
variable {P:Program}{N n l:Nat}{K:Act->World->Prop}{Q:Exit->Act->World->Prop}{e:Env}{w:World}
theorem WCI.of_KC {y:Code}(h:WCI P N n l y K Q e w):AtK N (fun a w=>y.wpIn (Fence.wide.inRound l) n P (Exit.then K Q) a w) e w:=h
variable {ops:Array Oper}{rest:List Oper}{d:Tmp}{op:Op}{ty:TypeId}{pos:String}{aft:Array Edge}
end
def g_N (W:World)(b g:Nat):Prop:=∃n c,W.cell? ⟨b,0,none⟩=some (.slice (some ⟨g,0,none⟩) n c)
def q_I (b:Nat)(W:World)(k:Nat):Prop:=k=b∨g_N W b k∨∃o,W.heap[k]? = some o/\o.isCells=false
structure KpS (b:Nat)(W W':World):Prop where
 chg:Chg (q_I b W) W W'
 row:∀g,g_N W' b g->g_N W b g∨W.heap.size<=g
theorem KpS.trans {b:Nat}{A B C:World}(h:KpS b A B)(k:KpS b B C):KpS b A C :=
 ⟨⟨k.chg.os.trans h.chg.os,k.chg.tape.trans h.chg.tape,k.chg.output.trans h.chg.output,Nat.le_trans h.chg.size k.chg.size,fun i hi hx=>by
  have h1:=h.chg.block i hi hx;refine (k.chg.block i (Nat.lt_of_lt_of_le hi h.chg.size) fun hm=>?_).trans h1
  rcases hm with rfl | hm | ⟨o,ho,hc⟩
  ·exact hx<|.inl rfl
  ·rcases h.row i hm with h2 | h2
   ·exact hx<|.inr<|.inl h2
   ·omega
  ·exact hx (.inr (.inr ⟨o,h1.symm.trans ho,hc⟩))⟩,fun g hg=>by
  rcases k.row g hg with h1 | h1
  ·exact h.row g h1
  ·exact .inr (Nat.le_trans h.chg.size h1)⟩
theorem KpS.put {b:Nat}(W:World)(l:Nat)(o o':Obj)(hb:b<l)(hl:W.heap[l]? = some o)(hc:o.isCells=false):KpS b W (W.putObj l o'):=by
 have hlt:=(Array.getElem?_eq_some_iff.1 hl).1;refine ⟨⟨rfl,rfl,rfl,by simp [World.putObj],fun k _ hx=>?_⟩,fun g hg=>?_⟩
 ·by_cases h:k=l
  ·subst h;exact absurd (.inr<|.inr ⟨o,hl,hc⟩) hx
  ·exact World.putObj_heap_other h
 ·left
  obtain ⟨n,c,h⟩:=hg;refine ⟨n,c,?_⟩
  rw [← h]
  exact (World.cell?_of_block (w:=W) (a:=⟨b,0,none⟩)<|World.putObj_heap_other<|Nat.ne_of_lt hb).symm
theorem q_J {α:Type}[Dat α][a_u α]{w:World}{S:List Nat}{v:Value}{l:List α}(h:a_ w S v l):∀k∈S,∃cur,Blk w k cur:=by
 rcases h with ⟨_,_,rfl⟩ | ⟨g,c,cur,Ss,_,_,_,hb,_,rfl,hl,hi⟩
 ·intro k hk;cases hk
 ·intro k hk
  rcases List.mem_cons.1 hk with rfl | hk
  ·exact ⟨cur,hb⟩
  ·obtain ⟨Si,hSi,hk⟩:=List.mem_flatten.1 hk;obtain ⟨i,hi'⟩:=List.mem_iff_getElem?.1 hSi;have hlt:=(List.getElem?_eq_some_iff.1 hi').1;have:=a_u.none<|hi i l[i] Si (List.getElem?_eq_getElem (by omega)) hi'
   rw [this] at hk;cases hk
theorem Blk.isCells {w:World}{k:Nat}{cur:List Value}(h:Blk w k cur){o:Obj}(ho:w.heap[k]? = some o):o.isCells=true:=by
 obtain ⟨T,fr,h,_⟩:=h
 rw [h] at ho;cases ho;rfl
theorem KpS.own {b:Nat}{α:Type}[Dat α][a_u α]{w w':World}{S:List Nat}{v:Value}{l:List α}(h:a_ w S v l)(hk:KpS b w w')(hb:b∉S)(hr:∀g,g_N w b g->g∉S):a_ w' S v l/\∀g,g_N w' b g->g∉S:=by
 refine ⟨h.chg hk.chg fun k hm ht=>?_,fun g hg hm=>?_⟩
 ·rcases ht with rfl | ht | ⟨o,ho,hc⟩
  ·exact hb hm
  ·exact hr k ht hm
  ·obtain ⟨cur,hB⟩:=q_J h k hm
   rw [hB.isCells ho] at hc;cases hc
 ·rcases hk.row g hg with h1 | h1
  ·exact hr g h1 hm
  ·exact absurd (h.lt g hm)<|Nat.not_lt.2 h1
theorem q_K {w w':World}{row:Option Nat}(h:w.grownBy w' row):Chg (fun k=>row=some k) w w':=⟨h.os,h.tape,h.output,h.size,fun k hk hx=>h.block k hk fun e=>hx e.symm⟩
section
variable {P:Program}{N:Nat}{e:Env}{w:World}{fn:Func}{R:Value->World->Prop}
end
def rowS (w:World)(G:Nat->Prop)(v:Value)(l:List Str):Prop :=
 ∃ao c,v = .slice ao l.length c/\l.length<=c/\l.length<=LEN/\(ao=none->l=[])/\∀p,ao=some p->(l ≠ []->p.spot=none/\G p.block)/\∀(i:Nat)(x:Str),l[i]? = some x->L_ w p.block (p.off+i * sz Str) [x.v]/\x.b.length<=LEN
theorem rowS.repS {w:World}{G:Nat->Prop}{v:Value}{l:List Str}{B:Zone}(h:rowS w G v l)(hB:∀k,G k->B k):Vw.repS w B v l:=by
 obtain ⟨ao,c,rfl,h1,h2,h3,h4⟩:=h;refine ⟨ao,c,rfl,h1,h2,h3,fun p hp=>?_⟩;obtain ⟨k1,k2⟩:=h4 p hp;exact ⟨fun hn=>(k1 hn).1,fun hn=>hB _ (k1 hn).2,fun i x hx=>⟨[x.v],(k2 i x hx).1,_,rfl,rfl,(k2 i x hx).2⟩⟩
section
variable {X:Nat->Prop}{P:Program}{N:Nat}{e:Env}{w:World}{dst:Option Tmp}{ty:TypeId}{pos:String}{aft:Array Edge}{gd:Option (Nat×Bool)}{x:Operand}{T E:Nat}
end
theorem Blk.grown {w w':World}{row:Option Nat}{g:Nat}{l:List Value}(h:Blk w g l)(hg:w.grownBy w' row)(hr:∀r,row=some r->∃o:Obj,w.heap[r]? = some o/\o.isCells=false):Blk w' g l:=h.chg (q_K hg) fun he=>by
 obtain ⟨o,ho,hc⟩:=hr g he
 rw [h.isCells ho] at hc;cases hc
end Go.Vw
namespace Go.Vw
open Go.RowKit Dat
def keyL (n:Int):Value:=.agg #[vI n]
def c_3 {α:Type}[Dat α](w:World)(S:List Nat)(g:Nat)(l:List α):Prop :=
 ∃es clock Ss,w.heap[g]? = some (.map es clock)/\es.size=l.length/\List.length Ss=l.length/\S=List.flatten Ss/\l.length<=LIM /\
  ∀(i:Nat)(x:α)(Si:List Nat)(en:MapEntry),l[i]? = some x->Ss[i]? = some Si->es[i]? = some en->en.key=keyL (i:Int)/\∃cs,en.val = .agg cs.toArray/\own w Si cs x
section
variable {α:Type}[Dat α]{w w':World}{S:List Nat}{g:Nat}{l:List α}
theorem c_3.lt (h:c_3 w S g l):g<w.heap.size:=by obtain ⟨es,c,Ss,h,_⟩:=h;exact (Array.getElem?_eq_some_iff.1 h).1
theorem c_3.ltS (h:c_3 w S g l):∀k∈S,k<w.heap.size:=by
 obtain ⟨es,c,Ss,_,h1,h2,rfl,_,h3⟩:=h;intro k hk;obtain ⟨Si,hSi,hk⟩:=List.mem_flatten.1 hk;obtain ⟨i,hi⟩:=List.mem_iff_getElem?.1 hSi;have hil:=(List.getElem?_eq_some_iff.1 hi).1;have hie:i<es.size:=by omega
 obtain ⟨_,cs,_,ho⟩:=h3 i l[i] Si es[i] (List.getElem?_eq_getElem (by omega)) hi (Array.getElem?_eq_getElem hie);exact own_lt ho k hk
theorem c_3.of_eq (h:c_3 w S g l)(he:w'.heap[g]? = w.heap[g]?)(hs:∀k∈S,w'.heap[k]? = w.heap[k]?):c_3 w' S g l:=by
 obtain ⟨es,c,Ss,h,h1,h2,rfl,hl,h3⟩:=h;refine ⟨es,c,Ss,he.trans h,h1,h2,rfl,hl,fun i x Si en a b d=>?_⟩;obtain ⟨k1,cs,k2,k3⟩:=h3 i x Si en a b d;exact ⟨k1,cs,k2,own_eq k3 fun k hk=>hs k<|List.mem_flatten.2 ⟨Si,List.mem_of_getElem? b,hk⟩⟩
theorem c_3.ext (h:c_3 w S g l)(hb:Below w.heap.size w w'):c_3 w' S g l:=h.of_eq (hb.block g h.lt) fun k hk=>hb.block k<|h.ltS k hk
theorem c_3.chg {X:Nat->Prop}(h:c_3 w S g l)(hc:Chg X w w')(hx:¬X g)(hs:∀k∈S,¬X k):c_3 w' S g l:=h.of_eq (hc.block g h.lt hx) fun k hk=>hc.block k (h.ltS k hk)<|hs k hk
variable {X:Nat->Prop}{P:Program}{N:Nat}{e:Env}{dst:Option Tmp}{ty:TypeId}{p:String}{aft:Array Edge}{gd:Option (Nat×Bool)}{x y z:Operand}{T:Nat}
end
def c_4 {α:Type}[Dat α](w:World)(S:List Nat)(v:Value)(l:List α):Prop:=∃g S0,v = .map (some g)/\S=g::S0/\c_3 w S0 g l/\g∉S0
section
variable {α:Type}[Dat α]{w w':World}{S:List Nat}{l:List α}{v:Value}
theorem c_4.lt (h:c_4 w S v l):∀k∈S,k<w.heap.size:=by
 obtain ⟨g,S0,rfl,rfl,h,_⟩:=h;intro k hk
 rcases List.mem_cons.1 hk with rfl | hk
 ·exact h.lt
 ·exact h.ltS k hk
theorem c_4.ext (h:c_4 w S v l)(hb:Below w.heap.size w w'):c_4 w' S v l:=by
 obtain ⟨g,S0,rfl,rfl,h,hn⟩:=h;exact ⟨g,S0,rfl,rfl,h.ext hb,hn⟩
theorem c_4.chg {X:Nat->Prop}(h:c_4 w S v l)(hc:Chg X w w')(hx:∀k∈S,¬X k):c_4 w' S v l:=by
 obtain ⟨g,S0,rfl,rfl,h,hn⟩:=h;exact ⟨g,S0,rfl,rfl,h.chg hc (hx _ List.mem_cons_self)<|fun k hk=>hx k<|List.mem_cons_of_mem _ hk,hn⟩
theorem c_4.len (h:c_4 w S v l):l.length<=LEN:=by
 obtain ⟨g,S0,rfl,rfl,⟨es,c,Ss,_,_,_,_,h,_⟩,hn⟩:=h;have:=e_b;omega
abbrev c_4.e:=@c_4.ext
abbrev c_4.c:=@c_4.chg
variable {X:Nat->Prop}{P:Program}{N:Nat}{e:Env}{dst:Option Tmp}{ty:TypeId}{p:String}{aft:Array Edge}{gd:Option (Nat×Bool)}{x y z:Operand}{T:Nat}
end
end Go.Vw
namespace Go.Vw
open Go.RowKit Dat
structure Raw (α:Type)[Dat α] where
 cs:List Value
 len:cs.length=sz α
 one:∀c∈cs,c.oneCell'=true
instance {α:Type}[Dat α]:Dat (Raw α) where
 sz:=sz α
 rep _ _ cs x:=cs=x.cs
 own _ S cs x:=S=[]/\cs=x.cs
 rep_len:=by rintro _ _ _ x rfl;exact x.len
 rep_one:=by rintro _ _ _ x rfl;exact x.one
 rep_eq h _:=h
 rep_mono h _:=h
 own_eq h _:=h
 own_lt:=by rintro _ _ _ _ ⟨rfl,_⟩ k hk;cases hk
 own_rep:=by rintro _ _ _ _ _ ⟨rfl,h⟩ _;exact h
 pos:=pos (α:=α)
instance {α:Type}[Dat α]:a_u (Raw α):=⟨fun h=>⟨rfl,h⟩,fun h=>h.1⟩
def d_d {α:Type}[Dat α](w:World)(B:Zone)(rs:List (Raw α))(l:List α):Prop :=
 rs.length=l.length/\∀(i:Nat)(r:Raw α)(x:α),rs[i]? = some r->l[i]? = some x->rep w B r.cs x
theorem d_d.eq {α:Type}[Dat α]{w w':World}{B:Zone}{rs:List (Raw α)}{l:List α}(h:d_d w B rs l)(he:∀k,B k->k<w.heap.size->w'.heap[k]? = w.heap[k]?):d_d w' B rs l:=⟨h.1,fun i r x a b=>rep_eq (h.2 i r x a b) he⟩
theorem d_d.mono {α:Type}[Dat α]{w:World}{B B':Zone}{rs:List (Raw α)}{l:List α}(h:d_d w B rs l)(hb:B<=B'):d_d w B' rs l:=⟨h.1,fun i r x a b=>rep_mono (h.2 i r x a b) hb⟩
structure b_D {α:Type}[Dat α](w:World)(S:List Nat)(B:Zone)(v:Value)(l:List α):Prop where
 ex:(∃ao,v = .slice ao 0 0/\l=[]/\S=[])∨∃rs:List (Raw α),a_ w S v rs/\d_d w B rs l
section
variable {α:Type}[Dat α]{w w':World}{S:List Nat}{B:Zone}{v:Value}{l:List α}
theorem b_D.lt (h:b_D w S B v l):∀k∈S,k<w.heap.size:=by
 obtain ⟨⟨_,_,_,rfl⟩ | ⟨rs,h1,_⟩⟩:=h
 ·intro k hk;cases hk
 ·exact a_.lt h1
theorem b_D.mono {B':Zone}(h:b_D w S B v l)(hb:B<=B'):b_D w S B' v l:=by
 obtain ⟨h | ⟨rs,h1,h2⟩⟩:=h
 ·exact ⟨.inl h⟩
 ·exact ⟨.inr ⟨rs,h1,h2.mono hb⟩⟩
theorem b_D.ext (h:b_D w S B v l)(hb:Below w.heap.size w w'):b_D w' S B v l:=by
 obtain ⟨h | ⟨rs,h1,h2⟩⟩:=h
 ·exact ⟨.inl h⟩
 ·exact ⟨.inr ⟨rs,h1.ext hb,h2.eq fun k _ hk=>hb.block k hk⟩⟩
theorem b_D.chg {X:Nat->Prop}(h:b_D w S B v l)(hc:Chg X w w')(hx:∀k∈S,¬X k)(hb:∀k,B k->¬X k):b_D w' S B v l:=by
 obtain ⟨h | ⟨rs,h1,h2⟩⟩:=h
 ·exact ⟨.inl h⟩
 ·exact ⟨.inr ⟨rs,h1.chg hc hx,h2.eq fun k h3 hk=>hc.block k hk<|hb k h3⟩⟩
theorem b_D.rep (h:b_D w S B v l){B':Zone}(hS:∀k∈S,B' k)(hb:B<=B'):repS w B' v l:=by
 obtain ⟨⟨ao,rfl,rfl,rfl⟩ | ⟨rs,h1,h2⟩⟩:=h
 ·exact ⟨ao,0,rfl,Nat.le_refl _,Nat.zero_le _,fun _=>rfl,fun p _=>⟨fun h=>absurd rfl h,fun h=>absurd rfl h,fun i x hx=>by simp at hx⟩⟩
 obtain ⟨ao,c,hv,g1,O,G,H⟩:=e_E h1 hS;have hl:=h2.1;refine ⟨ao,c,by rw [hv,hl],by omega,by omega,fun h=>?_,fun p hp=>?_⟩
 ·have:=G h;subst this;exact List.eq_nil_of_length_eq_zero (by simpa using hl.symm)
 ·obtain ⟨k1,k2,k3⟩:=H p hp;have hne:l ≠ []->rs ≠ []:=by rintro h rfl;exact h<|List.eq_nil_of_length_eq_zero (by simpa using hl.symm)
  refine ⟨fun h=>k1<|hne h,fun h=>k2<|hne h,fun i x hx=>?_⟩;obtain ⟨r,hr⟩:=i_s hl hx;obtain ⟨cs,I,J⟩:=k3 i r hr;have L:cs=r.cs:=J;subst L;exact ⟨r.cs,I,rep_mono (h2.2 i r x hr hx) hb⟩
theorem d_d.set {rs:List (Raw α)}{i:Nat}{r:Raw α}{x:α}(h:d_d w B rs l)(hr:Dat.rep w B r.cs x):d_d w B (rs.set i r) (l.set i x):=by
 refine ⟨by simp [h.1],fun j q y a b=>?_⟩
 by_cases hj:i=j
 ·subst hj;have h1:=(List.getElem?_eq_some_iff.1 a).1;have h2:=(List.getElem?_eq_some_iff.1 b).1
  simp only [List.length_set] at h1 h2
  rw [List.getElem?_set_self h1] at a
  rw [List.getElem?_set_self h2] at b
  cases a;cases b;exact hr
 ·rw [List.getElem?_set_ne hj] at a b
  exact h.2 j q y a b
end
section
variable {P:Program}{N:Nat}{X:Nat->Prop}{e:Env}{w:World}{dst:Option Tmp}{ty:TypeId}{pos:String}{aft:Array Edge}{gd:Option (Nat×Bool)}{x y:Operand}{T E:TypeId}
end
end Go.Vw
namespace Go.Vw
open Go.RowKit Dat
def e_9 (l:List UInt8):List Value:=l.map fun b=>vU<|byteI b
theorem l_b {l:List UInt8}{i:Nat}{x:UInt8}(h:l[i]? = some x):(e_9 l)[i]? = some (vU<|byteI x):=by simp [e_9,h]
theorem l_c (l:List UInt8):(e_9 l).length=l.length:=by simp [e_9]
theorem h_E:sz UInt8=1:=rfl
section
variable {w w':World}{S:List Nat}{v:Value}{l xs:List UInt8}{B:Zone}
theorem n_v:a_ w S v l ↔ (v = .slice none 0 0/\l=[]/\S=[])∨∃g c cur,v = .slice (some ⟨g,0,none⟩) l.length c/\l.length<=c/\l.length<=LEN/\Blk w g cur/\cur.length=c/\S=[g]/\cur.take l.length=e_9 l:=by
 constructor
 ·rintro (h | ⟨g,c,cur,Ss,h1,h2,h3,h4,h5,h6,H,G⟩)
  ·exact .inl h
  ·rw [h_E,Nat.mul_one] at h5
   refine .inr ⟨g,c,cur,h1,h2,h3,h4,h5,?_,?_⟩
   ·have I:List.flatten Ss=[]:=List.flatten_eq_nil_iff.2 fun L hL=>by
     obtain ⟨i,hi⟩:=List.getElem?_of_mem hL;obtain ⟨x,hx⟩:=zip_some' H hi;exact (G i x L hx hi).1
    rw [h6,I]
   ·apply List.ext_getElem?
    intro i
    by_cases hi:i<l.length
    ·obtain ⟨Si,hSi⟩:=i_s H<|List.getElem?_eq_getElem hi;have:=G i _ Si (List.getElem?_eq_getElem hi) hSi;obtain ⟨_,u,hu,rfl⟩:=this
     rw [h_E,Nat.mul_one] at hu
     rw [l_b (List.getElem?_eq_getElem hi),List.getElem?_take,if_pos hi]
     have J:((cur.drop i).take 1)[0]? = some (vU<|byteI l[i]):=by rw [hu];rfl
     simpa using J
    ·rw [List.getElem?_eq_none (by simp;omega),List.getElem?_eq_none (by simp [e_9];omega)]
 ·rintro (h | ⟨g,c,cur,h1,h2,h3,h4,h5,h6,H⟩)
  ·exact .inl h
  ·refine .inr ⟨g,c,cur,List.replicate l.length [],h1,h2,h3,h4,by rw [h_E,Nat.mul_one];exact h5,?_,by simp,fun i x Si hx hS=>?_⟩
   ·rw [h6];simp
   ·have hi:=(List.getElem?_eq_some_iff.1 hx).1
    have:Si=[]:=by
     have:=(List.getElem?_eq_some_iff.1 hS).2
     simpa using this.symm
    refine ⟨this,vU<|byteI x,?_,rfl⟩
    rw [h_E,Nat.mul_one]
    have G:cur[i]? = some (vU<|byteI x):=by
     rw [← l_b hx,← H,List.getElem?_take,if_pos hi]
    have hic:=(List.getElem?_eq_some_iff.1 G).1
    rw [List.drop_eq_getElem_cons hic]
    simp only [List.take_succ_cons,List.take_zero]
    rw [(List.getElem?_eq_some_iff.1 G).2]
end
section
variable {P:Program}{N:Nat}{X:Nat->Prop}{e:Env}{w:World}{dst:Option Tmp}{ty:TypeId}{pos:String}{aft:Array Edge}{gd:Option (Nat×Bool)}{x y:Operand}{T T2 E:TypeId}
theorem n_w {g:Nat}{l:List UInt8}(h:Blk w g (e_9 l))(hl:Nat.ble l.length 1000=true):a_ w [g] (.slice (some ⟨g,0,none⟩) l.length l.length) l :=
 n_v.2 (.inr ⟨g,l.length,_,rfl,Nat.le_refl _,Nat.le_trans (Nat.le_of_ble_eq_true hl) (by simp [LEN]),h,l_c l,rfl,by rw [List.take_of_length_le (by rw [l_c];exact Nat.le_refl _)]⟩)
end
end Go.Vw
namespace Go.Vw
def j_2 (x1:List UInt8)(x2:Int):Option Int :=
 if (decide<|(r_ x2 (x1.length:Int))<0)=true then some (-1) else some (r_ x2 (x1.length:Int))
def g_O (x1:List Str)(x2:Int):Option Int :=
 if (decide<|(r_ x2 (x1.length:Int))<0)=true then some (-1) else bd (z_ (σ:=Int) (ρ:=Int) (fun I=>(fun G=>bd (idx x1 (I:Int)) fun H=>if (decide<|(r_ G (H.b.length:Int))<0)=true then some (.ret (-1)) else some (.next<|r_ G (H.b.length:Int)))) x1.length 0<|r_ x2 (x1.length:Int)) (el (fun G=>some G)<|fun J=>some J)
def g_P (x1:List Int)(x2:Int):Option Int :=
 if (decide<|(r_ x2 (x1.length:Int))<0)=true then some (-1) else some (r_ x2 (x1.length:Int))
def f_i (x1:g_)(x2:Int):Option Int :=
 if (decide<|(r_ x2 (x1.name.b.length:Int))<0)=true then some (-1) else bd (j_2 x1.bytes<|r_ x2 (x1.name.b.length:Int)) fun G=>if (decide<|G<0)=true then some (-1) else bd (g_O x1.names G) fun H=>if (decide<|H<0)=true then some (-1) else bd (g_P x1.tags H) fun I=>if (decide<|I<0)=true then some (-1) else bd (g_P x1.kids I) fun J=>if (decide<|J<0)=true then some (-1) else some J
def j_3 (x1:List g_)(x2:Int):Option Int :=
 if (decide<|(r_ x2 (x1.length:Int))<0)=true then some (-1) else bd (z_ (σ:=Int) (ρ:=Int) (fun I=>(fun G=>bd (idx x1 (I:Int)) fun J=>bd (f_i J G) fun H=>if (decide<|H<0)=true then some (.ret (-1)) else some (.next H))) x1.length 0<|r_ x2 (x1.length:Int)) (el (fun G=>some G)<|fun L=>some L)
def g_Q (x1:c_)(x2:Int):Option Int :=
 bd (j_3 x1.rules x2) fun G=>if (decide<|G<0)=true then some (-1) else some G
def d_S (x1:List UInt8):Option (List UInt8) :=
 bd (mk0 (0:UInt8) (x1.length:Int)) fun I=>bd (z_ (σ:=List UInt8) (ρ:=List UInt8) (fun H=>(fun G=>bd (idx x1 (H:Int)) fun J=>bd (upd G (H:Int) J) fun L=>some<|.next L)) x1.length 0 I)<|el (fun G=>some G)<|fun O=>some O
def g_R (x1:List Str):Option (List Str) :=
 bd (mk0 (⟨[]⟩:Str) (x1.length:Int)) fun I=>bd (z_ (σ:=List Str) (ρ:=List Str) (fun H=>(fun G=>bd (idx x1 (H:Int)) fun J=>bd (upd G (H:Int) J) fun L=>some<|.next L)) x1.length 0 I)<|el (fun G=>some G)<|fun O=>some O
def f_j (x1:List Int):Option (List Int) :=
 bd (mk0 0 (x1.length:Int)) fun I=>bd (z_ (σ:=List Int) (ρ:=List Int) (fun H=>(fun G=>bd (idx x1 (H:Int)) fun J=>bd (upd G (H:Int) J) fun L=>some<|.next L)) x1.length 0 I)<|el (fun G=>some G)<|fun O=>some O
def g_S (x1:g_):Option g_ :=
 bd (d_S x1.bytes) fun G=>bd (g_R x1.names) fun H=>bd (f_j x1.tags) fun I=>bd (f_j x1.kids) fun J=>some (⟨x1.name,x1.kind,x1.size,x1.little,G,H,I,J⟩:g_)
def j_4 (x1:List g_):Option (List g_) :=
 bd (mk0 (⟨(⟨[]⟩:Str),0,0,false,([]:List UInt8),([]:List Str),([]:List Int),([]:List Int)⟩:g_) (x1.length:Int)) fun I=>bd (z_ (σ:=List g_) (ρ:=List g_) (fun H=>(fun G=>bd (idx x1 (H:Int)) fun J=>bd (g_S J) fun L=>bd (upd G (H:Int) L) fun O=>some<|.next O)) x1.length 0 I)<|el (fun G=>some G)<|fun V=>some V
def e_t (x1:c_):Option c_ :=
 bd (j_4 x1.rules) fun G=>some (⟨G⟩:c_)
def a_L (x1:Int)(x2:Int)(x3:Int):Option Bool :=
 bd (α:=Bool) (if (decide<|x2<=x1)=true then some (decide<|x1<=x3) else some false) (fun G=>some G)
def f_k (x1:Str):Option Bool :=
 bd (z_ (σ:=Unit) (ρ:=Bool) (fun k10=>(fun (_:Unit)=>bd (α:=Bool) (bd (idx x1.b (k10:Int)) fun G=>if (decide<|(byteI (97:UInt8))<=(byteI G))=true then bd (idx x1.b (k10:Int)) fun H=>some (decide<|(byteI H)<=(byteI (122:UInt8))) else some false) (fun I=>bd (α:=Bool) (bd (idx x1.b (k10:Int)) fun J=>if (decide<|(byteI (48:UInt8))<=(byteI J))=true then bd (idx x1.b (k10:Int)) fun L=>some (decide<|(byteI L)<=(byteI (57:UInt8))) else some false) (fun O=>bd (α:=Bool) (if (!I)=true then if (!O)=true then some true else some ((k10:Int)==0) else some false) (fun V=>if V=true then some (.ret false) else some (.next ())))))) x1.b.length 0 ()) (el (fun (_:Unit)=>bd (a_L (x1.b.length:Int) 1 12) fun W=>some W)<|fun Y=>some Y)
def f_l (n:Nat)(x1:Int):Option Str :=
 if (x1==0)=true then some (⟨[48]⟩:Str) else bd (U_ (σ:=Str×Int) (ρ:=Str) (un2 fun H G=>if (G != 0)=true then bd (α:=Int) (if (decide<|(b_2 G 10)<0)=true then some (f_0<|b_2 G 10) else some (b_2 G 10)) (fun I=>bd (cat (⟨[mkB (m_ 48 I)]⟩:Str) H) fun J=>some<|.next (J,c_C G 10)) else some (.brk (H,G))) n ((⟨[]⟩:Str),x1)) (el (un2 fun H G=>if (decide<|x1<0)=true then bd (cat (⟨[45]⟩:Str) H) fun L=>some L else some H)<|fun O=>some O)
def c_k (x1:g_)(x2:Bool)(x3:Bool)(x4:Bool)(x5:Bool)(x6:Int):Option Bool :=
 bd (α:=Bool) (bd (α:=Bool) (if x2=true then some true else some (x1.size==0)) fun G=>bd (α:=Bool) (if G=true then if x3=true then some true else some ((x1.bytes.length:Int)==0) else some false) fun H=>bd (α:=Bool) (if H=true then if x4=true then some true else some ((x1.names.length:Int)==0) else some false) fun I=>bd (α:=Bool) (if I=true then if x5=true then some true else some ((x1.tags.length:Int)==0) else some false) fun J=>bd (α:=Bool) (if J=true then if (decide<|x6<0)=true then some true else some ((x1.kids.length:Int)==x6) else some false) fun L=>if L=true then if (!x1.little)=true then some true else some (x1.kind==1) else some false) (fun O=>some O)
def d_x (x1:Int):Option Int :=
 bd (nn<|a_f 8 x1) fun G=>some<|b_3 .i64 1<|a_f 8 x1
def d_y (x1:c_)(x2:Int):Option Int :=
 bd (α:=Bool) (bd (a_L x2 0<|r_ (x1.rules.length:Int) 1) fun G=>if (!G)=true then some true else bd (idx x1.rules x2) fun H=>if (H.kind != 1)=true then some true else bd (idx x1.rules x2) fun I=>bd (a_L I.size 1 4) fun J=>some (!J)) (fun L=>if L=true then some (-1) else bd (idx x1.rules x2) fun O=>bd (d_x O.size) fun V=>some<|r_ V 1)
def g_T (x1:List Str)(x2:Str):Option Bool :=
 bd (z_ (σ:=Unit) (ρ:=Bool) (fun k10=>(fun (_:Unit)=>bd (idx x1 (k10:Int)) fun G=>if (G.b==x2.b)=true then some (.ret true) else some (.next ()))) x1.length 0 ()) (el (fun (_:Unit)=>some false)<|fun H=>some H)
def g_U (x1:List Str):Option Bool :=
 bd (z_ (σ:=Unit) (ρ:=Bool) (fun k10=>(fun (_:Unit)=>bd (α:=Bool) (bd (idx x1 (k10:Int)) fun G=>bd (f_k G) fun H=>if (!H)=true then some true else bd (slc x1 0 (k10:Int)) fun I=>bd (idx x1 (k10:Int)) fun J=>bd (g_T I J) fun L=>some L) (fun O=>if O=true then some (.ret false) else some (.next ())))) x1.length 0 ()) (el (fun (_:Unit)=>bd (a_L (x1.length:Int) 1 8) fun V=>some V)<|fun W=>some W)
def g_V (x1:c_)(x2:g_):Option Bool :=
 bd (α:=Bool) (if ((x2.kids.length:Int) != (m_ (x2.tags.length:Int) 1))=true then some true else bd (a_L (x2.tags.length:Int) 1 8) fun G=>some (!G)) (fun H=>if H=true then some false else bd (z_ (σ:=Unit) (ρ:=Bool) (fun k10=>(fun (_:Unit)=>bd (α:=Bool) (bd (idx x2.tags (k10:Int)) fun I=>bd (idx x2.kids 0) fun J=>bd (d_y x1 J) fun L=>bd (a_L I 0 L) fun O=>if (!O)=true then some true else if (decide<|0<(k10:Int))=true then bd (idx x2.tags<|r_ (k10:Int) 1) fun V=>bd (idx x2.tags (k10:Int)) fun W=>some (decide<|W<=V) else some false) (fun Y=>if Y=true then some (.ret false) else some (.next ())))) x2.tags.length 0 ()) (el (fun (_:Unit)=>some true)<|fun a0=>some a0))
def g_W (x1:c_)(x2:g_):Option Bool :=
 if (x2.kind==1)=true then bd (α:=Bool) (bd (c_k x2 true false false false 0) fun G=>if G=true then bd (a_L x2.size 1 4) fun H=>if H=true then if (!x2.little)=true then some true else some (decide<|1<x2.size) else some false else some false) (fun I=>some I) else if (x2.kind==2)=true then bd (α:=Bool) (bd (c_k x2 false true false false 0) fun J=>if J=true then bd (a_L (x2.bytes.length:Int) 1 16) fun L=>some L else some false) (fun O=>some O) else if (x2.kind==3)=true then bd (α:=Bool) (bd (c_k x2 true false false false 0) fun V=>if V=true then bd (a_L x2.size 1 64) fun W=>some W else some false) (fun Y=>some Y) else if (x2.kind==4)=true then bd (α:=Bool) (bd (c_k x2 false false false false 1) fun a0=>if a0=true then bd (idx x2.kids 0) fun a1=>bd (d_y x1 a1) fun a2=>some (decide<|0<a2) else some false) (fun a3=>some a3) else if (x2.kind==5)=true then bd (α:=Bool) (bd (c_k x2 false false false false 2) fun a4=>if a4=true then bd (idx x2.kids 0) fun a5=>bd (d_y x1 a5) fun a6=>some (decide<|0<a6) else some false) (fun a7=>some a7) else if (x2.kind==6)=true then bd (α:=Bool) (bd (c_k x2 false false true false (x2.names.length:Int)) fun a8=>if a8=true then bd (g_U x2.names) fun a9=>some a9 else some false) (fun aa=>some aa) else if (x2.kind==7)=true then bd (α:=Bool) (bd (c_k x2 false false false true (-1)) fun ab=>if ab=true then bd (g_V x1 x2) fun ad=>some ad else some false) (fun ae=>some ae) else bd (α:=Bool) (if (x2.kind==8)=true then some (x2.kind==8) else some (x2.kind==9)) (fun af=>if af=true then bd (c_k x2 false false false false 1) fun ah=>some ah else if (x2.kind==10)=true then bd (α:=Bool) (bd (c_k x2 false true false false 0) fun ai=>if ai=true then if ((x2.bytes.length:Int)==1)=true then bd (idx x2.bytes 0) fun aj=>some ((byteI aj) != (byteI (92:UInt8))) else some false else some false) (fun ak=>some ak) else some false)
def g_X (x1:c_)(x2:Int):Option Bool :=
 bd (a_L x2 0<|r_ (x1.rules.length:Int) 1) fun H=>if (!H)=true then some false else bd (idx x1.rules x2) fun G=>bd (z_ (σ:=Unit) (ρ:=Bool) (fun I=>(fun (_:Unit)=>bd (idx x1.rules (I:Int)) fun J=>if (J.name.b==G.name.b)=true then some (.ret false) else some (.next ()))) x2.toNat 0 ()) (el (fun (_:Unit)=>bd (z_ (σ:=Unit) (ρ:=Bool) (fun L=>(fun (_:Unit)=>bd (idx G.kids (L:Int)) fun O=>bd (a_L O 0<|r_ x2 1) fun V=>if (!V)=true then some (.ret false) else some (.next ()))) G.kids.length 0 ()) (el (fun (_:Unit)=>bd (α:=Bool) (bd (f_k G.name) fun W=>if W=true then bd (g_W x1 G) fun Y=>some Y else some false)<|fun a0=>some a0)<|fun a1=>some a1))<|fun a2=>some a2)
def g_Y (x1:c_):Option Bool :=
 bd (z_ (σ:=Unit) (ρ:=Bool) (fun k10=>(fun (_:Unit)=>bd (g_X x1 (k10:Int)) fun G=>if (!G)=true then some (.ret false) else some (.next ()))) x1.rules.length 0 ()) (el (fun (_:Unit)=>bd (a_L (x1.rules.length:Int) 1 24) fun H=>some H)<|fun I=>some I)
def d_T (x1:c_):Option Int :=
 some (r_ (x1.rules.length:Int) 1)
def g_Z (x1:List UInt8)(x2:Bool):Option Int :=
 if (decide<|4<(x1.length:Int))=true then some 0 else bd (z_ (σ:=Int) (ρ:=Int) (fun H=>(fun G=>bd (α:=Int) (if x2=true then some (r_ (r_ (x1.length:Int) 1) (H:Int)) else some (H:Int))<|fun I=>bd (idx x1 I) fun J=>some<|.next<|m_ (a_f G 256)<|byteI J)) x1.length 0 0) (el (fun G=>some G)<|fun L=>some L)
def e_u (x1:c_)(x2:Int)(x3:List UInt8)(x4:Int):Option (Int×Int×Bool) :=
 bd (idx x1.rules x2) fun G=>if (decide<|(r_ (x3.length:Int) x4)<G.size)=true then some (0,x4,false) else bd (slc x3 x4<|m_ x4 G.size) fun H=>bd (g_Z H G.little) fun I=>some (I,m_ x4 G.size,true)
def b_d (x1:g_)(x2:Int)(x3:Int):Option Int :=
 if (x1.kind==5)=true then bd (idx x1.kids 1) fun G=>some G else bd (α:=Sum Unit Int) (if (x1.kind==6)=true then if (decide<|x3<(x1.kids.length:Int))=true then bd (idx x1.kids x3) fun H=>some (.inr H) else some (.inl ()) else bd (α:=Sum Unit<|Sum Unit Int) (if (x1.kind==7)=true then bd (z_ (σ:=Unit) (ρ:=Int) (fun k10=>(fun (_:Unit)=>bd (idx x1.tags (k10:Int)) fun I=>if (I==x2)=true then bd (idx x1.kids ((k10+1:Nat):Int)) fun J=>some (.ret J) else some (.next ()))) x1.tags.length 0 ()) (el (fun (_:Unit)=>some<|.inl ())<|fun L=>some<|.inr<|.inr L) else bd (α:=Bool) (if (x1.kind==8)=true then some (x1.kind==8) else some (x1.kind==9)) (fun O=>if O=true then bd (idx x1.kids 0) fun V=>some (.inr<|.inr V) else some (.inl ()))) (el (fun (_:Unit)=>some<|.inl ()) some)) (el (fun (_:Unit)=>some (-1)) some)
def h_0 (x1:g_)(x2:List UInt8)(x3:Int):Option (Val×Int×Int) :=
 bd (z_ (σ:=Unit) (ρ:=Val×Int×Int) (fun k10=>(fun (_:Unit)=>if (decide<|(x2.length:Int)<=(m_ x3 (k10:Int)))=true then some (.ret ((⟨0,([]:List UInt8),([]:List Val)⟩:Val),x3,1)) else bd (idx x2<|m_ x3 (k10:Int)) fun G=>bd (idx x1.bytes (k10:Int)) fun H=>if ((byteI G) != (byteI H))=true then some (.ret ((⟨0,([]:List UInt8),([]:List Val)⟩:Val),m_ x3 (k10:Int),2)) else some (.next ()))) x1.bytes.length 0 ()) (el (fun (_:Unit)=>some ((⟨0,([]:List UInt8),([]:List Val)⟩:Val),m_ x3 (x1.bytes.length:Int),0))<|fun I=>some I)
def f_m (x1:List UInt8)(x2:Int)(x3:Int):Option (Val×Int×Int) :=
 if (decide<|(r_ (x1.length:Int) x2)<x3)=true then some ((⟨0,([]:List UInt8),([]:List Val)⟩:Val),x2,1) else bd (slc x1 x2<|m_ x2 x3) fun G=>bd (app ([]:List UInt8) G) fun H=>some ((⟨0,H,([]:List Val)⟩:Val),m_ x2 x3,0)
def h_1 (n:Nat)(x1:List UInt8)(x2:Int)(x3:UInt8):Option ((List UInt8)×Int×Bool) :=
 bd (U_ (σ:=(List UInt8)×Int) (ρ:=(List UInt8)×Int×Bool) (un2 fun H G=>bd (α:=Bool) (bd (a_L x2 0 (x1.length:Int)) fun J=>if J=true then some (decide<|G<(x1.length:Int)) else some false) (fun L=>if L=true then bd (idx x1 G) fun O=>if ((byteI O)==(byteI x3))=true then some (.ret (H,m_ G 1,true)) else bd (idx x1 G) fun V=>bd (α:=Sum Int<|Out ((List UInt8)×Int)<|(List UInt8)×Int×Bool) (if ((byteI V)==(byteI (92:UInt8)))=true then if ((m_ G 1)==(x1.length:Int))=true then some (.inr<|.brk (H,m_ G 1)) else some (.inl<|m_ G 1) else some (.inl G)) (el (fun I=>bd (idx x1 I) fun W=>bd (psh H W) fun Y=>some<|.next (Y,m_ I 1)) some) else some (.brk (H,G)))) n (([]:List UInt8),x2)) (el (un2 fun H G=>some (([]:List UInt8),x2,false))<|fun a0=>some a0)
def f_n (x1:List UInt8):Option Int :=
 bd (z_ (σ:=Int) (ρ:=Int) (fun H=>(fun G=>bd (idx x1 (H:Int)) fun I=>some<|.next<|b_2 (m_ G<|byteI I) 256)) x1.length 0 0) (el (fun G=>some G)<|fun J=>some J)
structure f_o where
 spec_l11Read:c_->Int->(List UInt8)->Int->Option (Val×Int×Int)
 spec_l11Items:c_->g_->Int->Int->(List UInt8)->Int->Option (Val×Int×Int)
 spec_l11Choice:c_->g_->(List UInt8)->Int->Option (Val×Int×Int)
 spec_l11Option:c_->g_->(List UInt8)->Int->Option (Val×Int×Int)
 spec_l11Checked:c_->g_->(List UInt8)->Int->Option (Val×Int×Int)
def h_2 (n:Nat)(rec:f_o)(x1:c_)(x2:Int)(x3:List UInt8)(x4:Int):Option (Val×Int×Int) :=
 bd (idx x1.rules x2) fun G=>if (G.kind==1)=true then bd3 (e_u x1 x2 x3 x4) fun J L O=>if (!O)=true then some ((⟨0,([]:List UInt8),([]:List Val)⟩:Val),x4,1) else some ((⟨J,([]:List UInt8),([]:List Val)⟩:Val),L,0) else if (G.kind==2)=true then bd3 (h_0 G x3 x4) fun V W Y=>some (V,W,Y) else if (G.kind==3)=true then bd3 (f_m x3 x4 G.size) fun a0 a1 a2=>some (a0,a1,a2) else if (G.kind==10)=true then bd (idx G.bytes 0) fun a3=>bd3 (h_1 n x3 x4 a3) fun a4 a5 a6=>if (!a6)=true then some ((⟨0,([]:List UInt8),([]:List Val)⟩:Val),x4,1) else some ((⟨0,a4,([]:List Val)⟩:Val),a5,0) else if (G.kind==6)=true then bd3 (rec.spec_l11Items x1 G 0 (G.kids.length:Int) x3 x4) fun a7 a8 a9=>some (a7,a8,a9) else if (G.kind==7)=true then bd3 (rec.spec_l11Choice x1 G x3 x4) fun aa ab ad=>some (aa,ab,ad) else if (G.kind==8)=true then bd3 (rec.spec_l11Option x1 G x3 x4) fun ae af ah=>some (ae,af,ah) else if (G.kind==9)=true then bd3 (rec.spec_l11Checked x1 G x3 x4) fun ai aj ak=>some (ai,aj,ak) else bd (idx G.kids 0) fun al=>bd3 (e_u x1 al x3 x4) fun H I am=>if (!am)=true then some ((⟨0,([]:List UInt8),([]:List Val)⟩:Val),x4,1) else if (G.kind==4)=true then bd3 (f_m x3 I H) fun an ao ap=>some (an,ao,ap) else if (decide<|40<H)=true then some ((⟨0,([]:List UInt8),([]:List Val)⟩:Val),x4,6) else bd3 (rec.spec_l11Items x1 G 0 H x3 I) fun aq ar au=>some (aq,ar,au)
def h_3 (n:Nat)(rec:f_o)(x1:c_)(x2:g_)(x3:Int)(x4:Int)(x5:List UInt8)(x6:Int):Option (Val×Int×Int) :=
 bd (z_ (σ:=Int×(List Val)) (ρ:=Val×Int×Int) (fun O=>un2 fun G H=>bd (α:=Int×(List UInt8)×(List Val)×Int×Int) (bd (b_d x2 x3 (O:Int)) fun V=>bd3 (rec.spec_l11Read x1 V x5 G) fun I W Y=>some (I.number,I.bytes,I.items,W,Y)) (un5 fun a0 a1 a2 J L=>if (L != 0)=true then some (.ret ((⟨0,([]:List UInt8),([]:List Val)⟩:Val),J,L)) else bd (psh H (⟨a0,a1,a2⟩:Val)) fun a3=>some<|.next (J,a3))) x4.toNat 0 (x6,([]:List Val))) (el (un2 fun G H=>some ((⟨0,([]:List UInt8),H⟩:Val),G,0))<|fun a4=>some a4)
def h_4 (n:Nat)(rec:f_o)(x1:c_)(x2:g_)(x3:List UInt8)(x4:Int):Option (Val×Int×Int) :=
 bd (idx x2.kids 0) fun J=>bd3 (e_u x1 J x3 x4) fun G L O=>if (!O)=true then some ((⟨0,([]:List UInt8),([]:List Val)⟩:Val),x4,1) else bd (b_d x2 G 0) fun V=>if (decide<|V<0)=true then some ((⟨0,([]:List UInt8),([]:List Val)⟩:Val),x4,3) else bd3 (rec.spec_l11Items x1 x2 G 1 x3 L) fun H W I=>bd (α:=Int) (if (I==0)=true then some G else some H.number)<|fun Y=>some ((⟨Y,H.bytes,H.items⟩:Val),W,I)
def h_5 (n:Nat)(rec:f_o)(x1:c_)(x2:g_)(x3:List UInt8)(x4:Int):Option (Val×Int×Int) :=
 if (decide<|(x3.length:Int)<=x4)=true then some ((⟨0,([]:List UInt8),([]:List Val)⟩:Val),x4,1) else bd (idx x3 x4) fun G=>if (decide<|(byteI (1:UInt8))<(byteI G))=true then some ((⟨0,([]:List UInt8),([]:List Val)⟩:Val),x4,4) else bd (idx x3 x4) fun H=>bd3 (rec.spec_l11Items x1 x2 0 (byteI H) x3<|m_ x4 1) fun I J L=>some (I,J,L)
def h_6 (n:Nat)(rec:f_o)(x1:c_)(x2:g_)(x3:List UInt8)(x4:Int):Option (Val×Int×Int) :=
 bd3 (rec.spec_l11Items x1 x2 0 1 x3 x4) fun H G I=>if (I != 0)=true then some (H,G,I) else if (decide<|(x3.length:Int)<=G)=true then some ((⟨0,([]:List UInt8),([]:List Val)⟩:Val),G,1) else bd (idx x3 G) fun J=>bd (slc x3 x4 G) fun L=>bd (f_n L) fun O=>if ((byteI J) != O)=true then some ((⟨0,([]:List UInt8),([]:List Val)⟩:Val),G,5) else some (H,m_ G 1,0)
def a_h:Nat->f_o
 | 0=>⟨fun _ _ _ _=>none,fun _ _ _ _ _ _=>none,fun _ _ _ _=>none,fun _ _ _ _=>none,fun _ _ _ _=>none⟩
 | n+1=>⟨h_2 n<|a_h n,h_3 n<|a_h n,h_4 n<|a_h n,h_5 n<|a_h n,h_6 n<|a_h n⟩
def j_5 (n:Nat):=(a_h n).spec_l11Read
def e_v (n:Nat):=(a_h n).spec_l11Items
def e_w (x1:c_)(x2:Int):Option Bool :=
 bd (α:=Bool) (bd (a_L x2 0<|r_ (x1.rules.length:Int) 1) fun G=>if G=true then bd (g_Y x1) fun H=>some H else some false) (fun I=>some I)
def h_7 (n:Nat)(x1:c_)(x2:Int)(x3:List UInt8)(x4:Int):Option (Val×Int×Int) :=
 bd (α:=Bool) (bd (e_w x1 x2) fun G=>if (!G)=true then some true else bd (a_L x4 0 (x3.length:Int)) fun H=>if (!H)=true then some true else some (decide<|400<(x3.length:Int))) (fun I=>if I=true then some ((⟨0,([]:List UInt8),([]:List Val)⟩:Val),0,8) else bd3 (j_5 n x1 x2 x3 x4) fun J L O=>some (J,L,O))
def d_U (n:Nat)(x1:c_)(x2:List UInt8):Option (Val×Int×Int) :=
 bd (α:=Int×(List UInt8)×(List Val)×Int×Int) (bd (d_T x1) fun J=>bd3 (h_7 n x1 J x2 0) fun G L O=>some (G.number,G.bytes,G.items,L,O)) (un5 fun V W Y H I=>bd (α:=Bool) (if (I==0)=true then some (decide<|H<(x2.length:Int)) else some false) (fun a0=>if a0=true then some ((⟨0,([]:List UInt8),([]:List Val)⟩:Val),H,7) else some ((⟨V,W,Y⟩:Val),H,I)))
def e_x (n:Nat)(x1:Str):Option Bool :=
 bd (α:=Bool) (if (decide<|(x1.b.length:Int)<1)=true then some true else some (decide<|12<(x1.b.length:Int))) (fun H=>if H=true then some false else bd (U_ (σ:=Nat) (ρ:=Bool) (fun G=>if (decide<|G<x1.b.length)=true then bd (α:=Bool) (if (decide<|97<=((dec x1 G).1))=true then some (decide<|((dec x1 G).1)<=122) else some false) (fun I=>bd (α:=Bool) (if (decide<|48<=((dec x1 G).1))=true then some (decide<|((dec x1 G).1)<=57) else some false) (fun J=>bd (α:=Bool) (if (!I)=true then if (!J)=true then some true else some ((G:Int)==0) else some false) (fun L=>if L=true then some (.ret false) else some (.next<|G+(dec x1 G).2)))) else some (.brk G)) n 0) (el (fun G=>some true)<|fun O=>some O))
def b_X (x1:Int)(x2:Int)(x3:Int):Option Bool :=
 bd (α:=Bool) (if (decide<|x2<=x1)=true then some (decide<|x1<=x3) else some false) (fun G=>some G)
def d_V (x1:c_)(x2:Int):Option Bool :=
 bd (α:=Bool) (if (decide<|0<=x2)=true then some (decide<|x2<(x1.rules.length:Int)) else some false) (fun G=>some G)
def c_l (x1:g_)(x2:Bool)(x3:Bool)(x4:Bool)(x5:Bool)(x6:Int):Option Bool :=
 bd (α:=Bool) (bd (α:=Bool) (if x2=true then some true else some (x1.size==0)) fun G=>bd (α:=Bool) (if G=true then if x3=true then some true else some ((x1.bytes.length:Int)==0) else some false) fun H=>bd (α:=Bool) (if H=true then if x4=true then some true else some ((x1.names.length:Int)==0) else some false) fun I=>bd (α:=Bool) (if I=true then if x5=true then some true else some ((x1.tags.length:Int)==0) else some false) fun J=>if J=true then if (decide<|x6<0)=true then some true else some ((x1.kids.length:Int)==x6) else some false) (fun L=>some L)
def c_P (x1:c_)(x2:Int):Option Int :=
 bd (α:=Bool) (bd (d_V x1 x2) fun H=>if (!H)=true then some true else bd (idx x1.rules x2) fun I=>if (I.kind != 1)=true then some true else bd (idx x1.rules x2) fun J=>bd (b_X J.size 1 4) fun L=>some (!L)) (fun O=>if O=true then some (-1) else bd (idx x1.rules x2) fun G=>bd (nn<|a_f 8 G.size) fun V=>some<|r_ (b_3 .i64 1<|a_f 8 G.size) 1)
def f_p (x1:List Str)(x2:Str):Option Bool :=
 bd (z_ (σ:=Unit) (ρ:=Bool) (fun k10=>(fun (_:Unit)=>bd (idx x1 (k10:Int)) fun G=>if (G.b==x2.b)=true then some (.ret true) else some (.next ()))) x1.length 0 ()) (el (fun (_:Unit)=>some false)<|fun H=>some H)
def h_8 (n:Nat)(x1:g_):Option Bool :=
 bd (α:=Bool) (bd (c_l x1 false false true false (-1)) fun H=>if (!H)=true then some true else if ((x1.kids.length:Int) != (x1.names.length:Int))=true then some true else bd (b_X (x1.kids.length:Int) 1 8) fun I=>some (!I)) (fun J=>if J=true then some false else bd (z_ (σ:=Unit) (ρ:=Bool) (fun k10=>(fun (_:Unit)=>bd (idx x1.names (k10:Int)) fun G=>bd (α:=Bool) (bd (e_x n G) fun L=>if (!L)=true then some true else bd (slc x1.names 0 (k10:Int)) fun O=>bd (f_p O G) fun V=>some V) (fun W=>if W=true then some (.ret false) else some (.next ())))) x1.names.length 0 ()) (el (fun (_:Unit)=>some true)<|fun Y=>some Y))
def h_9 (x1:c_)(x2:g_):Option Bool :=
 bd (α:=Bool) (bd (c_l x2 false false false true<|m_ (x2.tags.length:Int) 1) fun I=>if (!I)=true then some true else bd (b_X (x2.tags.length:Int) 1 8) fun J=>some (!J)) (fun L=>if L=true then some false else bd (idx x2.kids 0) fun O=>bd (c_P x1 O) fun G=>bd (z_ (σ:=Unit) (ρ:=Bool) (fun k10=>(fun (_:Unit)=>bd (idx x2.tags (k10:Int)) fun H=>bd (α:=Bool) (bd (b_X H 0 G) fun V=>if (!V)=true then some true else if (decide<|0<(k10:Int))=true then bd (idx x2.tags<|r_ (k10:Int) 1) fun W=>some (decide<|H<=W) else some false) (fun Y=>if Y=true then some (.ret false) else some (.next ())))) x2.tags.length 0 ())<|el (fun (_:Unit)=>some<|decide<|0<G)<|fun a0=>some a0)
def h_a (n:Nat)(x1:c_)(x2:g_):Option Bool :=
 if (x2.kind==1)=true then bd (α:=Bool) (bd (c_l x2 true false false false 0) fun G=>if G=true then bd (b_X x2.size 1 4) fun H=>if H=true then if (!x2.little)=true then some true else some (decide<|1<x2.size) else some false else some false) (fun I=>some I) else if (x2.kind==2)=true then bd (α:=Bool) (bd (c_l x2 false true false false 0) fun J=>if J=true then bd (b_X (x2.bytes.length:Int) 1 16) fun L=>some L else some false) (fun O=>some O) else if (x2.kind==3)=true then bd (α:=Bool) (bd (c_l x2 true false false false 0) fun V=>if V=true then bd (b_X x2.size 1 64) fun W=>some W else some false) (fun Y=>some Y) else if (x2.kind==4)=true then bd (α:=Bool) (bd (c_l x2 false false false false 1) fun a0=>if a0=true then bd (idx x2.kids 0) fun a1=>bd (c_P x1 a1) fun a2=>some (decide<|0<a2) else some false) (fun a3=>some a3) else if (x2.kind==5)=true then bd (α:=Bool) (bd (c_l x2 false false false false 2) fun a4=>if a4=true then bd (idx x2.kids 0) fun a5=>bd (c_P x1 a5) fun a6=>some (decide<|0<a6) else some false) (fun a7=>some a7) else if (x2.kind==6)=true then bd (h_8 n x2) fun a8=>some a8 else if (x2.kind==7)=true then bd (h_9 x1 x2) fun a9=>some a9 else bd (α:=Bool) (if (x2.kind==8)=true then some (x2.kind==8) else some (x2.kind==9)) (fun aa=>if aa=true then bd (c_l x2 false false false false 1) fun ab=>some ab else if (x2.kind==10)=true then bd (α:=Bool) (bd (c_l x2 false true false false 0) fun ad=>if ad=true then if ((x2.bytes.length:Int)==1)=true then bd (idx x2.bytes 0) fun ae=>some ((byteI ae) != (byteI (92:UInt8))) else some false else some false) (fun af=>some af) else some false)
def h_b (n:Nat)(x1:c_)(x2:Int):Option Bool :=
 bd (d_V x1 x2) fun J=>if (!J)=true then some false else bd (idx x1.rules x2) fun G=>bd (α:=Bool) (bd (e_x n G.name) fun L=>if (!L)=true then some true else if G.little=true then some (G.kind != 1) else some false) (fun O=>if O=true then some false else bd (slc x1.rules 0 x2) fun H=>bd (z_ (σ:=Unit) (ρ:=Bool) (fun V=>(fun (_:Unit)=>bd (idx H (V:Int)) fun W=>if (W.name.b==G.name.b)=true then some (.ret false) else some (.next ()))) H.length 0 ()) (el (fun (_:Unit)=>bd (z_ (σ:=Unit) (ρ:=Bool) (fun Y=>(fun (_:Unit)=>bd (idx G.kids (Y:Int)) fun I=>bd (α:=Bool) (if (decide<|I<0)=true then some true else some (decide<|x2<=I)) (fun a0=>if a0=true then some (.ret false) else some (.next ())))) G.kids.length 0 ())<|el (fun (_:Unit)=>bd (h_a n x1 G) fun a1=>some a1)<|fun a2=>some a2)<|fun a3=>some a3))
def h_c (n:Nat)(x1:c_):Option Bool :=
 bd (b_X (x1.rules.length:Int) 1 24) fun G=>if (!G)=true then some false else bd (z_ (σ:=Unit) (ρ:=Bool) (fun H=>(fun (_:Unit)=>bd (h_b n x1 (H:Int)) fun I=>if (!I)=true then some (.ret false) else some (.next ()))) x1.rules.length 0 ()) (el (fun (_:Unit)=>some true)<|fun J=>some J)
def d_W (x1:c_):Option Int :=
 some (r_ (x1.rules.length:Int) 1)
def e_y (n:Nat)(x1:c_)(x2:Int):Option Bool :=
 bd (α:=Bool) (bd (h_c n x1) fun G=>if G=true then bd (d_V x1 x2) fun H=>some H else some false) (fun I=>some I)
def h_d (x1:List UInt8)(x2:Bool):Option Int :=
 if (decide<|4<(x1.length:Int))=true then some 0 else bd (z_ (σ:=Int) (ρ:=Int) (fun H=>(fun G=>bd (α:=Int) (if x2=true then bd (idx x1<|r_ (r_ (x1.length:Int) 1) (H:Int)) fun I=>some (b_n .i64 (· ||| ·) (b_3 .i64 G 8)<|byteI I) else bd (idx x1 (H:Int)) fun J=>some<|b_n .i64 (· ||| ·) (b_3 .i64 G 8)<|byteI J)<|fun L=>some<|.next L)) x1.length 0 0) (el (fun G=>some G)<|fun O=>some O)
def e_z (x1:List UInt8):Option Int :=
 bd (z_ (σ:=Int) (ρ:=Int) (fun H=>(fun G=>bd (idx x1 (H:Int)) fun I=>some<|.next<|m_ G<|byteI I)) x1.length 0 0) (el (fun G=>some<|b_2 G 256)<|fun J=>some J)
def h_e (n:Nat)(x1:List UInt8)(x2:Int)(x3:UInt8):Option ((List UInt8)×Int×Bool) :=
 bd (α:=Bool) (if (decide<|x2<0)=true then some true else some (decide<|(x1.length:Int)<x2)) (fun J=>if J=true then some (([]:List UInt8),x2,false) else bd (U_ (σ:=(List UInt8)×Int) (ρ:=(List UInt8)×Int×Bool) (un2 fun H G=>if (decide<|G<(x1.length:Int))=true then bd (idx x1 G) fun L=>if ((byteI L)==(byteI x3))=true then some (.ret (H,m_ G 1,true)) else bd (idx x1 G) fun O=>bd (α:=Sum Int<|Out ((List UInt8)×Int)<|(List UInt8)×Int×Bool) (if ((byteI O)==(byteI (92:UInt8)))=true then if ((m_ G 1)==(x1.length:Int))=true then some (.inr<|.brk (H,m_ G 1)) else some (.inl<|m_ G 1) else some (.inl G)) (el (fun I=>bd (idx x1 I) fun V=>bd (psh H V) fun W=>some<|.next (W,m_ I 1)) some) else some (.brk (H,G))) n (([]:List UInt8),x2)) (el (un2 fun H G=>some (([]:List UInt8),x2,false))<|fun Y=>some Y))
def b_K (x1:Int)(x2:Int):Option (Option<|Int×Int) :=
 some (some (x1,x2))
def d_X (x1:a_n)(x2:Int)(x3:Int):Option ((List UInt8)×(Option<|Int×Int)) :=
 if (decide<|(r_ (x1.b.length:Int) x2)<x3)=true then bd (b_K x2 1) fun G=>some (([]:List UInt8),G) else bd (slc x1.b x2<|m_ x2 x3) fun H=>some (H,none)
def d_Y (x1:a_n)(x2:Int)(x3:Int):Option (Int×Int×(Option<|Int×Int)) :=
 bd (idx x1.d.rules x2) fun G=>bd2 (d_X x1 x3 G.size) fun I H=>if H.isSome=true then some (0,x3,H) else bd (h_d I G.little) fun J=>some (J,m_ x3 G.size,none)
def h_f (x1:a_n)(x2:g_)(x3:Int):Option (Int×(Option<|Int×Int)) :=
 bd (z_ (σ:=Unit) (ρ:=Int×(Option<|Int×Int)) (fun k10=>(fun (_:Unit)=>bd (idx x2.bytes (k10:Int)) fun G=>if (decide<|(x1.b.length:Int)<=(m_ x3 (k10:Int)))=true then bd (b_K x3 1) fun H=>some (.ret (x3,H)) else bd (idx x1.b<|m_ x3 (k10:Int)) fun I=>if ((byteI I) != (byteI G))=true then bd (b_K (m_ x3 (k10:Int)) 2) fun J=>some (.ret (x3,J)) else some (.next ()))) x2.bytes.length 0 ()) (el (fun (_:Unit)=>some (m_ x3 (x2.bytes.length:Int),none))<|fun L=>some L)
def f_q (x1:a_n)(x2:Int)(x3:Int):Option (Val×Int×(Option<|Int×Int)) :=
 bd2 (d_X x1 x2 x3) fun H G=>if G.isSome=true then some ((⟨0,([]:List UInt8),([]:List Val)⟩:Val),x2,G) else bd (app ([]:List UInt8) H) fun I=>some ((⟨0,I,([]:List Val)⟩:Val),m_ x2 x3,none)
structure e_A where
 impl_fileReader_value:a_n->Int->Int->Option (Val×Int×(Option<|Int×Int))
 impl_fileReader_array:a_n->g_->Int->Option (Val×Int×(Option<|Int×Int))
 impl_fileReader_items:a_n->Val->(List Int)->Int->Option (Val×Int×(Option<|Int×Int))
 impl_fileReader_choice:a_n->g_->Int->Option (Val×Int×(Option<|Int×Int))
 impl_fileReader_option:a_n->g_->Int->Option (Val×Int×(Option<|Int×Int))
 impl_fileReader_checked:a_n->g_->Int->Option (Val×Int×(Option<|Int×Int))
def h_g (n:Nat)(rec:e_A)(x1:a_n)(x2:Int)(x3:Int):Option (Val×Int×(Option<|Int×Int)) :=
 bd (idx x1.d.rules x2) fun G=>if (G.kind==1)=true then bd3 (d_Y x1 x2 x3) fun I J L=>some ((⟨I,([]:List UInt8),([]:List Val)⟩:Val),J,L) else if (G.kind==2)=true then bd2 (h_f x1 G x3) fun O V=>some ((⟨0,([]:List UInt8),([]:List Val)⟩:Val),O,V) else if (G.kind==3)=true then bd3 (f_q x1 x3 G.size) fun W Y a0=>some (W,Y,a0) else if (G.kind==4)=true then bd (idx G.kids 0) fun a1=>bd3 (d_Y x1 a1 x3) fun a2 a3 H=>if H.isSome=true then some ((⟨0,([]:List UInt8),([]:List Val)⟩:Val),x3,H) else bd3 (f_q x1 a3 a2) fun a4 a5 a6=>some (a4,a5,a6) else if (G.kind==5)=true then bd3 (rec.impl_fileReader_array x1 G x3) fun a7 a8 a9=>some (a7,a8,a9) else if (G.kind==6)=true then bd3 (rec.impl_fileReader_items x1 (⟨0,([]:List UInt8),([]:List Val)⟩:Val) G.kids x3) fun aa ab ad=>some (aa,ab,ad) else if (G.kind==7)=true then bd3 (rec.impl_fileReader_choice x1 G x3) fun ae af ah=>some (ae,af,ah) else if (G.kind==8)=true then bd3 (rec.impl_fileReader_option x1 G x3) fun ai aj ak=>some (ai,aj,ak) else if (G.kind==9)=true then bd3 (rec.impl_fileReader_checked x1 G x3) fun al am an=>some (al,am,an) else bd (idx G.bytes 0) fun ao=>bd3 (h_e n x1.b x3 ao) fun ap aq ar=>if (!ar)=true then bd (b_K x3 1) fun au=>some ((⟨0,([]:List UInt8),([]:List Val)⟩:Val),x3,au) else some ((⟨0,ap,([]:List Val)⟩:Val),aq,none)
def h_h (n:Nat)(rec:e_A)(x1:a_n)(x2:g_)(x3:Int):Option (Val×Int×(Option<|Int×Int)) :=
 bd (idx x2.kids 0) fun L=>bd3 (d_Y x1 L x3) fun H O I=>if I.isSome=true then some ((⟨0,([]:List UInt8),([]:List Val)⟩:Val),x3,I) else if (decide<|40<H)=true then bd (b_K x3 6) fun V=>some ((⟨0,([]:List UInt8),([]:List Val)⟩:Val),x3,V) else bd (mk0 0 H) fun J=>bd (z_ (σ:=List Int) (ρ:=Val×Int×(Option<|Int×Int)) (fun W=>(fun G=>bd (idx x2.kids 1) fun Y=>bd (upd G (W:Int) Y) fun a0=>some<|.next a0)) J.length 0 J)<|el (fun G=>bd3 (rec.impl_fileReader_items x1 (⟨0,([]:List UInt8),([]:List Val)⟩:Val) G O) fun a1 a2 a3=>some (a1,a2,a3))<|fun a4=>some a4
def h_i (n:Nat)(rec:e_A)(x1:a_n)(x2:Val)(x3:List Int)(x4:Int):Option (Val×Int×(Option<|Int×Int)) :=
 bd (z_ (σ:=Int×(List Val)) (ρ:=Val×Int×(Option<|Int×Int)) (fun J=>un2 fun G H=>bd (idx x3 (J:Int)) fun L=>bd3 (rec.impl_fileReader_value x1 L G) fun O V I=>if I.isSome=true then some (.ret ((⟨0,([]:List UInt8),([]:List Val)⟩:Val),G,I)) else bd (psh H O) fun W=>some<|.next (V,W)) x3.length 0 (x4,x2.items)) (el (un2 fun G H=>some ((⟨x2.number,x2.bytes,H⟩:Val),G,none))<|fun Y=>some Y)
def h_j (n:Nat)(rec:e_A)(x1:a_n)(x2:g_)(x3:Int):Option (Val×Int×(Option<|Int×Int)) :=
 bd (idx x2.kids 0) fun I=>bd3 (d_Y x1 I x3) fun G J H=>if H.isSome=true then some ((⟨0,([]:List UInt8),([]:List Val)⟩:Val),x3,H) else bd (z_ (σ:=Unit) (ρ:=Val×Int×(Option<|Int×Int)) (fun k10=>(fun (_:Unit)=>bd (idx x2.tags (k10:Int)) fun L=>if (L==G)=true then bd (slc x2.kids ((k10+1:Nat):Int)<|m_ (k10:Int) 2) fun O=>bd3 (rec.impl_fileReader_items x1 (⟨G,([]:List UInt8),([]:List Val)⟩:Val) O J) fun V W Y=>some (.ret (V,W,Y)) else some (.next ()))) x2.tags.length 0 ()) (el (fun (_:Unit)=>bd (b_K x3 3) fun a0=>some ((⟨0,([]:List UInt8),([]:List Val)⟩:Val),x3,a0))<|fun a1=>some a1)
def h_k (n:Nat)(rec:e_A)(x1:a_n)(x2:g_)(x3:Int):Option (Val×Int×(Option<|Int×Int)) :=
 bd2 (d_X x1 x3 1) fun G H=>if H.isSome=true then some ((⟨0,([]:List UInt8),([]:List Val)⟩:Val),x3,H) else bd (idx G 0) fun I=>if (decide<|(byteI (1:UInt8))<(byteI I))=true then bd (b_K x3 4) fun J=>some ((⟨0,([]:List UInt8),([]:List Val)⟩:Val),x3,J) else bd (idx G 0) fun L=>if ((byteI L)==(byteI (0:UInt8)))=true then some ((⟨0,([]:List UInt8),([]:List Val)⟩:Val),m_ x3 1,none) else bd3 (rec.impl_fileReader_items x1 (⟨0,([]:List UInt8),([]:List Val)⟩:Val) x2.kids<|m_ x3 1) fun O V W=>some (O,V,W)
def h_l (n:Nat)(rec:e_A)(x1:a_n)(x2:g_)(x3:Int):Option (Val×Int×(Option<|Int×Int)) :=
 bd3 (rec.impl_fileReader_items x1 (⟨0,([]:List UInt8),([]:List Val)⟩:Val) x2.kids x3) fun J G H=>if H.isSome=true then some ((⟨0,([]:List UInt8),([]:List Val)⟩:Val),x3,H) else bd2 (d_X x1 G 1) fun L I=>if I.isSome=true then some ((⟨0,([]:List UInt8),([]:List Val)⟩:Val),x3,I) else bd (idx L 0) fun O=>bd (slc x1.b x3 G) fun V=>bd (e_z V) fun W=>if ((byteI O) != W)=true then bd (b_K G 5) fun Y=>some ((⟨0,([]:List UInt8),([]:List Val)⟩:Val),x3,Y) else some (J,m_ G 1,none)
def a_8:Nat->e_A
 | 0=>⟨fun _ _ _=>none,fun _ _ _=>none,fun _ _ _ _=>none,fun _ _ _=>none,fun _ _ _=>none,fun _ _ _=>none⟩
 | n+1=>⟨h_g n<|a_8 n,h_h n<|a_8 n,h_i n<|a_8 n,h_j n<|a_8 n,h_k n<|a_8 n,h_l n<|a_8 n⟩
def j_6 (n:Nat):=(a_8 n).impl_fileReader_value
def e_B (n:Nat):=(a_8 n).impl_fileReader_items
def h_m (n:Nat)(x1:c_)(x2:Int)(x3:List UInt8)(x4:Int):Option (Val×Int×Int) :=
 bd (α:=Bool) (bd (e_y n x1 x2) fun H=>if (!H)=true then some true else if (decide<|x4<0)=true then some true else if (decide<|(x3.length:Int)<x4)=true then some true else some (decide<|400<(x3.length:Int))) (fun I=>if I=true then some ((⟨0,([]:List UInt8),([]:List Val)⟩:Val),0,8) else bd3 (j_6 n (⟨(⟨x1.rules⟩:c_),x3⟩:a_n) x2 x4) fun J L G=>if G.isSome=true then (bd2 G fun O V=>some ((⟨0,([]:List UInt8),([]:List Val)⟩:Val),O,V)) else some (J,L,0))
def d_Z (n:Nat)(x1:c_)(x2:List UInt8):Option (Val×Int×Int) :=
 bd (α:=Int×(List UInt8)×(List Val)×Int×Int) (bd (d_W x1) fun J=>bd3 (h_m n x1 J x2 0) fun G L O=>some (G.number,G.bytes,G.items,L,O)) (un5 fun V W Y H I=>bd (α:=Bool) (if (I==0)=true then some (decide<|H<(x2.length:Int)) else some false) (fun a0=>if a0=true then some ((⟨0,([]:List UInt8),([]:List Val)⟩:Val),H,7) else some ((⟨V,W,Y⟩:Val),H,I)))
def k_m (x1:List UInt8)(x2:List UInt8):Option Bool :=
 some ((⟨x1⟩:Str).b==(⟨x2⟩:Str).b)
def f_r (x1:List UInt8)(x2:List UInt8):Option Bool :=
 bd (k_m x1 x2) fun G=>some G
def f_s (x1:List UInt8)(x2:List UInt8):Option Bool :=
 if ((x1.length:Int) != (x2.length:Int))=true then some false else bd (z_ (σ:=Unit) (ρ:=Bool) (fun k10=>(fun (_:Unit)=>bd (idx x1 (k10:Int)) fun G=>bd (idx x2 (k10:Int)) fun H=>if ((byteI G) != (byteI H))=true then some (.ret false) else some (.next ()))) x1.length 0 ()) (el (fun (_:Unit)=>some true)<|fun I=>some I)
def h_n (x1:List Str)(x2:List Str):Option Bool :=
 if ((x1.length:Int) != (x2.length:Int))=true then some false else bd (z_ (σ:=Unit) (ρ:=Bool) (fun k10=>(fun (_:Unit)=>bd (idx x1 (k10:Int)) fun G=>bd (idx x2 (k10:Int)) fun H=>if (G.b != H.b)=true then some (.ret false) else some (.next ()))) x1.length 0 ()) (el (fun (_:Unit)=>some true)<|fun I=>some I)
def f_t (x1:List Int)(x2:List Int):Option Bool :=
 if ((x1.length:Int) != (x2.length:Int))=true then some false else bd (z_ (σ:=Unit) (ρ:=Bool) (fun k10=>(fun (_:Unit)=>bd (idx x1 (k10:Int)) fun G=>bd (idx x2 (k10:Int)) fun H=>if (G != H)=true then some (.ret false) else some (.next ()))) x1.length 0 ()) (el (fun (_:Unit)=>some true)<|fun I=>some I)
def h_o (x1:g_)(x2:g_):Option Bool :=
 if (x1.name.b != x2.name.b)=true then some false else if (x1.kind != x2.kind)=true then some false else if (x1.size != x2.size)=true then some false else if (x1.little != x2.little)=true then some false else bd (f_s x1.bytes x2.bytes) fun G=>if (!G)=true then some false else bd (h_n x1.names x2.names) fun H=>if (!H)=true then some false else bd (f_t x1.tags x2.tags) fun I=>if (!I)=true then some false else bd (f_t x1.kids x2.kids) fun J=>if (!J)=true then some false else some true
def j_7 (x1:List g_)(x2:List g_):Option Bool :=
 if ((x1.length:Int) != (x2.length:Int))=true then some false else bd (z_ (σ:=Unit) (ρ:=Bool) (fun k10=>(fun (_:Unit)=>bd (idx x1 (k10:Int)) fun G=>bd (idx x2 (k10:Int)) fun H=>bd (h_o G H) fun I=>if (!I)=true then some (.ret false) else some (.next ()))) x1.length 0 ()) (el (fun (_:Unit)=>some true)<|fun J=>some J)
def h_p (x1:c_)(x2:c_):Option Bool :=
 bd (j_7 x1.rules x2.rules) fun G=>if (!G)=true then some false else some true
def h_q (x1:Int):Option Str :=
 bd (j_D x1) fun G=>some G
def c_Q (x1:c_)(x2:Int)(x3:Val)(x4:Int):Option Int :=
 bd (idx x1.rules x2) fun G=>if (G.kind==5)=true then bd (idx G.kids 1) fun I=>some I else bd (α:=Sum Unit Int) (if (G.kind==6)=true then if (decide<|x4<(G.kids.length:Int))=true then bd (idx G.kids x4) fun J=>some (.inr J) else some (.inl ()) else bd (α:=Sum Unit<|Sum Unit Int) (if (G.kind==7)=true then bd (z_ (σ:=Unit) (ρ:=Int) (fun H=>(fun (_:Unit)=>bd (idx G.tags (H:Int)) fun L=>if (L==x3.number)=true then bd (idx G.kids ((H+1:Nat):Int)) fun O=>some (.ret O) else some (.next ()))) G.tags.length 0 ()) (el (fun (_:Unit)=>some<|.inl ())<|fun V=>some<|.inr<|.inr V) else bd (α:=Bool) (if (G.kind==8)=true then some (G.kind==8) else some (G.kind==9)) (fun W=>if W=true then bd (idx G.kids 0) fun Y=>some (.inr<|.inr Y) else some (.inl ()))) (el (fun (_:Unit)=>some<|.inl ()) some)) (el (fun (_:Unit)=>some (-1)) some)
def f_u (x1:Int)(x2:Int):Option Int :=
 if (decide<|x2<x1)=true then some x2 else some x1
def e_C (n:Nat)(x1:Int)(x2:Int):Option (List UInt8) :=
 bd (α:=Bool) (bd (a_L x2 1 4) fun I=>if (!I)=true then some true else bd (d_x x2) fun J=>bd (a_L x1 0<|r_ J 1) fun L=>some (!L)) (fun O=>if O=true then some ([]:List UInt8) else bd (U_ (σ:=(List UInt8)×Int) (ρ:=List UInt8) (un2 fun H G=>if (decide<|0<=G)=true then bd (nn<|a_f 8 G) fun Y=>bd (psh H<|mkB<|a_y .i64 x1<|a_f 8 G) fun V=>some (.next (V,r_ G 1)) else some (.brk (H,G))) n (([]:List UInt8),r_ x2 1)) (el (un2 fun H G=>some H)<|fun W=>some W))
def d_e (x1:List UInt8)(x2:List UInt8):Option Bool :=
 if ((x1.length:Int) != (x2.length:Int))=true then some false else bd (z_ (σ:=Unit) (ρ:=Bool) (fun k10=>(fun (_:Unit)=>bd (idx x1 (k10:Int)) fun G=>bd (idx x2 (k10:Int)) fun H=>if ((byteI G) != (byteI H))=true then some (.ret false) else some (.next ()))) x1.length 0 ()) (el (fun (_:Unit)=>some true)<|fun I=>some I)
def h_r (x1:Int)(x2:Int):Option Bool :=
 some (decide<|x1<x2)
def j_8 (x2:Int)(x3:List Int):Option Int :=
 bd (z_ (σ:=Int) (ρ:=Int) (fun I=>(fun G=>bd (idx x3 (I:Int)) fun H=>bd (h_r H G) fun J=>bd (α:=Int) (if J=true then some H else some G)<|fun L=>some<|.next L)) x3.length 0 x2) (el (fun G=>some G)<|fun O=>some O)
def f_v (x1:Int)(x2:Int):Option Int :=
 bd (j_8 x1 [x2]) fun G=>some G
end Go.Vw
namespace Go.Vw
open Go.RowKit Dat
structure Change where
 path:Str
 part:Val
deriving Inhabited
instance:Dat Change:=Dat.via<|fun r=>(r.path,r.part)
end Go.Vw
namespace Go.Vw
def f_X (n:Nat)(x1:Int)(x2:Int):Option (List UInt8) :=
 bd (e_C n x1 x2) fun I=>bd (U_ (σ:=(List UInt8)×Int) (ρ:=List UInt8) (un2 fun H G=>if (decide<|0<=G)=true then bd (idx I G) fun J=>bd (psh H J) fun L=>some (.next (L,r_ G 1)) else some (.brk (H,G))) n (([]:List UInt8),r_ (I.length:Int) 1))<|el (un2 fun H G=>some H)<|fun O=>some O
def d_l (n:Nat)(x1:g_)(x2:Int):Option (List UInt8) :=
 if x1.little=true then bd (f_X n x2 x1.size) fun G=>some G else bd (e_C n x2 x1.size) fun H=>some H
structure h_K where
 spec_l11Print:c_->Int->Val->Option (List UInt8)
def b_N (n:Nat)(rec:h_K)(x1:c_)(x2:Int)(x3:Val):Option (List UInt8) :=
 bd (idx x1.rules x2) fun G=>bd (z_ (σ:=List UInt8) (ρ:=List UInt8) (fun L=>(fun H=>bd (idx x3.items (L:Int)) fun O=>bd (b_d G x3.number (L:Int)) fun V=>bd (rec.spec_l11Print x1 V O) fun W=>bd (app H W) fun Y=>some<|.next Y)) x3.items.length 0 ([]:List UInt8)) (el (fun H=>if (G.kind==1)=true then bd (d_l n G x3.number) fun a0=>some a0 else if (G.kind==2)=true then bd (app ([]:List UInt8) G.bytes) fun a1=>some a1 else if (G.kind==4)=true then bd (idx G.kids 0) fun a2=>bd (idx x1.rules a2) fun a3=>bd (d_l n a3 (x3.bytes.length:Int)) fun a4=>bd (app a4 x3.bytes) fun a5=>some a5 else if (G.kind==5)=true then bd (idx G.kids 0) fun a6=>bd (idx x1.rules a6) fun a7=>bd (d_l n a7 (x3.items.length:Int)) fun a8=>bd (app a8 H) fun a9=>some a9 else if (G.kind==7)=true then bd (idx G.kids 0) fun aa=>bd (idx x1.rules aa) fun ab=>bd (d_l n ab x3.number) fun ad=>bd (app ad H) fun ae=>some ae else if (G.kind==8)=true then bd (app [mkB (x3.items.length:Int)] H) fun af=>some af else if (G.kind==9)=true then bd (f_n H) fun ah=>bd (psh H<|mkB ah) fun ai=>some ai else if (G.kind==10)=true then bd (z_ (σ:=List UInt8) (ρ:=List UInt8) (fun J=>(fun I=>bd (α:=Bool) (bd (idx x3.bytes (J:Int)) fun aj=>bd (idx G.bytes 0) fun ak=>if ((byteI aj)==(byteI ak))=true then some true else bd (idx x3.bytes (J:Int)) fun al=>some<|(byteI al)==(byteI (92:UInt8))) (fun am=>bd (α:=List UInt8) (if am=true then bd (psh I (92:UInt8)) fun an=>some an else some I)<|fun ao=>bd (idx x3.bytes (J:Int)) fun ap=>bd (psh ao ap) fun aq=>some<|.next aq))) x3.bytes.length 0 H) (el (fun I=>bd (idx G.bytes 0) fun ar=>bd (psh I ar) fun au=>some au)<|fun av=>some av) else if (G.kind==3)=true then bd (app ([]:List UInt8) x3.bytes) fun aw=>some aw else some H)<|fun ax=>some ax)
def e_a:Nat->h_K
 | 0=>⟨fun _ _ _=>none⟩
 | n+1=>⟨b_N n<|e_a n⟩
def f_Y (n:Nat):=(e_a n).spec_l11Print
end Go.Vw
namespace Go.Vw
def e_r (x1:c_)(x2:g_)(x3:Val):Option Bool :=
 if (x2.kind==1)=true then bd (α:=Bool) (bd (d_x x2.size) fun G=>bd (a_L x3.number 0<|r_ G 1) fun H=>if H=true then if ((x3.bytes.length:Int)==0)=true then some ((x3.items.length:Int)==0) else some false else some false) (fun I=>some I) else if (x2.kind==2)=true then bd (α:=Bool) (if (x3.number==0)=true then if ((x3.bytes.length:Int)==0)=true then some ((x3.items.length:Int)==0) else some false else some false) (fun J=>some J) else if (x2.kind==3)=true then bd (α:=Bool) (if (x3.number==0)=true then if ((x3.bytes.length:Int)==x2.size)=true then some ((x3.items.length:Int)==0) else some false else some false) (fun L=>some L) else if (x2.kind==4)=true then bd (α:=Bool) (if (x3.number==0)=true then bd (idx x2.kids 0) fun O=>bd (d_y x1 O) fun V=>bd (f_u 400 V) fun W=>if (decide<|(x3.bytes.length:Int)<=W)=true then some ((x3.items.length:Int)==0) else some false else some false) (fun Y=>some Y) else if (x2.kind==10)=true then bd (α:=Bool) (if (x3.number==0)=true then if (decide<|(x3.bytes.length:Int)<=400)=true then some ((x3.items.length:Int)==0) else some false else some false) (fun a0=>some a0) else if (x2.kind==5)=true then bd (α:=Bool) (if (x3.number==0)=true then if ((x3.bytes.length:Int)==0)=true then bd (idx x2.kids 0) fun a1=>bd (d_y x1 a1) fun a2=>bd (f_u 40 a2) fun a3=>some (decide<|(x3.items.length:Int)<=a3) else some false else some false) (fun a4=>some a4) else if (x2.kind==6)=true then bd (α:=Bool) (if (x3.number==0)=true then if ((x3.bytes.length:Int)==0)=true then some ((x3.items.length:Int)==(x2.kids.length:Int)) else some false else some false) (fun a5=>some a5) else if (x2.kind==7)=true then bd (α:=Bool) (if ((x3.bytes.length:Int)==0)=true then if ((x3.items.length:Int)==1)=true then bd (b_d x2 x3.number 0) fun a6=>some (decide<|0<=a6) else some false else some false) (fun a7=>some a7) else if (x2.kind==8)=true then bd (α:=Bool) (if (x3.number==0)=true then if ((x3.bytes.length:Int)==0)=true then some (decide<|(x3.items.length:Int)<=1) else some false else some false) (fun a8=>some a8) else bd (α:=Bool) (if (x3.number==0)=true then if ((x3.bytes.length:Int)==0)=true then some ((x3.items.length:Int)==1) else some false else some false) (fun a9=>some a9)
structure m_Y where
 spec_l9Valid:c_->Int->Val->Option Bool
def e_s (n:Nat)(rec:m_Y)(x1:c_)(x2:Int)(x3:Val):Option Bool :=
 bd (idx x1.rules x2) fun G=>bd (e_r x1 G x3) fun I=>if (!I)=true then some false else bd (z_ (σ:=Unit) (ρ:=Bool) (fun H=>(fun (_:Unit)=>bd (idx x3.items (H:Int)) fun J=>bd (b_d G x3.number (H:Int)) fun L=>bd (rec.spec_l9Valid x1 L J) fun O=>if (!O)=true then some (.ret false) else some (.next ()))) x3.items.length 0 ()) (el (fun (_:Unit)=>some true)<|fun V=>some V)
def d_a:Nat->m_Y
 | 0=>⟨fun _ _ _=>none⟩
 | n+1=>⟨e_s n<|d_a n⟩
def k_l (n:Nat):=(d_a n).spec_l9Valid
def d_b (n:Nat)(x1:c_)(x2:Int)(x3:Val):Option Bool :=
 bd (α:=Bool) (bd (e_w x1 x2) fun G=>if G=true then bd (k_l n x1 x2 x3) fun H=>some H else some false) (fun I=>some I)
def j_0 (n:Nat)(x1:c_)(x2:Int)(x3:Val):Option ((List UInt8)×Bool) :=
 bd (d_b n x1 x2 x3) fun H=>if (!H)=true then some (([]:List UInt8),false) else bd (f_Y n x1 x2 x3) fun G=>if (decide<|400<(G.length:Int))=true then some (([]:List UInt8),false) else some (G,true)
def g_M (n:Nat)(x1:c_)(x2:Val):Option ((List UInt8)×Bool) :=
 bd (d_T x1) fun G=>bd2 (j_0 n x1 G x2) fun H I=>some (H,I)
end Go.Vw
namespace Go.Vw
def j_b (n:Nat)(x1:Int)(x2:Str)(x3:Str)(x4:Str):Option Str :=
 bd (f_l n x1) fun G=>bd (cat G x2) fun H=>bd (cat H x3) fun I=>bd (cat I x4) fun J=>some J
def h_s (x1:List UInt8):Option Str :=
 bd (z_ (σ:=Str) (ρ:=Str) (fun H=>(fun G=>bd (idx x1 (H:Int)) fun I=>bd (idx x1 (H:Int)) fun J=>bd (b_O (⟨[48,49,50,51,52,53,54,55,56,57,97,98,99,100,101,102]⟩:Str) (c_C (byteI I) 16)<|m_ (c_C (byteI I) 16) 1) fun L=>bd (cat G L) fun O=>bd (b_O (⟨[48,49,50,51,52,53,54,55,56,57,97,98,99,100,101,102]⟩:Str) (b_2 (byteI J) 16)<|m_ (b_2 (byteI J) 16) 1) fun V=>bd (cat O V) fun W=>some<|.next W)) x1.length 0 (⟨[]⟩:Str)) (el (fun G=>some G)<|fun Y=>some Y)
structure j_c where
 spec_l10Text:c_->Int->Val->Option Str
 spec_l10List:c_->g_->Val->Option Str
def a_S (n:Nat)(rec:j_c)(x1:c_)(x2:Int)(x3:Val):Option Str :=
 bd (idx x1.rules x2) fun G=>bd (rec.spec_l10List x1 G x3) fun H=>if (G.kind==1)=true then bd (f_l n x3.number) fun I=>some I else if (G.kind==2)=true then some (⟨[33]⟩:Str) else if (G.kind==5)=true then bd (cat (⟨[91]⟩:Str) H) fun J=>bd (cat J (⟨[93]⟩:Str)) fun L=>some L else if (G.kind==6)=true then bd (cat (⟨[123]⟩:Str) H) fun O=>bd (cat O (⟨[125]⟩:Str)) fun V=>some V else if (G.kind==7)=true then bd (j_b n x3.number (⟨[60]⟩:Str) H (⟨[62]⟩:Str)) fun W=>some W else if (G.kind==8)=true then if ((x3.items.length:Int)==0)=true then some (⟨[45]⟩:Str) else bd (cat (⟨[63]⟩:Str) H) fun Y=>some Y else if (G.kind==9)=true then bd (cat (⟨[40]⟩:Str) H) fun a0=>bd (cat a0 (⟨[41]⟩:Str)) fun a1=>some a1 else bd (h_s x3.bytes) fun a2=>bd (cat (⟨[120]⟩:Str) a2) fun a3=>some a3
def h_t (n:Nat)(rec:j_c)(x1:c_)(x2:g_)(x3:Val):Option Str :=
 bd (z_ (σ:=Str) (ρ:=Str) (fun k10=>(fun G=>bd (α:=Str) (if (decide<|0<(k10:Int))=true then bd (cat G (⟨[44]⟩:Str)) fun I=>some I else some G) (fun H=>bd (α:=Str) (if (x2.kind==6)=true then bd (idx x2.names (k10:Int)) fun J=>bd (cat H J) fun L=>bd (cat L (⟨[58]⟩:Str)) fun O=>some O else some H)<|fun V=>bd (idx x3.items (k10:Int)) fun W=>bd (b_d x2 x3.number (k10:Int)) fun Y=>bd (rec.spec_l10Text x1 Y W) fun a0=>bd (cat V a0) fun a1=>some<|.next a1))) x3.items.length 0 (⟨[]⟩:Str)) (el (fun G=>some G)<|fun a2=>some a2)
def b_g:Nat->j_c
 | 0=>⟨fun _ _ _=>none,fun _ _ _=>none⟩
 | n+1=>⟨a_S n<|b_g n,h_t n<|b_g n⟩
def k_s (n:Nat):=(b_g n).spec_l10Text
def e_H (n:Nat)(x1:c_)(x2:Int)(x3:Val):Option Str :=
 bd (d_b n x1 x2 x3) fun G=>if (!G)=true then some (⟨[]⟩:Str) else bd (k_s n x1 x2 x3) fun H=>some H
def h_u (x1:c_)(x2:Int)(x3:Val):Option Bool :=
 bd (idx x1.rules x2) fun G=>bd (α:=Sum (Int×Int×Int) Bool) (if (G.kind==1)=true then bd (c_P x1 x2) fun I=>some (.inl (I,0,0)) else bd (α:=Sum (Int×Int×Int)<|Sum (Int×Int×Int) Bool) (if (G.kind==3)=true then if ((x3.bytes.length:Int) != G.size)=true then some (.inr<|.inr false) else some (.inl (0,G.size,0)) else bd (α:=Int×Int×Int) (if (G.kind==4)=true then bd (idx G.kids 0) fun J=>bd (c_P x1 J) fun L=>bd (f_v 400 L) fun O=>some (0,O,0) else bd (α:=Int×Int×Int) (if (G.kind==10)=true then some (0,400,0) else bd (α:=Int×Int) (if (G.kind==5)=true then bd (idx G.kids 0) fun V=>bd (c_P x1 V) fun W=>bd (f_v 40 W) fun Y=>some (0,Y) else bd (α:=Int×Int) (if (G.kind==6)=true then some (0,(G.kids.length:Int)) else bd (α:=Int×Int) (if (G.kind==7)=true then bd (idx G.kids 0) fun a0=>bd (c_P x1 a0) fun a1=>some (a1,1) else bd (α:=Bool) (if (G.kind==8)=true then some (G.kind==8) else some (G.kind==9)) (fun a2=>bd (α:=Int) (if a2=true then some 1 else some 0)<|fun a3=>some (0,a3))) (un2 fun a4 a5=>some (a4,a5))) (un2 fun a6 a7=>some (a6,a7))) (un2 fun a8 a9=>some (a8,0,a9))) (un3 fun aa ab ad=>some (aa,ab,ad))) (un3 fun ae af ah=>some<|.inl (ae,af,ah))) (el (un3 fun ai aj ak=>some<|.inl (ai,aj,ak)) some)) (el (un3 fun al am H=>bd (α:=Bool) (if (G.kind==6)=true then some ((x3.items.length:Int) != H) else bd (α:=Bool) (if (G.kind==7)=true then some true else some (G.kind==9)) fun an=>if an=true then some ((x3.items.length:Int) != H) else some false) (fun ao=>if ao=true then some false else bd (α:=Bool) (bd (b_X x3.number 0 al) fun ap=>if ap=true then if (decide<|(x3.bytes.length:Int)<=am)=true then some (decide<|(x3.items.length:Int)<=H) else some false else some false) (fun aq=>some aq))) some)
structure n_o where
 impl_validValue:c_->Int->Val->Option Bool
def h_v (n:Nat)(rec:n_o)(x1:c_)(x2:Int)(x3:Val):Option Bool :=
 bd (h_u x1 x2 x3) fun H=>if (!H)=true then some false else bd (z_ (σ:=Unit) (ρ:=Bool) (fun k10=>(fun (_:Unit)=>bd (c_Q x1 x2 x3 (k10:Int)) fun G=>bd (α:=Bool) (if (decide<|G<0)=true then some true else bd (idx x3.items (k10:Int)) fun I=>bd (rec.impl_validValue x1 G I) fun J=>some (!J)) (fun L=>if L=true then some (.ret false) else some (.next ())))) x3.items.length 0 ()) (el (fun (_:Unit)=>some true)<|fun O=>some O)
def e_2:Nat->n_o
 | 0=>⟨fun _ _ _=>none⟩
 | n+1=>⟨h_v n<|e_2 n⟩
def n_p (n:Nat):=(e_2 n).impl_validValue
def e_3 (n:Nat)(x1:c_)(x2:Int)(x3:Val):Option Bool :=
 bd (α:=Bool) (bd (e_y n x1 x2) fun G=>if G=true then bd (n_p n x1 x2 x3) fun H=>some H else some false) (fun I=>some I)
def b_M (x1:g_):Option c_A :=
 if (x1.kind==1)=true then some ((1,([]:List Str)):c_A) else if (x1.kind==2)=true then some ((2,([]:List Str)):c_A) else if (x1.kind==5)=true then some ((5,([]:List Str)):c_A) else if (x1.kind==6)=true then some ((6,x1.names):c_A) else if (x1.kind==7)=true then some ((7,([]:List Str)):c_A) else if (x1.kind==8)=true then some ((8,([]:List Str)):c_A) else if (x1.kind==9)=true then some ((9,([]:List Str)):c_A) else some ((0,([]:List Str)):c_A)
def f_y (x1:List Str)(x2:Str):Option Str :=
 bd (i_k x1 x2) fun G=>some G
def j_d (x1:Int)(x2:Str)(x3:Str)(x4:Str):Option Str :=
 bd (h_q x1) fun G=>bd (cat G x2) fun H=>bd (cat H x3) fun I=>bd (cat I x4) fun J=>some J
def h_w (x1:List UInt8):Option Str :=
 bd (mk0 ()<|a_f 2 (x1.length:Int)) fun W=>bd (z_ (σ:=List UInt8) (ρ:=Str) (fun I=>(fun G=>bd (idx x1 (I:Int)) fun H=>bd (idx (⟨[48,49,50,51,52,53,54,55,56,57,97,98,99,100,101,102]⟩:Str).b (byteI<|shU H 4)) fun J=>bd (idx (⟨[48,49,50,51,52,53,54,55,56,57,97,98,99,100,101,102]⟩:Str).b (byteI<|H &&& (15:UInt8))) fun L=>bd (app G [J,L]) fun O=>some<|.next O)) x1.length 0 ([]:List UInt8))<|el (fun G=>some (⟨G⟩:Str))<|fun V=>some V
structure k_t where
 impl_valueText:c_->Int->Val->Option Str
 impl_valueText_1:Int->c_->Int->Val->Option Str
def a_T (n:Nat)(rec:k_t)(x1:c_)(x2:Int)(x3:Val):Option Str :=
 bd (idx x1.rules x2) fun L=>bd (b_M L) fun G=>if (G.1==1)=true then bd (h_q x3.number) fun O=>some O else if (G.1==2)=true then some (⟨[33]⟩:Str) else if (G.1==5)=true then bd (z_ (σ:=List Str) (ρ:=Str) (fun V=>(fun H=>bd (rec.impl_valueText_1 (V:Int) x1 x2 x3) fun W=>bd (psh H W) fun Y=>some<|.next Y)) x3.items.length 0 ([]:List Str)) (el (fun H=>bd (f_y H (⟨[44]⟩:Str)) fun a0=>bd (cat (⟨[91]⟩:Str) a0) fun a1=>bd (cat a1 (⟨[93]⟩:Str)) fun a2=>some a2)<|fun a3=>some a3) else if (G.1==6)=true then bd (z_ (σ:=List Str) (ρ:=Str) (fun J=>(fun I=>bd (idx G.2 (J:Int)) fun a4=>bd (cat a4 (⟨[58]⟩:Str)) fun a5=>bd (rec.impl_valueText_1 (J:Int) x1 x2 x3) fun a6=>bd (cat a5 a6) fun a7=>bd (psh I a7) fun a8=>some<|.next a8)) G.2.length 0 ([]:List Str)) (el (fun I=>bd (f_y I (⟨[44]⟩:Str)) fun a9=>bd (cat (⟨[123]⟩:Str) a9) fun aa=>bd (cat aa (⟨[125]⟩:Str)) fun ab=>some ab)<|fun ad=>some ad) else if (G.1==7)=true then bd (rec.impl_valueText_1 0 x1 x2 x3) fun ae=>bd (j_d x3.number (⟨[60]⟩:Str) ae (⟨[62]⟩:Str)) fun af=>some af else if (G.1==8)=true then if ((x3.items.length:Int)==0)=true then some (⟨[45]⟩:Str) else bd (rec.impl_valueText_1 0 x1 x2 x3) fun ah=>bd (cat (⟨[63]⟩:Str) ah) fun ai=>some ai else if (G.1==9)=true then bd (rec.impl_valueText_1 0 x1 x2 x3) fun aj=>bd (cat (⟨[40]⟩:Str) aj) fun ak=>bd (cat ak (⟨[41]⟩:Str)) fun al=>some al else bd (h_w x3.bytes) fun am=>bd (cat (⟨[120]⟩:Str) am) fun an=>some an
def h_x (n:Nat)(rec:k_t)(x1:Int)(x2:c_)(x3:Int)(x4:Val):Option Str :=
 bd (idx x4.items x1) fun G=>bd (c_Q x2 x3 x4 x1) fun H=>bd (rec.impl_valueText x2 H G) fun I=>some I
def a_N:Nat->k_t
 | 0=>⟨fun _ _ _=>none,fun _ _ _ _=>none⟩
 | n+1=>⟨a_T n<|a_N n,h_x n<|a_N n⟩
def k_u (n:Nat):=(a_N n).impl_valueText
def e_I (n:Nat)(x1:c_)(x2:Int)(x3:Val):Option Str :=
 bd (e_3 n x1 x2 x3) fun G=>if (!G)=true then some (⟨[]⟩:Str) else bd (k_u n x1 x2 x3) fun H=>some H
end Go.Vw
namespace Go.Vw
structure l_w where
 spec_EqualValues:Val->Val->Option Bool
def c_d (n:Nat)(rec:l_w)(x1:Val)(x2:Val):Option Bool :=
 bd (α:=Bool) (if (x1.number != x2.number)=true then some true else bd (d_e x1.bytes x2.bytes) fun G=>if (!G)=true then some true else some ((x1.items.length:Int) != (x2.items.length:Int))) (fun H=>if H=true then some false else bd (z_ (σ:=Unit) (ρ:=Bool) (fun k10=>(fun (_:Unit)=>bd (idx x1.items (k10:Int)) fun I=>bd (idx x2.items (k10:Int)) fun J=>bd (rec.spec_EqualValues I J) fun L=>if (!L)=true then some (.ret false) else some (.next ()))) x1.items.length 0 ()) (el (fun (_:Unit)=>some true)<|fun O=>some O))
def c_m:Nat->l_w
 | 0=>⟨fun _ _=>none⟩
 | n+1=>⟨c_d n<|c_m n⟩
def f_Z (n:Nat):=(c_m n).spec_EqualValues
end Go.Vw
namespace Go.Vw
structure l_L where
 impl_EqualValues:Val->Val->Option Bool
def c_f (n:Nat)(rec:l_L)(x1:Val)(x2:Val):Option Bool :=
 bd (α:=Bool) (if (x1.number != x2.number)=true then some true else bd (f_r x1.bytes x2.bytes) fun G=>if (!G)=true then some true else some ((x1.items.length:Int) != (x2.items.length:Int))) (fun H=>if H=true then some false else bd (z_ (σ:=Unit) (ρ:=Bool) (fun k10=>(fun (_:Unit)=>bd (idx x1.items (k10:Int)) fun I=>bd (idx x2.items (k10:Int)) fun J=>bd (rec.impl_EqualValues I J) fun L=>if (!L)=true then some (.ret false) else some (.next ()))) x1.items.length 0 ()) (el (fun (_:Unit)=>some true)<|fun O=>some O))
def c_q:Nat->l_L
 | 0=>⟨fun _ _=>none⟩
 | n+1=>⟨c_f n<|c_q n⟩
def g_i (n:Nat):=(c_q n).impl_EqualValues
end Go.Vw
namespace Go.Vw
open Go.RowKit Dat
structure a_O where
 d:c_
 out:List UInt8
deriving Inhabited
end Go.Vw
