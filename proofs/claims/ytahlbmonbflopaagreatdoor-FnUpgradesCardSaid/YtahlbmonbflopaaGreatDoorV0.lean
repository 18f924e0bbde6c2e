import Derived.WalkKit
import Derived.Below
import Derived.Orders
import Derived.Still
import Derived.Great.BuildSlice
import Derived.Deep.LoopGhost
import Derived.Laws.BytesString
import Derived.Lib.LaidTab
import Derived.Lib.ItoaLen
import Derived.Sort.Grow
import Derived.DeepKeys4
import Derived.Laws.StructEq
import Derived.ScopeJumps
import Derived.RangeFuncFrom
import Derived.OrdersIn
import Derived.RangeFuncLeaves
import Derived.Laws.CopyRow
import Derived.Laws.IdiomStrings
import Derived.Lib.AppendStr
set_option linter.unusedVariables false
namespace Go.Vw
abbrev Bt:=List UInt8
open Go.RowKit
abbrev Env:=List<|Nat×Value
def x_:Env->Nat->Option Value
 | [],_=>none
 | (k,v)::e,t=>bif Nat.beq k t then some v else x_ e t
def ev (e:Env):Operand->Option Value
 | .tmp t=>x_ e t
 | .const v=>some v
 | .global g=>some<|.pointer<|some ⟨g,0,none⟩
 | .func f=>some<|.func (.func f) #[] #[]
structure Sat (N:Nat)(e:Env)(a:Act):Prop where
 defers:a.defers=[]
 size:a.tmps.size=N
 at_:∀t v,x_ e t=some v->a.tmps[t]? = some v
theorem Sat.ev {N:Nat}{e:Env}{a:Act}(h:Sat N e a){x:Operand}{v:Value}(hx:ev e x=some v):a.eval x=v:=by
 cases x with
 | tmp t=>have:=h.at_ t v hx;simp [Act.eval,Array.getD_eq_getD_getElem?,this]
 | const u=>simpa [Vw.ev,Act.eval] using hx
 | global g=>simpa [Vw.ev,Act.eval] using hx
 | func f=>simpa [Vw.ev,Act.eval] using hx
theorem Sat.put {N:Nat}{e:Env}{a:Act}(h:Sat N e a){d:Nat}(hd:Nat.blt d N=true)(v:Value):Sat N ((d,v)::e) (a.put (some d) v):=by
 have hd':d<N:=by simpa [Nat.blt_eq] using hd
 refine ⟨h.defers,by simp [Act.put,h.size],λt u hu=>?_⟩
 simp only [x_] at hu
 by_cases hk:d=t
 .subst hk;have hb:Nat.beq d d=true:=by simp
  rw [hb] at hu
  simp only [cond_true,Option.some.injEq] at hu
  subst hu
  simp [Act.put,h.size,hd']
 .have hb:Nat.beq d t=false:=by rw [← Bool.not_eq_true,Nat.beq_eq];exact hk
  rw [hb] at hu
  simp only [cond_false] at hu
  simp only [Act.put,Array.getElem?_setIfInBounds_ne hk]
  exact h.at_ t u hu
theorem Sat.none {N:Nat}{e:Env}{a:Act}(h:Sat N e a)(v:Value):Sat N e (a.put none v):=h
def sub (e:Env):Env->Prop
 | []=>True
 | (k,v)::e'=>x_ e k=some v/\sub e e'
theorem l_M {e:Env}:∀{e':Env},sub e e'->∀t v,x_ e' t=some v->x_ e t=some v
 | [],_,_,_,h=>by simp [x_] at h
 | (k,u)::e',hs,t,v,h=>by
  simp only [x_] at h
  by_cases hk:k=t
  .subst hk;have hb:Nat.beq k k=true:=by simp
   rw [hb] at h
   simp only [cond_true,Option.some.injEq] at h
   subst h;exact hs.1
  .have hb:Nat.beq k t=false:=by rw [← Bool.not_eq_true,Nat.beq_eq];exact hk
   rw [hb] at h
   exact l_M hs.2 t v h
theorem Sat.weaken {N:Nat}{e e':Env}{a:Act}(h:Sat N e a)(hs:sub e e'):Sat N e' a :=
 ⟨h.defers,h.size,λt v ht=>h.at_ t v<|l_M hs t v ht⟩
def WC (P:Program)(N:Nat)(c:Code)(K:Act->World->Prop)(Q:Exit->Act->World->Prop)(e:Env)(w:World):Prop :=
 ∀a,Sat N e a->c.wp P (Exit.then K Q) a w
def KC (P:Program)(y:Code)(K:Act->World->Prop)(Q:Exit->Act->World->Prop):Act->World->Prop :=
 λa w=>y.wp P (Exit.then K Q) a w
def inB (id:Nat)(K:Act->World->Prop)(Q:Exit->Act->World->Prop):Exit->Act->World->Prop
 | .exit i,a,w=>if i=id then K a w else Q (.exit i) a w
 | x,a,w=>Q x a w
def AtK (N:Nat)(K:Act->World->Prop)(e:Env)(w:World):Prop:=∀a,Sat N e a->K a w
section
variable {P:Program}{N:Nat}{K:Act->World->Prop}{Q:Exit->Act->World->Prop}{e:Env}{w:World}
theorem WC.of_KC {y:Code}(h:WC P N y K Q e w):AtK N (KC P y K Q) e w:=h
theorem e_f {x y:Code}(h:WC P N x (KC P y K Q) Q e w):WC P N (.seq x y) K Q e w:=λa ha =>
 wp_seq (Code.wp_mono (λex a w q=>by cases ex <;> exact q)<|h a ha)
theorem a_b (h:AtK N K e w):WC P N .skip K Q e w:=λa ha=>wp_skip<|h a ha
theorem f_s (h:∀a,Sat N e a->Q .ret a w):WC P N .ret K Q e w:=λa ha=>wp_ret<|h a ha
theorem f_t {id:Nat}(h:∀a,Sat N e a->Q (.exit id) a w):WC P N (.exit id) K Q e w:=λa ha=>wp_exit<|h a ha
theorem d_J {id:Nat}{c:Code}(h:WC P N c K (inB id K Q) e w):WC P N (.block id c) K Q e w:=λa ha =>
 wp_block (Code.wp_mono (λex a w q=>by
  cases ex with
  | exit i=>simp only [Exit.then,inB,Exit.inBlock] at *;split <;> simp_all
  | _=>exact q) (h a ha))
theorem e_g {c:Operand}{x y:Code}{b:Bool}(hc:ev e c=some (.bool b))(ht:b=true->WC P N x K Q e w)(hf:b=false->WC P N y K Q e w) :
  WC P N (.cond c x y) K Q e w:=λa ha =>
 wp_cond_split (ha.ev hc) (λh=>ht h a ha) (λh=>hf h a ha)
theorem o_7 {c:Code}{K':Act->World->Prop}{Q':Exit->Act->World->Prop}(hk:∀a w,K' a w->K a w)(hq:∀ex a w,Q' ex a w->Q ex a w)
  (h:WC P N c K' Q' e w):WC P N c K Q e w:=λa ha =>
 Code.wp_mono (λex a w q=>by cases ex <;> first | exact hk _ _ q | exact hq _ _ _ q) (h a ha)
end
def WL (P:Program)(N:Nat)(ops:Array Oper)(K:Act->World->Prop)(Q:Exit->Act->World->Prop)(l:List Oper)(e:Env)(w:World):Prop :=
 ∀a,Sat N e a->wpList P ops (Exit.then K Q) l a w
structure Chg (X:Nat->Prop)(w w':World):Prop where
 os:w'.os=w.os
 tape:w'.tape=w.tape
 output:w'.output=w.output
 size:w.heap.size<=w'.heap.size
 block:∀k,k<w.heap.size->¬X k->w'.heap[k]? = w.heap[k]?
abbrev Cg (l:List Nat):=Chg (· ∈ l)
theorem Below.chg {w w':World}(h:Below w.heap.size w w')(X:Nat->Prop):Chg X w w':=⟨h.os,h.tape,h.output,h.size,λk hk _=>h.block k hk⟩
theorem Chg.below {X:Nat->Prop}{w w':World}(h:Chg X w w'){B:Nat}(hB:B<=w.heap.size)(hX:∀k,k<B->¬X k):Below B w w':=⟨h.os,h.tape,h.output,h.size,λk hk=>h.block k (by omega)<|hX k hk⟩
theorem Chg.refl (X:Nat->Prop)(w:World):Chg X w w:=⟨rfl,rfl,rfl,Nat.le_refl _,λ_ _ _=>rfl⟩
theorem Chg.trans {X:Nat->Prop}{a b c:World}(h:Chg X a b)(k:Chg X b c):Chg X a c :=
 ⟨k.os.trans h.os,k.tape.trans h.tape,k.output.trans h.output,Nat.le_trans h.size k.size,λi hi hx=>(k.block i (Nat.lt_of_lt_of_le hi h.size) hx).trans (h.block i hi hx)⟩
theorem Chg.mono {X Y:Nat->Prop}{w w':World}(h:Chg X w w')(hxy:∀k,k<w.heap.size->X k->Y k):Chg Y w w':=⟨h.os,h.tape,h.output,h.size,λk hk hy=>h.block k hk<|λhx=>hy<|hxy k hk hx⟩
def noX:Nat->Prop:=λ_=>False
def Rd (X:Nat->Prop)(P:Program)(N:Nat)(o:Oper)(e:Env)(w:World)(v:Value):Prop :=
 ∀a,Sat N e a->∀w',Chg X w w'->(execOp a.eval o).run P w' = .ok (.value v) w'
structure Ef (P:Program)(N:Nat)(o:Oper)(e:Env)(w:World)(K:Value->World->Prop):Prop where
 run:∀a,Sat N e a->∀(Q:Exit->Act->World->Prop),o.wp P a w (λa' w'=>∃v,a'=a.put o.dst v/\K v w') Q
def out (o:Oper)(v:Value)(e:Env):Env :=
 match o.dst with
 | some d=>(d,v)::e
 | none=>e
def b_I (N:Nat)(o:Oper):Bool :=
 match o.dst with
 | some d=>Nat.blt d N
 | none=>true
section
variable {P:Program}{N:Nat}{ops:Array Oper}{K:Act->World->Prop}{Q:Exit->Act->World->Prop}{e:Env}{w:World}{o:Oper}{rest:List Oper}
theorem Sat.out {a:Act}(h:Sat N e a)(hf:b_I N o=true)(v:Value):Sat N (out o v e) (a.put o.dst v):=by
 unfold Vw.out b_I at *
 cases hd:o.dst with
 | none=>exact h
 | some d=>rw [hd] at hf;exact h.put hf v
theorem d_K (h:AtK N K e w):WL P N ops K Q [] e w:=λa ha=>h a ha
theorem WL_rd {v:Value}(hg:o.guard=none)(hf:b_I N o=true)(h:Rd noX P N o e w v)(k:WL P N ops K Q rest (out o v e) w):WL P N ops K Q (o::rest) e w:=λa ha =>
 wpList_plain hg λK' hK=>by
  unfold Oper.wp
  rw [h a ha w (Chg.refl _ _)]
  exact hK _ _<|k _<|ha.out hf v
theorem WL_ef {R:Value->World->Prop}(hg:o.guard=none)(hf:b_I N o=true)(h:Ef P N o e w R)(k:∀v w',R v w'->WL P N ops K Q rest (out o v e) w'):WL P N ops K Q (o::rest) e w:=λa ha =>
 wpList_plain hg λK' hK=>Oper.wp_mono (λa' w' ⟨v,he,hr⟩=>by subst he;exact hK _ _<|k v w' hr _<|ha.out hf v)<|h.run a ha (Exit.then _ _)
theorem k_o {j:Nat}{want b:Bool}{d:Nat}(hg:o.guard=some (j,want))(hj:(ops[j]?).bind (·.dst)=some d)(hb:x_ e d=some (.bool b))
  (hf:b_I N o=true) (hy:b=want->∀a,Sat N e a->o.wp P a w (wpList P ops (Exit.then K Q) rest) (Exit.then K Q)) (hn:b ≠ want->WL P N ops K Q rest (out o undef e) w):WL P N ops K Q (o::rest) e w:=λa ha=>by
 have hy':yielded ops a.tmps j=some b:=by
  have:=ha.at_ d _ hb
  simp [yielded,hj,this]
 unfold wpList
 by_cases hbw:b=want
 .rw [if_pos (by simp [Region.wanted,hg,hy',hbw])]
  exact .inl<|hy hbw a ha
 .rw [if_neg (by simp [Region.wanted,hg,hy',hbw])]
  exact hn hbw _<|ha.out hf undef
theorem o_8 {j:Nat}{want:Bool}{d:Nat}{v:Value}(hg:o.guard=some (j,want))(hj:(ops[j]?).bind (·.dst)=some d)(hb:x_ e d=some (.bool want))
  (hf:b_I N o=true) (h:Rd noX P N o e w v) (k:WL P N ops K Q rest (out o v e) w):WL P N ops K Q (o::rest) e w :=
 k_o hg hj hb hf (λ_ a ha=>by
  unfold Oper.wp
  rw [h a ha w (Chg.refl _ _)]
  exact k _ (ha.out hf v)) (λh=>absurd rfl h)
theorem o_9 {j:Nat}{want:Bool}{d:Nat}{R:Value->World->Prop}(hg:o.guard=some (j,want))(hj:(ops[j]?).bind (·.dst)=some d)(hb:x_ e d=some (.bool want))
  (hf:b_I N o=true) (h:Ef P N o e w R) (k:∀v w',R v w'->WL P N ops K Q rest (out o v e) w'):WL P N ops K Q (o::rest) e w :=
 k_o hg hj hb hf (λ_ a ha=>Oper.wp_mono (λa' w' ⟨v,he,hr⟩=>by subst he;exact k v w' hr _<|ha.out hf v)<|h.run a ha (Exit.then _ _)) (λh=>absurd rfl h)
theorem o_a {j:Nat}{want:Bool}{d:Nat}(hg:o.guard=some (j,want))(hj:(ops[j]?).bind (·.dst)=some d)(hb:x_ e d=some (.bool (!want)))
  (hf:b_I N o=true) (k:WL P N ops K Q rest (out o undef e) w):WL P N ops K Q (o::rest) e w :=
 k_o hg hj hb hf (λh=>by cases want <;> simp at h) (λ_=>k)
theorem o_b {j:Nat}{want:Bool}{d:Nat}(hg:o.guard=some (j,want))(hj:(ops[j]?).bind (·.dst)=some d)(hb:x_ e d=some undef)
  (hf:b_I N o=true) (k:WL P N ops K Q rest (out o undef e) w):WL P N ops K Q (o::rest) e w:=λa ha=>by
 have hy':yielded ops a.tmps j=none:=by
  have:=ha.at_ d _ hb
  simp [yielded,hj,this,undef]
 unfold wpList
 rw [if_neg (by simp [Region.wanted,hg,hy'])]
 exact k _<|ha.out hf undef
theorem e_h {id:Nat}{l:List Oper}(h:WL P N l.toArray K Q l e w):WC P N (.region id l.toArray false) K Q e w:=λa ha =>
 wp_region_lit (h a ha)
end
end Go.Vw
namespace Go.Vw
open Go.RowKit
variable {X:Nat->Prop}
def F3:Exit->Act->World->Prop:=λ_ _ _=>False
theorem o_e {P:Program}{o:Oper}{a:Act}{w:World}{K:Act->World->Prop}{Q:Exit->Act->World->Prop}(h:o.wp P a w K F3):o.wp P a w K Q:=by
 unfold Oper.wp at *
 generalize (execOp a.eval o).run P w=r at *
 cases r with
 | ok n w' =>
  cases n <;> simp only [Oper.upon] at h ⊢ <;>
   first
    | exact h
    | exact Calls.mono h (λe w'' he=>by
      cases e with
      | returned v=>exact he
      | panicked c=>exact (show False from he).elim
      | outgrown=>obtain ⟨_,_,hq⟩:=he;exact (show False from hq).elim)
 | halt x w'=>cases x <;> simp only [Oper.upon] at h ⊢ <;> exact (show False from h).elim
def opW (P:Program)(ops:Array Oper)(i:Nat)(K:Act->World->Prop)(a:Act)(w:World):Prop :=
 match ops[i]? with
 | none=>K a w
 | some o=>if Region.wanted o (yielded ops a.tmps) then o.wp P a w K F3 else K (a.put o.dst undef) w
section
variable {P:Program}{ops:Array Oper}{T:Nat}
theorem o_f {Q:Exit->Act->World->Prop}{i:Nat}{K K':Act->World->Prop}{a:Act}{w:World}(hk:∀a w,K a w->K' a w)(h:opW P ops i K a w):wpOp P ops Q i K' a w:=by
 unfold opW at h
 unfold wpOp
 split
 .rename_i ho;simp only [ho] at h;exact hk _ _ h
 .rename_i o ho
  simp only [ho] at h
  split
  .rename_i hw;simp only [hw,if_true] at h;exact .inl<|o_e<|Oper.wp_mono hk h
  .rename_i hw;simp only [hw] at h;exact hk _ _ h
theorem e_n {i:Nat}{K K':Act->World->Prop}{a:Act}{w:World}(hk:∀a w,K a w->K' a w)(h:opW P ops i K a w):opW P ops i K' a w:=by
 unfold opW at *
 split
 .rename_i ho;simp only [ho] at h;exact hk _ _ h
 .rename_i o ho
  simp only [ho] at h
  split
  .rename_i hw;simp only [hw,if_true] at h;exact Oper.wp_mono hk h
  .rename_i hw;simp only [hw] at h;exact hk _ _ h
def YX (X:Nat->Prop)(P:Program)(ops:Array Oper)(o:Oper)(v:Value)(a:Act)(w:World):Prop :=
 (Region.wanted o (yielded ops a.tmps)=true/\∀w',Chg X w w'->(execOp a.eval o).run P w' = .ok (.value v) w') ∨
 (Region.wanted o (yielded ops a.tmps)=false/\v=undef)
theorem YX.of_same {o:Oper}{v:Value}{a a':Act}{w:World}(hy:YX X P ops o v a w)(he:execOp a'.eval o=execOp a.eval o)
  (hw:Region.wanted o (yielded ops a'.tmps)=Region.wanted o (yielded ops a.tmps)):YX X P ops o v a' w:=by
 unfold YX at *
 rw [he,hw]
 exact hy
theorem YX.ext {o:Oper}{v:Value}{a:Act}{w w':World}(hy:YX X P ops o v a w)(hb:Chg X w w'):YX X P ops o v a w':=by
 rcases hy with ⟨h1,h2⟩ | h
 .exact .inl ⟨h1,λw'' hb'=>h2 w''<|hb.trans hb'⟩
 .exact .inr h
theorem YX.opW {i:Nat}{o:Oper}{v:Value}{a:Act}{w:World}{K:Act->World->Prop}(hi:ops[i]? = some o)(hy:YX X P ops o v a w)(h:K (a.put o.dst v) w):opW P ops i K a w:=by
 unfold Vw.opW
 simp only [hi]
 rcases hy with ⟨hw,hv⟩ | ⟨hw,rfl⟩
 .simp only [hw,if_true,Oper.wp,hv w<|Chg.refl _ _,Oper.upon];exact h
 .simp only [hw,Bool.false_eq_true,if_false];exact h
theorem o_g {j:Nat}{oi oj:Oper}{v:Value}(hj:ops[j]? = some oj)(hap:oi.apart ops oj=true)
  (hsi:∀cs b,oi.op ≠ .select cs b) (hsj:∀cs b,oj.op ≠ .select cs b) {K:Act->World->Prop} {a:Act} {w:World}
  (hy:YX X P ops oi v a w) (h:opW P ops j (λa' w'=>Chg X w w'/\K a' w') (a.put oi.dst v) w) :
  opW P ops j (λa' w'=>Chg X w w'/\YX X P ops oi v a' w'/\K (a'.put oi.dst v) w') a w:=by
 obtain ⟨h1,h2,h3⟩:=Oper.apart_spec hap
 have keep:∀(a:Act)(w':World),YX X P ops oi v a w->Chg X w w'->∀u,YX X P ops oi v (a.put oj.dst u) w':=λa w' hy hb u =>
  (hy.of_same (execOp_put oi hsi a oj.dst u h3)<|wanted_put oi a oj.dst u h3).ext hb
 have keepD:∀d,YX X P ops oi v { a with defers:=d::a.defers } w:=λd=>hy.of_same rfl rfl
 unfold opW at *
 simp only [hj] at *
 rw [wanted_put oj a oi.dst v h1] at h
 split
 .rename_i hw
  simp only [hw,if_true] at h
  unfold Oper.wp at *
  rw [execOp_put oj hsj a oi.dst v h1] at h
  generalize (execOp a.eval oj).run P w=r at *
  cases r with
  | ok n w' =>
   cases n <;> simp only [Oper.upon] at h ⊢
   case value u=>exact ⟨h.1,keep a _ hy h.1 u,by rw [← Act.put_comm a v u h2];exact h.2⟩
   case skip=>exact ⟨h.1,keep a _ hy h.1 _,by rw [← Act.put_comm a v undef h2];exact h.2⟩
   case defer d =>
    refine ⟨h.1,keep _ _ (keepD d) h.1 _,?_⟩
    rw [← Act.put_comm _ v undef h2,← Act.put_defers]
    exact h.2
   case enter f args =>
    refine Calls.mono h λe w'' he=>?_
    cases e with
    | returned u=>exact ⟨he.1,keep a _ hy he.1 u,by rw [← Act.put_comm a v u h2];exact he.2⟩
    | panicked c=>exact he
    | outgrown=>exact he
   case row row args=>exact Rows.mono h λu w'' he=>⟨he.1,keep a _ hy he.1 u,by rw [← Act.put_comm a v u h2];exact he.2⟩
  | halt x w'=>cases x <;> simp only [Oper.upon] at h ⊢ <;> exact h
 .rename_i hw
  simp only [hw] at h
  exact ⟨h.1,keep a _ hy h.1 _,by rw [← Act.put_comm a v undef h2];exact h.2⟩
def wpX (X:Nat->Prop)(P:Program)(ops:Array Oper)(T:Nat)(K:Act->World->Prop):Nat->Array Bool->Act->World->Prop
 | 0,L,a,w=>Region.ready .any ops L=[]/\K a w
 | n+1,L,a,w =>
  (Region.ready .any ops L=[]->K a w) /\
  ∀i∈Region.ready .any ops L,opW P ops i (λa' w'=>(T.testBit i=false->Chg X w w')/\wpX X P ops T K n (L.setIfInBounds i true) a' w') a w
theorem l_Q {K:Act->World->Prop}{Q:Exit->Act->World->Prop}(hk:∀a w,K a w->Q .normal a w):∀(n:Nat)(L:Array Bool)(a:Act)(w:World),wpX X P ops T K n L a w->wpAny P .any ops Q n L a w
 | 0,_,_,_,h=>⟨h.1,hk _ _ h.2⟩
 | n+1,_,_,_,h=>⟨λG=>hk _ _<|h.1 G,λi hi=>o_f (λa' w' hx=>l_Q hk n _ a' w' hx.2)<|h.2 i hi⟩
def j_7 (acc:List Nat)(o:Oper):Nat :=
 o.after.toList.foldl (λs e=>if Region.binds .any e then s ||| (2 ^ e.on ||| acc.getD e.on 0) else s) 0
def c_e:List Nat->List Oper->List Nat
 | acc,[]=>acc
 | acc,o::l=>c_e (acc++[j_7 acc o]) l
theorem l_R (acc:List Nat)(i:Nat):∀(l:List Edge)(s:Nat),
  (l.foldl (λs e=>if Region.binds .any e then s ||| (2 ^ e.on ||| acc.getD e.on 0) else s) s).testBit i=true ->
  s.testBit i=true∨∃e∈l,Region.binds .any e=true/\(e.on=i∨(acc.getD e.on 0).testBit i=true)
 | [],_,h=>.inl h
 | e::l,s,h=>by
  simp only [List.foldl_cons] at h
  rcases l_R acc i l _ h with h1 | ⟨e',he',h1⟩
  .by_cases hb:Region.binds .any e=true
   .rw [if_pos hb,Nat.testBit_or,Bool.or_eq_true,Nat.testBit_or,Bool.or_eq_true] at h1
    rcases h1 with h1 | h1 | h1
    .exact .inl h1
    .exact .inr ⟨e,List.mem_cons_self,hb,.inl (by simpa [Nat.testBit_two_pow] using h1)⟩
    .exact .inr ⟨e,List.mem_cons_self,hb,.inr h1⟩
   .rw [if_neg hb] at h1
    exact .inl h1
  .exact .inr ⟨e',List.mem_cons_of_mem _ he',h1⟩
theorem k_q (l r:List Nat)(k:Nat)(h:k<l.length):(l++r).getD k 0=l.getD k 0:=by
 simp [List.getD,List.getElem?_append_left h]
theorem l_S:∀(l:List Oper)(acc:List Nat)(pre:List Oper),acc.length=pre.length ->
  (∀j o i,pre[j]? = some o->(acc.getD j 0).testBit i=true->∃e∈o.after.toList,Region.binds .any e=true/\(e.on=i∨(e.on<j/\(acc.getD e.on 0).testBit i=true))) ->
  ∀j o i,(pre++l)[j]? = some o->((c_e acc l).getD j 0).testBit i=true->∃e∈o.after.toList,Region.binds .any e=true/\(e.on=i∨(e.on<j/\((c_e acc l).getD e.on 0).testBit i=true))
 | [],acc,pre,_,h=>by simpa [c_e] using h
 | o::l,acc,pre,hl,h=>by
  have:=l_S l (acc++[j_7 acc o]) (pre++[o]) (by simp [hl]) (λj oj i hj hb=>by
   by_cases hlt:j<pre.length
   .rw [List.getElem?_append_left hlt] at hj
    rw [k_q _ _ _ (by omega)] at hb
    obtain ⟨e,he,hbi,h1⟩:=h j oj i hj hb;refine ⟨e,he,hbi,h1.imp id λ⟨h2,h3⟩=>⟨h2,?_⟩⟩
    rw [k_q _ _ _ (by omega)]
    exact h3
   .have hje:j=pre.length:=by
     rcases Nat.lt_or_ge j (pre++[o]).length with h' | h'
     .simp at h';omega
     .rw [List.getElem?_eq_none h'] at hj;cases hj
    subst hje
    simp only [List.getElem?_concat_length,Option.some.injEq] at hj
    subst hj
    have hm:(acc++[j_7 acc o]).getD pre.length 0=j_7 acc o:=by
     rw [← hl];simp [List.getD]
    rw [hm] at hb
    rcases l_R acc i _ _ hb with G | ⟨e,he,hbi,h1⟩
    .simp at G
    .refine ⟨e,he,hbi,?_⟩
     rcases h1 with h1 | h1
     .exact .inl h1
     .have hlt':e.on<acc.length:=by
       rcases Nat.lt_or_ge e.on acc.length with h' | h'
       .exact h'
       .simp [List.getD,List.getElem?_eq_none h'] at h1
      exact .inr ⟨by omega,by rw [k_q _ _ _ hlt'];exact h1⟩)
  simpa [c_e] using this
def d_d (ops:Array Oper)(L:Array Bool):Prop:=∀j o,ops[j]? = some o->L.getD j false=true->∀e∈o.after,Region.binds .any e=true->L.getD e.on false=true
theorem d_d.set {L:Array Bool}(h:d_d ops L){i:Nat}(hi:i∈Region.ready .any ops L):d_d ops (L.setIfInBounds i true):=by
 obtain ⟨_,oi,hoi,hall⟩:=mem_ready.1 hi;intro j o hj hl e he hb
 by_cases hij:i=j
 .subst hij;obtain rfl:oi=o:=Option.some.inj<|hoi.symm.trans hj;exact getD_set_true<|hall e he hb
 .rw [getD_set_ne false hij] at hl
  exact getD_set_true<|h j o hj hl e he hb
theorem l_T {L:Array Bool}(h:d_d ops L)(i:Nat):∀(n j:Nat)(o:Oper),j<n->ops[j]? = some o->(∀e∈o.after,Region.binds .any e=true->L.getD e.on false=true) ->
  ((c_e [] ops.toList).getD j 0).testBit i=true->L.getD i false=true
 | 0,_,_,hn,_,_,_=>absurd hn<|Nat.not_lt_zero _
 | n+1,j,o,hn,hj,hall,hb=>by
  obtain ⟨e,he,hbi,h1⟩:=l_S ops.toList [] [] rfl (λ_ _ _ h=>by simp at h) j o i (by simpa using hj) hb;have hL:=hall e (by simpa using he) hbi
  rcases h1 with h1 | ⟨h2,h3⟩
  .rw [← h1];exact hL
  .obtain ⟨oe,hoe⟩:∃oe,ops[e.on]? = some oe:=by
    have:e.on<ops.size:=Nat.lt_trans h2 (Array.getElem?_eq_some_iff.1 hj).1;exact ⟨ops[e.on],by simp [this]⟩
   exact l_T h i n e.on oe (by omega) hoe (h _ _ hoe hL) h3
theorem o_h {L:Array Bool}(h:d_d ops L){i j:Nat}(hj:j∈Region.ready .any ops L)(hi:L.getD i true=false):((c_e [] ops.toList).getD j 0).testBit i=false:=by
 obtain ⟨_,o,ho,hall⟩:=mem_ready.1 hj
 cases hb:((c_e [] ops.toList).getD j 0).testBit i with
 | false=>rfl
 | true =>
  have:=l_T h i (j+1) j o (by omega) ho hall hb
  rcases Nat.lt_or_ge i L.size with h' | h'
  .simp [h'] at this hi;rw [hi] at this;cases this
  .simp [Array.getElem?_eq_none h'] at this
theorem o_i {K:Act->World->Prop}{i:Nat}{oi:Oper}{v:Value}(hi:ops[i]? = some oi)(hsel:∀(j:Nat)(o:Oper) cs b,ops[j]? = some o->o.op ≠ .select cs b) :
  ∀(n:Nat)(L:Array Bool)(a:Act)(w:World),d_d ops L ->
   (∀j oj,ops[j]? = some oj->j ≠ i->L.getD j true=false->((c_e [] ops.toList).getD j 0).testBit i=false->oi.apart ops oj=true/\T.testBit j=false) ->
   i∈Region.ready .any ops L->YX X P ops oi v a w->wpX X P ops T K n (L.setIfInBounds i true) (a.put oi.dst v) w->wpX X P ops T K (n+1) L a w:=by
 intro n
 induction n with
 | zero =>
  intro L a w _ _ hr hy H;refine ⟨λh=>(by rw [h] at hr;cases hr),λj hj=>?_⟩
  by_cases hji:j=i
  .subst hji;exact hy.opW hi ⟨λ_=>Chg.refl _ _,H⟩
  .have:=ready_mono hj hji
   rw [H.1] at this
   cases this
 | succ n ih =>
  intro L a w hd hfree hr hy H;refine ⟨λh=>(by rw [h] at hr;cases hr),λj hj=>?_⟩
  by_cases hji:j=i
  .subst hji;exact hy.opW hi ⟨λ_=>Chg.refl _ _,H⟩
  .have h1:=H.2 j<|ready_mono hj hji;obtain ⟨hjun,oj,hoj,_⟩:=mem_ready.1 hj;have hnw:=o_h hd hj (mem_ready.1 hr).1;obtain ⟨hap,hT⟩:=hfree j oj hoj hji hjun hnw;have h1':=e_n (K':=λa' w'=>Chg X w w'/\wpX X P ops T K n ((L.setIfInBounds i true).setIfInBounds j true) a' w') (λa' w' hx=>⟨hx.1 hT,hx.2⟩) h1;have h2:=o_g hoj hap (λcs b=>hsel i oi cs b hi) (λcs b=>hsel j oj cs b hoj) hy h1'
   have hfree':∀k ok,ops[k]? = some ok->k ≠ i->(L.setIfInBounds j true).getD k true=false->((c_e [] ops.toList).getD k 0).testBit i=false->oi.apart ops ok=true/\T.testBit k=false:=λk ok hk hki hun hno=>by
    refine hfree k ok hk hki ?_ hno
    by_cases hjk:j=k
    .subst hjk;exact hjun
    .rw [getD_set_ne true hjk] at hun;exact hun
   refine e_n (λa' w' h3=>⟨λ_=>h3.1,ih (L.setIfInBounds j true) a' w' (hd.set hj) hfree' (ready_mono hr<|Ne.symm hji) h3.2.1 ?_⟩) h2
   rw [Array.setIfInBounds_comm _ _ hji]
   exact h3.2.2
inductive a_E where
 | done
 | rd (i:Nat) (p:a_E)
 | ef (i:Nat) (p:a_E)
 | br (i:Nat) (p:a_E) (j:Nat) (q:a_E)
 | br3 (i:Nat) (p:a_E) (j:Nat) (q:a_E) (l:Nat) (r:a_E)
def a_E.len:a_E->Nat
 | done=>0
 | rd _ p=>p.len+1
 | ef _ p=>p.len+1
 | br _ p _ _=>p.len+1
 | br3 _ p _ _ _ _=>p.len+1
def k_r (ops:Array Oper)(anc:List Nat)(T:Nat)(L:Array Bool)(i:Nat):Bool :=
 match ops[i]? with
 | none=>false
 | some oi=>(List.range ops.size).all λj=>j==i || L.getD j true || (anc.getD j 0).testBit i || match ops[j]? with
   | some oj=>oi.apart ops oj && !T.testBit j
   | none=>true
def a_E.ok (ops:Array Oper)(anc:List Nat)(T:Nat):a_E->Array Bool->Bool
 | done,L=>(Region.ready .any ops L).isEmpty
 | rd i p,L=>(Region.ready .any ops L).contains i && k_r ops anc T L i && p.ok ops anc T (L.setIfInBounds i true)
 | ef i p,L=>(Region.ready .any ops L==[i]) && p.ok ops anc T (L.setIfInBounds i true)
 | br i p j q,L=>(Region.ready .any ops L==[i,j]) && p.len==q.len && p.ok ops anc T (L.setIfInBounds i true) && q.ok ops anc T (L.setIfInBounds j true)
 | br3 i p j q l r,L=>(Region.ready .any ops L==[i,j,l]) && p.len==q.len && p.len==r.len && p.ok ops anc T (L.setIfInBounds i true) && q.ok ops anc T (L.setIfInBounds j true) && r.ok ops anc T (L.setIfInBounds l true)
def a_E.run (X:Nat->Prop)(P:Program)(ops:Array Oper)(T:Nat)(K:Act->World->Prop):a_E->Act->World->Prop
 | done,a,w=>K a w
 | rd i p,a,w=>∃o v,ops[i]? = some o/\YX X P ops o v a w/\p.run X P ops T K (a.put o.dst v) w
 | ef i p,a,w=>opW P ops i (λa' w'=>(T.testBit i=false->Chg X w w')/\p.run X P ops T K a' w') a w
 | br i p j q,a,w=>opW P ops i (λa' w'=>(T.testBit i=false->Chg X w w')/\p.run X P ops T K a' w') a w /\
   opW P ops j (λa' w'=>(T.testBit j=false->Chg X w w')/\q.run X P ops T K a' w') a w
 | br3 i p j q l r,a,w=>opW P ops i (λa' w'=>(T.testBit i=false->Chg X w w')/\p.run X P ops T K a' w') a w /\
   opW P ops j (λa' w'=>(T.testBit j=false->Chg X w w')/\q.run X P ops T K a' w') a w /\
   opW P ops l (λa' w'=>(T.testBit l=false->Chg X w w')/\r.run X P ops T K a' w') a w
theorem o_j {L:Array Bool}{i:Nat}{oi:Oper}(hi:ops[i]? = some oi)(h:k_r ops (c_e [] ops.toList) T L i=true):∀j oj,ops[j]? = some oj->j ≠ i->L.getD j true=false->((c_e [] ops.toList).getD j 0).testBit i=false->oi.apart ops oj=true/\T.testBit j=false:=by
 intro j oj hj hne hun hno
 simp only [k_r,hi,List.all_eq_true,List.mem_range] at h
 have h1:=h j (Array.getElem?_eq_some_iff.1 hj).1
 simp only [hj,Bool.or_eq_true,beq_iff_eq,hne,false_or,hun,Bool.false_eq_true,hno,Bool.and_eq_true,Bool.not_eq_true'] at h1
 exact h1
theorem e_o {K:Act->World->Prop}(hsel:Region.noSelect ops=true):∀(p:a_E)(L:Array Bool)(a:Act)(w:World),d_d ops L->p.ok ops (c_e [] ops.toList) T L=true->p.run X P ops T K a w->wpX X P ops T K p.len L a w
 | .done,L,a,w,_,hok,h=>⟨by simpa [a_E.ok] using hok,h⟩
 | .rd i p,L,a,w,hd,hok,h=>by
  simp only [a_E.ok,Bool.and_eq_true] at hok
  obtain ⟨⟨hr,hf⟩,hok'⟩:=hok;obtain ⟨o,v,ho,hy,h'⟩:=h;have hr':i∈Region.ready .any ops L:=by simpa using hr
  exact o_i ho (Region.noSelect_spec hsel) p.len L a w hd (o_j ho hf) hr' hy<|e_o hsel p _ _ _ (hd.set hr') hok' h'
 | .ef i p,L,a,w,hd,hok,h=>by
  simp only [a_E.ok,Bool.and_eq_true,beq_iff_eq] at hok
  obtain ⟨hr,hok'⟩:=hok;refine ⟨λG=>(by rw [hr] at G;cases G),λj hj=>?_⟩;have hj':=hj
  rw [hr] at hj
  obtain rfl:j=i:=by simpa using hj
  exact e_n (λa' w' hx=>⟨hx.1,e_o hsel p _ a' w' (hd.set hj') hok' hx.2⟩) h
 | .br i p k q,L,a,w,hd,hok,h=>by
  simp only [a_E.ok,Bool.and_eq_true,beq_iff_eq] at hok
  obtain ⟨⟨⟨hr,hlen⟩,hp⟩,hq⟩:=hok;refine ⟨λG=>(by rw [hr] at G;cases G),λj hj=>?_⟩;have hj':=hj
  rw [hr] at hj
  simp only [List.mem_cons,List.not_mem_nil,or_false] at hj
  rcases hj with rfl | rfl
  .exact e_n (λa' w' hx=>⟨hx.1,e_o hsel p _ a' w' (hd.set hj') hp hx.2⟩) h.1
  .exact e_n (λa' w' hx=>⟨hx.1,by have:=e_o hsel q _ a' w' (hd.set hj') hq hx.2;rw [← hlen] at this;exact this⟩) h.2
 | .br3 i p k q l r,L,a,w,hd,hok,h=>by
  simp only [a_E.ok,Bool.and_eq_true,beq_iff_eq] at hok
  obtain ⟨⟨⟨⟨⟨hr,hlen⟩,hlen2⟩,hp⟩,hq⟩,hs⟩:=hok;refine ⟨λG=>(by rw [hr] at G;cases G),λj hj=>?_⟩;have hj':=hj
  rw [hr] at hj
  simp only [List.mem_cons,List.not_mem_nil,or_false] at hj
  rcases hj with rfl | rfl | rfl
  .exact e_n (λa' w' hx=>⟨hx.1,e_o hsel p _ a' w' (hd.set hj') hp hx.2⟩) h.1
  .exact e_n (λa' w' hx=>⟨hx.1,by have:=e_o hsel q _ a' w' (hd.set hj') hq hx.2;rw [← hlen] at this;exact this⟩) h.2.1
  .exact e_n (λa' w' hx=>⟨hx.1,by have:=e_o hsel r _ a' w' (hd.set hj') hs hx.2;rw [← hlen2] at this;exact this⟩) h.2.2
def a_E.okAll (ops:Array Oper)(T:Nat)(p:a_E):Bool :=
 Region.noSelect ops && p.len==ops.size && p.ok ops (c_e [] ops.toList) T (Array.replicate ops.size false)
theorem d_d.start (ops:Array Oper)(n:Nat):d_d ops (Array.replicate n false):=by
 intro j o _ hl
 rcases Nat.lt_or_ge j n with h | h
 .simp [h] at hl
 .simp [Nat.not_lt.2 h] at hl
structure PR (X:Nat->Prop)(P:Program)(N:Nat)(ops:Array Oper)(T:Nat)(K:Act->World->Prop)(p:a_E)(e:Env)(w:World):Prop where
 run:∀a,Sat N e a->p.run X P ops T K a w
end
section
variable {P:Program}{N:Nat}{ops:Array Oper}{T:Nat}{K:Act->World->Prop}{Q:Exit->Act->World->Prop}{e:Env}{w:World}{o:Oper}{p:a_E}
theorem f_w {id:Nat}{l:List Oper}(T:Nat)(p:a_E)(hm:P.follows .mixedOrders=true)(hok:p.okAll l.toArray T=true)(h:∀w',Below w.heap.size w w'->w'.heap=w.heap->PR X P N l.toArray T K p e w') :
  WC P N (.region id l.toArray true) K Q e w:=λa ha=>by
 simp only [a_E.okAll,Bool.and_eq_true,beq_iff_eq] at hok
 obtain ⟨⟨hsel,hlen⟩,hp⟩:=hok;have:=e_o (P:=P) hsel p _ a { w with drawn:=w.drawn+1 } (d_d.start _ _) hp<|(h { w with drawn:=w.drawn+1 } ⟨rfl,rfl,rfl,Nat.le_refl _,λ_ _=>rfl⟩ rfl).run a ha
 rw [hlen] at this
 exact wp_region_any hm<|l_Q (Q:=Exit.then K Q) (λ_ _ h=>h) _ _ _ _ this
theorem f_x (h:AtK N K e w):PR X P N ops T K .done e w:=⟨λa ha=>h a ha⟩
theorem PR_rd {i:Nat}{v:Value}(ho:ops[i]? = some o)(hg:o.guard=none)(hf:b_I N o=true)(h:Rd X P N o e w v)(k:PR X P N ops T K p (out o v e) w):PR X P N ops T K (.rd i p) e w:=⟨λa ha =>
 ⟨o,v,ho,.inl ⟨by simp [Region.wanted,hg],h a ha⟩,k.run _ (ha.out hf v)⟩⟩
theorem o_k {i j:Nat}{v:Value}{want:Bool}{d:Nat}(ho:ops[i]? = some o)(hg:o.guard=some (j,want))(hj:(ops[j]?).bind (·.dst)=some d)(hb:x_ e d=some (.bool want))(hf:b_I N o=true)
  (h:Rd X P N o e w v) (k:PR X P N ops T K p (out o v e) w):PR X P N ops T K (.rd i p) e w:=by
 constructor
 intro a ha
 have hy':yielded ops a.tmps j=some want:=by
  have:=ha.at_ d _ hb
  simp [yielded,hj,this]
 exact ⟨o,v,ho,.inl ⟨by simp [Region.wanted,hg,hy'],h a ha⟩,k.run _<|ha.out hf v⟩
theorem o_l {i j:Nat}{want:Bool}{d:Nat}(ho:ops[i]? = some o)(hg:o.guard=some (j,want))(hj:(ops[j]?).bind (·.dst)=some d)(hb:x_ e d=some (.bool (!want)))(hf:b_I N o=true)
  (k:PR X P N ops T K p (out o undef e) w):PR X P N ops T K (.rd i p) e w:=by
 constructor
 intro a ha
 have hy':yielded ops a.tmps j=some (!want):=by
  have:=ha.at_ d _ hb
  simp [yielded,hj,this]
 exact ⟨o,undef,ho,.inr ⟨(by cases want <;> simp [Region.wanted,hg,hy']),rfl⟩,k.run _<|ha.out hf undef⟩
theorem o_m {i j:Nat}{want:Bool}{d:Nat}(ho:ops[i]? = some o)(hg:o.guard=some (j,want))(hj:(ops[j]?).bind (·.dst)=some d)(hb:x_ e d=some undef)(hf:b_I N o=true)
  (k:PR X P N ops T K p (out o undef e) w):PR X P N ops T K (.rd i p) e w:=by
 constructor
 intro a ha
 have hy':yielded ops a.tmps j=none:=by
  have:=ha.at_ d _ hb
  simp [yielded,hj,this,undef]
 exact ⟨o,undef,ho,.inr ⟨by simp [Region.wanted,hg,hy'],rfl⟩,k.run _<|ha.out hf undef⟩
theorem l_U {i:Nat}{R:Value->World->Prop}(ho:ops[i]? = some o)(hw:∀a,Sat N e a->Region.wanted o (yielded ops a.tmps)=true)(hf:b_I N o=true)(h:Ef P N o e w R)
  (hT:T.testBit i=true∨∀v w',R v w'->Chg X w w') {a:Act} (ha:Sat N e a) (k:∀v w',R v w'->PR X P N ops T K p (out o v e) w') :
  opW P ops i (λa' w'=>(T.testBit i=false->Chg X w w')/\p.run X P ops T K a' w') a w:=by
 unfold opW
 simp only [ho,hw a ha,if_true]
 refine Oper.wp_mono (λa' w' ⟨v,he,hr⟩=>?_)<|h.run a ha F3;subst he;exact ⟨λht=>(hT.resolve_left (by simp [ht])) v w' hr,(k v w' hr).run _ (ha.out hf v)⟩
theorem k_s {i:Nat}{R:Value->World->Prop}(ho:ops[i]? = some o)(hg:o.guard=none)(hf:b_I N o=true)(h:Ef P N o e w R)
  (hT:T.testBit i=true∨∀v w',R v w'->Chg X w w') (k:∀v w',R v w'->PR X P N ops T K p (out o v e) w'):PR X P N ops T K (.ef i p) e w:=⟨λa ha =>
 l_U ho (λ_ _=>by simp [Region.wanted,hg]) hf h hT ha k⟩
theorem o_n {i j:Nat}{want:Bool}{d:Nat}{R:Value->World->Prop}(ho:ops[i]? = some o)(hg:o.guard=some (j,want))(hj:(ops[j]?).bind (·.dst)=some d)(hb:x_ e d=some (.bool want))(hf:b_I N o=true)(h:Ef P N o e w R)
  (hT:T.testBit i=true∨∀v w',R v w'->Chg X w w') (k:∀v w',R v w'->PR X P N ops T K p (out o v e) w'):PR X P N ops T K (.ef i p) e w:=⟨λa ha =>
 l_U ho (λa ha=>by
  have hy':yielded ops a.tmps j=some want:=by
   have:=ha.at_ d _ hb
   simp [yielded,hj,this]
  simp [Region.wanted,hg,hy']) hf h hT ha k⟩
theorem o_o {i:Nat}(ho:ops[i]? = some o)(hw:∀a,Sat N e a->Region.wanted o (yielded ops a.tmps)=false)(hf:b_I N o=true)(k:PR X P N ops T K p (out o undef e) w):PR X P N ops T K (.ef i p) e w:=by
 constructor
 intro a ha;unfold a_E.run opW
 simp only [ho,hw a ha]
 exact ⟨λ_=>Chg.refl _ _,k.run _<|ha.out hf undef⟩
theorem o_p {i j:Nat}{want:Bool}{d:Nat}(ho:ops[i]? = some o)(hg:o.guard=some (j,want))(hj:(ops[j]?).bind (·.dst)=some d)(hb:x_ e d=some (.bool (!want)))(hf:b_I N o=true)
  (k:PR X P N ops T K p (out o undef e) w):PR X P N ops T K (.ef i p) e w :=
 o_o ho (λa ha=>by
  have hy':yielded ops a.tmps j=some (!want):=by
   have:=ha.at_ d _ hb
   simp [yielded,hj,this]
  cases want <;> simp [Region.wanted,hg,hy']) hf k
theorem b_k {i j:Nat}{q:a_E}(h1:PR X P N ops T K (.ef i p) e w)(h2:PR X P N ops T K (.ef j q) e w):PR X P N ops T K (.br i p j q) e w:=⟨λa ha=>⟨h1.run a ha,h2.run a ha⟩⟩
end
end Go.Vw
namespace Go.Vw
open Go.RowKit
def LEN:Nat:=140737488355328
theorem Q_:LEN<=9223372036854775807:=by decide
def LIM:Nat:=4294967296
def Blk (w:World)(g:Nat)(l:List Value):Prop:=∃T fr,w.heap[g]? = some (.cells l.toArray T fr)/\(fr.2<=fr.1∨l.length<=fr.1)
theorem Blk.lt {w:World}{g:Nat}{l:List Value}(h:Blk w g l):g<w.heap.size:=by
 obtain ⟨T,fr,h,_⟩:=h;exact (Array.getElem?_eq_some_iff.1 h).1
theorem Blk.of_eq {w w':World}{g:Nat}{l:List Value}(h:Blk w g l)(he:w'.heap[g]? = w.heap[g]?):Blk w' g l:=by
 unfold Blk;rw [he];exact h
theorem Blk.chg {X:Nat->Prop}{w w':World}{g:Nat}{l:List Value}(h:Blk w g l)(hc:Chg X w w')(hx:¬X g):Blk w' g l:=h.of_eq<|hc.block g h.lt hx
theorem Blk.ext {w w':World}{g:Nat}{l:List Value}(h:Blk w g l)(hb:Below w.heap.size w w'):Blk w' g l:=h.of_eq<|hb.block g h.lt
theorem Blk.cell {w:World}{g:Nat}{l:List Value}(h:Blk w g l)(i:Nat):w.cell? ⟨g,i,none⟩=l[i]? := by
 obtain ⟨T,fr,h,_⟩:=h
 simp [World.cell?,h]
theorem Blk.free {w:World}{g:Nat}{l:List Value}(h:Blk w g l){i:Nat}(hi:i<l.length):w.frozen? ⟨g,i,none⟩=false:=by
 obtain ⟨T,fr,h,hf⟩:=h
 simp only [World.frozen?,h]
 rcases fr with ⟨lo,hi'⟩
 simp only [Bool.and_eq_false_iff,decide_eq_false_iff_not]
 simp only at hf
 omega
theorem Blk.set {w:World}{g:Nat}{l:List Value}(h:Blk w g l)(i:Nat)(v:Value):Blk (w.setCell ⟨g,i,none⟩ v) g (l.set i v):=by
 obtain ⟨T,fr,h,hf⟩:=h;refine ⟨T,fr,?_,by simpa using hf⟩
 simp only [World.setCell,Array.getElem?_modify,if_true,h,Option.map_some]
 simp
theorem m_f (w:World)(a:Addr)(v:Value):Chg (· = a.block) w (w.setCell a v) :=
 ⟨rfl,rfl,rfl,by simp,λk _ hx=>Below.heap_setCell w a v k hx⟩
theorem c_k (w:World)(o:Obj):Below w.heap.size w (w.alloc o):=(Below.refl _ _).alloc (Nat.le_refl _) o
theorem p_k (w:World)(l:List Value)(T:TypeId):Blk (w.alloc<|.cells l.toArray T) w.heap.size l :=
 ⟨T,(0,0),heap_alloc_new w _,.inl<|Nat.le_refl _⟩
theorem alloc_blk' (w:World)(c:Array Value)(T:TypeId):Blk (w.alloc<|.cells c T) w.heap.size c.toList:=by
 have:=p_k w c.toList T
 simpa using this
def u_ (w:World)(b o:Nat)(cs:List Value):Prop:=∀j v,cs[j]? = some v->w.cell? ⟨b,o+j,none⟩=some v
theorem u_.of_block {w w':World}{b o:Nat}{cs:List Value}(h:u_ w b o cs)(he:w'.heap[b]? = w.heap[b]?):u_ w' b o cs:=λj v hv=>by
 rw [World.cell?_of_block (w:=w) (a:=⟨b,o+j,none⟩) he];exact h j v hv
theorem u_.lt {w:World}{b o:Nat}{cs:List Value}(h:u_ w b o cs)(hn:cs ≠ []):b<w.heap.size:=by
 cases cs with
 | nil=>exact absurd rfl hn
 | cons v r=>exact World.block_lt_of_cell? w ⟨b,o+0,none⟩<|h 0 v rfl
theorem Blk.cells {w:World}{g:Nat}{l:List Value}(h:Blk w g l)(o n:Nat):u_ w g o ((l.drop o).take n):=λj v hv=>by
 rw [h.cell]
 rw [List.getElem?_take] at hv
 split at hv
 .rw [List.getElem?_drop] at hv;exact hv
 .cases hv
theorem j_l {P:Program}{g o:Nat}:∀(vs:List Value)(i:Nat)(w:World)(l:List Value),Blk w g l->o+i+vs.length<=l.length->(∀v∈vs,v.oneCell'=true) ->
  ∃w',(storeCells ⟨g,o,none⟩ vs i).run P w = .ok () w'/\Blk w' g (l.take (o+i)++vs++l.drop (o+i+vs.length))/\Chg (· = g) w w'
 | [],i,w,l,h,_,_=>⟨w,rfl,by simpa using h,Chg.refl _ _⟩
 | v::vs,i,w,l,h,hl,h1=>by
  simp only [List.length_cons] at hl
  have hc:w.cell? ⟨g,o+i,none⟩=some l[o+i]:=by rw [h.cell];simp
  have hf:=h.free (i:=o+i) (by omega);obtain ⟨w',hrun,hb,hch⟩:=j_l (P:=P) (o:=o) vs (i+1) (w.setCell ⟨g,o+i,none⟩ v) (l.set (o+i) v) (h.set _ _) (by simp;omega)<|λu hu=>h1 u<|List.mem_cons_of_mem _ hu;refine ⟨w',?_,?_,(m_f w ⟨g,o+i,none⟩ v).trans hch⟩
  .simp only [storeCells,Sem.run_bind,Addr.add_lit,run_store _ _ _ _ _<|h1 v List.mem_cons_self,hc,hf,Bool.false_eq_true,if_false,Result.andThen_ok]
   exact hrun
  .have hs:=list_seg_step l (o+i) v vs (by omega);have:o+(i+1)=o+i+1:=by omega
   rw [this] at hb
   simp only [List.length_cons]
   rw [← hs]
   exact hb
def Zone:=Nat->Prop
def bl (n:Nat):Zone:=λk=>k<n
instance:Coe Nat Zone:=⟨bl⟩
instance:LE Zone:=⟨λA B=>∀k,A k->B k⟩
def zn (B:Zone)(i j:Nat):Zone:=λk=>B k∨(i<=k/\k<j)
theorem zr {B:Zone}:B<=B:=λ_ h=>h
theorem zt {A B C:Zone}(h:A<=B)(h':B<=C):A<=C:=λk hk=>h' k<|h k hk
theorem a_z {m n:Nat}(h:m<=n):bl m<=bl n:=λ_ hk=>Nat.lt_of_lt_of_le hk h
theorem zt' {B:Zone}{m n:Nat}(h:B<=bl m)(h':m<=n):B<=bl n:=zt h<|a_z h'
theorem a_K {B:Zone}{i j:Nat}:B<=zn B i j:=λ_ h=>.inl h
theorem j_m {B:Zone}{i j i' j':Nat}(h:i'<=i)(h':j<=j'):zn B i j<=zn B i' j':=λ_ hk=>hk.imp id λg=>⟨Nat.le_trans h g.1,Nat.lt_of_lt_of_le g.2 h'⟩
theorem a_B {B:Zone}{i j n:Nat}(h:B<=bl n)(h':j<=n):zn B i j<=bl n:=λk hk=>hk.elim (h k) λg=>Nat.lt_of_lt_of_le g.2 h'
class Dat (α:Type) where
 sz:Nat
 rep:World->Zone->List Value->α->Prop
 own:World->List Nat->List Value->α->Prop
 rep_len:∀{w B cs x},rep w B cs x->cs.length=sz
 rep_one:∀{w B cs x},rep w B cs x->∀c∈cs,c.oneCell'=true
 rep_eq:∀{w w' B cs x},rep w B cs x->(∀k,B k->k<w.heap.size->w'.heap[k]? = w.heap[k]?)->rep w' B cs x
 rep_mono:∀{w B B' cs x},rep w B cs x->B<=B'->rep w B' cs x
 own_eq:∀{w w' S cs x},own w S cs x->(∀k∈S,w'.heap[k]? = w.heap[k]?)->own w' S cs x
 own_lt:∀{w S cs x},own w S cs x->∀k∈S,k<w.heap.size
 own_rep:∀{w S cs x B},own w S cs x->(∀k∈S,B k)->rep w B cs x
 pos:0<sz
open Dat
theorem m_g {α:Type}[Dat α]{w w':World}{B:Zone}{cs:List Value}{x:α}(h:rep w B cs x)(hb:Below w.heap.size w w'):rep w' B cs x:=rep_eq h λk _ hk=>hb.block k hk
theorem k_z {α:Type}[Dat α]{X:Nat->Prop}{w w':World}{B:Zone}{cs:List Value}{x:α}(h:rep w B cs x)(hc:Chg X w w')(hx:∀k,B k->¬X k):rep w' B cs x:=rep_eq h λk hk hk'=>hc.block k hk'<|hx k hk
theorem i_7 {α:Type}[Dat α]{w w':World}{S:List Nat}{cs:List Value}{x:α}(h:own w S cs x)(hb:Below w.heap.size w w'):own w' S cs x:=own_eq h λk hk=>hb.block k<|own_lt h k hk
theorem d_U {α:Type}[Dat α]{X:Nat->Prop}{w w':World}{S:List Nat}{cs:List Value}{x:α}(h:own w S cs x)(hc:Chg X w w')(hx:∀k∈S,¬X k):own w' S cs x:=own_eq h λk hk=>hc.block k (own_lt h k hk)<|hx k hk
theorem own_rep' {α:Type}[Dat α]{w:World}{S:List Nat}{cs:List Value}{x:α}(h:own w S cs x):rep w w.heap.size cs x:=own_rep h<|own_lt h
@[reducible] def Dat.flat {α:Type} (f:α->Value->Prop) (h1:∀{x v},f x v->v.oneCell'=true):Dat α where
 sz:=1
 rep _ _ cs x:=∃v,cs=[v]/\f x v
 own _ S cs x:=S=[]/\∃v,cs=[v]/\f x v
 rep_len:=by rintro _ _ _ _ ⟨v,rfl,_⟩;rfl
 rep_one:=by rintro _ _ _ _ ⟨v,rfl,hv⟩ c hc;rw [List.mem_singleton] at hc;subst hc;exact h1 hv
 rep_eq h _:=h
 rep_mono h _:=h
 own_eq h _:=h
 own_lt:=by rintro _ _ _ _ ⟨rfl,_⟩ k hk;cases hk
 own_rep:=by rintro _ _ _ _ _ ⟨rfl,h⟩ _;exact h
 pos:=Nat.one_pos
def inI (x:Int):Prop:=-9223372036854775808<=x/\x<=9223372036854775807
structure Str where
 b:Bt
deriving DecidableEq,Inhabited
@[reducible] def Str.v (s:Str):Value:=.string ⟨s.b.toArray⟩
@[reducible] def vI (x:Int):Value:=.int .i64 x
@[reducible] def vB (b:Bool):Value:=.bool b
@[reducible] def vU (x:Int):Value:=.int .u8 x
@[reducible] def byteI (x:UInt8):Int:=(x.toNat:Int)
instance:Dat Int:=Dat.flat (λx v=>v=vI x/\inI x) (λh=>by rw [h.1];rfl)
instance:Dat Bool:=Dat.flat (λx v=>v=vB x) (λh=>by rw [h];rfl)
instance:Dat UInt8:=Dat.flat (λx v=>v=vU (byteI x)) (λh=>by rw [h];rfl)
instance:Dat Str:=Dat.flat (λx v=>v=x.v/\x.b.length<=LEN) (λh=>by rw [h.1];rfl)
@[reducible] def Dat.via {α β:Type} [Dat β] (f:α->β):Dat α where
 sz:=sz β
 rep w B cs x:=rep w B cs<|f x
 own w S cs x:=own w S cs<|f x
 rep_len h:=rep_len (α:=β) h
 rep_one h:=rep_one (α:=β) h
 rep_eq h he:=rep_eq (α:=β) h he
 rep_mono h hb:=rep_mono (α:=β) h hb
 own_eq h he:=own_eq (α:=β) h he
 own_lt h:=own_lt (α:=β) h
 own_rep h hb:=own_rep (α:=β) h hb
 pos:=pos (α:=β)
instance {α β:Type}[Dat α][Dat β]:Dat (α×β) where
 sz:=sz α+sz β
 rep w B cs x:=∃c d,cs=c++d/\rep w B c x.1/\rep w B d x.2
 own w S cs x:=∃c d S1 S2,cs=c++d/\S=S1++S2/\own w S1 c x.1/\own w S2 d x.2
 rep_len:=by rintro _ _ _ _ ⟨c,d,rfl,h1,h2⟩;simp [rep_len h1,rep_len h2]
 rep_one:=by
  rintro _ _ _ _ ⟨c,d,rfl,h1,h2⟩ x hx
  rcases List.mem_append.1 hx with h | h
  .exact rep_one h1 x h
  .exact rep_one h2 x h
 rep_eq:=by rintro _ _ _ _ _ ⟨c,d,rfl,h1,h2⟩ he;exact ⟨c,d,rfl,rep_eq h1 he,rep_eq h2 he⟩
 rep_mono:=by rintro _ _ _ _ _ ⟨c,d,rfl,h1,h2⟩ he;exact ⟨c,d,rfl,rep_mono h1 he,rep_mono h2 he⟩
 own_eq:=by
  rintro _ _ _ _ _ ⟨c,d,S1,S2,rfl,rfl,h1,h2⟩ he;exact ⟨c,d,S1,S2,rfl,rfl,own_eq h1<|λk hk=>he k<|List.mem_append_left _ hk,own_eq h2<|λk hk=>he k<|List.mem_append_right _ hk⟩
 own_lt:=by
  rintro _ _ _ _ ⟨c,d,S1,S2,rfl,rfl,h1,h2⟩ k hk
  rcases List.mem_append.1 hk with h | h
  .exact own_lt h1 k h
  .exact own_lt h2 k h
 own_rep:=by
  rintro _ _ _ _ _ ⟨c,d,S1,S2,rfl,rfl,h1,h2⟩ hk;exact ⟨c,d,rfl,own_rep h1<|λk h=>hk k<|List.mem_append_left _ h,own_rep h2<|λk h=>hk k<|List.mem_append_right _ h⟩
 pos:=Nat.add_pos_left (pos (α:=α)) _
def e_ {α:Type}[Dat α](w:World)(B:Zone)(v:Value)(l:List α):Prop :=
 ∃ao c,v = .slice ao l.length c/\l.length<=c/\l.length<=LEN/\(ao=none->l=[]) /\
  ∀p,ao=some p->(l ≠ []->p.spot=none)/\(l ≠ []->B p.block)/\∀(i:Nat)(x:α),l[i]? = some x->∃cs,u_ w p.block (p.off+i * sz α) cs/\rep w B cs x
def a_ {α:Type}[Dat α](w:World)(S:List Nat)(v:Value)(l:List α):Prop :=
 (v = .slice none 0 0/\l=[]/\S=[]) ∨
 ∃g c cur Ss,v = .slice (some ⟨g,0,none⟩) l.length c/\l.length<=c/\l.length<=LEN/\Blk w g cur/\cur.length=c * sz α/\S=g::List.flatten Ss/\Ss.length=l.length /\
  ∀(i:Nat)(x:α)(Si:List Nat),l[i]? = some x->Ss[i]? = some Si->own w Si ((cur.drop<|i * sz α).take (sz α)) x
theorem c_3 {S:List Nat}{Ss:List (List Nat)}{i k:Nat}(h:Ss[i]? = some S)(hk:k∈S):k∈List.flatten Ss:=List.mem_flatten.2 ⟨S,List.mem_of_getElem? h,hk⟩
theorem e_L {α β:Type}{l:List α}{m:List β}(h:m.length=l.length){i:Nat}{x:α}(hx:l[i]? = some x):∃y,m[i]? = some y:=by
 have:=(List.getElem?_eq_some_iff.1 hx).1;exact ⟨m[i],by simp⟩
theorem zip_some' {α β:Type}{l:List α}{m:List β}(h:m.length=l.length){i:Nat}{y:β}(hy:m[i]? = some y):∃x,l[i]? = some x:=by
 have:=(List.getElem?_eq_some_iff.1 hy).1;exact ⟨l[i],by simp⟩
instance {α:Type}[Dat α]:Dat (List α) where
 sz:=1
 rep w B cs l:=∃v,cs=[v]/\e_ w B v l
 own w S cs l:=∃v,cs=[v]/\a_ w S v l
 rep_len:=by rintro _ _ _ _ ⟨v,rfl,_⟩;rfl
 rep_one:=by
  rintro _ _ _ _ ⟨v,rfl,⟨ao,c,rfl,_⟩⟩ x hx
  rw [List.mem_singleton] at hx;subst hx;rfl
 rep_eq:=by
  rintro w w' B _ l ⟨v,rfl,⟨ao,c,hv,h1,h2,h3,h4⟩⟩ he;refine ⟨v,rfl,ao,c,hv,h1,h2,h3,λp hp=>?_⟩;obtain ⟨k1,k2,k3⟩:=h4 p hp;refine ⟨k1,k2,λi x hx=>?_⟩;obtain ⟨cs,g1,g2⟩:=k3 i x hx;have hn:l ≠ []:=by rintro rfl;simp at hx
  refine ⟨cs,g1.of_block<|he _ (k2 hn)<|g1.lt ?_,rep_eq g2 he⟩;have:=rep_len g2;have:=pos (α:=α);rintro rfl;simp at *;omega
 rep_mono:=by
  rintro w B B' _ l ⟨v,rfl,⟨ao,c,hv,h1,h2,h3,h4⟩⟩ hB;refine ⟨v,rfl,ao,c,hv,h1,h2,h3,λp hp=>?_⟩;obtain ⟨k1,k2,k3⟩:=h4 p hp;refine ⟨k1,λhn=>hB _<|k2 hn,λi x hx=>?_⟩;obtain ⟨cs,g1,g2⟩:=k3 i x hx;exact ⟨cs,g1,rep_mono g2 hB⟩
 own_eq:=by
  rintro w w' S _ l ⟨v,rfl,h⟩ he;refine ⟨v,rfl,?_⟩
  rcases h with h | ⟨g,c,cur,Ss,hv,h1,h2,h3,h4,rfl,h6,h7⟩
  .exact .inl h
  .refine .inr ⟨g,c,cur,Ss,hv,h1,h2,h3.of_eq<|he g List.mem_cons_self,h4,rfl,h6,λi x Si hx hS=>own_eq (h7 i x Si hx hS) λk hk=>he k<|List.mem_cons_of_mem _<|c_3 hS hk⟩
 own_lt:=by
  rintro w S _ l ⟨v,rfl,h⟩ k hk
  rcases h with ⟨_,_,rfl⟩ | ⟨g,c,cur,Ss,hv,h1,h2,h3,h4,rfl,h6,h7⟩
  .cases hk
  .rcases List.mem_cons.1 hk with rfl | hk
   .exact h3.lt
   .obtain ⟨Si,hSi,hk⟩:=List.mem_flatten.1 hk;obtain ⟨i,hi⟩:=List.getElem?_of_mem hSi;obtain ⟨x,hx⟩:=zip_some' h6 hi;exact own_lt (h7 i x Si hx hi) k hk
 own_rep:=by
  rintro w S _ l B ⟨v,rfl,h⟩ hB;refine ⟨v,rfl,?_⟩
  rcases h with ⟨rfl,rfl,_⟩ | ⟨g,c,cur,Ss,rfl,h1,h2,h3,h4,rfl,h6,h7⟩
  .exact ⟨none,0,rfl,Nat.le_refl _,Nat.zero_le _,λ_=>rfl,λp hp=>by cases hp⟩
  .refine ⟨some ⟨g,0,none⟩,c,rfl,h1,h2,λh=>(by cases h),λp hp=>?_⟩;obtain rfl:=Option.some.inj hp;refine ⟨λ_=>rfl,λ_=>hB g List.mem_cons_self,λi x hx=>?_⟩;obtain ⟨Si,hSi⟩:=e_L h6 hx;refine ⟨(cur.drop<|i * sz α).take (sz α),?_,own_rep (h7 i x Si hx hSi) λk hk=>hB k<|List.mem_cons_of_mem _<|c_3 hSi hk⟩
   simpa using h3.cells (i * sz α) (sz α)
 pos:=Nat.one_pos
end Go.Vw
namespace Go.Vw
open Go.RowKit
def h_ (x y:Int):Int:=IntKind.i64.wrap<|x+y
def j_ (x y:Int):Int:=IntKind.i64.wrap<|x - y
def a_5 (x y:Int):Int:=IntKind.i64.wrap<|x * y
def c_l (x y:Int):Int:=IntKind.i64.wrap<|x.tdiv y
def b_q (x y:Int):Int:=x.tmod y
def g_Y (x:Int):Int:=IntKind.i64.wrap<|0 - x
def a_O (k:IntKind)(f:BitVec k.bits->BitVec k.bits->BitVec k.bits)(x y:Int):Int:=k.wrap (f (BitVec.ofInt k.bits x)<|BitVec.ofInt k.bits y).toNat
def b_w (k:IntKind)(x y:Int):Int:=k.wrap<|x * 2 ^ (min y.toNat k.bits)
def a_g (k:IntKind)(x y:Int):Int:=x.fdiv<|2 ^ (min y.toNat k.bits)
section
variable {X:Nat->Prop}{P:Program}{N:Nat}{e:Env}{w:World}{dst:Option Tmp}{ty:TypeId}{pos:String}{aft:Array Edge}{gd:Option (Nat×Bool)}{x y z:Operand}
theorem d_V {v:Value}(h:ev e x=some v):Rd X P N ⟨dst,.move x,ty,pos,aft,gd⟩ e w v:=λa ha w' _=>by
 simp [execOp,ha.ev h]
theorem d_W {v:Value}(h:ev e x=some v):Rd X P N ⟨dst,.assign x,ty,pos,aft,gd⟩ e w v:=λa ha w' _=>by
 simp [execOp,ha.ev h]
theorem K_ {p:Addr}(h:ev e x=some (.pointer<|some p)):Rd X P N ⟨dst,.nilCheck x,ty,pos,aft,gd⟩ e w (.pointer<|some p):=λa ha w' _=>by
 simp [execOp,ha.ev h]
theorem p_l {v:Value}{y z:Operand}(h:ev e x=some (.bool true))(hy:ev e y=some v):Rd X P N ⟨dst,.pick x y z,ty,pos,aft,gd⟩ e w v:=λa ha w' _=>by
 simp [execOp,ha.ev h,ha.ev hy,asBool]
theorem p_m {v:Value}{y z:Operand}(h:ev e x=some (.bool false))(hz:ev e z=some v):Rd X P N ⟨dst,.pick x y z,ty,pos,aft,gd⟩ e w v:=λa ha w' _=>by
 simp [execOp,ha.ev h,ha.ev hz,asBool]
def Fld (P:Program)(T k off:Nat):Prop:=∃fs f,P.underlying T=some (.struct fs)/\fs[k]? = some f/\f.offset=off/\∃n,(∀w,(sizeOf f.type).run P w = .ok n w)/\n ≠ 0
theorem e_M {T k off g o:Nat}(hf:Fld P T k off)(h:ev e x=some (.pointer<|some ⟨g,o,none⟩)):Rd X P N ⟨dst,.fieldAddr T x k,ty,pos,aft,gd⟩ e w (.pointer<|some ⟨g,o+off,none⟩):=λa ha w' _=>by
 obtain ⟨fs,f,h1,h2,h3,n,h4,h5⟩:=hf
 simp [execOp,ha.ev h,Instr.fieldAt,Instr.sureAddr,run_underlying h1,h2,fieldPlace,h4,h5,h3,Addr.add_lit]
theorem e_N {T g o:Nat}{v:Value}(hT:∀w,(isAgg T).run P w = .ok false w)(h:ev e x=some (.pointer<|some ⟨g,o,none⟩))(hX:¬X g)(hc:w.cell? ⟨g,o,none⟩=some v):Rd X P N ⟨dst,.load T x,ty,pos,aft,gd⟩ e w v:=λa ha w' hb=>by
 have hc':w'.cell? ⟨g,o,none⟩=some v:=(World.cell?_of_block (w:=w) (a:=⟨g,o,none⟩)<|hb.block g (World.block_lt_of_cell? w _ hc) hX).trans hc
 simp [execOp,ha.ev h,Instr.loadAt,Instr.sureAddr,loadVar,hT,hc']
theorem e_O {T g o n:Nat}{vs:List Value}(hT:∀w,(isAgg T).run P w = .ok true w)(hs:∀w,(sizeOf T).run P w = .ok n w)(h:ev e x=some (.pointer<|some ⟨g,o,none⟩))(hl:vs.length=n)(hX:¬X g)(hc:u_ w g o vs):Rd X P N ⟨dst,.load T x,ty,pos,aft,gd⟩ e w (.agg vs.toArray):=λa ha w' hb=>by
 have hc':∀j v,vs[j]? = some v->w'.cell? ((⟨g,o,none⟩:Addr).add j)=some v:=λj v hv=>by
  rw [Addr.add_lit]
  have:=hc j v hv;exact (World.cell?_of_block (w:=w) (a:=⟨g,o+j,none⟩)<|hb.block g (World.block_lt_of_cell? w _ this) hX).trans this
 have hr:=run_loadCells_list (P:=P) (w:=w') ⟨g,o,none⟩ vs hc';subst hl
 simp [execOp,ha.ev h,Instr.loadAt,Instr.sureAddr,loadVar,hT,hs,hr]
theorem i_8 {T E b o len cap sz:Nat}{k:IntKind}{i:Int}(hT:P.underlying T=some (.slice E))(hs:∀w,(sizeOf E).run P w = .ok sz w)(h:ev e x=some (.slice (some ⟨b,o,none⟩) len cap))(hi:ev e y=some (.int k i))(G:0<=i)(h1:i<len) :
  Rd X P N ⟨dst,.indexAddr T x y,ty,pos,aft,gd⟩ e w (.pointer<|some ⟨b,o+i.toNat * sz,none⟩):=λa ha w' _=>by
 simp [execOp,ha.ev h,ha.ev hi,Instr.indexAt,asIntOf,run_underlying hT,hs,G,h1,Addr.add_lit]
theorem j_n {T:Nat}{s:Str}{k:IntKind}{i:Int}{c:UInt8}(hT:P.underlying T=some .string)(h:ev e x=some s.v)(hi:ev e y=some (.int k i))(G:0<=i)(h1:s.b[i.toNat]? = some c) :
  Rd X P N ⟨dst,.index T x y,ty,pos,aft,gd⟩ e w (vU<|byteI c):=λa ha w' _=>by
 have:(⟨s.b.toArray⟩:ByteArray)[i.toNat]? = some c:=by
  have hlt:=List.getElem?_eq_some_iff.1 h1;obtain ⟨hlt,hv⟩:=hlt
  show (if h:i.toNat<s.b.toArray.size then some (s.b.toArray[i.toNat]) else none)=some c
  rw [dif_pos (by simpa using hlt)]
  simpa using hv
 simp [execOp,ha.ev h,ha.ev hi,Instr.index,asIntOf,run_underlying hT,G,this]
theorem e_P {vs:Array Value}{i:Nat}{v:Value}(h:ev e x=some (.tuple vs))(hv:vs[i]? = some v):Rd X P N ⟨dst,.extract x i,ty,pos,aft,gd⟩ e w v:=λa ha w' _=>by
 simp [execOp,ha.ev h,Instr.extract,hv]
theorem p_n {T E:Nat}{ao:Option Addr}{len cap:Nat}{args:Array Operand}{tys:Array TypeId}(hT:P.underlying T=some (.slice E))(h:ev e x=some (.slice ao len cap)) :
  Rd X P N ⟨dst,.call { callee:=.builtin .len,args:=#[x],argTypes:=#[T] },ty,pos,aft,gd⟩ e w (vI len):=λa ha w' _=>by
 simp [execOp,resolve,invoke,builtin,Builtin.len_,ha.ev h,run_underlying hT,goInt]
theorem g_a {T:Nat}{s:Str}(hT:P.underlying T=some .string)(h:ev e x=some s.v) :
  Rd X P N ⟨dst,.call { callee:=.builtin .len,args:=#[x],argTypes:=#[T] },ty,pos,aft,gd⟩ e w (vI s.b.length):=λa ha w' _=>by
 simp [execOp,resolve,invoke,builtin,Builtin.len_,ha.ev h,run_underlying hT,goInt]
 show ((s.b.toArray.size:Nat):Int)=_
 simp
theorem b_x {op:BinOp}{T T':Nat}{G a2 v:Value}(h1:ev e x=some G)(h2:ev e y=some a2)(hr:∀w,((do eqGuard op T x y G a2;binOp op T G a2):Sem Value).run P w = .ok v w) :
  Rd X P N ⟨dst,.binOp op T x y T',ty,pos,aft,gd⟩ e w v:=λa ha w' _=>by
 have:=hr w'
 simp only [execOp,ha.ev h1,ha.ev h2]
 rw [Sem.run_bind,this]
 rfl
section
variable {T T':Nat}{p q:Int}{k:IntKind}
theorem e_Q (h1:ev e x=some (vI p))(h2:ev e y=some (vI q)):Rd X P N ⟨dst,.binOp .add T x y T',ty,pos,aft,gd⟩ e w (vI<|h_ p q):=b_x h1 h2 λw=>by simp [eqGuard,binOp,Op.intArith,h_]
theorem g_b (h1:ev e x=some (vI p))(h2:ev e y=some (vI q)):Rd X P N ⟨dst,.binOp .sub T x y T',ty,pos,aft,gd⟩ e w (vI<|j_ p q):=b_x h1 h2 λw=>by simp [eqGuard,binOp,Op.intArith,j_]
theorem d_i (h1:ev e x=some (vI p))(h2:ev e y=some (vI q)):Rd X P N ⟨dst,.binOp .mul T x y T',ty,pos,aft,gd⟩ e w (vI<|a_5 p q):=b_x h1 h2 λw=>by simp [eqGuard,binOp,Op.intArith,a_5]
theorem g_Z (h1:ev e x=some (vI p))(h2:ev e y=some (vI q))(G:q ≠ 0):Rd X P N ⟨dst,.binOp .quo T x y T',ty,pos,aft,gd⟩ e w (vI<|c_l p q):=b_x h1 h2 λw=>by simp [eqGuard,binOp,Op.intDiv,G,c_l]
theorem i_9 (h1:ev e x=some (vI p))(h2:ev e y=some (vI q))(G:q ≠ 0):Rd X P N ⟨dst,.binOp .rem T x y T',ty,pos,aft,gd⟩ e w (vI<|b_q p q):=b_x h1 h2 λw=>by simp [eqGuard,binOp,Op.intDiv,G,b_q]
theorem k_A (h1:ev e x=some (.int k p))(h2:ev e y=some (.int k q)):Rd X P N ⟨dst,.binOp .and T x y T',ty,pos,aft,gd⟩ e w (.int k<|a_O k (· &&& ·) p q):=b_x h1 h2 λw=>by simp [eqGuard,binOp,Op.intBits,a_O]
theorem rd_or (h1:ev e x=some (.int k p))(h2:ev e y=some (.int k q)):Rd X P N ⟨dst,.binOp .or T x y T',ty,pos,aft,gd⟩ e w (.int k<|a_O k (· ||| ·) p q):=b_x h1 h2 λw=>by simp [eqGuard,binOp,Op.intBits,a_O]
theorem rd_xor (h1:ev e x=some (.int k p))(h2:ev e y=some (.int k q)):Rd X P N ⟨dst,.binOp .xor T x y T',ty,pos,aft,gd⟩ e w (.int k<|a_O k (· ^^^ ·) p q):=b_x h1 h2 λw=>by simp [eqGuard,binOp,Op.intBits,a_O]
theorem i_a {k':IntKind}(h1:ev e x=some (.int k p))(h2:ev e y=some (.int k' q))(G:0<=q):Rd X P N ⟨dst,.binOp .shl T x y T',ty,pos,aft,gd⟩ e w (.int k<|b_w k p q):=b_x h1 h2 λw=>by simp [eqGuard,binOp,Op.shift,Int.not_lt.2 G,b_w]
theorem j_o {k':IntKind}(h1:ev e x=some (.int k p))(h2:ev e y=some (.int k' q))(G:0<=q):Rd X P N ⟨dst,.binOp .shr T x y T',ty,pos,aft,gd⟩ e w (.int k<|a_g k p q):=b_x h1 h2 λw=>by simp [eqGuard,binOp,Op.shift,Int.not_lt.2 G,a_g]
theorem e_R (h1:ev e x=some (.int k p))(h2:ev e y=some (.int k q)):Rd X P N ⟨dst,.binOp .eql T x y T',ty,pos,aft,gd⟩ e w (vB<|p==q):=b_x h1 h2 λw=>by simp [eqGuard,binOp,Op.intCmp]
theorem g_c (h1:ev e x=some (.int k p))(h2:ev e y=some (.int k q)):Rd X P N ⟨dst,.binOp .neq T x y T',ty,pos,aft,gd⟩ e w (vB<|p != q):=b_x h1 h2 λw=>by simp [eqGuard,binOp,Op.intCmp]
theorem e_S (h1:ev e x=some (.int k p))(h2:ev e y=some (.int k q)):Rd X P N ⟨dst,.binOp .lss T x y T',ty,pos,aft,gd⟩ e w (vB<|decide<|p<q):=b_x h1 h2 λw=>by simp [eqGuard,binOp,Op.intCmp]
theorem b_J (h1:ev e x=some (.int k p))(h2:ev e y=some (.int k q)):Rd X P N ⟨dst,.binOp .leq T x y T',ty,pos,aft,gd⟩ e w (vB<|decide<|p<=q):=b_x h1 h2 λw=>by simp [eqGuard,binOp,Op.intCmp]
theorem a_w (h1:ev e x=some (.int k p))(h2:ev e y=some (.int k q)):Rd X P N ⟨dst,.binOp .gtr T x y T',ty,pos,aft,gd⟩ e w (vB<|decide<|q<p):=b_x h1 h2 λw=>by simp [eqGuard,binOp,Op.intCmp]
theorem b_l (h1:ev e x=some (.int k p))(h2:ev e y=some (.int k q)):Rd X P N ⟨dst,.binOp .geq T x y T',ty,pos,aft,gd⟩ e w (vB<|decide<|q<=p):=b_x h1 h2 λw=>by simp [eqGuard,binOp,Op.intCmp]
end
section
variable {T T':Nat}{p q:Bool}
theorem g_d (h1:ev e x=some (vB p)):Rd X P N ⟨dst,.unOp .not T x,ty,pos,aft,gd⟩ e w (vB (!p)):=λa ha w' _=>by
 simp [execOp,ha.ev h1,Op.unary]
theorem rd_neg {p:Int}(h1:ev e x=some (vI p)):Rd X P N ⟨dst,.unOp .neg T x,ty,pos,aft,gd⟩ e w (vI<|g_Y p):=λa ha w' _=>by
 simp [execOp,ha.ev h1,Op.unary,Op.intArith,g_Y]
end
theorem m_h (l:Bt):(⟨l.toArray⟩:ByteArray).toList=l:=by
 have:∀(n i:Nat)(r:Bt),l.length - i=n->ByteArray.toList.loop ⟨l.toArray⟩ i r=r.reverse++l.drop i:=by
  intro n
  induction n with
  | zero =>
   intro i r h;unfold ByteArray.toList.loop
   rw [if_neg (by show ¬i<l.toArray.size;simp;omega),List.drop_of_length_le (by omega)]
   simp
  | succ n ih =>
   intro i r h;unfold ByteArray.toList.loop;have hi:i<l.length:=by omega
   rw [if_pos (by show i<l.toArray.size;simpa using hi),ih (i+1) _ (by omega)]
   have:ByteArray.get! ⟨l.toArray⟩ i=l[i]:=by
    show l.toArray[i]! = l[i]
    simp [hi]
   rw [this,List.reverse_cons,List.append_assoc,List.singleton_append,List.getElem_cons_drop]
 unfold ByteArray.toList
 rw [this _ 0 [] rfl]
 simp
theorem p_o (a b:Bt):(⟨a.toArray⟩:ByteArray)++⟨b.toArray⟩=⟨(a++b).toArray⟩:=by
 apply ByteArray.ext
 rw [ByteArray.data_append]
 simp
section
variable {T T':Nat}{s t:Str}
theorem i_b (h1:ev e x=some s.v)(h2:ev e y=some t.v):Rd X P N ⟨dst,.binOp .eql T x y T',ty,pos,aft,gd⟩ e w (vB<|s.b==t.b):=b_x h1 h2 λw=>by simp [eqGuard,binOp,Op.stringOp]
theorem p_p (h1:ev e x=some s.v)(h2:ev e y=some t.v):Rd X P N ⟨dst,.binOp .neq T x y T',ty,pos,aft,gd⟩ e w (vB<|s.b != t.b):=b_x h1 h2 λw=>by simp [eqGuard,binOp,Op.stringOp,bne]
theorem p_q (h1:ev e x=some s.v)(h2:ev e y=some t.v)(hl:s.b.length+t.b.length<=LEN):Rd X P N ⟨dst,.binOp .add T x y T',ty,pos,aft,gd⟩ e w (Str.v ⟨s.b++t.b⟩):=b_x h1 h2 λw=>by
 have h:¬((s.b.length:Int)+(t.b.length:Int)) > 9223372036854775807:=by have:=Q_;omega
 have hm:IntKind.i64.max=9223372036854775807:=by decide
 simp only [eqGuard,binOp,Op.stringOp]
 simp [ByteArray.size,hm,p_o]
 omega
end
theorem m_i {S D:Nat}{k k':IntKind}{p:Int}{d:TypeDesc}(hS:P.underlying S=some d)(hD:P.underlying D=some (.int k'))(h:ev e x=some (.int k p)):Rd X P N ⟨dst,.convert S D x,ty,pos,aft,gd⟩ e w (.int k'<|k'.wrap p):=λa ha w' _=>by
 simp [execOp,ha.ev h,convert,run_underlying hS,run_underlying hD,Conv.intToInt]
theorem m_j {T:Nat}{v:Value}{d:TypeDesc}(hT:P.underlying T=some d)(hd:∀ms,d ≠ .interface ms)(h:ev e x=some v):Rd X P N ⟨dst,.makeInterface T x,ty,pos,aft,gd⟩ e w (.iface T v):=λa ha w' _=>by
 have:(Instr.makeInterface T v).run P w' = .ok (.iface T v) w':=by
  unfold Instr.makeInterface
  rw [Sem.run_bind,run_underlying hT]
  cases d <;> first | rfl | exact absurd rfl<|hd _
 simp [execOp,ha.ev h,this]
end
end Go.Vw
namespace Go.Vw
open Go.RowKit Dat
class b_m (α:Type)[Dat α]:Prop where
 flat:∀{w:World}{B:Zone}{cs:List Value}{x:α},rep w B cs x->own w [] cs x
 none:∀{w:World}{S:List Nat}{cs:List Value}{x:α},own w S cs x->S=[]
instance:b_m Int:=⟨λh=>⟨rfl,h⟩,λh=>h.1⟩
instance:b_m Bool:=⟨λh=>⟨rfl,h⟩,λh=>h.1⟩
instance:b_m UInt8:=⟨λh=>⟨rfl,h⟩,λh=>h.1⟩
instance:b_m Str:=⟨λh=>⟨rfl,h⟩,λh=>h.1⟩
instance {α β:Type}[Dat α][Dat β][b_m α][b_m β]:b_m (α×β) :=
 ⟨λ⟨c,d,he,h1,h2⟩=>⟨c,d,[],[],he,rfl,b_m.flat h1,b_m.flat h2⟩,λ⟨_,_,S1,S2,_,hS,h1,h2⟩=>by
  rw [hS,b_m.none h1,b_m.none h2];rfl⟩
def X_ (n i:Nat)(l:List Value):List Value:=(l.drop<|i * n).take n
theorem e_T {n i k:Nat}{l r:List Value}(h:l.length=k * n)(hi:i<k):X_ n i (l++r)=X_ n i l:=by
 unfold X_;have h1:(i+1) * n<=k * n:=Nat.mul_le_mul_right n hi
 rw [Nat.succ_mul] at h1
 rw [List.drop_append_of_le_length (by omega),List.take_append_of_le_length (by simp;omega)]
theorem i_c {n i k:Nat}{l r:List Value}(h:l.length=k * n)(hi:k<=i):X_ n i (l++r)=X_ n (i - k) r:=by
 unfold X_;have h1:k * n<=i * n:=Nat.mul_le_mul_right n hi
 rw [List.drop_append,List.drop_of_length_le (by omega),List.nil_append,h,Nat.sub_mul]
theorem k_B {n i k:Nat}{l:List Value}(hi:i<k):X_ n i (l.take<|k * n)=X_ n i l:=by
 unfold X_;have h1:(i+1) * n<=k * n:=Nat.mul_le_mul_right n hi
 rw [Nat.succ_mul] at h1
 rw [List.drop_take,List.take_take]
 congr 1
 omega
theorem j_p (l:List Value)(n:Nat)(h:l.length=n):X_ n 0 l=l:=by
 unfold X_;simp [← h]
theorem repS_row' {α:Type}[Dat α]{w:World}{B:Zone}{p:Addr}(xs:List α)(h:∀(i:Nat)(x:α),xs[i]? = some x->∃cs,u_ w p.block (p.off+i * sz α) cs/\rep w B cs x):∀k,k<=xs.length ->
  ∃news,news.length=k * sz α/\u_ w p.block p.off news/\∀(i:Nat)(x:α),i<k->xs[i]? = some x->rep w B (X_ (sz α) i news) x
 | 0,_=>⟨[],by simp,λj v hv=>by simp at hv,λi x hi=>absurd hi<|Nat.not_lt_zero _⟩
 | k+1,hk=>by
  obtain ⟨news,h1,h2,h3⟩:=repS_row' xs h k (by omega);have hkl:k<xs.length:=by omega
  obtain ⟨cs,g1,G⟩:=h k xs[k] (by simp);have hl:=rep_len G;refine ⟨news++cs,by simp [h1,hl,Nat.succ_mul],?_,?_⟩
  .intro j v hv
   by_cases hj:j<news.length
   .rw [List.getElem?_append_left hj] at hv;exact h2 j v hv
   .rw [List.getElem?_append_right (by omega)] at hv
    have:=g1 _ _ hv
    rw [h1] at this hj
    have he:p.off+k * sz α+(j - k * sz α)=p.off+j:=by omega
    rwa [he] at this
  .intro i y hik hy
   by_cases hi:i<k
   .rw [e_T h1 hi]
    exact h3 i y hi hy
   .have hi':i=k:=by omega
    subst hi'
    rw [i_c h1 (Nat.le_refl _),Nat.sub_self,j_p cs _ hl]
    rw [List.getElem?_eq_getElem hkl,Option.some.injEq] at hy
    subst hy;exact G
theorem m_k {α:Type}[Dat α]{w:World}{B:Zone}{p:Addr}(xs:List α)(h:∀(i:Nat)(x:α),xs[i]? = some x->∃cs,u_ w p.block (p.off+i * sz α) cs/\rep w B cs x) :
  ∃news,news.length=xs.length * sz α/\u_ w p.block p.off news/\∀(i:Nat)(x:α),xs[i]? = some x->rep w B (X_ (sz α) i news) x:=by
 obtain ⟨news,h1,h2,h3⟩:=repS_row' xs h xs.length<|Nat.le_refl _;exact ⟨news,h1,h2,λi x hx=>h3 i x (List.getElem?_eq_some_iff.1 hx).1 hx⟩
structure El (P:Program)(T E n bytes:Nat)(z:Value):Prop where
 sl:P.underlying T=some (.slice E)
 info:(P.info? E).map (λi=>(i.zero,i.size,i.bytes))=some (some z,n,bytes)
 zlen:z.cells.size=n
 pos:0<n
 small:bytes<=32768
theorem El.sm {P:Program}{T E n bytes:Nat}{z:Value}(h:El P T E n bytes z):Nat.ble bytes 32768=true:=Nat.ble_eq_true_of_le h.small
inductive App (w w':World)(n m sz:Nat)(sv v':Value)(news:List Value):Prop
 | same (hm:m=0) (hv:v'=sv) (hw:w'=w)
 | place (g c:Nat) (cur:List Value) (hs:sv = .slice (some ⟨g,0,none⟩) n c) (hv:v' = .slice (some ⟨g,0,none⟩) (n+m) c) (hc:n+m<=c) (hb:Blk w g cur) (hl:cur.length=c * sz) (hb':Blk w' g (cur.take (n * sz)++news++cur.drop (n * sz+m * sz))) (ch:Chg (· = g) w w')
 | grown (c:Nat) (olds zs:List Value) (hv:v' = .slice (some ⟨w.heap.size,0,none⟩) (n+m) c) (hc:n+m<=c) (hb':Blk w' w.heap.size (olds++news++zs)) (hl:(olds++news++zs).length=c * sz) (ho:olds.length=n * sz)
   (hold:∀g c cur,sv = .slice (some ⟨g,0,none⟩) n c->Blk w g cur->cur.length=c * sz->n<=c->olds=cur.take (n * sz)) (hb:Below w.heap.size w w')
theorem Blk.uniq {w:World}{g:Nat}{l l':List Value}(h:Blk w g l)(h':Blk w g l'):l=l':=by
 obtain ⟨T,fr,h,_⟩:=h;obtain ⟨T',fr',h',_⟩:=h';have:=h.symm.trans h'
 simp at this
 exact this.1
theorem j_q (w:World):Below w.heap.size w w.drew:=⟨rfl,rfl,rfl,Nat.le_refl _,λ_ _=>rfl⟩
theorem p_r {P:Program}{T E sz bytes:Nat}{z:Value}(hE:El P T E sz bytes z)(w:World)(ty:TypeId){n:Nat}{sv:Value}
  (hs:(sv = .slice none 0 0/\n=0)∨∃g c cur,sv = .slice (some ⟨g,0,none⟩) n c/\n<=c/\Blk w g cur/\cur.length=c * sz)
  {p:Addr} {m c':Nat} {news:List Value} (hp:news ≠ []->p.spot=none) (hl:news.length=m * sz) (hn:u_ w p.block p.off news) (h1:∀u∈news,u.oneCell'=true)
  (hlen:n+m<=LEN) (hby:(n+m) * bytes<=140737488355328) :
  ∃v' w',(Builtin.append_ #[T,T] ty #[sv,.slice (some p) m c']).run P w = .ok v' w'/\App w w' n m sz sv v' news:=by
 obtain ⟨i,hi,hz,rfl,rfl⟩:=info_parts hE.info
 have hn':∀j u,news[j]? = some u->w.cell? (p.add j)=some u:=λj u hu=>by
  have hsp:=hp (by rintro rfl;simp at hu);have hpe:p=⟨p.block,p.off,none⟩:=by cases p;simp only at hsp;rw [hsp]
  rw [hpe,Addr.add_lit];exact hn j u hu
 have hL:=Q_
 rcases hs with ⟨rfl,rfl⟩ | ⟨g,c,cur,rfl,hnc,hB,hcl⟩
 .by_cases hm:m=0
  .subst hm;have hnil:news=[]:=List.eq_nil_of_length_eq_zero (by simpa using hl);subst hnil;refine ⟨.slice none 0 0,w,?_,.same rfl rfl rfl⟩
   simp [Builtin.append_,run_underlying hE.sl,sizeOf,typeInfo,hi,Builtin.lenOf,Builtin.firstCells,loadCells,loadCellsFrom]
  .have hr:=run_append_nil (P:=P) w T ty E i z hE.sl hi hz p m c' news hl hn' (by omega) (by omega) (by have:=hby;simp only [Nat.zero_add] at this;omega);have hge:=grownCap_ge w m 0 E;refine ⟨_,_,hr,.grown (grownCap w m 0 E) [] (Builtin.zeroCells z.cells<|grownCap w m 0 E - m).toList (by simp) (by simpa using hge) ?_ ?_ (by simp) (λg c cur h=>by cases h) ?_⟩
   .have:=alloc_blk' w.drew (news.toArray++Builtin.zeroCells z.cells (grownCap w m 0 E - m)) E
    simpa using this
   .simp only [List.nil_append,List.length_append,hl,Array.length_toList,size_zeroCells,hE.zlen,← Nat.add_mul]
    congr 1;omega
   .exact Below.trans (j_q w)<|c_k w.drew _
 .by_cases hroom:n+m<=c
  .obtain ⟨w',hst,hb',hch⟩:=j_l (P:=P) (o:=n * i.size) news 0 w cur hB (by rw [hl,hcl,Nat.add_zero,← Nat.add_mul];exact Nat.mul_le_mul_right _ hroom) h1;have hf:=run_firstCells_some (P:=P) w i.size m p m c' news hl hn';refine ⟨.slice (some ⟨g,0,none⟩) (n+m) c,w',?_,.place g c cur rfl rfl hroom hB hcl (by simpa [hl] using hb') hch⟩
   simp [Builtin.append_,run_underlying hE.sl,sizeOf,typeInfo,hi,Builtin.lenOf,hroom,hf,Addr.add_lit,hst]
  .have holds:∀j v,(cur.take<|n * i.size)[j]? = some v->w.cell? ((⟨g,0,none⟩:Addr).add j)=some v:=λj v hv=>by
    rw [Addr.add_lit,Nat.zero_add,hB.cell]
    rw [List.getElem?_take] at hv
    split at hv
    .exact hv
    .cases hv
   have hle:n * i.size<=cur.length:=by rw [hcl];exact Nat.mul_le_mul_right _ hnc
   have hr:=run_append_grow (P:=P) w T ty E i z hE.sl hi hz ⟨g,0,none⟩ n c (cur.take<|n * i.size) (by simp [hle]) holds p m c' news hl hn' (by omega) (by omega)<|growslice_fits (by omega) hby;have hge:=grownCap_ge w (n+m) c E;refine ⟨_,_,hr,.grown (grownCap w (n+m) c E) (cur.take<|n * i.size) (Builtin.zeroCells z.cells<|grownCap w (n+m) c E - (n+m)).toList rfl hge ?_ ?_ (by simp [hle]) ?_ ?_⟩
   .have:=alloc_blk' w.drew ((cur.take<|n * i.size).toArray++news.toArray++Builtin.zeroCells z.cells (grownCap w (n+m) c E - (n+m))) E
    simpa using this
   .simp only [List.length_append,hl,Array.length_toList,size_zeroCells,hE.zlen,List.length_take,Nat.min_eq_left hle,← Nat.add_mul]
    congr 1;omega
   .intro g' c'' cur' he hB' _ _
    simp only [Value.slice.injEq,Option.some.injEq,Addr.mk.injEq,and_true,true_and] at he
    obtain ⟨rfl,rfl⟩:=he
    rw [hB.uniq hB']
   .exact Below.trans (j_q w)<|c_k w.drew _
theorem a_.row {α:Type}[Dat α]{w:World}{S:List Nat}{v:Value}{l:List α}(h:a_ w S v l) :
  (v = .slice none 0 0/\l.length=0)∨∃g c cur,v = .slice (some ⟨g,0,none⟩) l.length c/\l.length<=c/\Blk w g cur/\cur.length=c * sz α:=by
 rcases h with ⟨h1,rfl,_⟩ | ⟨g,c,cur,Ss,h1,h2,h3,h4,h5,_⟩
 .exact .inl ⟨h1,rfl⟩
 .exact .inr ⟨g,c,cur,h1,h2,h4,h5⟩
theorem m_l {α:Type}[Dat α]{w w':World}{S:List Nat}{sv v':Value}{l:List α}
  (ho:a_ w S sv l) (hN:S.Nodup) {news:List Value} {xs:List α} {Ts:List (List Nat)} (hl:news.length=xs.length * sz α)
  (hTl:Ts.length=xs.length) (hx:∀(i:Nat)(x:α)(Ti:List Nat),xs[i]? = some x->Ts[i]? = some Ti->own w Ti (X_ (sz α) i news) x)
  (hD:∀k∈List.flatten Ts,k∉S) (hTN:(List.flatten Ts).Nodup) (hlen:l.length+xs.length<=LEN) (happ:App w w' l.length xs.length (sz α) sv v' news) :
  ∃S',a_ w' S' v' (l++xs)/\S'.Nodup/\Chg (· ∈ S) w w'/\(∀k∈S',k∈S∨k∈List.flatten Ts∨k=w.heap.size):=by
 have hll:(l++xs).length=l.length+xs.length:=by simp
 -- the elements, in whatever row they lie now
 have elems:∀(Ss:List (List Nat))(cur cur':List Value)(w':World),Ss.length=l.length->(∀(i:Nat)(x:α)(Si:List Nat),l[i]? = some x->Ss[i]? = some Si->own w' Si (X_ (sz α) i cur) x) ->
   (∀(i:Nat)(x:α)(Ti:List Nat),xs[i]? = some x->Ts[i]? = some Ti->own w' Ti (X_ (sz α) i news) x) ->
   (∀i,i<l.length->X_ (sz α) i cur'=X_ (sz α) i cur)->(∀i,i<xs.length->X_ (sz α) (l.length+i) cur'=X_ (sz α) i news) ->
   ∀(i:Nat)(x:α)(Si:List Nat),(l++xs)[i]? = some x->(Ss++Ts)[i]? = some Si->own w' Si ((cur'.drop<|i * sz α).take (sz α)) x:=by
  intro Ss cur cur' w' hS g1 I J L i x Si hx' hSi
  by_cases hi:i<l.length
  .rw [List.getElem?_append_left hi] at hx'
   rw [List.getElem?_append_left (by omega)] at hSi
   have:=g1 i x Si hx' hSi
   rw [← J i hi] at this
   exact this
  .rw [List.getElem?_append_right (by omega)] at hx'
   rw [List.getElem?_append_right (by omega),hS] at hSi
   have:=I _ x Si hx' hSi
   rw [← L _ (List.getElem?_eq_some_iff.1 hx').1] at this
   have he:l.length+(i - l.length)=i:=by omega
   rw [he] at this
   exact this
 cases happ with
 | same hm hv hw =>
  have hxs:xs=[]:=List.eq_nil_of_length_eq_zero hm;subst hxs hv hw;exact ⟨S,by simpa using ho,hN,Chg.refl _ _,λk hk=>.inl hk⟩
 | place g c cur hs hv hc hb hcl hb' hch =>
  subst hv
  rcases ho with ⟨h,_⟩ | ⟨g',c'',cur',Ss,hs',h2,h3,h4,h5,rfl,G,H⟩
  .rw [h] at hs;cases hs
  .rw [hs] at hs'
   simp only [Value.slice.injEq,Option.some.injEq,Addr.mk.injEq,and_true,true_and] at hs'
   obtain ⟨rfl,rfl⟩:=hs';obtain rfl:=hb.uniq h4;have hgS:∀(i:Nat) Si,Ss[i]? = some Si->∀k∈Si,¬k=g:=λi Si hSi k hk he=>(List.nodup_cons.1 hN).1 (he ▸ c_3 hSi hk)
   have hgT:∀(i:Nat) Ti,Ts[i]? = some Ti->∀k∈Ti,¬k=g:=λi Ti hTi k hk he=>hD k (c_3 hTi hk)<|he ▸ List.mem_cons_self
   have hle:l.length * sz α<=cur.length:=by rw [hcl];exact Nat.mul_le_mul_right _ h2
   have htk:(cur.take<|l.length * sz α).length=l.length * sz α:=by simp [hle]
   refine ⟨g::List.flatten (Ss++Ts),.inr ⟨g,c,_,Ss++Ts,by rw [hll],by rw [hll];exact hc,by rw [hll];exact hlen,hb',?_,rfl,by simp [G,hTl],?_⟩,?_,hch.mono λk _ hk=>by rw [hk];exact List.mem_cons_self,?_⟩
   .have:l.length * sz α+xs.length * sz α<=cur.length:=by rw [hcl,← Nat.add_mul];exact Nat.mul_le_mul_right _ hc
    simp only [List.length_append,htk,hl,List.length_drop];omega
   .refine elems Ss cur _ w' G (λi x Si a b=>d_U (H i x Si a b) hch<|hgS i Si b) (λi x Ti a b=>d_U (hx i x Ti a b) hch<|hgT i Ti b) ?_ ?_
    .intro i hi
     rw [List.append_assoc,e_T htk hi,k_B hi]
    .intro i hi
     rw [List.append_assoc,i_c htk (by omega),Nat.add_sub_cancel_left,e_T hl hi]
   .rw [List.flatten_append,List.nodup_cons]
    obtain ⟨ha,hb⟩:=List.nodup_cons.1 hN;refine ⟨λhm=>?_,List.nodup_append.2 ⟨hb,hTN,λa ha' b hb' he=>hD b hb'<|List.mem_cons_of_mem _<|he ▸ ha'⟩⟩
    rcases List.mem_append.1 hm with h | h
    .exact ha h
    .exact hD g h List.mem_cons_self
   .intro k hk
    rw [List.flatten_append] at hk
    rcases List.mem_cons.1 hk with rfl | hk
    .exact .inl List.mem_cons_self
    .rcases List.mem_append.1 hk with h | h
     .exact .inl<|List.mem_cons_of_mem _ h
     .exact .inr<|.inl h
 | grown c olds zs hv hc hb' hcl hol hold hbel =>
  subst hv
  have hTlt:∀k∈List.flatten Ts,k<w.heap.size:=λk hk=>by
   obtain ⟨Ti,hTi,hk⟩:=List.mem_flatten.1 hk;obtain ⟨i,hi⟩:=List.getElem?_of_mem hTi;obtain ⟨x,hx'⟩:=zip_some' hTl hi;exact own_lt (hx i x Ti hx' hi) k hk
  have hch:Chg (· ∈ S) w w':=Vw.Below.chg hbel _
  -- the old elements
  obtain ⟨Ss,cur,hSl,hSe,hSS,hcur⟩:∃(Ss:List (List Nat))(cur:List Value),Ss.length=l.length/\(∀(i:Nat)(x:α)(Si:List Nat),l[i]? = some x->Ss[i]? = some Si->own w Si (X_ (sz α) i cur) x)/\((List.flatten Ss).Nodup/\∀k∈List.flatten Ss,k∈S)/\(∀i,i<l.length->X_ (sz α) i olds=X_ (sz α) i cur):=by
   rcases ho with ⟨_,rfl,rfl⟩ | ⟨g',c'',cur',Ss,hs',h2,h3,h4,h5,rfl,G,H⟩
   .exact ⟨[],[],rfl,λi x Si h=>by simp at h,⟨by simp,λk hk=>by simp at hk⟩,λi hi=>absurd hi<|Nat.not_lt_zero _⟩
   .refine ⟨Ss,cur',G,H,⟨(List.nodup_cons.1 hN).2,λk hk=>List.mem_cons_of_mem _ hk⟩,λi hi=>?_⟩
    rw [hold _ _ _ hs' h4 h5 h2,k_B hi]
  refine ⟨w.heap.size::List.flatten (Ss++Ts),.inr ⟨w.heap.size,c,_,Ss++Ts,by rw [hll],by rw [hll];exact hc,by rw [hll];exact hlen,hb',hcl,rfl,by simp [hSl,hTl],?_⟩,?_,hch,?_⟩
  .refine elems Ss cur _ w' hSl (λi x Si a b=>i_7 (hSe i x Si a b) hbel) (λi x Ti a b=>i_7 (hx i x Ti a b) hbel) ?_ ?_
   .intro i hi
    rw [List.append_assoc,e_T hol hi,hcur i hi]
   .intro i hi
    rw [List.append_assoc,i_c hol (by omega),Nat.add_sub_cancel_left,e_T hl hi]
  .rw [List.flatten_append,List.nodup_cons]
   have hSlt:∀k∈List.flatten Ss,k<w.heap.size:=λk hk=>by
    obtain ⟨Si,hSi,hk⟩:=List.mem_flatten.1 hk;obtain ⟨i,hi⟩:=List.getElem?_of_mem hSi;obtain ⟨x,hx'⟩:=zip_some' hSl hi;exact own_lt (hSe i x Si hx' hi) k hk
   refine ⟨λhm=>?_,List.nodup_append.2 ⟨hSS.1,hTN,λa ha' b hb' he=>hD b hb'<|he ▸ hSS.2 a ha'⟩⟩
   rcases List.mem_append.1 hm with h | h
   .exact absurd (hSlt _ h)<|Nat.lt_irrefl _
   .exact absurd (hTlt _ h)<|Nat.lt_irrefl _
  .intro k hk
   rw [List.flatten_append] at hk
   rcases List.mem_cons.1 hk with rfl | hk
   .exact .inr<|.inr rfl
   .rcases List.mem_append.1 hk with h | h
    .exact .inl<|hSS.2 k h
    .exact .inr<|.inl h
theorem p_s {α:Type}[Dat α]{P:Program}{T E bytes:Nat}{z:Value}(hE:El P T E (sz α) bytes z)(w:World)(ty:TypeId){S:List Nat}{sv:Value}{l:List α}
  (ho:a_ w S sv l) (hN:S.Nodup) {p:Addr} {c':Nat} {news:List Value} {xs:List α} {Ts:List (List Nat)} (hp:news ≠ []->p.spot=none) (hl:news.length=xs.length * sz α) (hn:u_ w p.block p.off news)
  (hTl:Ts.length=xs.length) (hx:∀(i:Nat)(x:α)(Ti:List Nat),xs[i]? = some x->Ts[i]? = some Ti->own w Ti (X_ (sz α) i news) x)
  (hD:∀k∈List.flatten Ts,k∉S) (hTN:(List.flatten Ts).Nodup) (hlen:l.length+xs.length<=LEN) (hby:(l.length+xs.length) * bytes<=140737488355328) :
  ∃v' w' S',(Builtin.append_ #[T,T] ty #[sv,.slice (some p) xs.length c']).run P w = .ok v' w'/\a_ w' S' v' (l++xs)/\S'.Nodup/\Chg (· ∈ S) w w'/\(∀k∈S',k∈S∨k∈List.flatten Ts∨k=w.heap.size):=by
 have h1:∀u∈news,u.oneCell'=true:=by
  intro u hu;obtain ⟨j,hj⟩:=List.getElem?_of_mem hu;have hjl:=(List.getElem?_eq_some_iff.1 hj).1;have hi:j / sz α<xs.length:=by rw [hl] at hjl;exact Nat.div_lt_of_lt_mul (by rwa [Nat.mul_comm])
  have hown:=hx (j / sz α) xs[j / sz α] Ts[j / sz α] (by simp) (by simp);refine rep_one (own_rep' hown) u ?_;have hmod:=Nat.mod_lt j<|pos (α:=α);have hdm:=Nat.div_add_mod j<|sz α
  have:(X_ (sz α) (j / sz α) news)[j % sz α]? = some u:=by
   unfold X_
   rw [List.getElem?_take,if_pos hmod,List.getElem?_drop,Nat.mul_comm,hdm]
   exact hj
  exact List.mem_of_getElem? this
 obtain ⟨v',w',hrun,happ⟩:=p_r (P:=P) hE w ty ho.row (c':=c') hp hl hn h1 hlen hby;obtain ⟨S',h⟩:=m_l ho hN hl hTl hx hD hTN hlen happ;exact ⟨v',w',S',hrun,h⟩
end Go.Vw
namespace Go.Vw
open Go.RowKit Dat
def evs (e:Env):List Operand->Option (List Value)
 | []=>some []
 | x::l=>match ev e x,evs e l with
  | some v,some vs=>some (v::vs)
  | _,_=>none
theorem Sat.evs {N:Nat}{e:Env}{a:Act}(h:Sat N e a):∀{l:List Operand}{vs:List Value},evs e l=some vs->l.map a.eval=vs
 | [],vs,hv=>by simp only [Vw.evs,Option.some.injEq] at hv;subst hv;rfl
 | x::l,vs,hv=>by
  simp only [Vw.evs] at hv
  split at hv
  .rename_i v vs' h1 h2
   simp only [Option.some.injEq] at hv
   subst hv
   simp [h.ev h1,Sat.evs h h2]
  .cases hv
structure New (w w':World)(cs:List Value):Prop where
 blk:Blk w' w.heap.size cs
 below:Below w.heap.size w w'
 size:w'.heap.size=w.heap.size+1
theorem New.alloc (w:World)(cs:Array Value)(T:TypeId):New w (w.alloc<|.cells cs T) cs.toList:=⟨alloc_blk' w cs T,c_k w _,by simp⟩
structure n_ (P:Program)(f:FuncId)(args:List Value)(w:World)(R:Value->World->Prop):Prop where
 run:Calls P f args.toArray w (λe w'=>∃v,e = .returned v/\R v w')
theorem n_.mono {P:Program}{f:FuncId}{args:List Value}{w:World}{R R':Value->World->Prop}(h:n_ P f args w R)(hr:∀v w',R v w'->R' v w'):n_ P f args w R' :=
 ⟨Calls.mono h.run λ_ _ ⟨v,he,h⟩=>⟨v,he,hr _ _ h⟩⟩
section
variable {P:Program}{N:Nat}{e:Env}{w:World}{dst:Option Tmp}{ty:TypeId}{pos:String}{aft:Array Edge}{gd:Option (Nat×Bool)}{x y z:Operand}
theorem d_g {o:Oper}{K:Value->World->Prop}(h:∀a,Sat N e a->∃v w',(execOp a.eval o).run P w = .ok (.value v) w'/\K v w'):Ef P N o e w K:=⟨λa ha Q=>by
 obtain ⟨v,w',hr,hk⟩:=h a ha;unfold Oper.wp
 rw [hr]
 exact ⟨v,rfl,hk⟩⟩
theorem o_z {o:Oper}{K:Value->World->Prop}(h:∀a,Sat N e a->∃w',(execOp a.eval o).run P w = .ok .skip w'/\K undef w'):Ef P N o e w K:=⟨λa ha Q=>by
 obtain ⟨w',hr,hk⟩:=h a ha;unfold Oper.wp
 rw [hr]
 exact ⟨undef,rfl,hk⟩⟩
theorem d_R {T:Nat}{z:Value}(hz:∀w,(zeroValue T).run P w = .ok z w):Ef P N ⟨dst,.alloc T,ty,pos,aft,gd⟩ e w (λv w'=>v = .pointer (some ⟨w.heap.size,0,none⟩)/\New w w' z.cells.toList) :=
 d_g λa ha=>⟨_,w.alloc<|.cells z.cells T,by simp [execOp,Instr.alloc,hz,newVar,newRow],rfl,New.alloc _ _ _⟩
theorem e_q {T:Nat}{v:Value}(hx:ev e x=some v):Ef P N ⟨dst,.box T x,ty,pos,aft,gd⟩ e w (λv' w'=>v' = .pointer (some ⟨w.heap.size,0,none⟩)/\New w w' v.cells.toList) :=
 d_g λa ha=>⟨_,w.alloc<|.cells v.cells T,by simp [execOp,Instr.box,ha.ev hx,newVar,newRow],rfl,New.alloc _ _ _⟩
theorem c_U {T n g o:Nat}{v:Value}{cur cur':List Value}(hs:∀w,(sizeOf T).run P w = .ok n w)(hp:ev e x=some (.pointer<|some ⟨g,o,none⟩))(hv:ev e y=some v)(hB:Blk w g cur)(hn:v.cells.size=n)
  (ho:o+n<=cur.length) (h1:∀u∈v.cells.toList,u.oneCell'=true) (hcur:cur.take o++v.cells.toList++cur.drop (o+v.cells.toList.length)=cur') :
  Ef P N ⟨none,.store T x y,ty,pos,aft,gd⟩ e w (λ_ w'=>Blk w' g cur'/\Chg (· = g) w w'):=by
 refine o_z λa ha=>?_
 obtain ⟨w',hr,hb,hc⟩:=j_l (P:=P) (o:=o) v.cells.toList 0 w cur hB (by simpa [hn] using ho) h1;refine ⟨w',?_,?_,hc⟩
 .simp [execOp,Instr.storeAt,Instr.sureAddr,ha.ev hp,ha.ev hv,storeVar,hs,hn,hr]
 .subst hcur;simpa using hb
theorem o_A (ρ:Operand->Value)(f:FuncId)(args:Array Operand)(tys:Array TypeId)(ty:TypeId)(w:World)(hρ:ρ (.func f) = .func (.func f) #[] #[]) :
  (resolve ρ { callee:=.value<|.func f,args,argTypes:=tys } ty).run P w = .ok { target:=.fn (.func f) #[],args:=args.map ρ } w:=by
 simp [resolve,hρ,Deferred.ofValue]
theorem f_D {f:FuncId}{args:List Operand}{tys:Array TypeId}{vs:List Value}{R:Value->World->Prop}(hcall:∀(args:Array Value)(w:World),(callFunc f args).run P w = .ok (.enter f args) w)(hv:evs e args=some vs)(hc:n_ P f vs w R) :
  Ef P N ⟨dst,.call { callee:=.value (.func f),args:=args.toArray,argTypes:=tys },ty,pos,aft,gd⟩ e w R:=⟨λa ha Q=>by
 have hm:(args.toArray.map a.eval)=vs.toArray:=by rw [List.map_toArray,ha.evs hv]
 unfold Oper.wp
 have hr:(execOp a.eval ⟨dst,.call { callee:=.value<|.func f,args:=args.toArray,argTypes:=tys },ty,pos,aft,gd⟩).run P w = .ok (.enter f vs.toArray) w:=by
  simp [execOp,o_A a.eval f args.toArray tys ty w rfl,invoke,hcall,hm]
 rw [hr]
 exact Calls.mono hc.run λe' w' ⟨v,he,hR⟩=>by subst he;exact ⟨v,rfl,hR⟩⟩
theorem f_E {T E n bytes:Nat}{zz:Value}{len:Nat}{pa:Array (Nat×Operand)}{vs:List Value}(parts:List Operand)(hE:El P T E n bytes zz)(hpa:pa=((parts.zipIdx 0).map λp=>(p.2,p.1)).toArray)(hv:evs e parts=some vs)(hl:len=parts.length)(hsz:∀v∈vs,v.cells.size=n)(hsmall:len * n<=16777216)(hpos:0<len) :
  Ef P N ⟨dst,.buildSlice T len pa,ty,pos,aft,gd⟩ e w (λv w'=>v = .slice (some ⟨w.heap.size,0,none⟩) len len/\New w w' (vs.flatMap λv=>v.cells.toList)):=by
 refine d_g λa ha=>?_
 subst hpa;obtain ⟨i,hi,hz,rfl,rfl⟩:=info_parts hE.info;have hvs:=ha.evs hv;have hlen:vs.length=parts.length:=by rw [← hvs];simp
 have hm:((((parts.zipIdx 0).map λp=>(p.2,p.1)).toArray).map λ(i,x)=>(i,a.eval x)).toList=(vs.zipIdx 0).map λp=>(p.2,p.1):=by
  rw [← hvs,List.zipIdx_map]
  simp [List.map_map,Function.comp_def]
 have hf:Instr.fill (λk=>some (k * i.size,i.size)) ((Array.range<|len * i.size).map (zz.cells[· % zz.cells.size]!)) ((((parts.zipIdx 0).map λp=>(p.2,p.1)).toArray).map λ(i,x)=>(i,a.eval x)).toList=some (vs.flatMap λv=>v.cells.toList).toArray:=by
  rw [hm]
  exact Great.fill_whole hE.pos vs _ hsz (by simp [hlen,hl])
 have hr:=run_buildSlice (P:=P) w T E len _ _ i zz hE.sl hi hz (by omega) (by have:=hE.pos;intro h;rcases Nat.mul_eq_zero.1 h with h | h <;> omega) hf;refine ⟨_,w.alloc<|.cells (vs.flatMap λv=>v.cells.toList).toArray E,?_,rfl,?_⟩
 .simp only [execOp,Sem.run_bind,hr,Result.andThen_ok];rfl
 .simpa using New.alloc w (vs.flatMap λv=>v.cells.toList).toArray E
theorem o_B {T E n bytes:Nat}{zz:Value}(hE:El P T E n bytes zz) :
  Ef P N ⟨dst,.buildSlice T 0 #[],ty,pos,aft,gd⟩ e w (λv w'=>v = .slice (some ⟨w.heap.size,0,none⟩) 0 0/\New w w' []):=by
 refine d_g λa ha=>?_
 obtain ⟨i,hi,hz,rfl,rfl⟩:=info_parts hE.info;refine ⟨.slice (some ⟨w.heap.size,0,none⟩) 0 0,w.alloc<|.cells #[] E,?_,rfl,by simpa using New.alloc w #[] E⟩
 simp [execOp,Instr.buildSlice,run_underlying hE.sl,sizeOf,typeInfo,hi,newRow,Instr.fill,Array.range_zero']
theorem l_Z {T E n bytes:Nat}{zz:Value}{l c:Int}(hE:El P T E n bytes zz)(hl:ev e x=some (vI l))(hc:ev e y=some (vI c))(H:0<=l)(hlc:l<=c)(hb:(bytes:Int) * c<=281474976710656)(G:c<=9223372036854775807) :
  Ef P N ⟨dst,.makeSlice T x y,ty,pos,aft,gd⟩ e w (λv w'=>v = .slice (some ⟨w.heap.size,0,none⟩) l.toNat c.toNat/\New w w' (madeCells zz.cells<|c.toNat * n).toList):=by
 refine d_g λa ha=>?_
 obtain ⟨i,hi,hz,rfl,rfl⟩:=info_parts hE.info;have hr:=run_make (P:=P) w T E i zz hE.sl hi hz .i64 .i64 l c H hlc hb G;exact ⟨_,_,by simp only [execOp,ha.ev hl,ha.ev hc,Sem.run_bind,hr,Result.andThen_ok];rfl,rfl,New.alloc _ _ _⟩
theorem m_0 {α:Type}[Dat α]{T E bytes:Nat}{zz:Value}(hE:El P T E (sz α) bytes zz){S:List Nat}{sv:Value}{l:List α}(hx:ev e x=some sv)(ho:a_ w S sv l)(hN:S.Nodup)
  {p:Addr} {m c':Nat} {news:List Value} {xs:List α} {Ts:List (List Nat)} (hy:ev e y=some (.slice (some p) m c')) (hm:m=xs.length) (hp:news ≠ []->p.spot=none) (hl:news.length=xs.length * sz α) (hn:u_ w p.block p.off news)
  (hTl:Ts.length=xs.length) (hxs:∀(i:Nat)(x:α)(Ti:List Nat),xs[i]? = some x->Ts[i]? = some Ti->own w Ti (X_ (sz α) i news) x)
  (hD:∀k∈List.flatten Ts,k∉S) (hTN:(List.flatten Ts).Nodup) (hlen:l.length+xs.length<=LEN) (hby:(l.length+xs.length) * bytes<=140737488355328) :
  Ef P N ⟨dst,.call { callee:=.builtin .append,args:=#[x,y],argTypes:=#[T,T] },ty,pos,aft,gd⟩ e w (λv w'=>∃S',a_ w' S' v (l++xs)/\S'.Nodup/\Chg (· ∈ S) w w'/\(∀k∈S',k∈S∨k∈List.flatten Ts∨k=w.heap.size)):=by
 refine d_g λa ha=>?_
 subst hm;obtain ⟨v',w',S',hr,h1,h2,h3,h4⟩:=p_s (P:=P) hE w ty ho hN (c':=c') hp hl hn hTl hxs hD hTN hlen hby;exact ⟨v',w',by simp [execOp,resolve,invoke,builtin,ha.ev hx,ha.ev hy,hr],S',h1,h2,h3,h4⟩
end
end Go.Vw
namespace Go.Vw
open Go.RowKit Dat
def g_6:Nat->List Value->Env
 | _,[]=>[]
 | k,v::l=>(k,v)::g_6 (k+1) l
theorem m_e:∀(l:List Value)(k t:Nat)(v:Value),x_ (g_6 k l) t=some v->k<=t/\l[t - k]? = some v
 | [],k,t,v,h=>by simp [g_6,x_] at h
 | u::l,k,t,v,h=>by
  simp only [g_6,x_] at h
  by_cases hk:k=t
  .subst hk;have hb:Nat.beq k k=true:=by simp
   rw [hb] at h
   simp only [cond_true,Option.some.injEq] at h
   subst h
   simp
  .have hb:Nat.beq k t=false:=by rw [← Bool.not_eq_true,Nat.beq_eq];exact hk
   rw [hb] at h
   simp only [cond_false] at h
   obtain ⟨h1,h2⟩:=m_e l (k+1) t v h;refine ⟨by omega,?_⟩;have:t - k=(t - (k+1))+1:=by omega
   rw [this,List.getElem?_cons_succ]
   exact h2
def c_i (P:Program)(fn:Func)(R:Value->World->Prop)(a:Act)(w:World):Prop :=
 a.defers=[]/\∃v,(results fn a.tmps).run P w = .ok v w/\R v w
def QR (P:Program)(fn:Func)(R:Value->World->Prop):Exit->Act->World->Prop
 | .ret,a,w=>c_i P fn R a w
 | _,_,_=>False
theorem p_h {P:Program}{f:FuncId}{fn:Func}{c:Code}{N:Nat}{args:List Value}{w:World}{R:Value->World->Prop}(hf:P.funcs[f]? = some fn)(hb:fn.body=some c)(hN:fn.ntmps=N)
  (hle:args.length<=N) (h:WC P N c (c_i P fn R) (QR P fn R) (g_6 0 args) w):n_ P f args w R:=by
 refine ⟨calls_of_wp hf hb<|Code.wp_mono (λex a w q=>?_)<|h _ ⟨rfl,?_,?_⟩⟩
 .cases ex with
  | normal=>obtain ⟨h1,v,h2,h3⟩:=q;exact ⟨h1,v,h2,v,rfl,h3⟩
  | ret=>obtain ⟨h1,v,h2,h3⟩:=q;exact ⟨h1,v,h2,v,rfl,h3⟩
  | _=>exact (show False from q).elim
 .simp [hN];omega
 .intro t v ht;obtain ⟨_,h2⟩:=m_e args 0 t v ht;have hlt:=(List.getElem?_eq_some_iff.1 h2).1
  simp only [Nat.sub_zero] at h2 hlt
  rw [Array.getElem?_append_left (by simpa using hlt)]
  simpa using h2
def resA (tmps:Array Value):ResultVar->Sem Value
 | .tmp t=>pure<|tmps.getD t undef
 | .cell a t=>do loadVar t<|← asAddr (tmps.getD a undef)
theorem j_k (fn:Func)(tmps:Array Value):results fn tmps=(do
 let vs ← fn.results.mapM (resA tmps)
 pure (if h:vs.size=1 then vs[0] else .tuple vs)):=rfl
def c_1 (P:Program)(e:Env)(w:World):ResultVar->Value->Prop
 | .tmp t,v=>x_ e t=some v
 | .cell a T,v=>∃p,x_ e a=some (.pointer<|some p)/\(loadVar T p).run P w = .ok v w
section
variable {P:Program}{N:Nat}{e:Env}{w:World}{fn:Func}{R:Value->World->Prop}
theorem c_1.run {r:ResultVar}{v:Value}{a:Act}(ha:Sat N e a)(h:c_1 P e w r v):(resA a.tmps r).run P w = .ok v w:=by
 cases r with
 | tmp t=>simp [resA,Array.getD_eq_getD_getElem?,ha.at_ t v h]
 | cell b T =>
  obtain ⟨p,hp,hl⟩:=h
  simp [resA,Array.getD_eq_getD_getElem?,ha.at_ b _ hp,asAddr,hl]
theorem t_ {a T g n:Nat}{cs:List Value}(hT:∀w,(isAgg T).run P w = .ok true w)(hs:∀w,(sizeOf T).run P w = .ok n w)(hp:x_ e a=some (.pointer<|some ⟨g,0,none⟩))(hB:Blk w g cs)(hl:cs.length=n):c_1 P e w (.cell a T) (.agg cs.toArray):=by
 refine ⟨_,hp,?_⟩
 have hc:∀j v,cs[j]? = some v->w.cell? ((⟨g,0,none⟩:Addr).add j)=some v:=λj v hv=>by
  rw [Addr.add_lit,Nat.zero_add,hB.cell];exact hv
 have hr:=run_loadCells_list (P:=P) (w:=w) ⟨g,0,none⟩ cs hc;subst hl
 simp [loadVar,hT,hs,hr]
theorem ret0 (hr:fn.results = #[])(hR:R (.tuple #[]) w):∀a,Sat N e a->c_i P fn R a w:=λa ha =>
 ⟨ha.defers,_,by rw [j_k,hr];simp,hR⟩
theorem b_3 {r1:ResultVar}{v1:Value}(hr:fn.results = #[r1])(h1:c_1 P e w r1 v1)(hR:R v1 w):∀a,Sat N e a->c_i P fn R a w:=λa ha =>
 ⟨ha.defers,v1,by rw [j_k,hr];simp [h1.run ha],hR⟩
theorem c_s {r1 r2:ResultVar}{v1 v2:Value}(hr:fn.results = #[r1,r2])(h1:c_1 P e w r1 v1)(h2:c_1 P e w r2 v2)(hR:R (.tuple #[v1,v2]) w):∀a,Sat N e a->c_i P fn R a w:=λa ha =>
 ⟨ha.defers,_,by rw [j_k,hr];simp [h1.run ha,h2.run ha],hR⟩
theorem e_K {r1 r2 r3:ResultVar}{v1 v2 v3:Value}(hr:fn.results = #[r1,r2,r3])(h1:c_1 P e w r1 v1)(h2:c_1 P e w r2 v2)(h3:c_1 P e w r3 v3)(hR:R (.tuple #[v1,v2,v3]) w):∀a,Sat N e a->c_i P fn R a w:=λa ha =>
 ⟨ha.defers,_,by rw [j_k,hr];simp [h1.run ha,h2.run ha,h3.run ha],hR⟩
theorem g_7 {c:Code}{K:Act->World->Prop}{Q:Exit->Act->World->Prop}{a:Act}(h:WC P N c K Q e w)(ha:Sat N e a):c.wp P (Exit.then K Q) a w:=h a ha
end
inductive Out (σ ρ:Type) where
 | next (s:σ)
 | brk (s:σ)
 | ret (r:ρ)
def y_ {σ ρ:Type}(body:Nat->σ->Option (Out σ ρ)):Nat->Nat->σ->Option (Sum σ ρ)
 | 0,_,s=>some<|.inl s
 | n+1,k,s=>match body k s with
  | none=>none
  | some (.next s')=>y_ body n (k+1) s'
  | some (.brk s')=>some<|.inl s'
  | some (.ret r)=>some<|.inr r
def M_ {σ ρ:Type}(step:σ->Option (Out σ ρ)):Nat->σ->Option (Sum σ ρ)
 | 0,_=>none
 | n+1,s=>match step s with
  | none=>none
  | some (.next s')=>M_ step n s'
  | some (.brk s')=>some<|.inl s'
  | some (.ret r)=>some<|.inr r
def QL {σ ρ:Type}(b:Nat)(D:σ->Act->World->Prop)(Qr:ρ->Exit->Act->World->Prop)(res:Sum σ ρ):Exit->Act->World->Prop:=λex a w =>
 (ex = .exit b/\∃s,res = .inl s/\D s a w)∨∃r,res = .inr r/\Qr r ex a w
def QO {σ ρ:Type}(b:Nat)(D:σ->Act->World->Prop)(Qr:ρ->Exit->Act->World->Prop)(o:Out σ ρ):Exit->Act->World->Prop:=λex a w =>
 (ex = .exit b/\∃s,o = .brk s/\D s a w)∨∃r,o = .ret r/\Qr r ex a w
def noK:Act->World->Prop:=λ_ _=>False
section
variable {P:Program}
theorem p_i {σ ρ:Type}{body:Nat->σ->Option (Out σ ρ)}{c:Code}{b n:Nat}{res:Sum σ ρ}(I:Nat->σ->Act->World->Prop)(D:σ->Act->World->Prop)(Qr:ρ->Exit->Act->World->Prop)
  (hround:∀k s a w o,k<n->I k s a w->body k s=some o->c.wp P (Exit.then (λa' w'=>∃s',o = .next s'/\I (k+1) s' a' w')<|QO b D Qr o) a w)
  (hlast:∀s a w,I n s a w->c.wp P (Exit.then noK<|λex a' w'=>ex = .exit b/\D s a' w') a w)
  {s:σ} {a:Act} {w:World} (hm:y_ body n 0 s=some res) (G:I 0 s a w):(Code.loop c).wp P (Exit.then noK<|QL b D Qr res) a w:=by
 refine wp_loop_ghost (λm a w=>∃k s,k+m=n/\y_ body m k s=some res/\I k s a w) n ⟨0,s,by omega,hm,G⟩ ?_
 clear hm G
 rintro m a w ⟨k,s,hk,hm,hI⟩
 cases m with
 | zero =>
  obtain rfl:k=n:=by omega
  obtain rfl:Sum.inl s=res:=Option.some.inj hm;refine Code.wp_mono (λex a' w' q=>?_)<|hlast s a w hI
  cases ex with
  | normal=>exact (show False from q).elim
  | _=>exact .inl ⟨q.1,s,rfl,q.2⟩
 | succ m =>
  simp only [y_] at hm
  split at hm
  .cases hm
  .rename_i s' hb
   refine Code.wp_mono (λex a' w' q=>?_)<|hround k s a w _ (by omega) hI hb
   cases ex <;> simp only [Exit.then,QO] at q ⊢ <;> first
    | (obtain ⟨s'',he,hI'⟩:=q;cases he;exact ⟨m,Nat.lt_succ_self _,k+1,s',by omega,hm,hI'⟩)
    | (rcases q with ⟨_,_,he,_⟩ | ⟨_,he,_⟩ <;> cases he)
  .rename_i s' hb
   simp only [Option.some.injEq] at hm
   subst hm;refine Code.wp_mono (λex a' w' q=>?_)<|hround k s a w _ (by omega) hI hb
   cases ex <;> simp only [Exit.then,QO] at q ⊢ <;> first
    | (obtain ⟨_,he,_⟩:=q;cases he)
    | (rcases q with ⟨hx,_,he,hd⟩ | ⟨_,he,_⟩ <;> cases he;exact .inl ⟨hx,_,rfl,hd⟩)
  .rename_i r hb
   simp only [Option.some.injEq] at hm
   subst hm;refine Code.wp_mono (λex a' w' q=>?_)<|hround k s a w _ (by omega) hI hb
   cases ex <;> simp only [Exit.then,QO] at q ⊢ <;> first
    | (obtain ⟨_,he,_⟩:=q;cases he)
    | (rcases q with ⟨_,_,he,_⟩ | ⟨_,he,hq⟩ <;> cases he;exact .inr ⟨_,rfl,hq⟩)
theorem p_j {σ ρ:Type}{step:σ->Option (Out σ ρ)}{c:Code}{b n:Nat}{res:Sum σ ρ}(I:σ->Act->World->Prop)(D:σ->Act->World->Prop)(Qr:ρ->Exit->Act->World->Prop)
  (hround:∀s a w o,I s a w->step s=some o->c.wp P (Exit.then (λa' w'=>∃s',o = .next s'/\I s' a' w')<|QO b D Qr o) a w)
  {s:σ} {a:Act} {w:World} (hm:M_ step n s=some res) (G:I s a w):(Code.loop c).wp P (Exit.then noK<|QL b D Qr res) a w:=by
 refine wp_loop_ghost (λm a w=>∃s,M_ step m s=some res/\I s a w) n ⟨s,hm,G⟩ ?_
 clear hm G
 rintro m a w ⟨s,hm,hI⟩
 cases m with
 | zero=>cases hm
 | succ m =>
  simp only [M_] at hm
  split at hm
  .cases hm
  .rename_i s' hb
   refine Code.wp_mono (λex a' w' q=>?_)<|hround s a w _ hI hb
   cases ex <;> simp only [Exit.then,QO] at q ⊢ <;> first
    | (obtain ⟨s'',he,hI'⟩:=q;cases he;exact ⟨m,Nat.lt_succ_self _,s',hm,hI'⟩)
    | (rcases q with ⟨_,_,he,_⟩ | ⟨_,he,_⟩ <;> cases he)
  .rename_i s' hb
   simp only [Option.some.injEq] at hm
   subst hm;refine Code.wp_mono (λex a' w' q=>?_)<|hround s a w _ hI hb
   cases ex <;> simp only [Exit.then,QO] at q ⊢ <;> first
    | (obtain ⟨_,he,_⟩:=q;cases he)
    | (rcases q with ⟨hx,_,he,hd⟩ | ⟨_,he,_⟩ <;> cases he;exact .inl ⟨hx,_,rfl,hd⟩)
  .rename_i r hb
   simp only [Option.some.injEq] at hm
   subst hm;refine Code.wp_mono (λex a' w' q=>?_)<|hround s a w _ hI hb
   cases ex <;> simp only [Exit.then,QO] at q ⊢ <;> first
    | (obtain ⟨_,he,_⟩:=q;cases he)
    | (rcases q with ⟨_,_,he,_⟩ | ⟨_,he,hq⟩ <;> cases he;exact .inr ⟨_,rfl,hq⟩)
theorem g_8 {σ ρ:Type}{N:Nat}{e:Env}{w:World}{K:Act->World->Prop}{Q:Exit->Act->World->Prop}{body:Nat->σ->Option (Out σ ρ)}{c:Code}{b n:Nat}{res:Sum σ ρ}(I:Nat->σ->Act->World->Prop)(D:σ->Act->World->Prop)(Qr:ρ->Exit->Act->World->Prop)
  {s:σ} (hm:y_ body n 0 s=some res) (G:AtK N (λa w=>I 0 s a w) e w)
  (hround:∀k s a w o,k<n->I k s a w->body k s=some o->c.wp P (Exit.then (λa' w'=>∃s',o = .next s'/\I (k+1) s' a' w')<|QO b D Qr o) a w)
  (hlast:∀s a w,I n s a w->c.wp P (Exit.then noK<|λex a' w'=>ex = .exit b/\D s a' w') a w)
  (hD:∀s a w,res = .inl s->D s a w->K a w) (hR:∀r ex a w,res = .inr r->Qr r ex a w->Q ex a w/\ex = .ret):WC P N (.block b<|.loop c) K Q e w :=
 d_J λa ha=>Code.wp_mono (λex a' w' q=>by
  cases ex with
  | normal=>exact (show False from q).elim
  | _ =>
   rcases q with ⟨hx,s',he,hd⟩ | ⟨r,he,hq⟩
   .first
     | (cases hx;simp only [Exit.then,inB,if_true];exact hD s' a' w' he hd)
     | cases hx
   .obtain ⟨h1,h2⟩:=hR r _ a' w' he hq
    first
     | (cases h2;exact h1)
     | cases h2) (p_i I D Qr hround hlast hm (G a ha))
theorem b_p {σ ρ:Type}{N:Nat}{e:Env}{w:World}{K:Act->World->Prop}{Q:Exit->Act->World->Prop}{step:σ->Option (Out σ ρ)}{c:Code}{b n:Nat}{res:Sum σ ρ}(I:σ->Act->World->Prop)(D:σ->Act->World->Prop)(Qr:ρ->Exit->Act->World->Prop)
  {s:σ} (hm:M_ step n s=some res) (G:AtK N (λa w=>I s a w) e w)
  (hround:∀s a w o,I s a w->step s=some o->c.wp P (Exit.then (λa' w'=>∃s',o = .next s'/\I s' a' w')<|QO b D Qr o) a w)
  (hD:∀s a w,res = .inl s->D s a w->K a w) (hR:∀r ex a w,res = .inr r->Qr r ex a w->Q ex a w/\ex = .ret):WC P N (.block b<|.loop c) K Q e w :=
 d_J λa ha=>Code.wp_mono (λex a' w' q=>by
  cases ex with
  | normal=>exact (show False from q).elim
  | _ =>
   rcases q with ⟨hx,s',he,hd⟩ | ⟨r,he,hq⟩
   .first
     | (cases hx;simp only [Exit.then,inB,if_true];exact hD s' a' w' he hd)
     | cases hx
   .obtain ⟨h1,h2⟩:=hR r _ a' w' he hq
    first
     | (cases h2;exact h1)
     | cases h2) (p_j I D Qr hround hm (G a ha))
end
end Go.Vw
namespace Go.Vw
open Go.RowKit Dat
def bd {α β:Type}(o:Option α)(f:α->Option β):Option β:=match o with
 | none=>none
 | some a=>f a
def bd2 {α β γ:Type}(o:Option (α×β))(f:α->β->Option γ):Option γ:=match o with
 | none=>none
 | some (a,b)=>f a b
def bd3 {α β γ δ:Type}(o:Option (α×β×γ))(f:α->β->γ->Option δ):Option δ:=match o with
 | none=>none
 | some (a,b,c)=>f a b c
def bd4 {α β γ δ ε:Type}(o:Option (α×β×γ×δ))(f:α->β->γ->δ->Option ε):Option ε:=match o with
 | none=>none
 | some (a,b,c,d)=>f a b c d
def el {σ ρ β:Type}(f:σ->Option β)(g:ρ->Option β):Sum σ ρ->Option β
 | .inl s=>f s
 | .inr r=>g r
@[reducible] def un2 {α β δ:Type} (f:α->β->δ):α×β->δ | (a,b)=>f a b
@[reducible] def un3 {α β γ δ:Type} (f:α->β->γ->δ):α×β×γ->δ | (a,b,c)=>f a b c
@[reducible] def un4 {α β γ ε δ:Type} (f:α->β->γ->ε->δ):α×β×γ×ε->δ | (a,b,c,d)=>f a b c d
@[reducible] def un5 {α β γ ε ζ δ:Type} (f:α->β->γ->ε->ζ->δ):α×β×γ×ε×ζ->δ | (a,b,c,d,e)=>f a b c d e
@[reducible] def un6 {α β γ ε ζ η δ:Type} (f:α->β->γ->ε->ζ->η->δ):α×β×γ×ε×ζ×η->δ | (a,b,c,d,e,g)=>f a b c d e g
def idx {α:Type}(l:List α)(i:Int):Option α:=if 0<=i then l[i.toNat]? else none
def slc {α:Type}(l:List α)(a b:Int):Option (List α):=if 0<=a/\a<=b/\b<=l.length then some ((l.take b.toNat).drop a.toNat) else none
def psh {α:Type}(l:List α)(x:α):Option (List α):=if l.length<LIM then some (l++[x]) else none
def app {α:Type}(l m:List α):Option (List α):=if l.length+m.length<=LIM then some (l++m) else none
def cat (s t:Str):Option Str:=if s.b.length+t.b.length<=LIM then some ⟨s.b++t.b⟩ else none
def upd {α:Type}(l:List α)(i:Int)(x:α):Option (List α):=if 0<=i/\i<l.length then some (l.set i.toNat x) else none
def mk0 {α:Type}(z:α)(n:Int):Option (List α):=if 0<=n/\n<=LIM then some (List.replicate n.toNat z) else none
def nz (y:Int):Option Unit:=if y=0 then none else some ()
def nn (y:Int):Option Unit:=if 0<=y then some () else none
section
variable {α β γ δ ε:Type}
theorem bdS {o:Option α}{f:α->Option β}{r:β}(h:bd o f=some r):∃a,o=some a/\f a=some r:=by
 cases o with
 | none=>cases h
 | some a=>exact ⟨a,rfl,h⟩
theorem a_6 {o:Option (α×β)}{f:α->β->Option γ}{r:γ}(h:bd2 o f=some r):∃a b,o=some (a,b)/\f a b=some r:=by
 cases o with
 | none=>cases h
 | some x=>exact ⟨x.1,x.2,rfl,h⟩
theorem r_ {o:Option (α×β×γ)}{f:α->β->γ->Option δ}{r:δ}(h:bd3 o f=some r):∃a b c,o=some (a,b,c)/\f a b c=some r:=by
 cases o with
 | none=>cases h
 | some x=>exact ⟨x.1,x.2.1,x.2.2,rfl,h⟩
theorem bd4S {o:Option (α×β×γ×δ)}{f:α->β->γ->δ->Option ε}{r:ε}(h:bd4 o f=some r):∃a b c d,o=some (a,b,c,d)/\f a b c d=some r:=by
 cases o with
 | none=>cases h
 | some x=>exact ⟨x.1,x.2.1,x.2.2.1,x.2.2.2,rfl,h⟩
theorem ifT {c:Bool}{x y z:α}(h:(if c then x else y)=z)(hc:c=true):x=z:=by rw [if_pos hc] at h;exact h
theorem ifF {c:Bool}{x y z:α}(h:(if c then x else y)=z)(hc:c=false):y=z:=by rw [if_neg (by rw [hc];simp)] at h;exact h
theorem elL {σ ρ β:Type}{f:σ->Option β}{g:ρ->Option β}{s:σ}{r:β}(h:el f g (.inl s)=some r):f s=some r:=h
theorem elR {σ ρ β:Type}{f:σ->Option β}{g:ρ->Option β}{s:ρ}{r:β}(h:el f g (.inr s)=some r):g s=some r:=h
theorem som {a b:α}(h:some a=some b):a=b:=Option.some.inj h
@[simp] theorem bd_some (a:α) (f:α->Option β):bd (some a) f=f a:=rfl
@[simp] theorem bd2_some (a:α) (b:β) (f:α->β->Option γ):bd2 (some (a,b)) f=f a b:=rfl
@[simp] theorem bd3_some (a:α) (b:β) (c:γ) (f:α->β->γ->Option δ):bd3 (some (a,b,c)) f=f a b c:=rfl
@[simp] theorem bd4_some (a:α) (b:β) (c:γ) (d:δ) (f:α->β->γ->δ->Option ε):bd4 (some (a,b,c,d)) f=f a b c d:=rfl
@[simp] theorem el_inl {σ ρ β:Type} (f:σ->Option β) (g:ρ->Option β) (s:σ):el f g (.inl s)=f s:=rfl
@[simp] theorem el_inr {σ ρ β:Type} (f:σ->Option β) (g:ρ->Option β) (r:ρ):el f g (.inr r)=g r:=rfl
end
theorem b_e {α:Type}{l:List α}{i:Int}{x:α}(h:idx l i=some x):0<=i/\l[i.toNat]? = some x/\i<l.length:=by
 unfold idx at h
 split at h
 .rename_i G
  refine ⟨G,h,?_⟩;have:=(List.getElem?_eq_some_iff.1 h).1
  omega
 .cases h
theorem o_E {α:Type}(l:List α)(k:Nat):idx l (k:Int)=l[k]? := by unfold idx;rw [if_pos (by omega)];rfl
theorem g_O (x:Int):inI (IntKind.i64.wrap x):=by rw [IntKind.wrap_i64];unfold inI;omega
theorem f_G (x y:Int):inI (h_ x y):=g_O _
theorem f_H (x y:Int):inI (j_ x y):=g_O _
theorem g_P (x y:Int):inI (c_l x y):=g_O _
theorem o_F (x:Int):inI (g_Y x):=g_O _
theorem a_J {n:Nat}(h:n<=LEN):inI (n:Int):=by unfold inI;have:=Q_;omega
theorem h_V {x y:Int}(h:inI x):inI (b_q x y):=by
 unfold b_q inI at *
 have h3:=Int.natAbs_tmod x y;have h4:(x.tmod y).natAbs<=x.natAbs:=by rw [h3];exact Nat.mod_le _ _
 rcases Int.le_total 0 x with G | G
 .have h1:=Int.tmod_nonneg y G
  omega
 .have h1:=Int.tmod_nonneg y (show 0 <= -x by omega)
  rw [Int.neg_tmod] at h1
  omega
theorem f_I:LIM<=LEN:=by decide
theorem o_G (c:UInt8):IntKind.i64.wrap (byteI c)=byteI c:=by
 rw [IntKind.wrap_i64];have:=c.toNat_lt;unfold byteI;omega
theorem iinc {k n:Nat}(h:k<n)(hn:n<=9223372036854775807):h_ (k:Int) 1=((k+1:Nat):Int):=by
 unfold h_;rw [IntKind.wrap_i64];have:=Q_;omega
theorem a_d {k n:Nat}(hk:k<n)(hc:decide ((k:Int)<(n:Int))=false):False:=by
 simp at hc;omega
theorem a_e {n:Nat}(hc:decide ((n:Int)<(n:Int))=true):False:=by
 simp at hc
section
variable {P:Program}{N:Nat}{ops:Array Oper}{K:Act->World->Prop}{Q:Exit->Act->World->Prop}{e:Env}{w:World}{rest:List Oper}{T:Nat}{p:a_E}{X:Nat->Prop}
variable {d:Nat}{op:Op}{ty:TypeId}{pos:String}{aft:Array Edge}
theorem R {v:Value}(hf:Nat.blt d N=true)(h:Rd noX P N ⟨some d,op,ty,pos,aft,none⟩ e w v)(k:WL P N ops K Q rest ((d,v)::e) w):WL P N ops K Q (⟨some d,op,ty,pos,aft,none⟩::rest) e w:=WL_rd rfl hf h k
theorem E {S:Value->World->Prop}(hf:Nat.blt d N=true)(h:Ef P N ⟨some d,op,ty,pos,aft,none⟩ e w S)(k:∀v w',S v w'->WL P N ops K Q rest ((d,v)::e) w'):WL P N ops K Q (⟨some d,op,ty,pos,aft,none⟩::rest) e w:=WL_ef rfl hf h k
theorem E0 {S:Value->World->Prop}(h:Ef P N ⟨none,op,ty,pos,aft,none⟩ e w S)(k:∀v w',S v w'->WL P N ops K Q rest e w'):WL P N ops K Q (⟨none,op,ty,pos,aft,none⟩::rest) e w:=WL_ef rfl rfl h k
section guards
variable {j gd:Nat}{want b:Bool}
theorem Rg {v:Value}(hj:(ops[j]?).bind (·.dst)=some gd)(hb:x_ e gd=some (.bool b))(hw:b=want)(hf:Nat.blt d N=true)(h:Rd noX P N ⟨some d,op,ty,pos,aft,some (j,want)⟩ e w v)(k:WL P N ops K Q rest ((d,v)::e) w):WL P N ops K Q (⟨some d,op,ty,pos,aft,some (j,want)⟩::rest) e w :=
 o_8 rfl hj (hw ▸ hb) hf h k
theorem Eg {S:Value->World->Prop}(hj:(ops[j]?).bind (·.dst)=some gd)(hb:x_ e gd=some (.bool b))(hw:b=want)(hf:Nat.blt d N=true)(h:Ef P N ⟨some d,op,ty,pos,aft,some (j,want)⟩ e w S)(k:∀v w',S v w'->WL P N ops K Q rest ((d,v)::e) w'):WL P N ops K Q (⟨some d,op,ty,pos,aft,some (j,want)⟩::rest) e w :=
 o_9 rfl hj (hw ▸ hb) hf h k
theorem Ng (hj:(ops[j]?).bind (·.dst)=some gd)(hb:x_ e gd=some (.bool b))(hw:b = !want)(hf:Nat.blt d N=true)(k:WL P N ops K Q rest ((d,undef)::e) w):WL P N ops K Q (⟨some d,op,ty,pos,aft,some (j,want)⟩::rest) e w :=
 o_a rfl hj (hw ▸ hb) hf k
theorem Nu (hj:(ops[j]?).bind (·.dst)=some gd)(hb:x_ e gd=some undef)(hf:Nat.blt d N=true)(k:WL P N ops K Q rest ((d,undef)::e) w):WL P N ops K Q (⟨some d,op,ty,pos,aft,some (j,want)⟩::rest) e w :=
 o_b rfl hj hb hf k
end guards
theorem dR {i:Nat}{v:Value}(ho:ops[i]? = some ⟨some d,op,ty,pos,aft,none⟩)(hf:Nat.blt d N=true)(h:Rd X P N ⟨some d,op,ty,pos,aft,none⟩ e w v)(k:PR X P N ops T K p ((d,v)::e) w):PR X P N ops T K (.rd i p) e w:=PR_rd ho rfl hf h k
theorem dE {i:Nat}{S:Value->World->Prop}(ho:ops[i]? = some ⟨some d,op,ty,pos,aft,none⟩)(hf:Nat.blt d N=true)(h:Ef P N ⟨some d,op,ty,pos,aft,none⟩ e w S)(hT:T.testBit i=true∨∀v w',S v w'->Chg X w w')(k:∀v w',S v w'->PR X P N ops T K p ((d,v)::e) w'):PR X P N ops T K (.ef i p) e w:=k_s ho rfl hf h hT k
theorem dE0 {i:Nat}{S:Value->World->Prop}(ho:ops[i]? = some ⟨none,op,ty,pos,aft,none⟩)(h:Ef P N ⟨none,op,ty,pos,aft,none⟩ e w S)(hT:T.testBit i=true∨∀v w',S v w'->Chg X w w')(k:∀v w',S v w'->PR X P N ops T K p e w'):PR X P N ops T K (.ef i p) e w:=k_s ho rfl rfl h hT k
section guards
variable {i j gd:Nat}{want b:Bool}
theorem dRg {v:Value}(ho:ops[i]? = some ⟨some d,op,ty,pos,aft,some (j,want)⟩)(hj:(ops[j]?).bind (·.dst)=some gd)(hb:x_ e gd=some (.bool b))(hw:b=want)(hf:Nat.blt d N=true)(h:Rd X P N ⟨some d,op,ty,pos,aft,some (j,want)⟩ e w v)(k:PR X P N ops T K p ((d,v)::e) w):PR X P N ops T K (.rd i p) e w :=
 o_k ho rfl hj (hw ▸ hb) hf h k
theorem dRn (ho:ops[i]? = some ⟨some d,op,ty,pos,aft,some (j,want)⟩)(hj:(ops[j]?).bind (·.dst)=some gd)(hb:x_ e gd=some (.bool b))(hw:b = !want)(hf:Nat.blt d N=true)(k:PR X P N ops T K p ((d,undef)::e) w):PR X P N ops T K (.rd i p) e w :=
 o_l ho rfl hj (hw ▸ hb) hf k
theorem dRu (ho:ops[i]? = some ⟨some d,op,ty,pos,aft,some (j,want)⟩)(hj:(ops[j]?).bind (·.dst)=some gd)(hb:x_ e gd=some undef)(hf:Nat.blt d N=true)(k:PR X P N ops T K p ((d,undef)::e) w):PR X P N ops T K (.rd i p) e w :=
 o_m ho rfl hj hb hf k
theorem dEg {S:Value->World->Prop}(ho:ops[i]? = some ⟨some d,op,ty,pos,aft,some (j,want)⟩)(hj:(ops[j]?).bind (·.dst)=some gd)(hb:x_ e gd=some (.bool b))(hw:b=want)(hf:Nat.blt d N=true)(h:Ef P N ⟨some d,op,ty,pos,aft,some (j,want)⟩ e w S)(hT:T.testBit i=true∨∀v w',S v w'->Chg X w w')(k:∀v w',S v w'->PR X P N ops T K p ((d,v)::e) w'):PR X P N ops T K (.ef i p) e w :=
 o_n ho rfl hj (hw ▸ hb) hf h hT k
theorem dEn (ho:ops[i]? = some ⟨some d,op,ty,pos,aft,some (j,want)⟩)(hj:(ops[j]?).bind (·.dst)=some gd)(hb:x_ e gd=some (.bool b))(hw:b = !want)(hf:Nat.blt d N=true)(k:PR X P N ops T K p ((d,undef)::e) w):PR X P N ops T K (.ef i p) e w :=
 o_p ho rfl hj (hw ▸ hb) hf k
end guards
theorem f_J {c:Code}{K':Act->World->Prop}(J:Act->World->Prop)(h1:WC P N c J Q e w)(h2:∀a w',J a w'->K' a w'):WC P N c K' Q e w:=o_7 h2 (λ_ _ _ h=>h) h1
end
section
variable {α:Type}[Dat α]{w w':World}{B:Zone}{v:Value}{l:List α}{S:List Nat}{X:Nat->Prop}
theorem e_.rep (h:e_ w B v l):Dat.rep w B [v] l:=⟨v,rfl,h⟩
theorem e_.of (h:Dat.rep w B [v] l):e_ w B v l:=by
 obtain ⟨v',he,h⟩:=h;obtain rfl:=(List.cons.inj he).1;exact h
theorem e_.ext (h:e_ w B v l)(hb:Below w.heap.size w w'):e_ w' B v l:=e_.of<|m_g h.rep hb
theorem e_.chg (h:e_ w B v l)(hc:Chg X w w')(hx:∀k,B k->¬X k):e_ w' B v l:=e_.of<|k_z h.rep hc hx
theorem a_.own (h:a_ w S v l):Dat.own w S [v] l:=⟨v,rfl,h⟩
theorem a_.of (h:Dat.own w S [v] l):a_ w S v l:=by
 obtain ⟨v',he,h⟩:=h;obtain rfl:=(List.cons.inj he).1;exact h
theorem a_.ext (h:a_ w S v l)(hb:Below w.heap.size w w'):a_ w' S v l:=a_.of<|i_7 h.own hb
theorem a_.chg (h:a_ w S v l)(hc:Chg X w w')(hx:∀k∈S,¬X k):a_ w' S v l:=a_.of<|d_U h.own hc hx
theorem a_.lt (h:a_ w S v l):∀k∈S,k<w.heap.size:=own_lt h.own
theorem a_.rep (h:a_ w S v l):e_ w w.heap.size v l:=e_.of<|own_rep' h.own
theorem a_.len (h:a_ w S v l):l.length<=LEN:=by
 rcases h with ⟨_,rfl,_⟩ | ⟨g,c,cur,Ss,_,_,h3,_⟩
 .exact Nat.zero_le _
 .exact h3
theorem e_.len (h:e_ w B v l):l.length<=LEN:=by obtain ⟨ao,c,_,_,h,_⟩:=h;exact h
theorem a_.shape (h:a_ w S v l):∃ao c,v = .slice ao l.length c:=by
 rcases h with ⟨rfl,rfl,_⟩ | ⟨g,c,cur,Ss,rfl,_⟩
 .exact ⟨none,0,rfl⟩
 .exact ⟨_,c,rfl⟩
theorem e_.shape (h:e_ w B v l):∃ao c,v = .slice ao l.length c:=by obtain ⟨ao,c,h,_⟩:=h;exact ⟨ao,c,h⟩
theorem e_.at {ao:Option Addr}{c n:Nat}{i:Int}{x:α}(h:e_ w B (.slice ao n c) l)(hx:idx l i=some x):∃b o cs,ao=some ⟨b,o,none⟩/\0<=i/\i<(n:Int)/\u_ w b (o+i.toNat * sz α) cs/\Dat.rep w B cs x:=by
 obtain ⟨G,h1,h2⟩:=b_e hx;obtain ⟨ao',c',he,_,_,hn,hp⟩:=h
 simp only [Value.slice.injEq] at he
 obtain ⟨rfl,rfl,rfl⟩:=he
 cases ao with
 | none=>rw [hn rfl] at h1;simp at h1
 | some p =>
  obtain ⟨H,_,k3⟩:=hp p rfl;have k1:=H (by rintro rfl;simp at h1);obtain ⟨cs,g1,I⟩:=k3 _ _ h1;exact ⟨p.block,p.off,cs,by cases p;simp_all,G,h2,g1,I⟩
end
theorem u_.ext {w w':World}{b o:Nat}{cs:List Value}(h:u_ w b o cs)(hb:Below w.heap.size w w'):u_ w' b o cs:=λj v hv=>(hb.cell<|World.block_lt_of_cell? w _<|h j v hv).trans (h j v hv)
theorem u_.chg {X:Nat->Prop}{w w':World}{b o:Nat}{cs:List Value}(h:u_ w b o cs)(hc:Chg X w w')(hx:¬X b):u_ w' b o cs:=λj v hv=>by
 have:=h j v hv
 rw [← this]
 exact World.cell?_of_block (w:=w)<|hc.block b (World.block_lt_of_cell? w _ this) hx
theorem u_.at {w:World}{b o j:Nat}{cs:List Value}{v:Value}(h:u_ w b o cs)(hv:cs[j]? = some v):w.cell? ⟨b,o+j,none⟩=some v:=h j v hv
theorem u_.sub {w:World}{b o j n:Nat}{cs vs:List Value}(h:u_ w b o cs)(hv:(cs.drop j).take n=vs):u_ w b (o+j) vs:=by
 subst hv;intro i v hi
 rw [List.getElem?_take] at hi
 split at hi
 .rw [List.getElem?_drop] at hi
  have:=h _ _ hi
  rwa [← Nat.add_assoc] at this
 .cases hi
theorem Blk.at {w:World}{g i:Nat}{l:List Value}{v:Value}(h:Blk w g l)(hv:l[i]? = some v):w.cell? ⟨g,i,none⟩=some v:=by rw [h.cell,hv]
theorem Blk.row {w:World}{g:Nat}{l:List Value}(h:Blk w g l)(o n:Nat){vs:List Value}(hv:(l.drop o).take n=vs):u_ w g o vs:=by subst hv;exact h.cells o n
theorem Blk.all {w:World}{g:Nat}{l:List Value}(h:Blk w g l):u_ w g 0 l:=λj v hv=>by rw [Nat.zero_add,h.cell];exact hv
theorem Chg.comp {X Y:Nat->Prop}{a b c:World}(h:Chg X a b)(h':Chg Y b c)(hy:∀k,k<a.heap.size->Y k->X k):Chg X a c :=
 ⟨h'.os.trans h.os,h'.tape.trans h.tape,h'.output.trans h.output,Nat.le_trans h.size h'.size,λk hk hx=>(h'.block k (Nat.lt_of_lt_of_le hk h.size)<|λy=>hx<|hy k hk y).trans (h.block k hk hx)⟩
theorem Chg.ext {X:Nat->Prop}{a b c:World}(h:Chg X a b)(h':Below b.heap.size b c):Chg X a c:=h.comp (Vw.Below.chg h'<|λ_=>False)<|λ_ _=>False.elim
theorem bup {a b c:World}(h:Below a.heap.size a b)(h':Below b.heap.size b c):Below a.heap.size a c:=h.trans<|h'.mono h.size
theorem bchg {X:Nat->Prop}{a b c:World}(h:Below a.heap.size a b)(h':Chg X b c)(hx:∀k,k<a.heap.size->¬X k):Below a.heap.size a c:=h.trans<|h'.below h.size hx
theorem e_r (a:World):Below a.heap.size a a:=Below.refl _ _
end Go.Vw
namespace Go.Vw
open Go.RowKit Dat
theorem g_Q (c:UInt8):byteI c<256:=by have:=c.toNat_lt;unfold byteI;omega
theorem g_R (c:UInt8):0<=byteI c:=by unfold byteI;omega
def mkB (x:Int):UInt8:=UInt8.ofNat (IntKind.u8.wrap x).toNat
theorem m_2 (x:Int):byteI (mkB x)=IntKind.u8.wrap x:=by
 unfold byteI mkB;have h:0<=IntKind.u8.wrap x/\IntKind.u8.wrap x<256:=by rw [IntKind.wrap_u8];omega
 rw [UInt8.toNat_ofNat']
 omega
theorem m_3 (c:UInt8):inI (byteI c):=by unfold inI;have:=g_Q c;have:=g_R c;omega
theorem inI_of (x:Int)(h:(decide (-9223372036854775808<=x) && decide (x<=9223372036854775807))=true):inI x:=by
 simp at h;exact h
section
variable {X:Nat->Prop}{P:Program}{N:Nat}{e:Env}{w:World}{dst:Option Tmp}{ty:TypeId}{pos:String}{aft:Array Edge}{gd:Option (Nat×Bool)}{x y z:Operand}{T T':Nat}
theorem c_p {S D:Nat}{k:IntKind}{p:Int}{d:TypeDesc}(hS:P.underlying S=some d)(hD:P.underlying D=some (.int .u8))(h:ev e x=some (.int k p)):Rd X P N ⟨dst,.convert S D x,ty,pos,aft,gd⟩ e w (vU<|byteI<|mkB p):=by
 rw [m_2];exact m_i hS hD h
theorem c_V {S D:Nat}{c:UInt8}{d:TypeDesc}(hS:P.underlying S=some d)(hD:P.underlying D=some (.int .i64))(h:ev e x=some (vU<|byteI c)):Rd X P N ⟨dst,.convert S D x,ty,pos,aft,gd⟩ e w (vI<|byteI c):=by
 have:=m_i (X:=X) (P:=P) (N:=N) (w:=w) (dst:=dst) (ty:=ty) (pos:=pos) (aft:=aft) (gd:=gd) hS hD h
 rwa [o_G] at this
theorem f_K {k n:Nat}(hk:k<n)(hn:n<=9223372036854775807)(h1:ev e x=some (vI (k:Int)))(h2:ev e y=some (vI 1)):Rd X P N ⟨dst,.binOp .add T x y T',ty,pos,aft,gd⟩ e w (vI ((k+1:Nat):Int)):=by
 rw [← iinc hk hn];exact e_Q h1 h2
end
section
variable {w:World}{B:Zone}{S:List Nat}{cs:List Value}
theorem S_ {x:Int}(h:rep w B cs x):cs=[vI x]/\inI x:=by obtain ⟨v,rfl,rfl,h⟩:=h;exact ⟨rfl,h⟩
theorem o_H {x:Bool}(h:rep w B cs x):cs=[vB x]:=by obtain ⟨v,rfl,rfl⟩:=h;rfl
theorem e_s {x:UInt8}(h:rep w B cs x):cs=[vU (byteI x)]:=by obtain ⟨v,rfl,rfl⟩:=h;rfl
theorem c_W {x:Str}(h:rep w B cs x):cs=[x.v]/\x.b.length<=LEN:=by obtain ⟨v,rfl,rfl,h⟩:=h;exact ⟨rfl,h⟩
theorem o_I {α:Type}[Dat α]{l:List α}(h:rep w B cs l):∃ao c,cs=[.slice ao l.length c]/\e_ w B (.slice ao l.length c) l:=by
 obtain ⟨v,rfl,h⟩:=h;obtain ⟨ao,c,rfl⟩:=e_.shape h;exact ⟨ao,c,rfl,h⟩
theorem m_4 {x:Int}(h:inI x):rep w B [vI x] x:=⟨_,rfl,rfl,h⟩
theorem o_J {x:Bool}:rep w B [vB x] x:=⟨_,rfl,rfl⟩
theorem Str_mk {x:Str}(h:x.b.length<=LEN):rep w B [x.v] x:=⟨_,rfl,rfl,h⟩
theorem a_t {x:Int}(h:inI x):own w [] [vI x] x:=⟨rfl,_,rfl,rfl,h⟩
theorem o_K {x:Bool}:own w [] [vB x] x:=⟨rfl,_,rfl,rfl⟩
theorem a_u {x:UInt8}:own w [] [vU (byteI x)] x:=⟨rfl,_,rfl,rfl⟩
theorem f_L {x:Str}(h:x.b.length<=LEN):own w [] [x.v] x:=⟨rfl,_,rfl,rfl,h⟩
end
theorem f_M {α β:Type}[Dat α][Dat β]{w:World}{B:Zone}{c d:List Value}{x:α}{y:β}(h1:rep w B c x)(h2:rep w B d y):rep w B (c++d) (x,y):=⟨c,d,rfl,h1,h2⟩
theorem f_N {α β:Type}[Dat α][Dat β]{w:World}{S1 S2:List Nat}{c d:List Value}{x:α}{y:β}(h1:own w S1 c x)(h2:own w S2 d y):own w (S1++S2) (c++d) (x,y):=⟨c,d,S1,S2,rfl,rfl,h1,h2⟩
theorem k_w {α:Type}[Dat α](w:World):a_ w [] (.slice none 0 0) ([]:List α):=.inl ⟨rfl,rfl,rfl⟩
theorem o_L {α:Type}[Dat α]{w w':World}(h:New w w' []):a_ w' [w.heap.size] (.slice (some ⟨w.heap.size,0,none⟩) 0 0) ([]:List α) :=
 .inr ⟨w.heap.size,0,[],[],rfl,Nat.le_refl _,Nat.zero_le _,h.blk,by simp,rfl,rfl,λi x Si hx=>by simp at hx⟩
theorem e_t {l:List Value}(h:l.all Value.oneCell'=true):∀u∈l,u.oneCell'=true:=λu hu=>List.all_eq_true.1 h u hu
theorem a_3 {α:Type}[Dat α]{w w':World}{cs:List Value}{Si:List Nat}{x:α}(h:New w w' cs)(ho:own w Si cs x):a_ w' (w.heap.size::Si) (.slice (some ⟨w.heap.size,0,none⟩) 1 1) [x]:=by
 have hl:=rep_len<|own_rep' ho;refine .inr ⟨w.heap.size,1,cs,[Si],rfl,Nat.le_refl _,by simp [LEN],h.blk,by simp [hl],by simp,rfl,λi y Sj hy hS=>?_⟩
 cases i with
 | zero =>
  simp at hy hS
  subst hy hS;have:=j_p cs _ hl;unfold X_ at this
  rw [this]
  exact i_7 ho h.below
 | succ i=>simp at hy
theorem pshS {α:Type}{l:List α}{x:α}{m:List α}(h:psh l x=some m):m=l++[x]/\l.length<LIM:=by
 unfold psh at h
 split at h
 .rename_i hl;exact ⟨(Option.some.inj h).symm,hl⟩
 .cases h
theorem appS {α:Type}{l x m:List α}(h:app l x=some m):m=l++x/\l.length+x.length<=LIM:=by
 unfold app at h
 split at h
 .rename_i hl;exact ⟨(Option.some.inj h).symm,hl⟩
 .cases h
theorem catS {s t u:Str}(h:cat s t=some u):u=⟨s.b++t.b⟩/\s.b.length+t.b.length<=LEN:=by
 unfold cat at h
 split at h
 .rename_i hl;exact ⟨(Option.some.inj h).symm,Nat.le_trans hl f_I⟩
 .cases h
theorem h_W {s t u:Str}(h:cat s t=some u):u.b.length<=LEN:=by
 obtain ⟨rfl,h'⟩:=catS h;simpa using h'
theorem j_b {n b:Nat}(h:n<=LIM)(hb:Nat.ble b 32768=true):n * b<=140737488355328:=by
 have h2:b<=32768:=Nat.le_of_ble_eq_true hb
 calc n * b<=LIM * 32768:=Nat.mul_le_mul h h2
  _=140737488355328:=by decide
section
variable {X:Nat->Prop}{P:Program}{N:Nat}{e:Env}{w:World}{dst:Option Tmp}{ty:TypeId}{pos:String}{aft:Array Edge}{gd:Option (Nat×Bool)}{x y z:Operand}{T T':Nat}
theorem o_M {α:Type}[Dat α]{E bytes:Nat}{zz:Value}(hE:El P T E (sz α) bytes zz){S Si:List Nat}{sv:Value}{l m:List α}{v:α}{g:Nat}{cs:List Value}(hm:psh l v=some m)(hx:ev e x=some sv)(hy:ev e y=some (.slice (some ⟨g,0,none⟩) 1 1))
  (ho:a_ w S sv l) (hN:S.Nodup) (hB:Blk w g cs) (hv:own w Si cs v) (hD:∀k∈Si,k∉S) (hSi:Si.Nodup) :
  Ef P N ⟨dst,.call { callee:=.builtin .append,args:=#[x,y],argTypes:=#[T,T] },ty,pos,aft,gd⟩ e w (λv' w'=>∃S' ao c,v' = .slice ao m.length c/\a_ w' S' (.slice ao m.length c) m/\S'.Nodup/\Chg (· ∈ S) w w'/\(∀k∈S',k∈S∨k∈Si∨k=w.heap.size)):=by
 obtain ⟨rfl,hl⟩:=pshS hm;have hcs:=rep_len<|own_rep' hv
 have h:=m_0 (P:=P) (N:=N) (dst:=dst) (ty:=ty) (pos:=pos) (aft:=aft) (gd:=gd) hE hx ho hN (p:=⟨g,0,none⟩) (c':=1) (news:=cs) (xs:=[v]) (Ts:=[Si]) hy rfl (λ_=>rfl) (by simp [hcs]) hB.all rfl
  (λi a Ti ha hT=>by
   cases i with
   | zero =>
    simp at ha hT
    subst ha hT
    rw [j_p cs _ hcs]
    exact hv
   | succ i=>simp at ha) (by simpa using hD) (by simpa using hSi) (by have:=f_I;simp;omega) (j_b (by simp;omega) hE.sm)
 constructor
 intro a ha Q;refine Oper.wp_mono ?_<|h.run a ha Q;rintro a' w' ⟨v',rfl,S',h1,h2,h3,h4⟩;obtain ⟨ao,c,rfl⟩:=a_.shape h1;exact ⟨_,rfl,S',ao,c,rfl,h1,h2,h3,by simpa using h4⟩
theorem o_N {α:Type}[Dat α][b_m α]{E bytes:Nat}{zz:Value}(hE:El P T E (sz α) bytes zz){S:List Nat}{sv:Value}{l m xs:List α}{B:Zone}{G:Nat}{H:Option Addr}(hm:app l xs=some m)(hx:ev e x=some sv)(hy:ev e y=some (.slice H xs.length G))
  (ho:a_ w S sv l) (hN:S.Nodup) (hr:e_ w B (.slice H xs.length G) xs) :
  Ef P N ⟨dst,.call { callee:=.builtin .append,args:=#[x,y],argTypes:=#[T,T] },ty,pos,aft,gd⟩ e w (λv' w'=>∃S' ao c,v' = .slice ao m.length c/\a_ w' S' (.slice ao m.length c) m/\S'.Nodup/\Chg (· ∈ S) w w'/\(∀k∈S',k∈S∨k∈([]:List Nat)∨k=w.heap.size)):=by
 obtain ⟨rfl,hl⟩:=appS hm;obtain ⟨ao,c,he,h1,h2,h3,h4⟩:=hr
 simp only [Value.slice.injEq,true_and] at he
 obtain ⟨rfl,rfl⟩:=he
 cases H with
 | none =>
  obtain rfl:=h3 rfl
  constructor
  intro a ha Q;obtain ⟨ao,c,rfl⟩:=a_.shape ho
  have hc:l.length<=c:=by
   rcases ho with ⟨h,rfl,_⟩ | ⟨_,_,_,_,h,hh,_⟩ <;> cases h
   .exact Nat.le_refl _
   .exact hh
  have L:G=G:=rfl;unfold Oper.wp;obtain ⟨i,hi,hz,_,_⟩:=info_parts hE.info
  have hr:(execOp a.eval ⟨dst,.call { callee:=.builtin .append,args:=#[x,y],argTypes:=#[T,T] },ty,pos,aft,gd⟩).run P w = .ok (.value<|.slice ao l.length c) w:=by
   have:(Builtin.append_ #[T,T] ty #[.slice ao l.length c,.slice none 0 G]).run P w = .ok (.slice ao l.length c) w:=by
    cases ao <;> simp [Builtin.append_,run_underlying hE.sl,sizeOf,typeInfo,hi,Builtin.lenOf,Builtin.firstCells,hc,storeCells]
   have hy':a.eval y = .slice none 0 G:=ha.ev hy
   simp [execOp,resolve,invoke,builtin,ha.ev hx,hy',this]
  rw [hr]
  refine ⟨_,rfl,S,ao,c,by simp,by simpa using ho,hN,Chg.refl _ _,λk hk=>.inl hk⟩
 | some p =>
  obtain ⟨k1,_,k3⟩:=h4 p rfl;obtain ⟨news,g1,I,J⟩:=m_k xs k3
  have h:=m_0 (P:=P) (N:=N) (dst:=dst) (ty:=ty) (pos:=pos) (aft:=aft) (gd:=gd) hE hx ho hN (p:=p) (c':=G) (news:=news) (xs:=xs) (Ts:=List.replicate xs.length []) hy rfl (λhne=>k1<|λhx=>hne<|List.eq_nil_of_length_eq_zero (by rw [g1,hx];simp)) g1 I (by simp)
   (λi a Ti ha hT=>by
    have:Ti=[]:=by
     rw [List.getElem?_replicate] at hT
     split at hT <;> simp at hT
     first | exact hT | exact hT.symm
    subst this
    exact b_m.flat (J i a ha)) (by simp) (by simp) (by have:=f_I;omega) (j_b hl hE.sm)
  constructor
  intro a ha Q;refine Oper.wp_mono ?_<|h.run a ha Q;rintro a' w' ⟨v',rfl,S',h1,h2,h3,h4⟩;obtain ⟨ao,c,rfl⟩:=a_.shape h1;exact ⟨_,rfl,S',ao,c,rfl,h1,h2,h3,by simpa using h4⟩
def evo (e:Env)(o:Option Operand)(d b:Int):Prop:=match o with
 | none=>b=d
 | some x=>ev e x=some (vI b)
theorem slcS {α:Type}{l m:List α}{a b:Int}(h:slc l a b=some m):0<=a/\a<=b/\b<=l.length/\m=(l.take b.toNat).drop a.toNat:=by
 unfold slc at h
 split at h
 .rename_i hl;exact ⟨hl.1,hl.2.1,hl.2.2,(Option.some.inj h).symm⟩
 .cases h
theorem m_5 {α:Type}{l m:List α}{a b:Int}(h:slc l a b=some m):(m.length:Int)=b - a:=by
 obtain ⟨h1,h2,h3,rfl⟩:=slcS h
 simp;omega
theorem o_O {α:Type}[Dat α]{B:Zone}{n c sz':Nat}{ao:Option Addr}{l m:List α}{a b mx:Int}(hsz:sz'=sz α)(h:e_ w B (.slice ao n c) l)(hs:slc l a b=some m)(h1:b<=mx)(h2:mx<=c) :
  e_ w B (.slice (if mx.toNat=a.toNat then ao else ao.map (·.add (a.toNat * sz'))) m.length<|mx.toNat - a.toNat) m:=by
 subst hsz;obtain ⟨g1,O,V,rfl⟩:=slcS hs;obtain ⟨ao',c',he,k1,k2,k3,k4⟩:=h
 simp only [Value.slice.injEq] at he
 obtain ⟨rfl,rfl,rfl⟩:=he;refine ⟨_,_,rfl,by simp;omega,by simp;omega,λhn=>?_,λp hp=>?_⟩
 .have:ao=none:=by
   split at hn
   .exact hn
   .simpa using hn
  rw [k3 this]
  simp
 .by_cases hmx:mx.toNat=a.toNat
  .rw [if_pos hmx] at hp
   obtain ⟨G,H,I⟩:=k4 p hp
   have hnil:(l.take b.toNat).drop a.toNat=[]:=by
    apply List.drop_of_length_le;simp;omega
   rw [hnil]
   exact ⟨λh=>absurd rfl h,λh=>absurd rfl h,λi x hx=>by simp at hx⟩
  .rw [if_neg hmx] at hp
   cases ao with
   | none=>simp at hp
   | some q =>
    simp only [Option.map_some,Option.some.injEq] at hp
    subst hp;obtain ⟨G,H,I⟩:=k4 q rfl
    by_cases hemp:(l.take b.toNat).drop a.toNat=[]
    .rw [hemp]
     exact ⟨λh=>absurd rfl h,λh=>absurd rfl h,λi x hx=>by simp at hx⟩
    have j1':=G<|λh=>hemp (by rw [h];simp);have hq:q=⟨q.block,q.off,none⟩:=by cases q;simp_all
    rw [hq,Addr.add_lit]
    refine ⟨λ_=>rfl,λhne=>H<|λh=>hne (by rw [h];simp),λi x hx=>?_⟩
    rw [List.getElem?_drop,List.getElem?_take] at hx
    split at hx
    .obtain ⟨cs,J,L⟩:=I _ _ hx;refine ⟨cs,?_,L⟩;have:q.off+a.toNat * sz α+i * sz α=q.off+(a.toNat+i) * sz α:=by rw [Nat.add_mul];omega
     rw [this]
     exact J
    .cases hx
theorem o_P {α:Type}[Dat α]{B:Zone}{E n c sz':Nat}{ao:Option Addr}{l m:List α}{a b:Int}{lo hi:Option Operand}(hT:P.underlying T=some (.slice E))(hs:∀w,(sizeOf E).run P w = .ok sz' w)(hsz:sz'=sz α)(hx:ev e x=some (.slice ao n c))(h:e_ w B (.slice ao n c) l)
  (hlo:evo e lo 0 a) (hhi:evo e hi n b) (hm:slc l a b=some m) :
  ∃ao' c',Rd X P N ⟨dst,.slice T x lo hi none,ty,pos,aft,gd⟩ e w (.slice ao' m.length c')/\e_ w B (.slice ao' m.length c') m:=by
 obtain ⟨g1,H,I,_⟩:=slcS hm;have hml:=m_5 hm;have h':=h;obtain ⟨ao',c',he,k1,k2,k3,k4⟩:=h'
 simp only [Value.slice.injEq] at he
 obtain ⟨rfl,rfl,rfl⟩:=he;refine ⟨_,_,?_,o_O (mx:=(c:Int)) hsz h hm (by omega) (by omega)⟩;intro act ha w' _
 have hsl:(Instr.sliceAt T (.slice ao l.length c) (lo.map act.eval) (hi.map act.eval) none).run P w' = .ok (.slice (if c=a.toNat then ao else ao.map (·.add (a.toNat * sz'))) (b.toNat - a.toNat)<|c - a.toNat) w':=by
  have hb:∀code,(Instr.sliceBound (vI b) c code).run P w' = .ok b.toNat w':=λcode=>run_sliceBound w' .i64 b c code (by omega) (by omega)
  have hal:∀code,(Instr.sliceBound (vI a) b.toNat code).run P w' = .ok a.toNat w':=λcode=>run_sliceBound w' .i64 a b.toNat code g1 (by omega)
  have hbs:(Instr.sliceBounds true l.length c (lo.map act.eval) (hi.map act.eval) none).run P w' = .ok (a.toNat,b.toNat,c) w':=by
   cases lo with
   | none =>
    obtain rfl:a=0:=hlo
    cases hi with
    | none =>
     obtain rfl:b=(l.length:Int):=hhi
     simp [Instr.sliceBounds]
    | some y=>simp [Instr.sliceBounds,ha.ev hhi,hb]
   | some u =>
    cases hi with
    | none =>
     obtain rfl:b=(l.length:Int):=hhi;have hal':∀code,(Instr.sliceBound (vI a) l.length code).run P w' = .ok a.toNat w':=λcode=>by simpa using hal code
     simp [Instr.sliceBounds,ha.ev hlo,hal']
    | some y=>simp [Instr.sliceBounds,ha.ev hlo,ha.ev hhi,hb,hal]
  simp [Instr.sliceAt,run_underlying hT,Instr.slice,hbs,hs]
 have hmm:b.toNat - a.toNat=m.length:=by omega
 have G:((c:Int)).toNat=c:=by simp
 simp only [execOp,ha.ev hx,Option.map_none,Sem.run_bind,hsl,Result.andThen_ok,hmm,G]
 rfl
structure c_F (P:Program)(T:Nat)(zs:List Value)(places:List (Nat×Nat)):Prop where
 zero:∀w,(zeroValue T).run P w = .ok (.agg zs.toArray) w
 und:∃fs,P.underlying T=some (.struct fs)/\∀w,(fs.toList.mapM λf=>Functor.map (Prod.mk f.offset)<|sizeOf f.type).run P w = .ok places w
theorem o_Q {zs cs:List Value}{places:List (Nat×Nat)}{parts:Array (Nat×Operand)}{vs:List (Nat×Value)}(hB:c_F P T zs places)(hv:∀a,Sat N e a->(parts.map λ(i,x)=>(i,a.eval x)).toList=vs)(hf:Instr.fill (places.toArray[·]?) zs.toArray vs=some cs.toArray) :
  Rd X P N ⟨dst,.build T parts,ty,pos,aft,gd⟩ e w (.agg cs.toArray):=λa ha w' _=>by
 obtain ⟨fs,hu,hpl⟩:=hB.und
 have h1:(Instr.build T<|parts.map λ(i,x)=>(i,a.eval x)).run P w' = .ok (.agg cs.toArray) w':=by
  unfold Instr.build
  have hp:(fs.mapM λf=>Functor.map (Prod.mk f.offset) (sizeOf f.type):Sem (Array<|Nat×Nat)).run P w' = .ok places.toArray w':=by
   rw [Array.mapM_eq_mapM_toList]
   simp [hpl]
  have G:(fs.mapM λf=>do pure (f.offset,← sizeOf f.type):Sem (Array<|Nat×Nat)).run P w' = .ok places.toArray w':=hp
  simp only [Sem.run_bind,hB.zero,Result.andThen_ok,run_underlying hu,Value.cells,G,hv a ha,hf]
  rfl
 simp only [execOp,Sem.run_bind,h1,Result.andThen_ok]
 rfl
end
end Go.Vw
namespace Go.Vw
open Go.RowKit Dat
theorem updS {α:Type}{l m:List α}{i:Int}{x:α}(h:upd l i x=some m):m=l.set i.toNat x/\0<=i/\i<l.length:=by
 unfold upd at h
 split at h
 .rename_i hl;exact ⟨(Option.some.inj h).symm,hl⟩
 .cases h
theorem o_R {n i j k:Nat}{l cs:List Value}(hl:l.length=k * n)(hc:cs.length=n)(hi:i<k)(hj:j<k) :
  X_ n j (l.take (i * n)++cs++l.drop (i * n+n))=if j=i then cs else X_ n j l:=by
 have h1:(i+1) * n<=k * n:=Nat.mul_le_mul_right n hi
 rw [Nat.succ_mul] at h1
 have htk:(l.take<|i * n).length=i * n:=by simp;omega
 have htc:(l.take (i * n)++cs).length=(i+1) * n:=by simp [hc,Nat.succ_mul];omega
 by_cases hji:j=i
 .subst hji
  rw [if_pos rfl,e_T htc<|Nat.lt_succ_self _,i_c htk<|Nat.le_refl _,Nat.sub_self,j_p cs _ hc]
 .rw [if_neg hji]
  by_cases hlt:j<i
  .rw [e_T htc (by omega),e_T htk hlt,k_B hlt]
  .rw [i_c htc (by omega)]
   unfold X_
   rw [List.drop_drop]
   congr 2
   have:j=(i+1)+(j - (i+1)):=by omega
   calc i * n+n+(j - (i+1)) * n=(i+1) * n+(j - (i+1)) * n:=by rw [Nat.succ_mul]
    _=j * n:=by rw [← Nat.add_mul,← this]
theorem o_S {α:Type}[Dat α]{w w':World}{S Si:List Nat}{g n c i:Nat}{l:List α}{x:α}{cs:List Value}(ho:a_ w S (.slice (some ⟨g,0,none⟩) n c) l)(hN:S.Nodup)(hi:i<l.length)(hx:own w Si cs x)(hD:∀k∈Si,k∉S)(hSi:Si.Nodup)
  (hB:∀cur,Blk w g cur->Blk w' g (cur.take (i * sz α)++cs++cur.drop (i * sz α+sz α))) (hch:Chg (· = g) w w') :
  ∃S',a_ w' S' (.slice (some ⟨g,0,none⟩) (l.set i x).length c) (l.set i x)/\S'.Nodup/\(∀k∈S',k∈S∨k∈Si):=by
 rcases ho with ⟨h,_⟩ | ⟨g',c',cur,Ss,he,h1,h2,h3,h4,rfl,h6,H⟩
 .cases h
 .simp only [Value.slice.injEq,Option.some.injEq,Addr.mk.injEq,and_true] at he
  obtain ⟨rfl,rfl,rfl⟩:=he;have hcs:=rep_len<|own_rep' hx;have hic:i<c:=Nat.lt_of_lt_of_le hi h1;have hle:i * sz α+sz α<=cur.length:=by rw [h4,← Nat.succ_mul];exact Nat.mul_le_mul_right _ hic
  obtain ⟨hgn,hfn⟩:=List.nodup_cons.1 hN;have hgS:∀(j:Nat) Sj,Ss[j]? = some Sj->∀k∈Sj,¬k=g:=λj Sj hSj k hk hk'=>hgn<|hk' ▸ c_3 hSj hk
  have hsub:∀k∈List.flatten (Ss.set i Si),k∈List.flatten Ss∨k∈Si:=by
   intro k hk;obtain ⟨Sj,hSj,hk⟩:=List.mem_flatten.1 hk
   rcases List.mem_or_eq_of_mem_set hSj with h | h
   .exact .inl<|List.mem_flatten.2 ⟨Sj,h,hk⟩
   .exact .inr<|h ▸ hk
  refine ⟨g::List.flatten (Ss.set i Si),.inr ⟨g,c,_,Ss.set i Si,rfl,by simpa using h1,by simpa using h2,hB cur h3,?_,rfl,by simp [h6],?_⟩,?_,?_⟩
  .rw [← h4];simp [hcs];omega
  .intro j y Sj hy hSj;have hj:j<l.length:=by have:=(List.getElem?_eq_some_iff.1 hy).1;simpa using this
   show own w' Sj (X_ (sz α) j _) y
   rw [o_R h4 hcs hic (Nat.lt_of_lt_of_le hj h1)]
   by_cases hji:j=i
   .subst hji
    rw [if_pos rfl]
    rw [List.getElem?_set_self hj] at hy
    rw [List.getElem?_set_self (by omega)] at hSj
    simp only [Option.some.injEq] at hy hSj
    subst hy hSj;exact d_U hx hch<|λk hk hk'=>hD k hk<|hk' ▸ List.mem_cons_self
   .rw [if_neg hji]
    rw [List.getElem?_set_ne (Ne.symm hji)] at hy hSj
    exact d_U (H j y Sj hy hSj) hch<|hgS j Sj hSj
  .refine List.nodup_cons.2 ⟨λhm=>?_,?_⟩
   .rcases hsub g hm with h | h
    .exact hgn h
    .exact hD g h List.mem_cons_self
   .rw [List.nodup_iff_pairwise_ne] at *
    rw [List.pairwise_flatten] at hfn ⊢
    obtain ⟨I,G⟩:=hfn;refine ⟨λSj hSj=>?_,?_⟩
    .rcases List.mem_or_eq_of_mem_set hSj with h | rfl
     .exact I Sj h
     .exact hSi
    .rw [List.pairwise_iff_getElem] at G ⊢
     intro a b ha hb hab u hu v hv;have ha':a<Ss.length:=by simpa using ha
     have hb':b<Ss.length:=by simpa using hb
     have notS:∀(j:Nat)(hj:j<Ss.length)(t:Nat),t∈Ss[j]->t∉Si:=λj hj t ht ht'=>hD t ht'<|List.mem_cons_of_mem _<|List.mem_flatten.2 ⟨Ss[j],List.getElem_mem hj,ht⟩
     rw [List.getElem_set] at hu hv
     by_cases hai:i=a
     .rw [if_pos hai] at hu
      rw [if_neg (by omega)] at hv
      intro huv;exact notS b hb' v hv<|huv ▸ hu
     .rw [if_neg hai] at hu
      by_cases hbi:i=b
      .rw [if_pos hbi] at hv
       intro huv;exact notS a ha' u hu<|huv ▸ hv
      .rw [if_neg hbi] at hv
       exact G a b ha' hb' hab u hu v hv
  .intro k hk
   rcases List.mem_cons.1 hk with rfl | hk
   .exact .inl List.mem_cons_self
   .exact (hsub k hk).imp (List.mem_cons_of_mem _) id
theorem a_.blk {α:Type}[Dat α]{w:World}{S:List Nat}{g n c:Nat}{l:List α}(h:a_ w S (.slice (some ⟨g,0,none⟩) n c) l):∃cur,Blk w g cur/\cur.length=c * sz α/\l.length<=c/\g∈S:=by
 rcases h with ⟨h,_⟩ | ⟨g',c',cur,Ss,he,h1,h2,h3,h4,rfl,_⟩
 .cases h
 .simp only [Value.slice.injEq,Option.some.injEq,Addr.mk.injEq,and_true] at he
  obtain ⟨rfl,rfl,rfl⟩:=he;exact ⟨cur,h3,h4,h1,List.mem_cons_self⟩
theorem a_.head {α:Type}[Dat α]{w:World}{S:List Nat}{ao:Option Addr}{n c:Nat}{l:List α}(h:a_ w S (.slice ao n c) l)(hl:0<l.length):∃g,ao=some ⟨g,0,none⟩:=by
 rcases h with ⟨_,rfl,_⟩ | ⟨g',c',cur,Ss,he,_⟩
 .simp at hl
 .simp only [Value.slice.injEq] at he
  exact ⟨g',he.1⟩
section
variable {P:Program}{N:Nat}{e:Env}{w:World}{dst:Option Tmp}{ty:TypeId}{pos:String}{aft:Array Edge}{gd:Option (Nat×Bool)}{x y z:Operand}{T T':Nat}
theorem ef_set {α:Type}[Dat α]{S Si:List Nat}{g n c:Nat}{i:Int}{l m:List α}{v:α}{u:Value}{cs:List Value}{sz':Nat}(hs:∀w,(sizeOf T).run P w = .ok sz' w)(hsz:sz'=sz α)(hx:ev e x=some (.pointer<|some ⟨g,0+i.toNat * sz',none⟩))(hy:ev e y=some u)(hu:u.cells.toList=cs)
  (hm:upd l i v=some m) (ho:a_ w S (.slice (some ⟨g,0,none⟩) n c) l) (hN:S.Nodup) (hv:own w Si cs v) (hD:∀k∈Si,k∉S) (hSi:Si.Nodup) :
  Ef P N ⟨none,.store T x y,ty,pos,aft,gd⟩ e w (λ_ w'=>∃S',a_ w' S' (.slice (some ⟨g,0,none⟩) m.length c) m/\S'.Nodup/\Chg (· = g) w w'/\(∀k∈S',k∈S∨k∈Si)):=by
 subst hsz hu;obtain ⟨rfl,G,h1⟩:=updS hm;obtain ⟨cur,hB,hcl,hlc,_⟩:=ho.blk;have hcs:=rep_len<|own_rep' hv;have hi:i.toNat<l.length:=by omega
 have hle:i.toNat * sz α+sz α<=cur.length:=by rw [hcl,← Nat.succ_mul];exact Nat.mul_le_mul_right _<|Nat.lt_of_lt_of_le hi hlc
 have h:=c_U (P:=P) (N:=N) (ty:=ty) (pos:=pos) (aft:=aft) (gd:=gd) hs hx hy hB (by simpa using hcs) (by omega) (rep_one<|own_rep' hv) rfl
 constructor
 intro a ha Q;refine Oper.wp_mono ?_<|h.run a ha Q;rintro a' w' ⟨v',rfl,hb,hch⟩
 obtain ⟨S',k1,k2,k3⟩:=o_S (i:=i.toNat) (x:=v) (cs:=u.cells.toList) ho hN hi hv hD hSi (λcur' hc'=>by
  obtain rfl:=hB.uniq hc'
  rw [hcs,Nat.zero_add] at hb
  exact hb) hch
 exact ⟨v',rfl,S',k1,k2,hch,k3⟩
theorem mk0S {α:Type}{z:α}{n:Int}{l:List α}(h:mk0 z n=some l):l=List.replicate n.toNat z/\0<=n/\n<=LIM:=by
 unfold mk0 at h
 split at h
 .rename_i hl;exact ⟨(Option.some.inj h).symm,hl⟩
 .cases h
theorem o_T {n i k:Nat}{z:Array Value}(hz:z.size=n)(hi:i<k):X_ n i (madeCells z<|k * n).toList=z.toList:=by
 have h1:(i+1) * n<=k * n:=Nat.mul_le_mul_right n hi
 rw [Nat.succ_mul] at h1
 unfold X_ madeCells
 apply List.ext_getElem?
 intro j
 rw [List.getElem?_take]
 by_cases hj:j<n
 .rw [if_pos hj,List.getElem?_drop]
  have hmod:(i * n+j) % n=j:=by rw [Nat.add_comm,Nat.add_mul_mod_self_right,Nat.mod_eq_of_lt hj]
  simp only [Array.toList_map,Array.toList_range,List.getElem?_map]
  rw [List.getElem?_range (by omega)]
  have hjz:j<z.size:=by omega
  simp [hz,hmod]
  simp [hjz]
 .rw [if_neg hj]
  simp [hz];omega
theorem o_U {α:Type}[Dat α]{E bytes:Nat}{zz:Value}{n:Int}{l:List α}{G:α}(hE:El P T E (sz α) bytes zz)(hz:∀w,own w [] zz.cells.toList G)(hm:mk0 G n=some l)(hx:ev e x=some (vI n))(hy:ev e y=some (vI n)) :
  Ef P N ⟨dst,.makeSlice T x y,ty,pos,aft,gd⟩ e w (λv w'=>v = .slice (some ⟨w.heap.size,0,none⟩) l.length l.length/\a_ w' [w.heap.size] (.slice (some ⟨w.heap.size,0,none⟩) l.length l.length) l/\Below w.heap.size w w'/\w'.heap.size=w.heap.size+1):=by
 obtain ⟨rfl,H,h1⟩:=mk0S hm
 have hb:(bytes:Int) * n<=281474976710656:=by
  have:=j_b (n:=n.toNat) (by omega) hE.sm;have h2:((n.toNat * bytes:Nat):Int)<=140737488355328:=by omega
  rw [Int.natCast_mul,Int.toNat_of_nonneg H] at h2
  rw [Int.mul_comm];omega
 have h:=l_Z (P:=P) (N:=N) (w:=w) (dst:=dst) (ty:=ty) (pos:=pos) (aft:=aft) (gd:=gd) hE hx hy H (Int.le_refl _) hb (by have:=f_I;have:=Q_;omega)
 constructor
 intro a ha Q;refine Oper.wp_mono ?_<|h.run a ha Q;rintro a' w' ⟨v',rfl,rfl,hn⟩;refine ⟨_,rfl,by simp,.inr ⟨w.heap.size,n.toNat,_,List.replicate n.toNat [],by simp,by simp,?_,hn.blk,by simp [size_madeCells],?_,by simp,?_⟩,hn.below,hn.size⟩
 .simp;have:=f_I;omega
 .simp
 .intro i y Si hy hSi;have hi:i<n.toNat:=by have:=(List.getElem?_eq_some_iff.1 hy).1;simpa using this
  rw [List.getElem?_replicate,if_pos hi] at hy hSi
  simp only [Option.some.injEq] at hy hSi
  subst hy hSi
  show own w' [] (X_ (sz α) i _) G
  rw [o_T hE.zlen hi]
  exact hz w'
theorem o_V {α:Type}[Dat α]{E bytes:Nat}{zz:Value}{n:Int}(hE:El P T E (sz α) bytes zz)(G:0<=n)(h1:n<=LIM)(hx:ev e x=some (vI 0))(hy:ev e y=some (vI n)) :
  Ef P N ⟨dst,.makeSlice T x y,ty,pos,aft,gd⟩ e w (λv w'=>v = .slice (some ⟨w.heap.size,0,none⟩) 0 n.toNat/\a_ w' [w.heap.size] (.slice (some ⟨w.heap.size,0,none⟩) 0 n.toNat) ([]:List α)/\Below w.heap.size w w'/\w'.heap.size=w.heap.size+1):=by
 have hb:(bytes:Int) * n<=281474976710656:=by
  have:=j_b (n:=n.toNat) (by omega) hE.sm;have h2:((n.toNat * bytes:Nat):Int)<=140737488355328:=by omega
  rw [Int.natCast_mul,Int.toNat_of_nonneg G] at h2
  rw [Int.mul_comm];omega
 have h:=l_Z (P:=P) (N:=N) (w:=w) (dst:=dst) (ty:=ty) (pos:=pos) (aft:=aft) (gd:=gd) hE hx hy (Int.le_refl _) G hb (by have:=f_I;have:=Q_;omega)
 constructor
 intro a ha Q;refine Oper.wp_mono ?_<|h.run a ha Q;rintro a' w' ⟨v',rfl,rfl,hn⟩;refine ⟨_,rfl,rfl,.inr ⟨w.heap.size,n.toNat,_,[],rfl,Nat.zero_le _,Nat.zero_le _,hn.blk,by simp [size_madeCells],rfl,rfl,λi y Si hy=>by simp at hy⟩,hn.below,hn.size⟩
end
end Go.Vw
namespace Go.Vw
open Go.RowKit Dat
section
variable {X:Nat->Prop}{P:Program}{N:Nat}{ops:Array Oper}{K:Act->World->Prop}{Q:Exit->Act->World->Prop}{e:Env}{w:World}{rest:List Oper}{T:Nat}{p:a_E}
variable {d:Nat}{op:Op}{ty:TypeId}{pos:String}{aft:Array Edge}{F:Value->Prop}
theorem RX (hf:Nat.blt d N=true)(h:∃v,Rd noX P N ⟨some d,op,ty,pos,aft,none⟩ e w v/\F v)(k:∀v,F v->WL P N ops K Q rest ((d,v)::e) w):WL P N ops K Q (⟨some d,op,ty,pos,aft,none⟩::rest) e w:=by
 obtain ⟨v,h,hF⟩:=h;exact R hf h<|k v hF
theorem dRX {i:Nat}(ho:ops[i]? = some ⟨some d,op,ty,pos,aft,none⟩)(hf:Nat.blt d N=true)(h:∃v,Rd X P N ⟨some d,op,ty,pos,aft,none⟩ e w v/\F v)(k:∀v,F v->PR X P N ops T K p ((d,v)::e) w):PR X P N ops T K (.rd i p) e w:=by
 obtain ⟨v,h,hF⟩:=h;exact dR ho hf h<|k v hF
section guards
variable {j gd:Nat}{want b:Bool}
theorem RXg (hj:(ops[j]?).bind (·.dst)=some gd)(hb:x_ e gd=some (.bool b))(hw:b=want)(hf:Nat.blt d N=true)(h:∃v,Rd noX P N ⟨some d,op,ty,pos,aft,some (j,want)⟩ e w v/\F v)(k:∀v,F v->WL P N ops K Q rest ((d,v)::e) w):WL P N ops K Q (⟨some d,op,ty,pos,aft,some (j,want)⟩::rest) e w:=by
 obtain ⟨v,h,hF⟩:=h;exact Rg hj hb hw hf h<|k v hF
theorem b_T {i:Nat}(ho:ops[i]? = some ⟨some d,op,ty,pos,aft,some (j,want)⟩)(hj:(ops[j]?).bind (·.dst)=some gd)(hb:x_ e gd=some (.bool b))(hw:b=want)(hf:Nat.blt d N=true)(h:∃v,Rd X P N ⟨some d,op,ty,pos,aft,some (j,want)⟩ e w v/\F v)(k:∀v,F v->PR X P N ops T K p ((d,v)::e) w):PR X P N ops T K (.rd i p) e w:=by
 obtain ⟨v,h,hF⟩:=h;exact dRg ho hj hb hw hf h<|k v hF
end guards
theorem exH {id:Nat}{K':Act->World->Prop}(h:AtK N K' e w):∀a,Sat N e a->inB id K' Q (.exit id) a w:=λa ha=>by simp only [inB,if_true];exact h a ha
theorem exO {id j:Nat}{K':Act->World->Prop}(hne:Nat.beq id j=false)(h:∀a,Sat N e a->Q (.exit id) a w):∀a,Sat N e a->inB j K' Q (.exit id) a w:=λa ha=>by
 have:id ≠ j:=by rintro rfl;simp at hne
 simp only [inB,if_neg this];exact h a ha
theorem rtO {j:Nat}{K':Act->World->Prop}(h:∀a,Sat N e a->Q .ret a w):∀a,Sat N e a->inB j K' Q .ret a w:=h
end
theorem f_O (b:Bool):b=true∨b=false:=by cases b <;> simp
theorem b_8 {α β γ:Type}{f:α->β->Option γ}{a:α}{b:β}{r:Option γ}(h:un2 f (a,b)=r):f a b=r:=h
theorem a_4 {α β δ γ:Type}{f:α->β->δ->Option γ}{a:α}{b:β}{c:δ}{r:Option γ}(h:un3 f (a,b,c)=r):f a b c=r:=h
theorem b_h {α β δ ε γ:Type}{f:α->β->δ->ε->Option γ}{a:α}{b:β}{c:δ}{d:ε}{r:Option γ}(h:un4 f (a,b,c,d)=r):f a b c d=r:=h
theorem c_q {α β δ ε ζ γ:Type}{f:α->β->δ->ε->ζ->Option γ}{a:α}{b:β}{c:δ}{d:ε}{e:ζ}{r:Option γ}(h:un5 f (a,b,c,d,e)=r):f a b c d e=r:=h
theorem un6S {α β δ ε ζ η γ:Type}{f:α->β->δ->ε->ζ->η->Option γ}{a:α}{b:β}{c:δ}{d:ε}{e:ζ}{g:η}{r:Option γ}(h:un6 f (a,b,c,d,e,g)=r):f a b c d e g=r:=h
section
variable {S T A M:List Nat}{m n:Nat}{p:Nat->Prop}
theorem f_ {g:Nat}(h:p g):∀k∈[g],p k:=λk hk=>by rw [List.mem_singleton.1 hk];exact h
theorem or0 (hs:∀k∈S,n<=k)(h:∀k,n<=k->p k):∀k∈S,p k:=λk hk=>h k<|hs k hk
theorem or1 (hs:∀k∈S,k∈A∨n<=k)(ha:∀k∈A,p k)(h:∀k,n<=k->p k):∀k∈S,p k:=λk hk=>(hs k hk).elim (ha k) (h k)
theorem or2 (hs:∀k∈S,k∈A∨k∈T∨n<=k)(ha:∀k∈A,p k)(hb:∀k∈T,p k)(h:∀k,n<=k->p k):∀k∈S,p k:=λk hk=>(hs k hk).elim (ha k) (λh'=>h'.elim (hb k)<|h k)
theorem c_g:∀k∈([]:List Nat),p k:=λk hk=>by cases hk
theorem c_X (h1:∀k∈A,p k)(h2:∀k∈T,p k):∀k∈A++T,p k:=λk hk=>(List.mem_append.1 hk).elim (h1 k) (h2 k)
theorem f_P (h:∀k∈A++T,p k):∀k∈A,p k:=λk hk=>h k<|List.mem_append_left _ hk
theorem f_Q (h:∀k∈A++T,p k):∀k∈T,p k:=λk hk=>h k<|List.mem_append_right _ hk
theorem e_u (h:∀k∈A,n<=k):∀k,k<n->k∉A:=λk hk ha=>absurd hk<|Nat.not_lt.2<|h k ha
theorem nmN (q:Nat->Prop):∀k,q k->k∉([]:List Nat):=λ_ _ h=>by cases h
theorem nmA {q:Nat->Prop}(h1:∀k,q k->k∉A)(h2:∀k,q k->k∉T):∀k,q k->k∉A++T:=λk hk hm=>(List.mem_append.1 hm).elim (h1 k hk) (h2 k hk)
theorem U_ (h:∀ k∈T,k<m)(hmn:m<=n):∀k,n<=k->k∉T:=λk hk ht=>absurd (h k ht)<|Nat.not_lt.2<|Nat.le_trans hmn hk
theorem b_t (h:∀ k∈S,k∉T):∀k∈T,k∉S:=λk hk hs=>h k hs hk
theorem lele (h:m<=n):∀k,n<=k->m<=k:=λ_ hk=>Nat.le_trans h hk
theorem b_9 (h:m<=n):∀k,n<=k->k∈M∨m<=k:=λ_ hk=>.inr<|Nat.le_trans h hk
theorem e_v (h:∀ k∈A,k∈M):∀k∈A,k∈M∨m<=k:=λk hk=>.inl<|h k hk
theorem b_V:∀k∈A,k∈A:=λ_ h=>h
theorem a_1 (h:∀ k∈A,k∈S):∀k∈A,k∈S++T:=λk hk=>List.mem_append_left _<|h k hk
theorem A_ (h:∀ k∈A,k∈T):∀k∈A,k∈S++T:=λk hk=>List.mem_append_right _<|h k hk
theorem s_:([]:List Nat).Nodup:=List.nodup_nil
theorem Z_ {g:Nat}:[g].Nodup:=by simp
theorem e_w (h1:S.Nodup)(h2:T.Nodup)(h:∀ k∈S,k∉T):(S++T).Nodup:=List.nodup_append.2 ⟨h1,h2,λa ha b hb he=>h a ha<|he ▸ hb⟩
theorem e_x (h:(S++T).Nodup):S.Nodup:=(List.nodup_append.1 h).1
theorem e_y (h:(S++T).Nodup):T.Nodup:=(List.nodup_append.1 h).2.1
theorem e_z (h:(S++T).Nodup):∀k∈S,k∉T:=λk hs ht=>(List.nodup_append.1 h).2.2 k hs k ht rfl
end
section
variable {a b c:World}{A M:List Nat}
theorem Chg.one {g:Nat}(h:Chg (· = g) a b):Chg (· ∈ [g]) a b:=h.mono λk _ hk=>List.mem_singleton.2 hk
theorem e_A (h:Below a.heap.size a b)(h':Chg (· ∈ A) b c)(hx:∀k∈A,a.heap.size<=k):Below a.heap.size a c:=bchg h h' λk hk hm=>absurd hk<|Nat.not_lt.2<|hx k hm
theorem e_B (M:List Nat)(a:World):Chg (· ∈ M) a a:=Chg.refl _ _
theorem e_C (h:Chg (· ∈ M) a b)(h':Chg (· ∈ A) b c)(hx:∀k∈A,k∈M∨a.heap.size<=k):Chg (· ∈ M) a c:=h.comp h' λk hk hm=>(hx k hm).elim id λh=>absurd hk<|Nat.not_lt.2 h
theorem a_v (h:Chg (· ∈ M) a b)(h':Below b.heap.size b c):Chg (· ∈ M) a c:=h.ext h'
end
section
variable {X:Nat->Prop}{P:Program}{N:Nat}{e:Env}{w:World}{dst:Option Tmp}{ty:TypeId}{pos:String}{aft:Array Edge}{gd:Option (Nat×Bool)}{x y z:Operand}{T E:Nat}
theorem f_R {b:Bool}{v:Value}(h:ev e x=some (.bool b))(hb:b=true)(hy:ev e y=some v):Rd X P N ⟨dst,.pick x y z,ty,pos,aft,gd⟩ e w v:=by subst hb;exact p_l h hy
theorem f_S {b:Bool}{v:Value}(h:ev e x=some (.bool b))(hb:b=false)(hz:ev e z=some v):Rd X P N ⟨dst,.pick x y z,ty,pos,aft,gd⟩ e w v:=by subst hb;exact p_m h hz
theorem f_T {α:Type}[Dat α]{ao:Option Addr}{B:Zone}{n c:Nat}{l:List α}(hT:P.underlying T=some (.slice E))(h:ev e x=some (.slice ao n c))(hr:e_ w B (.slice ao n c) l) :
  Rd X P N ⟨dst,.call { callee:=.builtin .len,args:=#[x],argTypes:=#[T] },ty,pos,aft,gd⟩ e w (vI (l.length:Int)):=by
 obtain ⟨_,_,he,_⟩:=hr
 cases he
 exact p_n (args:=#[]) (tys:=#[]) hT h
theorem d_h {α:Type}[Dat α]{ao:Option Addr}{B:Zone}{n c sz':Nat}{l:List α}{i:Int}{v:α}{kk:IntKind}(hT:P.underlying T=some (.slice E))(hs:∀w,(sizeOf E).run P w = .ok sz' w)(hsz:sz'=sz α)(hx:ev e x=some (.slice ao n c))(hy:ev e y=some (.int kk i))(hr:e_ w B (.slice ao n c) l)(hi:idx l i=some v) :
  ∃u,Rd X P N ⟨dst,.indexAddr T x y,ty,pos,aft,gd⟩ e w u/\∃b o cs,u = .pointer (some ⟨b,o,none⟩)/\u_ w b o cs/\rep w B cs v/\B b:=by
 have G:=hr;obtain ⟨ao',c',he,_,_,_,hp⟩:=hr
 cases he
 obtain ⟨b,o,cs,rfl,H,h1,h2,h3⟩:=e_.at G hi
 refine ⟨_,i_8 (k:=kk) hT hs hx hy H h1,b,_,cs,rfl,?_,h3,?_⟩
 .rw [hsz];exact h2
 .refine (hp _ rfl).2.1 ?_;rintro rfl
  simp at h1;omega
theorem e_D {α:Type}[Dat α]{ao:Option Addr}{n c sz':Nat}{S:List Nat}{l m:List α}{i:Int}{v:α}{kk:IntKind}(hT:P.underlying T=some (.slice E))(hs:∀w,(sizeOf E).run P w = .ok sz' w)(hx:ev e x=some (.slice ao n c))(hy:ev e y=some (.int kk i))(hr:a_ w S (.slice ao n c) l)(hi:upd l i v=some m) :
  ∃u,Rd X P N ⟨dst,.indexAddr T x y,ty,pos,aft,gd⟩ e w u/\∃g,ao=some ⟨g,0,none⟩/\u = .pointer (some ⟨g,0+i.toNat * sz',none⟩):=by
 obtain ⟨_,G,h1⟩:=updS hi;obtain ⟨g,rfl⟩:=hr.head (by omega);obtain ⟨_,_,he,_⟩:=hr.rep
 cases he
 exact ⟨_,i_8 (k:=kk) hT hs hx hy G h1,g,rfl,rfl⟩
theorem f_U {α:Type}[Dat α]{B:Zone}{n c sz':Nat}{ao:Option Addr}{l m:List α}{a b:Int}{lo hi:Option Operand}(hT:P.underlying T=some (.slice E))(hs:∀w,(sizeOf E).run P w = .ok sz' w)(hsz:sz'=sz α)(hx:ev e x=some (.slice ao n c))(h:e_ w B (.slice ao n c) l)
  (hlo:evo e lo 0 a) (hhi:evo e hi l.length b) (hm:slc l a b=some m) :
  ∃v,Rd X P N ⟨dst,.slice T x lo hi none,ty,pos,aft,gd⟩ e w v/\∃ao' n' c',v = .slice ao' n' c'/\e_ w B (.slice ao' n' c') m:=by
 have h':=h;obtain ⟨_,_,he,_⟩:=h'
 cases he
 obtain ⟨ao',c',k1,k2⟩:=o_P (X:=X) (P:=P) (N:=N) (w:=w) (dst:=dst) (ty:=ty) (pos:=pos) (aft:=aft) (gd:=gd) hT hs hsz hx h hlo hhi hm;exact ⟨_,k1,ao',_,c',rfl,k2⟩
def evp (e:Env):List (Nat×Operand)->Option (List<|Nat×Value)
 | []=>some []
 | (i,x)::l=>match ev e x,evp e l with
  | some v,some vs=>some ((i,v)::vs)
  | _,_=>none
theorem Sat.evp {a:Act}(h:Sat N e a):∀{l:List (Nat×Operand)}{vs:List (Nat×Value)},evp e l=some vs->(l.map λp=>(p.1,a.eval p.2))=vs
 | [],vs,hv=>by simp only [Vw.evp,Option.some.injEq] at hv;subst hv;rfl
 | (i,x)::l,vs,hv=>by
  simp only [Vw.evp] at hv
  split at hv
  .rename_i v vs' h1 h2
   simp only [Option.some.injEq] at hv
   subst hv
   simp [h.ev h1,Sat.evp h h2]
  .cases hv
theorem e_E {zs cs:List Value}{places:List (Nat×Nat)}{parts:List (Nat×Operand)}{vs:List (Nat×Value)}(hB:c_F P T zs places)(hv:evp e parts=some vs)(hf:Instr.fill (places.toArray[·]?) zs.toArray vs=some cs.toArray) :
  Rd X P N ⟨dst,.build T parts.toArray,ty,pos,aft,gd⟩ e w (.agg cs.toArray) :=
 o_Q hB (λa ha=>by rw [List.map_toArray];exact ha.evp hv) hf
end
section
variable {X:Nat->Prop}{P:Program}{N:Nat}{e:Env}{w:World}{dst:Option Tmp}{ty:TypeId}{pos:String}{aft:Array Edge}{gd:Option (Nat×Bool)}{x y z:Operand}{T E:Nat}
theorem e_F {α:Type}[Dat α]{S Si:List Nat}{g n c:Nat}{ao:Option Addr}{i:Int}{l m:List α}{v:α}{u:Value}{cs:List Value}{sz':Nat}(hs:∀w,(sizeOf T).run P w = .ok sz' w)(hsz:sz'=sz α)(hao:ao=some ⟨g,0,none⟩)(hx:ev e x=some (.pointer<|some ⟨g,0+i.toNat * sz',none⟩))(hy:ev e y=some u)(hu:u.cells.toList=cs)
  (hm:upd l i v=some m) (ho:a_ w S (.slice ao n c) l) (hN:S.Nodup) (hv:own w Si cs v) (hD:∀k∈Si,k∉S) (hSi:Si.Nodup) :
  Ef P N ⟨none,.store T x y,ty,pos,aft,gd⟩ e w (λ_ w'=>∃S',Chg (· ∈ S) w w'/\a_ w' S' (.slice ao n c) m/\S'.Nodup/\(∀k∈S',k∈S∨k∈Si∨w.heap.size<=k)):=by
 subst hao;have h:=ef_set (P:=P) (N:=N) (ty:=ty) (pos:=pos) (aft:=aft) (gd:=gd) hs hsz hx hy hu hm ho hN hv hD hSi
 constructor
 intro a ha Q;refine Oper.wp_mono ?_<|h.run a ha Q;rintro a' w' ⟨v',rfl,S',k1,k2,k3,k4⟩
 have hn:n=m.length:=by
  obtain ⟨rfl,_,_⟩:=updS hm;obtain ⟨_,_,he,_⟩:=ho.rep
  cases he;simp
 obtain ⟨_,_,_,_,hg⟩:=ho.blk;subst hn;exact ⟨v',rfl,S',k3.mono<|λk _ hk=>hk ▸ hg,k1,k2,λk hk=>(k4 k hk).elim .inl λh=>.inr<|.inl h⟩
theorem a_j {α:Type}[Dat α]{bytes:Nat}{zz:Value}(hE:El P T E (sz α) bytes zz){S Si:List Nat}{sv:Value}{l m:List α}{v:α}{g:Nat}{cs:List Value}(hm:psh l v=some m)(hx:ev e x=some sv)(hy:ev e y=some (.slice (some ⟨g,0,none⟩) 1 1))
  (ho:a_ w S sv l) (hN:S.Nodup) (hB:Blk w g cs) (hv:own w Si cs v) (hD:∀k∈Si,k∉S) (hSi:Si.Nodup) :
  Ef P N ⟨dst,.call { callee:=.builtin .append,args:=#[x,y],argTypes:=#[T,T] },ty,pos,aft,gd⟩ e w (λv' w'=>∃S' ao n c,v' = .slice ao n c/\Chg (· ∈ S) w w'/\a_ w' S' (.slice ao n c) m/\S'.Nodup/\(∀k∈S',k∈S∨k∈Si∨w.heap.size<=k)):=by
 have h:=o_M (P:=P) (N:=N) (w:=w) (dst:=dst) (ty:=ty) (pos:=pos) (aft:=aft) (gd:=gd) hE hm hx hy ho hN hB hv hD hSi
 constructor
 intro a ha Q;refine Oper.wp_mono ?_<|h.run a ha Q;rintro a' w' ⟨v',rfl,S',ao,c,rfl,k1,k2,k3,k4⟩;exact ⟨_,rfl,S',ao,_,c,rfl,k3,k1,k2,λk hk=>(k4 k hk).elim .inl λh=>.inr<|h.elim .inl λh=>.inr<|Nat.le_of_eq h.symm⟩
theorem f_V {α:Type}[Dat α][b_m α]{bytes:Nat}{zz:Value}(hE:El P T E (sz α) bytes zz){S:List Nat}{sv:Value}{l m xs:List α}{B:Zone}{H I:Nat}{G:Option Addr}(hm:app l xs=some m)(hx:ev e x=some sv)(hy:ev e y=some (.slice G H I))
  (ho:a_ w S sv l) (hN:S.Nodup) (hr:e_ w B (.slice G H I) xs) :
  Ef P N ⟨dst,.call { callee:=.builtin .append,args:=#[x,y],argTypes:=#[T,T] },ty,pos,aft,gd⟩ e w (λv' w'=>∃S' ao n c,v' = .slice ao n c/\Chg (· ∈ S) w w'/\a_ w' S' (.slice ao n c) m/\S'.Nodup/\(∀k∈S',k∈S∨w.heap.size<=k)):=by
 have hr':=hr;obtain ⟨_,_,he,_⟩:=hr'
 cases he
 have h:=o_N (P:=P) (N:=N) (w:=w) (dst:=dst) (ty:=ty) (pos:=pos) (aft:=aft) (gd:=gd) hE hm hx hy ho hN hr
 constructor
 intro a ha Q;refine Oper.wp_mono ?_<|h.run a ha Q;rintro a' w' ⟨v',rfl,S',ao,c,rfl,k1,k2,k3,k4⟩;exact ⟨_,rfl,S',ao,_,c,rfl,k3,k1,k2,λk hk=>(k4 k hk).elim .inl λh=>.inr<|h.elim (λh=>by cases h) λh=>Nat.le_of_eq h.symm⟩
theorem g_S {α:Type}[Dat α]{bytes:Nat}{zz:Value}{n:Int}{l:List α}{G:α}(hE:El P T E (sz α) bytes zz)(hz:∀w,own w [] zz.cells.toList G)(hm:mk0 G n=some l)(hx:ev e x=some (vI n))(hy:ev e y=some (vI n)) :
  Ef P N ⟨dst,.makeSlice T x y,ty,pos,aft,gd⟩ e w (λv w'=>∃ao n c,v = .slice ao n c/\Below w.heap.size w w'/\a_ w' [w.heap.size] (.slice ao n c) l):=by
 have h:=o_U (P:=P) (N:=N) (w:=w) (dst:=dst) (ty:=ty) (pos:=pos) (aft:=aft) (gd:=gd) hE hz hm hx hy
 constructor
 intro a ha Q;refine Oper.wp_mono ?_<|h.run a ha Q;rintro a' w' ⟨v',rfl,rfl,k1,k2,k3⟩;exact ⟨_,rfl,_,_,_,rfl,k2,k1⟩
theorem o_W {α:Type}[Dat α]{bytes:Nat}{zz:Value}{n:Int}{l0:List Unit}(hE:El P T E (sz α) bytes zz)(hm:mk0 () n=some l0)(hx:ev e x=some (vI 0))(hy:ev e y=some (vI n)) :
  Ef P N ⟨dst,.makeSlice T x y,ty,pos,aft,gd⟩ e w (λv w'=>∃ao n c,v = .slice ao n c/\Below w.heap.size w w'/\a_ w' [w.heap.size] (.slice ao n c) ([]:List α)):=by
 obtain ⟨_,G,h1⟩:=mk0S hm;have h:=o_V (α:=α) (P:=P) (N:=N) (w:=w) (dst:=dst) (ty:=ty) (pos:=pos) (aft:=aft) (gd:=gd) hE G h1 hx hy
 constructor
 intro a ha Q;refine Oper.wp_mono ?_<|h.run a ha Q;rintro a' w' ⟨v',rfl,rfl,k1,k2,k3⟩;exact ⟨_,rfl,_,_,_,rfl,k2,k1⟩
theorem f_W {α:Type}[Dat α]{bytes:Nat}{zz:Value}(hE:El P T E (sz α) bytes zz) :
  Ef P N ⟨dst,.buildSlice T 0 #[],ty,pos,aft,gd⟩ e w (λv w'=>∃ao n c,v = .slice ao n c/\Below w.heap.size w w'/\a_ w' [w.heap.size] (.slice ao n c) ([]:List α)):=by
 have h:=o_B (P:=P) (N:=N) (e:=e) (w:=w) (dst:=dst) (ty:=ty) (pos:=pos) (aft:=aft) (gd:=gd) hE
 constructor
 intro a ha Q;refine Oper.wp_mono ?_<|h.run a ha Q;rintro a' w' ⟨v',rfl,rfl,k⟩;exact ⟨_,rfl,_,_,_,rfl,k.below,o_L k⟩
end
end Go.Vw
namespace Go.Vw
open Go.RowKit Dat
theorem f_X {x:Int}(h:inI x):x.toNat<=9223372036854775807:=by unfold inI at h;omega
theorem f_Y {k n:Nat}(h:k<=n)(hn:n<=9223372036854775807):inI (k:Int):=by unfold inI;omega
theorem j_c {k:Nat}{x:Int}(hk:k<x.toNat)(hc:decide ((k:Int)<x)=false):False:=by simp at hc;omega
theorem j_d {x:Int}(hc:decide ((x.toNat:Int)<x)=true):False:=by simp at hc;omega
theorem sn {e:Env}:sub e []:=trivial
theorem sc {e e':Env}{k:Nat}{v:Value}(h:x_ e k=some v)(t:sub e e'):sub e ((k,v)::e'):=⟨h,t⟩
theorem bcon {b:Bool}(h:b=true)(h':b=false):False:=by rw [h] at h';cases h'
theorem nmL {q:Nat->Prop}{A B:List Nat}(h:∀k,q k->k∉A++B):∀k,q k->k∉A:=λk hk hm=>h k hk<|List.mem_append_left _ hm
theorem nmR {q:Nat->Prop}{A B:List Nat}(h:∀k,q k->k∉A++B):∀k,q k->k∉B:=λk hk hm=>h k hk<|List.mem_append_right _ hm
theorem nzS {y:Int}{u:Unit}(h:nz y=some u):y ≠ 0:=by
 unfold nz at h;split at h
 .cases h
 .assumption
theorem nnS {y:Int}{u:Unit}(h:nn y=some u):0<=y:=by
 unfold nn at h;split at h
 .assumption
 .cases h
theorem E_ {n:Nat}{l:List Value}(h:l.all (λv=>Nat.beq v.cells.size n)=true):∀v∈l,v.cells.size=n:=λv hv=>Nat.eq_of_beq_eq_true<|List.all_eq_true.1 h v hv
theorem o_X {x y:Int}(_:inI x):inI (b_w .i64 x y):=g_O _
theorem h_X (f:BitVec IntKind.i64.bits->BitVec IntKind.i64.bits->BitVec IntKind.i64.bits)(x y:Int):inI (a_O .i64 f x y):=g_O _
theorem o_Y {x y:Int}(h:inI x):inI (a_g .i64 x y):=by
 unfold a_g;have hp:(0:Int)<2 ^ (min y.toNat IntKind.i64.bits):=Int.pow_pos (by decide)
 rw [Int.fdiv_eq_ediv_of_nonneg _ (Int.le_of_lt hp)]
 generalize (2:Int) ^ (min y.toNat IntKind.i64.bits)=m at *
 unfold inI at *
 have h1:=Int.natAbs_ediv_le_natAbs x m
 rcases Int.le_total 0 x with G | G
 .have:=Int.ediv_nonneg G<|Int.le_of_lt hp;omega
 .have:x / m<=0:=by
   have h2:=Int.ediv_le_ediv hp G
   rwa [Int.zero_ediv] at h2
  omega
theorem u_.at0 {w:World}{b o:Nat}{cs:List Value}{v:Value}(h:u_ w b o cs)(hv:cs[0]? = some v):w.cell? ⟨b,o,none⟩=some v:=h 0 v hv
theorem e_.mono {α:Type}[Dat α]{w:World}{B B':Zone}{v:Value}{l:List α}(h:e_ w B v l)(hb:B<=B'):e_ w B' v l:=e_.of<|rep_mono h.rep hb
theorem g_T {α:Type}[Dat α]{w:World}{B:Zone}{cs:List Value}{l:List α}(h:rep w B cs l):∃ao n c,cs=[.slice ao n c]/\e_ w B (.slice ao n c) l:=by
 obtain ⟨ao,c,h1,h2⟩:=o_I h;exact ⟨ao,_,c,h1,h2⟩
theorem h_Y {α:Type}[Dat α]{w:World}{B:Zone}{ao:Option Addr}{n c:Nat}{l:List α}(h:e_ w B (.slice ao n c) l):rep w B [.slice ao n c] l:=h.rep
theorem h_Z {α:Type}[Dat α]{w:World}{S:List Nat}{ao:Option Addr}{n c:Nat}{l:List α}(h:a_ w S (.slice ao n c) l):own w S [.slice ao n c] l:=h.own
theorem m_6 {σ ρ:Type}{b:Nat}{D:σ->Act->World->Prop}{Qr:ρ->Exit->Act->World->Prop}{o:Out σ ρ}{r:ρ}{ex:Exit}{a:Act}{w:World}(he:o = .ret r)(h:Qr r ex a w):QO b D Qr o ex a w:=.inr ⟨r,he,h⟩
theorem f_Z {P:Program}{N:Nat}{e:Env}{w:World}{fn:Func}{σ ρ:Type}{b:Nat}{D:σ->Act->World->Prop}{Rr:ρ->Value->World->Prop}{o:Out σ ρ}{r:ρ}(he:o = .ret r)(h:∀a,Sat N e a->c_i P fn (Rr r) a w):∀a,Sat N e a->QO b D (λr ex a w=>ex = .ret/\c_i P fn (Rr r) a w) o .ret a w:=λa ha=>m_6 he ⟨rfl,h a ha⟩
theorem g_U {w:World}:own w [] [.int .u8 0] (0:UInt8):=⟨rfl,_,rfl,rfl⟩
theorem b_i {σ ρ:Type}{b:Nat}{D:σ->Act->World->Prop}{Qr:ρ->Exit->Act->World->Prop}{o:Out σ ρ}{s:σ}{a:Act}{w:World}(he:o = .brk s)(h:D s a w):QO b D Qr o (.exit b) a w:=.inl ⟨rfl,s,he,h⟩
section
variable {P:Program}{N:Nat}{e:Env}{w:World}{fn:Func}
end
section
variable {X:Nat->Prop}{P:Program}{N:Nat}{e:Env}{w:World}{dst:Option Tmp}{ty:TypeId}{pos:String}{aft:Array Edge}{gd:Option (Nat×Bool)}{x y z:Operand}{T T' E:Nat}
theorem j_e {s t u:Str}(h1:ev e x=some s.v)(h2:ev e y=some t.v)(h:cat s t=some u):Rd X P N ⟨dst,.binOp .add T x y T',ty,pos,aft,gd⟩ e w (Str.v u):=by
 obtain ⟨rfl,hl⟩:=catS h;exact p_q h1 h2 hl
theorem m_7:∀(l:Bt)(s:ByteArray),((l.map byteI).foldl (λr (n:Int)=>r.push<|UInt8.ofNat n.toNat) s)=⟨s.data++l.toArray⟩
 | [],s=>by simp
 | c::l,s=>by
  rw [List.map_cons,List.foldl_cons,m_7 l]
  have h:UInt8.ofNat (byteI c).toNat=c:=by unfold byteI;simp
  rw [h]
  simp [ByteArray.push]
theorem o_Z {S D:Nat}{B:Zone}{n c:Nat}{ao:Option Addr}{l:Bt}(hS:P.underlying S=some (.slice E))(hD:P.underlying D=some .string)(hE:P.underlying E=some (.int .u8))(hs:∀w,(sizeOf E).run P w = .ok 1 w)(hx:ev e x=some (.slice ao n c))(hr:e_ w B (.slice ao n c) l) :
  Rd noX P N ⟨dst,.convert S D x,ty,pos,aft,gd⟩ e w (Str.v ⟨l⟩):=λa ha w' hb=>by
 obtain ⟨ao',c',G,h1,h2,h3,h4⟩:=hr
 cases G
 have hrun:(Conv.bytesToString<|.slice ao l.length c).run P w' = .ok (Str.v ⟨l⟩) w':=by
  cases ao with
  | none =>
   obtain rfl:=h3 rfl
   rfl
  | some p =>
   obtain ⟨g1,J,H⟩:=h4 p rfl
   have hc:∀(j:Nat) v,((l.map byteI).map (Value.int .u8))[j]? = some v->w'.cell? (p.add j)=some v:=λj v hv=>by
    rw [List.getElem?_map,List.getElem?_map] at hv
    cases hj:l[j]? with
    | none=>rw [hj] at hv;cases hv
    | some x =>
     rw [hj] at hv
     obtain rfl:=Option.some.inj hv;obtain ⟨cs,k1,k2⟩:=H j x hj;obtain rfl:=e_s k2;have hne:l ≠ []:=by intro h;rw [h] at hj;cases hj
     have k3:=k1 0 _ rfl
     have hp:p.add j=⟨p.block,p.off+j * sz UInt8+0,none⟩:=by
      have I:sz UInt8=1:=rfl
      cases p with
      | mk b o sp =>
       obtain rfl:sp=none:=g1 hne
       rw [Addr.add_lit,I];simp
     rw [hp]
     exact (World.cell?_of_block (w:=w)<|hb.block _ (World.block_lt_of_cell? w _ k3)<|λh=>h).trans k3
   have hl:=run_loadCells_list (P:=P) w' p ((l.map byteI).map (Value.int .u8)) hc
   rw [List.length_map,List.length_map] at hl
   rw [run_bytesToString w' p l.length c (l.map byteI) hl,m_7]
   simp [Str.v]
 simp only [execOp,ha.ev hx]
 rw [Sem.run_bind,run_convert_bytes_string w' S D E ao l.length c hS hE hD,hrun]
 rfl
end
def a_G (T:Nat)(w:World)(S:List Nat)(v:Value):Option (Int×Int)->Prop
 | none=>v = .nilIface/\S=[]
 | some (p,c)=>∃b,v = .iface T (.pointer<|some ⟨b,0,none⟩)/\S=[b]/\Blk w b [vI p,vI c]/\inI p/\inI c
section
variable {T:Nat}{S:List Nat}{w w':World}{v:Value}{o:Option (Int×Int)}
theorem e_G:a_G T w [] .nilIface none:=⟨rfl,rfl⟩
theorem p_0 {g:Nat}{p c:Int}(h:Blk w g [vI p,vI c])(hp:inI p)(hc:inI c):a_G T w [g] (.iface T<|.pointer<|some ⟨g,0,none⟩) (some (p,c)):=⟨g,rfl,rfl,h,hp,hc⟩
theorem p_1 {g:Nat}{off:Nat}{p c:Int}(h:Blk w g [vI p,vI c])(hp:inI p)(hc:inI c)(G:off=0):a_G T w [g] (.iface T<|.pointer<|some ⟨g,off,none⟩) (some (p,c)):=by subst G;exact p_0 h hp hc
theorem a_G.chg {X:Nat->Prop}(h:a_G T w S v o)(hc:Chg X w w')(hx:∀k∈S,¬X k):a_G T w' S v o:=by
 cases o with
 | none=>exact h
 | some pc=>obtain ⟨b,h1,rfl,h3,h4⟩:=h;exact ⟨b,h1,rfl,h3.chg hc<|hx b<|List.mem_singleton.2 rfl,h4⟩
theorem a_G.ext (h:a_G T w S v o)(hb:Below w.heap.size w w'):a_G T w' S v o:=h.chg (Vw.Below.chg hb<|λ_=>False)<|λ_ _ h=>h
theorem a_G.lt (h:a_G T w S v o):∀k∈S,k<w.heap.size:=by
 cases o with
 | none=>obtain ⟨_,rfl⟩:=h;exact c_g
 | some pc=>obtain ⟨b,h1,rfl,h3,h4⟩:=h;exact f_ h3.lt
theorem a_G.one (h:a_G T w S v o):v.oneCell'=true:=by
 cases o with
 | none=>obtain ⟨rfl,_⟩:=h;rfl
 | some pc=>obtain ⟨b,h1,_⟩:=h;subst h1;rfl
variable {X:Nat->Prop}{P:Program}{N:Nat}{e:Env}{dst:Option Tmp}{ty:TypeId}{pos:String}{aft:Array Edge}{gd:Option (Nat×Bool)}{x y:Operand}{T1 T2:Nat}
theorem j_f {g:Nat}{M:List Nat}{w w':World}(hm:g∈M)(h:Chg (· = g) w w'):Chg (· ∈ M) w w':=h.mono λ_ _ hk=>hk ▸ hm
theorem chgNew {g n:Nat}{M:List Nat}{w w':World}(hm:n<=g)(h:Chg (· = g) w w'):Chg (λk=>k∈M∨n<=k) w w':=h.mono λ_ _ hk=>.inr<|hk ▸ hm
theorem B_ {k n:Nat}{M:List Nat}(h:k∉M)(hl:k<n):¬(k∈M∨n<=k):=λh'=>h'.elim h<|λh2=>absurd hl<|Nat.not_lt.2 h2
theorem a_f {X:Nat->Prop}{w w':World}(h:Below w.heap.size w w'):Chg X w w':=Vw.Below.chg h X
theorem p_2 (d:Nat){D:TypeDesc}(hT:P.underlying T1=some D)(hD:(match D with | .interface _=>true | _=>false)=true)(h:a_G T w S v o)(G:World):(Op.equalIn (d+1) T1 v .nilIface).run P G = .ok o.isNone G:=by
 cases D <;> simp at hD
 cases o with
 | none=>obtain ⟨rfl,_⟩:=h;simp [Op.equalIn,run_underlying hT]
 | some pc=>obtain ⟨p,c⟩:=pc;obtain ⟨b,rfl,_⟩:=h;simp [Op.equalIn,run_underlying hT]
theorem p_3 {op:BinOp}{u:Value}(G:World):(eqGuard op T1 x (.const .nilIface) u .nilIface).run P G = .ok () G:=by
 unfold eqGuard
 cases u <;> cases op <;> simp
theorem d_T {D:TypeDesc}(hT:P.underlying T1=some D)(hD:(match D with | .interface _=>true | _=>false)=true)(hx:ev e x=some v)(h:a_G T w S v o):Rd X P N ⟨dst,.binOp .neq T1 x (.const .nilIface) T2,ty,pos,aft,gd⟩ e w (vB o.isSome) :=
 b_x (a2:=.nilIface) hx rfl λG=>by
  have h1:=p_2 9999 hT hD h G
  have H:(binOp .neq T1 v .nilIface)=(do pure (.bool (!(← Op.equal T1 v .nilIface))):Sem Value):=by
   cases o with
   | none=>obtain ⟨rfl,_⟩:=h;rfl
   | some pc=>obtain ⟨p,c⟩:=pc;obtain ⟨b,rfl,_⟩:=h;rfl
  rw [Sem.run_bind,p_3,H]
  cases o <;> simp [Op.equal,Op.maxDepth,h1]
end
def dec (s:Str)(pos:Nat):Int×Nat:=((Utf8.decode ⟨s.b.toArray⟩ pos).1,(Utf8.decode ⟨s.b.toArray⟩ pos).2)
def b_f (w:World)(g:Nat)(s:Str)(pos:Nat):Prop:=w.heap[g]? = some (.stringIter ⟨s.b.toArray⟩ pos)
section
variable {w w':World}{g:Nat}{s:Str}{pos:Nat}
theorem b_f.lt (h:b_f w g s pos):g<w.heap.size:=(Array.getElem?_eq_some_iff.1 h).1
theorem b_f.ext (h:b_f w g s pos)(hb:Below w.heap.size w w'):b_f w' g s pos:=(hb.block g h.lt).trans h
theorem b_f.chg {X:Nat->Prop}(h:b_f w g s pos)(hc:Chg X w w')(hx:¬X g):b_f w' g s pos:=(hc.block g h.lt hx).trans h
variable {P:Program}{N:Nat}{e:Env}{dst:Option Tmp}{ty:TypeId}{p:String}{aft:Array Edge}{gd:Option (Nat×Bool)}{x:Operand}{T:Nat}
theorem p_4 (hT:P.underlying T=some .string)(hx:ev e x=some s.v):Ef P N ⟨dst,.range T x,ty,p,aft,gd⟩ e w (λv w'=>v = .pointer (some ⟨w.heap.size,0,none⟩)/\Below w.heap.size w w'/\b_f w' w.heap.size s 0) :=
 d_g λa ha=>⟨_,w.alloc<|.stringIter ⟨s.b.toArray⟩ 0,by simp [execOp,Instr.range,ha.ev hx,run_underlying hT],rfl,c_k w _,heap_alloc_new w _⟩
theorem p_5 (hx:ev e x=some (.pointer<|some ⟨g,0,none⟩))(h:b_f w g s pos)(hp:pos<s.b.length):Ef P N ⟨dst,.next x true,ty,p,aft,gd⟩ e w (λv w'=>v = .tuple #[.bool true,vI (pos:Int),.int .i32 (dec s pos).1]/\b_f w' g s (pos+(dec s pos).2)/\Chg (· ∈ [g]) w w'):=by
 have hg:(getObj g).run P w = .ok (.stringIter ⟨s.b.toArray⟩ pos) w:=by simp [getObj,Sem.run,show w.heap[g]? = _ from h]
 have hs:∀o,(setObj g o).run P w = .ok () { w with heap:=w.heap.setIfInBounds g o }:=λo=>by simp [setObj,Sem.run,show w.heap[g]? = _ from h]
 have hsz:(⟨s.b.toArray⟩:ByteArray).size=s.b.length:=by show s.b.toArray.size=_;simp
 refine d_g λa ha=>⟨_,{ w with heap:=w.heap.setIfInBounds g (.stringIter ⟨s.b.toArray⟩<|pos+(dec s pos).2) },?_,rfl,?_,?_⟩
 .simp [execOp,Instr.next,ha.ev hx,hg,hsz,hp,hs,goInt,dec]
 .simp [b_f,h.lt]
 .exact ⟨rfl,rfl,rfl,by simp,λk hk hx=>by
   have:g ≠ k:=λh=>hx<|List.mem_singleton.2 h.symm
   simp [Array.getElem?_setIfInBounds_ne this]⟩
theorem p_6 (hx:ev e x=some (.pointer<|some ⟨g,0,none⟩))(h:b_f w g s pos)(hp:¬pos<s.b.length):Ef P N ⟨dst,.next x true,ty,p,aft,gd⟩ e w (λv w'=>v = .tuple #[.bool false]/\Below w.heap.size w w'):=by
 have hg:(getObj g).run P w = .ok (.stringIter ⟨s.b.toArray⟩ pos) w:=by simp [getObj,Sem.run,show w.heap[g]? = _ from h]
 have hsz:(⟨s.b.toArray⟩:ByteArray).size=s.b.length:=by show s.b.toArray.size=_;simp
 refine d_g λa ha=>⟨_,w,?_,rfl,Below.refl _ _⟩
 simp [execOp,Instr.next,ha.ev hx,hg,hsz,hp]
end
section
variable {A:List Nat}{B C Z:Zone}{i j k l m n:Nat}
theorem D_ (h:∀k∈A,¬B k):∀k,B k->k∉A:=λk hk ha=>h k ha hk
theorem b_0 (h:B<=bl n):∀k,n<=k->¬B k:=λk hk hb=>absurd (h k hb)<|Nat.not_lt.2 hk
theorem nznL (h:∀k∈A,¬B k)(h1:∀k∈A,k<m)(h2:m<=i):∀k∈A,¬zn B i j k:=λk hk hz=>hz.elim (h k hk) λg=>absurd (h1 k hk)<|Nat.not_lt.2<|Nat.le_trans h2 g.1
theorem nznR (h:∀k∈A,¬B k)(h1:∀k∈A,j<=k):∀k∈A,¬zn B i j k:=λk hk hz=>hz.elim (h k hk) λg=>absurd g.2<|Nat.not_lt.2<|h1 k hk
theorem nbl (h:∀k∈A,n<=k):∀k∈A,¬bl n k:=λk hk hz=>absurd hz<|Nat.not_lt.2<|h k hk
theorem zin (h1:∀k∈A,i<=k)(h2:∀k∈A,k<j):∀k∈A,zn B i j k:=λk hk=>.inr ⟨h1 k hk,h2 k hk⟩
theorem zall (h:∀ k∈A,B k)(h':B<=C):∀k∈A,C k:=λk hk=>h' k<|h k hk
theorem znI (h:k<=i)(h':j<=l):∀q,i<=q->q<j->zn B k l q:=λ_ h1 h2=>.inr ⟨Nat.le_trans h h1,Nat.lt_of_lt_of_le h2 h'⟩
theorem znD (h:∀q,i<=q->q<j->B q):∀q,i<=q->q<j->zn B k l q:=λq h1 h2=>.inl<|h q h1 h2
theorem zns (h:B<=Z)(h':∀q,i<=q->q<j->Z q):zn B i j<=Z:=λq hq=>hq.elim (h q) λg=>h' q g.1 g.2
theorem zap (h:B<=bl n)(hk:B k):k<n:=h k hk
theorem zap' (h:B<=C)(hk:B k):C k:=h k hk
end
structure Ag (B:Zone)(w w':World):Prop where
 eq:∀k,B k->k<w.heap.size->w'.heap[k]? = w.heap[k]?
 size:w.heap.size<=w'.heap.size
theorem _root_.Go.RowKit.Below.ag {w w':World}(h:Below w.heap.size w w')(B:Zone):Ag B w w':=⟨λk _ hk=>h.block k hk,h.size⟩
theorem Chg.agc {X:Nat->Prop}{w w':World}(h:Chg X w w')(B:Zone)(hx:∀k,B k->¬X k):Ag B w w':=⟨λk hk hl=>h.block k hl<|hx k hk,h.size⟩
theorem Ag.e {B:Zone}{w w' G:World}(h:Ag B w w')(h':Below w'.heap.size w' G):Ag B w G:=⟨λk hk hl=>(h'.block k<|Nat.lt_of_lt_of_le hl h.size).trans (h.eq k hk hl),Nat.le_trans h.size h'.size⟩
theorem Ag.c {B:Zone}{X:Nat->Prop}{w w' G:World}(h:Ag B w w')(h':Chg X w' G)(hx:∀k,B k->¬X k):Ag B w G:=⟨λk hk hl=>(h'.block k (Nat.lt_of_lt_of_le hl h.size)<|hx k hk).trans (h.eq k hk hl),Nat.le_trans h.size h'.size⟩
theorem e_.g {α:Type}[Dat α]{w w':World}{B:Zone}{v:Value}{l:List α}(h:e_ w B v l)(a:Ag B w w'):e_ w' B v l:=e_.of<|rep_eq h.rep a.eq
theorem m_8 {α:Type}[Dat α]{f:α->Value}(hs:sz α=1){w:World}{g:Nat}{l:List α}(h:Blk w g (l.map f))(ho:∀x∈l,own w [] [f x] x)(hn:l.length<=LEN):a_ w [g] (.slice (some ⟨g,0,none⟩) l.length l.length) l:=by
 refine .inr ⟨g,l.length,l.map f,List.replicate l.length [],rfl,Nat.le_refl _,hn,h,by simp [hs],by simp,by simp,λi x Si hx hS=>?_⟩;have hi:=(List.getElem?_eq_some_iff.1 hx).1
 have hSi:Si=[]:=by
  rw [List.getElem?_replicate,if_pos hi] at hS
  exact (Option.some.inj hS).symm
 subst hSi
 have he:((l.map f).drop (i * sz α)).take (sz α)=[f x]:=by
  rw [hs,Nat.mul_one,List.drop_eq_getElem_cons (by simpa using hi)]
  obtain ⟨_,rfl⟩:=List.getElem?_eq_some_iff.1 hx
  simp
 rw [he]
 exact ho x<|List.mem_of_getElem? hx
theorem an0 {α:Type}{p:α->Prop}:∀x∈([]:List α),p x:=λ_ h=>by cases h
theorem ac0 {α:Type}{p:α->Prop}{a:α}{l:List α}(h:p a)(h':∀x∈l,p x):∀x∈a::l,p x:=λx hx=>(List.mem_cons.1 hx).elim (λe=>e ▸ h) (h' x)
theorem e_H {w:World}{g:Nat}{l:List Int}(h:Blk w g (l.map vI))(hl:∀x∈l,inI x)(hn:Nat.ble l.length 1000=true):a_ w [g] (.slice (some ⟨g,0,none⟩) l.length l.length) l :=
 m_8 rfl h (λx hx=>⟨rfl,_,rfl,rfl,hl x hx⟩) (Nat.le_trans (Nat.le_of_ble_eq_true hn) (by decide))
theorem j_g {w:World}{g:Nat}{l:List Str}(h:Blk w g (l.map Str.v))(hl:∀x∈l,x.b.length<=LEN)(hn:Nat.ble l.length 1000=true):a_ w [g] (.slice (some ⟨g,0,none⟩) l.length l.length) l :=
 m_8 rfl h (λx hx=>⟨rfl,_,rfl,rfl,hl x hx⟩) (Nat.le_trans (Nat.le_of_ble_eq_true hn) (by decide))
theorem e_I {n:Nat}{S:List Nat}(h:S.Nodup)(hl:∀k∈S,k<n):(n::S).Nodup:=List.nodup_cons.2 ⟨λhn=>Nat.lt_irrefl _<|hl n hn,h⟩
end Go.Vw
namespace Go.Vw
open Go.RowKit Dat
inductive Val where
 | mk (number:Int) (bytes:Bt) (items:List Val)
deriving Inhabited
def Val.number:Val->Int
 | .mk n _ _=>n
def Val.bytes:Val->Bt
 | .mk _ b _=>b
def Val.items:Val->List Val
 | .mk _ _ i=>i
inductive RepV (w:World)(B:Zone):List Value->Val->Prop
 | mk {x:Int} {bs:Bt} {vs:List Val} {v1:Value} {ao:Option Addr} {c:Nat} {css:Nat->List Value} (hx:inI x) (hb:e_ w B v1 bs)
   (h1:vs.length<=c) (h2:vs.length<=LEN) (h3:ao=none->vs=[])
   (h4:∀p,ao=some p->(vs ≠ []->p.spot=none)/\(vs ≠ []->B p.block))
   (h5:∀p,ao=some p->∀(i:Nat)(y:Val),vs[i]? = some y->u_ w p.block (p.off+i * 3) (css i))
   (h6:∀(i:Nat)(y:Val),vs[i]? = some y->RepV w B (css i) y):RepV w B [vI x,v1,.slice ao vs.length c] (.mk x bs vs)
inductive g_w (w:World):List Nat->List Value->Val->Prop
 | nil {x:Int} {bs:Bt} {v1:Value} {S1:List Nat} (hx:inI x) (hb:a_ w S1 v1 bs):g_w w S1 [vI x,v1,.slice none 0 0] (.mk x bs [])
 | mk {x:Int} {bs:Bt} {vs:List Val} {v1:Value} {S1:List Nat} {g c:Nat} {cur:List Value} {Ss:List (List Nat)} (hx:inI x) (hb:a_ w S1 v1 bs)
   (h1:vs.length<=c) (h2:vs.length<=LEN) (h3:Blk w g cur) (h4:cur.length=c * 3) (h5:Ss.length=vs.length)
   (h6:∀(i:Nat)(y:Val)(Si:List Nat),vs[i]? = some y->Ss[i]? = some Si->g_w w Si ((cur.drop<|i * 3).take 3) y):g_w w (S1++g::List.flatten Ss) [vI x,v1,.slice (some ⟨g,0,none⟩) vs.length c] (.mk x bs vs)
theorem s_f {α:Type}[Dat α]{w:World}{B:Zone}{v:Value}{l:List α}(h:e_ w B v l):v.oneCell'=true:=by
 obtain ⟨ao,c,rfl,_⟩:=h;rfl
theorem s_g {α:Type}[Dat α]{w w':World}{B:Zone}{v:Value}{l:List α}(h:e_ w B v l)(he:∀k,B k->k<w.heap.size->w'.heap[k]? = w.heap[k]?):e_ w' B v l:=e_.of<|rep_eq h.rep he
theorem o_2 {α:Type}[Dat α]{w w':World}{S:List Nat}{v:Value}{l:List α}(h:a_ w S v l)(he:∀k∈S,w'.heap[k]? = w.heap[k]?):a_ w' S v l:=a_.of<|own_eq h.own he
theorem d_c {α:Type}[Dat α]{w:World}{S:List Nat}{v:Value}{l:List α}{B:Zone}(h:a_ w S v l)(he:∀k∈S,B k):e_ w B v l:=e_.of<|own_rep h.own he
instance:Dat Val where
 sz:=3
 rep w B cs x:=RepV w B cs x
 own w S cs x:=g_w w S cs x
 rep_len:=by rintro _ _ _ _ ⟨⟩;rfl
 rep_one:=by
  rintro _ _ _ _ ⟨_,hb⟩ c hc
  simp at hc
  rcases hc with rfl | rfl | rfl
  .rfl
  .exact s_f hb
  .rfl
 rep_eq:=by
  intro w w' B cs x h he
  induction h with
  | mk hx hb h1 h2 h3 h4 h5 h6 ih =>
   refine .mk hx (s_g hb he) h1 h2 h3 h4 (λp hp i y hy=>(h5 p hp i y hy).of_block (he _ ((h4 p hp).2 (by rintro rfl;simp at hy))<|(h5 p hp i y hy).lt ?_)) ih;rintro hn;have:=h6 i y hy
   rw [hn] at this
   cases this
 rep_mono:=by
  intro w B B' cs x h hb
  induction h with
  | mk hx hb' h1 h2 h3 h4 h5 h6 ih=>exact .mk hx (e_.mono hb' hb) h1 h2 h3 (λp hp=>⟨(h4 p hp).1,λhn=>hb _<|(h4 p hp).2 hn⟩) h5 ih
 own_eq:=by
  intro w w' S cs x h he
  induction h with
  | nil hx hb=>exact .nil hx<|o_2 hb he
  | mk hx hb h1 h2 h3 h4 h5 h6 ih =>
   exact .mk hx (o_2 hb λk hk=>he k<|List.mem_append_left _ hk) h1 h2 (h3.of_eq<|he _<|List.mem_append_right _ List.mem_cons_self) h4 h5 λi y Si hy hS=>ih i y Si hy hS λk hk=>he k<|List.mem_append_right _<|List.mem_cons_of_mem _<|c_3 hS hk
 own_lt:=by
  intro w S cs x h
  induction h with
  | nil hx hb=>exact hb.lt
  | mk hx hb h1 h2 h3 h4 h5 h6 ih =>
   intro k hk
   rcases List.mem_append.1 hk with hk | hk
   .exact hb.lt k hk
   .rcases List.mem_cons.1 hk with rfl | hk
    .exact h3.lt
    .obtain ⟨Si,hSi,hk⟩:=List.mem_flatten.1 hk;obtain ⟨i,hi⟩:=List.getElem?_of_mem hSi;obtain ⟨y,hy⟩:=zip_some' h5 hi;exact ih i y Si hy hi k hk
 own_rep:=by
  intro w S cs x B h hB
  induction h with
  | nil hx hb=>exact .mk (css:=λ_=>[]) hx (d_c hb hB) (Nat.zero_le _) (Nat.zero_le _) (λ_=>rfl) (λp hp=>by cases hp) (λp hp=>by cases hp) (λi y hy=>by simp at hy)
  | @mk x bs vs v1 S1 g c cur Ss hx hb h1 h2 h3 h4 h5 h6 ih =>
   refine .mk (css:=λi=>(cur.drop<|i * 3).take 3) hx (d_c hb λk hk=>hB k<|List.mem_append_left _ hk) h1 h2 (λh=>by cases h) ?_ ?_ ?_
   .intro p hp;obtain rfl:=Option.some.inj hp;exact ⟨λ_=>rfl,λ_=>hB g<|List.mem_append_right _ List.mem_cons_self⟩
   .intro p hp i y hy;obtain rfl:=Option.some.inj hp
    simpa using h3.cells (i * 3) 3
   .intro i y hy;obtain ⟨Si,hSi⟩:=e_L h5 hy;exact ih i y Si hy hSi λk hk=>hB k<|List.mem_append_right _<|List.mem_cons_of_mem _<|c_3 hSi hk
 pos:=by decide
theorem d_G {w:World}{B:Zone}{cs:List Value}{x:Val}(h:rep w B cs x):∃(G:Option Addr)(I H:Nat)(a2:Option Addr)(J L:Nat),cs=[vI x.number,.slice G I H,.slice a2 J L]/\inI x.number/\e_ w B (.slice G I H) x.bytes/\e_ w B (.slice a2 J L) x.items:=by
 cases (show RepV w B cs x from h) with
 | @mk x bs vs v1 ao c css hx hb h1 h2 h3 h4 h5 h6 =>
  obtain ⟨G,H,rfl⟩:=e_.shape hb;exact ⟨G,_,H,ao,_,c,rfl,hx,hb,ao,c,rfl,h1,h2,h3,λp hp=>⟨(h4 p hp).1,(h4 p hp).2,λi y hy=>⟨css i,h5 p hp i y hy,h6 i y hy⟩⟩⟩
theorem b_H {w:World}{x:Val}{G:Option Addr}{H I:Nat}{a2:Option Addr}{J L:Nat}{S1 S2:List Nat}(O:inI x.number)(V:a_ w S1 (.slice G H I) x.bytes)(W:a_ w S2 (.slice a2 J L) x.items):own w (S1++S2) [vI x.number,.slice G H I,.slice a2 J L] x:=by
 obtain ⟨x,bs,vs⟩:=x
 rcases W with ⟨he,hv,rfl⟩ | ⟨g,c,cur,Ss,he,h1,h2,h3,h4,rfl,h6,Y⟩
 .cases he
  cases (show vs=[] from hv)
  rw [List.append_nil]
  exact g_w.nil O V
 .cases he
  exact g_w.mk O V h1 h2 h3 h4 h6 Y
theorem s_h {w:World}{S:List Nat}{cs:List Value}{x:Val}(h:own w S cs x):∃(G:Option Addr)(I H:Nat)(a2:Option Addr)(J L:Nat)(S1 S2:List Nat),cs=[vI x.number,.slice G I H,.slice a2 J L]/\S=S1++S2/\inI x.number/\a_ w S1 (.slice G I H) x.bytes/\a_ w S2 (.slice a2 J L) x.items:=by
 cases (show g_w w S cs x from h) with
 | nil hx hb =>
  obtain ⟨G,H,rfl⟩:=a_.shape hb;exact ⟨G,_,H,none,0,0,S,[],rfl,by simp,hx,hb,k_w _⟩
 | @mk x bs vs v1 S1 g c cur Ss hx hb h1 h2 h3 h4 h5 h6 =>
  obtain ⟨G,H,rfl⟩:=a_.shape hb;exact ⟨G,_,H,_,_,c,S1,_,rfl,rfl,hx,hb,.inr ⟨g,c,cur,Ss,rfl,h1,h2,h3,h4,rfl,h5,h6⟩⟩
end Go.Vw
namespace Go.Vw
open Go.RowKit Dat
theorem m_c {α:Type}[Dat α]{w:World}{S:List Nat}{g n c i:Nat}{l:List α}{x:α}(ho:a_ w S (.slice (some ⟨g,0,none⟩) n c) l)(hN:S.Nodup)(hx:l[i]? = some x) :
  ∃cur Si,Blk w g cur/\cur.length=c * sz α/\i<c/\n=l.length/\own w Si (X_ (sz α) i cur) x/\Si.Nodup/\(∀k∈Si,k∈S)/\g∉Si/\g∈S /\
   ∀(Y:Nat->Prop)(w':World)(cur':List Value)(x':α)(Si':List Nat),(∀k∈S,Y k->k=g∨k∈Si)->Blk w' g cur'->cur'.length=cur.length->(∀j,j<c->j ≠ i->X_ (sz α) j cur'=X_ (sz α) j cur)->own w' Si' (X_ (sz α) i cur') x'->Chg Y w w'->Si'.Nodup->(∀k∈Si',k∈Si∨w.heap.size<=k) ->
    ∃S',a_ w' S' (.slice (some ⟨g,0,none⟩) n c) (l.set i x')/\S'.Nodup/\(∀k∈S',k∈S∨w.heap.size<=k):=by
 have hlt:=ho.lt
 rcases ho with ⟨h,_⟩ | ⟨g',c',cur,Ss,he,h1,h2,h3,h4,rfl,h6,J⟩
 .cases h
 simp only [Value.slice.injEq,Option.some.injEq,Addr.mk.injEq,and_true] at he
 obtain ⟨rfl,rfl,rfl⟩:=he;have hi:=(List.getElem?_eq_some_iff.1 hx).1;have hic:i<c:=Nat.lt_of_lt_of_le hi h1;obtain ⟨hgn,hfn⟩:=List.nodup_cons.1 hN;obtain ⟨Si,hSi⟩:=e_L h6 hx;have hsubF:∀k∈Si,k∈List.flatten Ss:=λk hk=>c_3 hSi hk
 have hiS:i<Ss.length:=by omega
 have H:=hfn
 rw [List.nodup_iff_pairwise_ne,List.pairwise_flatten] at H
 obtain ⟨L,G⟩:=H;have hSiN:Si.Nodup:=by rw [List.nodup_iff_pairwise_ne];exact L Si<|List.mem_of_getElem? hSi
 rw [List.pairwise_iff_getElem] at G
 have hSie:Ss[i]=Si:=by rw [List.getElem?_eq_getElem hiS] at hSi;exact Option.some.inj hSi
 have hdis:∀(j:Nat)(hj:j<Ss.length),j ≠ i->∀t∈Ss[j],t∉Si:=by
  intro j hj hji t ht ht'
  rw [← hSie] at ht'
  rcases Nat.lt_or_ge j i with h | h
  .exact G j i hj hiS h t ht t ht' rfl
  .exact G i j hiS hj (by omega) t ht' t ht rfl
 refine ⟨cur,Si,h3,h4,hic,rfl,J i x Si hx hSi,hSiN,λk hk=>List.mem_cons_of_mem _<|hsubF k hk,λhg=>hgn<|hsubF g hg,List.mem_cons_self,?_⟩;intro Y w' cur' x' Si' hY hB hl hch hx' hc hN' hsub
 have hsub2:∀k∈List.flatten (Ss.set i Si'),k∈List.flatten Ss∨w.heap.size<=k:=by
  intro k hk;obtain ⟨Sj,hSj,I⟩:=List.mem_flatten.1 hk
  rcases List.mem_or_eq_of_mem_set hSj with h | h
  .exact .inl<|List.mem_flatten.2 ⟨Sj,h,I⟩
  .subst h;exact (hsub k I).imp (hsubF k) id
 refine ⟨g::List.flatten (Ss.set i Si'),.inr ⟨g,c,cur',Ss.set i Si',by simp,by simpa using h1,by simpa using h2,hB,by rw [hl,h4],rfl,by simp [h6],?_⟩,?_,?_⟩
 .intro j y Sj hy hSj;have hj:j<l.length:=by have:=(List.getElem?_eq_some_iff.1 hy).1;simpa using this
  show own w' Sj (X_ (sz α) j _) y
  by_cases hji:j=i
  .subst hji
   rw [List.getElem?_set_self hj] at hy
   rw [List.getElem?_set_self (by omega)] at hSj
   simp only [Option.some.injEq] at hy hSj
   subst hy hSj;exact hx'
  .rw [hch j (Nat.lt_of_lt_of_le hj h1) hji]
   rw [List.getElem?_set_ne (Ne.symm hji)] at hy hSj
   have hjS:j<Ss.length:=by omega
   have hje:Ss[j]=Sj:=by rw [List.getElem?_eq_getElem hjS] at hSj;exact Option.some.inj hSj
   exact d_U (J j y Sj hy hSj) hc<|λk hk hk'=>(hY k (List.mem_cons_of_mem _<|c_3 hSj hk) hk').elim (λh=>hgn<|h ▸ c_3 hSj hk) (hdis j hjS hji k<|hje ▸ hk)
 .refine List.nodup_cons.2 ⟨λhm=>?_,?_⟩
  .rcases hsub2 g hm with h | h
   .exact hgn h
   .exact absurd (hlt g List.mem_cons_self)<|Nat.not_lt.2 h
  .have notS:∀(j:Nat)(hj:j<Ss.length),j ≠ i->∀t∈Ss[j],t∉Si':=λj hj hji t ht ht'=>(hsub t ht').elim (hdis j hj hji t ht) (λh=>absurd (hlt t<|List.mem_cons_of_mem _<|List.mem_flatten.2 ⟨Ss[j],List.getElem_mem hj,ht⟩)<|Nat.not_lt.2 h)
   rw [List.nodup_iff_pairwise_ne,List.pairwise_flatten]
   refine ⟨λSj hSj=>?_,?_⟩
   .rcases List.mem_or_eq_of_mem_set hSj with h | rfl
    .exact L Sj h
    .rw [← List.nodup_iff_pairwise_ne];exact hN'
   .rw [List.pairwise_iff_getElem]
    intro a b ha hb hab u hu v hv;have ha':a<Ss.length:=by simpa using ha
    have hb':b<Ss.length:=by simpa using hb
    rw [List.getElem_set] at hu hv
    by_cases hai:i=a
    .rw [if_pos hai] at hu
     rw [if_neg (by omega)] at hv
     intro huv;exact notS b hb' (by omega) v hv<|huv ▸ hu
    .rw [if_neg hai] at hu
     by_cases hbi:i=b
     .rw [if_pos hbi] at hv
      intro huv;exact notS a ha' (by omega) u hu<|huv ▸ hv
     .rw [if_neg hbi] at hv
      exact G a b ha' hb' hab u hu v hv
 .intro k hk
  rcases List.mem_cons.1 hk with rfl | hk
  .exact .inl List.mem_cons_self
  .exact (hsub2 k hk).imp (List.mem_cons_of_mem _) id
theorem p_d {α:Type}[Dat α]{w:World}{S:List Nat}{g n c i:Nat}{l:List α}{x:α}(ho:a_ w S (.slice (some ⟨g,0,none⟩) n c) l)(hN:S.Nodup)(hx:l[i]? = some x) :
  ∃cur Si,Blk w g cur/\cur.length=c * sz α/\i<c/\n=l.length/\own w Si (X_ (sz α) i cur) x/\Si.Nodup/\(∀k∈Si,k∈S)/\g∉Si/\g∈S /\
   ∀(w':World)(cur':List Value)(x':α)(Si':List Nat),Blk w' g cur'->cur'.length=cur.length->(∀j,j<c->j ≠ i->X_ (sz α) j cur'=X_ (sz α) j cur)->own w' Si' (X_ (sz α) i cur') x'->Chg (λk=>k=g∨k∈Si) w w'->Si'.Nodup->(∀k∈Si',k∈Si∨w.heap.size<=k) ->
    ∃S',a_ w' S' (.slice (some ⟨g,0,none⟩) n c) (l.set i x')/\S'.Nodup/\(∀k∈S',k∈S∨w.heap.size<=k):=by
 obtain ⟨cur,Si,h1,h2,h3,h4,h5,h6,H,I,J,G⟩:=m_c ho hN hx;exact ⟨cur,Si,h1,h2,h3,h4,h5,h6,H,I,J,λw' cur' x' Si' a b c d e=>G (λk=>k=g∨k∈Si) w' cur' x' Si' (λ_ _ h=>h) a b c d e⟩
theorem p_e {α:Type}[Dat α]{w w':World}{S:List Nat}{g n c o:Nat}{i:Int}{l m:List α}{x x':α}{u:Value}(ho:a_ w S (.slice (some ⟨g,0,none⟩) n c) l)(hN:S.Nodup)(hx:idx l i=some x)(hm:upd l i x'=some m)(hset:∀(w:World)(S:List Nat)(cs:List Value),own w S cs x->own w S (cs.set o u) x')(hlt:o<sz α)
  (hB:∀cur,Blk w g cur->Blk w' g (cur.set (i.toNat * sz α+o) u)) (hch:Chg (· = g) w w'):∃S',a_ w' S' (.slice (some ⟨g,0,none⟩) n c) m/\S'.Nodup/\(∀k∈S',k∈S∨w.heap.size<=k):=by
 obtain ⟨rfl,_,_⟩:=updS hm;obtain ⟨_,hx,_⟩:=b_e hx;obtain ⟨cur,Si,h1,h2,h3,h4,h5,h6,I,H,J,G⟩:=p_d ho hN hx;refine G w' (cur.set (i.toNat * sz α+o) u) x' Si (hB cur h1) (by simp) ?_ ?_ (hch.mono λk _ h=>.inl h) h6<|λk hk=>.inl hk
 .intro j hj hji;unfold X_
  apply List.ext_getElem?
  intro q
  rw [List.getElem?_take,List.getElem?_take]
  split
  .rename_i hq
   rw [List.getElem?_drop,List.getElem?_drop,List.getElem?_set_ne]
   intro he
   rcases Nat.lt_or_ge j i.toNat with h | h
   .have:=Nat.mul_le_mul_right (sz α)<|Nat.succ_le_of_lt h
    rw [Nat.succ_mul] at this
    omega
   .have:=Nat.mul_le_mul_right (sz α)<|Nat.succ_le_of_lt<|Nat.lt_of_le_of_ne h<|Ne.symm hji
    rw [Nat.succ_mul] at this
    omega
  .rfl
 .have:X_ (sz α) i.toNat (cur.set (i.toNat * sz α+o) u)=(X_ (sz α) i.toNat cur).set o u:=by
   unfold X_
   rw [List.drop_set,if_neg (by omega),show i.toNat * sz α+o - i.toNat * sz α=o by omega,List.take_set]
  rw [this]
  exact d_U (hset w Si _ h5) hch<|λk hk h=>H<|h ▸ hk
section
variable {X:Nat->Prop}{P:Program}{N:Nat}{e:Env}{w:World}{dst:Option Tmp}{ty:TypeId}{pos:String}{aft:Array Edge}{gd:Option (Nat×Bool)}{x y:Operand}{T E:Nat}
theorem c_Y {α:Type}[Dat α]{ao:Option Addr}{n c sz':Nat}{S:List Nat}{l:List α}{i:Int}{v:α}{kk:IntKind}(hT:P.underlying T=some (.slice E))(hs:∀w,(sizeOf E).run P w = .ok sz' w)(hx:ev e x=some (.slice ao n c))(hy:ev e y=some (.int kk i))(hr:a_ w S (.slice ao n c) l)(hi:idx l i=some v) :
  ∃u,Rd X P N ⟨dst,.indexAddr T x y,ty,pos,aft,gd⟩ e w u/\∃g,ao=some ⟨g,0,none⟩/\u = .pointer (some ⟨g,0+i.toNat * sz',none⟩):=by
 obtain ⟨G,_,h1⟩:=b_e hi;obtain ⟨g,rfl⟩:=hr.head (by omega);obtain ⟨_,_,he,_⟩:=hr.rep
 cases he
 exact ⟨_,i_8 (k:=kk) hT hs hx hy G h1,g,rfl,rfl⟩
theorem i_6 {α:Type}[Dat α]{S:List Nat}{g n c o sz':Nat}{ao:Option Addr}{i:Int}{l m:List α}{v v':α}{u:Value}(hs:∀w,(sizeOf T).run P w = .ok 1 w)(hsz:sz'=sz α)(hao:ao=some ⟨g,0,none⟩)(hx:ev e x=some (.pointer<|some ⟨g,0+i.toNat * sz'+o,none⟩))(hy:ev e y=some u)(hu:u.cells.toList=[u])(h1:u.oneCell'=true)
  (hi:idx l i=some v) (hm:upd l i v'=some m) (ho:a_ w S (.slice ao n c) l) (hN:S.Nodup) (hlt:o<sz') (hset:∀(w:World)(S:List Nat)(cs:List Value),own w S cs v->own w S (cs.set o u) v') :
  Ef P N ⟨none,.store T x y,ty,pos,aft,gd⟩ e w (λ_ w'=>∃S',Chg (· ∈ S) w w'/\a_ w' S' (.slice ao n c) m/\S'.Nodup/\(∀k∈S',k∈S∨w.heap.size<=k)):=by
 subst hao hsz;obtain ⟨cur,hB,hcl,hlc,hg⟩:=ho.blk;obtain ⟨H,_,h2⟩:=b_e hi;have hle:i.toNat * sz α+sz α<=cur.length:=by rw [hcl,← Nat.succ_mul];exact Nat.mul_le_mul_right _ (by omega)
 have hus:u.cells.size=1:=by rw [← Array.length_toList,hu];rfl
 have h:=c_U (P:=P) (N:=N) (ty:=ty) (pos:=pos) (aft:=aft) (gd:=gd) hs hx hy hB hus (by omega) (by rw [hu];simpa using h1) rfl
 constructor
 intro a ha Q;refine Oper.wp_mono ?_<|h.run a ha Q;rintro a' w' ⟨G,rfl,hb,hch⟩
 obtain ⟨S',k1,k2,k3⟩:=p_e ho (w':=w') hN hi hm hset hlt (λcur' hc'=>by
  obtain rfl:=hB.uniq hc'
  rw [hu] at hb
  simp only [Nat.zero_add,List.length_cons,List.length_nil] at hb
  rw [List.set_eq_take_append_cons_drop,if_pos (by omega)]
  simpa using hb) hch
 exact ⟨G,rfl,S',hch.mono<|λk _ hk=>hk ▸ hg,k1,k2,k3⟩
end
theorem m_d {w:World}{S:List Nat}{cs:List Value}{x:Int}(h:own w S cs x):cs=[vI x]/\S=[]/\inI x:=by
 obtain ⟨rfl,v,rfl,rfl,h⟩:=h;exact ⟨rfl,rfl,h⟩
theorem p_f {w:World}{S:List Nat}{cs:List Value}{x:Str}(h:own w S cs x):cs=[x.v]/\S=[]/\x.b.length<=LEN:=by
 obtain ⟨rfl,v,rfl,rfl,h⟩:=h;exact ⟨rfl,rfl,h⟩
theorem p_g {w:World}{S:List Nat}{cs:List Value}{x:Bool}(h:own w S cs x):cs=[vB x]/\S=[]:=by
 obtain ⟨rfl,v,rfl,rfl⟩:=h;exact ⟨rfl,rfl⟩
theorem j_j {α:Type}[Dat α]{w:World}{S:List Nat}{cs:List Value}{x:List α}(h:own w S cs x):∃(a:Option Addr)(n c:Nat),cs=[.slice a n c]/\a_ w S (.slice a n c) x:=by
 obtain ⟨v,rfl,h⟩:=h;obtain ⟨a,c,rfl⟩:=a_.shape h;exact ⟨a,_,c,rfl,h⟩
end Go.Vw
namespace Go.Vw
open Go.RowKit Dat
structure b_ where
 name:Str
 kind:Int
 size:Int
 little:Bool
 bytes:Bt
 names:List Str
 tags:List Int
 kids:List Int
deriving DecidableEq,Inhabited
instance:Dat b_:=Dat.via<|λr=>(r.name,r.kind,r.size,r.little,r.bytes,r.names,r.tags,r.kids)
theorem a_A {w:World}{B:Zone}{cs:List Value}{x:b_}(h:rep w B cs x):∃(G:Option Addr)(H I:Nat)(a2:Option Addr)(J L:Nat)(O:Option Addr)(V W:Nat)(Y:Option Addr)(n4 c4:Nat),cs=[x.name.v,vI x.kind,vI x.size,vB x.little,.slice G H I,.slice a2 J L,.slice O V W,.slice Y n4 c4]/\x.name.b.length<=LEN/\inI x.kind/\inI x.size/\e_ w B (.slice G H I) x.bytes/\e_ w B (.slice a2 J L) x.names/\e_ w B (.slice O V W) x.tags/\e_ w B (.slice Y n4 c4) x.kids:=by
 obtain ⟨c1_,d1_,rfl,g1,t1⟩:=h;obtain ⟨rfl,p0⟩:=c_W g1;obtain ⟨c2_,d2_,rfl,g2,t2⟩:=t1;obtain ⟨rfl,p1⟩:=S_ g2;obtain ⟨c3_,d3_,rfl,g3,t3⟩:=t2;obtain ⟨rfl,p2⟩:=S_ g3;obtain ⟨c4_,d4_,rfl,g4,t4⟩:=t3;obtain rfl:=o_H g4;obtain ⟨c5_,d5_,rfl,g5,t5⟩:=t4;obtain ⟨G,H,I,rfl,p3⟩:=g_T g5;obtain ⟨c6_,d6_,rfl,g6,t6⟩:=t5;obtain ⟨a2,J,L,rfl,p4⟩:=g_T g6;obtain ⟨c7_,d7_,rfl,g7,t7⟩:=t6;obtain ⟨O,V,W,rfl,p5⟩:=g_T g7;obtain ⟨Y,n4,c4,rfl,p6⟩:=g_T t7;exact ⟨G,H,I,a2,J,L,O,V,W,Y,n4,c4,rfl,p0,p1,p2,p3,p4,p5,p6⟩
theorem d_Q {w:World}{B:Zone}{x:b_}{G:Option Addr}{H I:Nat}{a2:Option Addr}{J L:Nat}{O:Option Addr}{V W:Nat}{Y:Option Addr}{n4 c4:Nat}(p0:x.name.b.length<=LEN)(p1:inI x.kind)(p2:inI x.size)(p3:e_ w B (.slice G H I) x.bytes)(p4:e_ w B (.slice a2 J L) x.names)(p5:e_ w B (.slice O V W) x.tags)(p6:e_ w B (.slice Y n4 c4) x.kids):rep w B [x.name.v,vI x.kind,vI x.size,vB x.little,.slice G H I,.slice a2 J L,.slice O V W,.slice Y n4 c4] x:=(f_M (Str_mk p0)<|f_M (m_4 p1)<|f_M (m_4 p2)<|f_M o_J<|f_M (h_Y p3)<|f_M (h_Y p4)<|f_M (h_Y p5)<|h_Y p6)
theorem c_f {w:World}{x:b_}{G:Option Addr}{H I:Nat}{a2:Option Addr}{J L:Nat}{O:Option Addr}{V W:Nat}{Y:Option Addr}{n4 c4:Nat}{S1:List Nat}{S2:List Nat}{S3:List Nat}{S4:List Nat}(p0:x.name.b.length<=LEN)(p1:inI x.kind)(p2:inI x.size)(p3:a_ w S1 (.slice G H I) x.bytes)(p4:a_ w S2 (.slice a2 J L) x.names)(p5:a_ w S3 (.slice O V W) x.tags)(p6:a_ w S4 (.slice Y n4 c4) x.kids):own w (S1++(S2++(S3++(S4)))) [x.name.v,vI x.kind,vI x.size,vB x.little,.slice G H I,.slice a2 J L,.slice O V W,.slice Y n4 c4] x:=by
 have h:own w _ _ x:=(f_N (f_L p0)<|f_N (a_t p1)<|f_N (a_t p2)<|f_N o_K<|f_N (h_Z p3)<|f_N (h_Z p4)<|f_N (h_Z p5)<|h_Z p6)
 simpa using h
theorem c_T {w:World}{S:List Nat}{cs:List Value}{x:b_}(h:own w S cs x):∃(G:Option Addr)(H I:Nat)(a2:Option Addr)(J L:Nat)(O:Option Addr)(V W:Nat)(Y:Option Addr)(n4 c4:Nat)(S1:List Nat)(S2:List Nat)(S3:List Nat)(S4:List Nat),cs=[x.name.v,vI x.kind,vI x.size,vB x.little,.slice G H I,.slice a2 J L,.slice O V W,.slice Y n4 c4]/\S=S1++(S2++(S3++(S4)))/\x.name.b.length<=LEN/\inI x.kind/\inI x.size/\a_ w S1 (.slice G H I) x.bytes/\a_ w S2 (.slice a2 J L) x.names/\a_ w S3 (.slice O V W) x.tags/\a_ w S4 (.slice Y n4 c4) x.kids:=by
 obtain ⟨c1_,d1_,s1_,u1_,rfl,rfl,g1,t1⟩:=h;obtain ⟨rfl,rfl,p0⟩:=p_f g1;obtain ⟨c2_,d2_,s2_,u2_,rfl,rfl,g2,t2⟩:=t1;obtain ⟨rfl,rfl,p1⟩:=m_d g2;obtain ⟨c3_,d3_,s3_,u3_,rfl,rfl,g3,t3⟩:=t2;obtain ⟨rfl,rfl,p2⟩:=m_d g3;obtain ⟨c4_,d4_,s4_,u4_,rfl,rfl,g4,t4⟩:=t3;obtain ⟨rfl,rfl⟩:=p_g g4;obtain ⟨c5_,d5_,s5_,u5_,rfl,rfl,g5,t5⟩:=t4;obtain ⟨G,H,I,rfl,p3⟩:=j_j g5;obtain ⟨c6_,d6_,s6_,u6_,rfl,rfl,g6,t6⟩:=t5;obtain ⟨a2,J,L,rfl,p4⟩:=j_j g6;obtain ⟨c7_,d7_,s7_,u7_,rfl,rfl,g7,t7⟩:=t6;obtain ⟨O,V,W,rfl,p5⟩:=j_j g7;obtain ⟨Y,n4,c4,rfl,p6⟩:=j_j t7;exact ⟨G,H,I,a2,J,L,O,V,W,Y,n4,c4,_,_,_,_,rfl,by simp,p0,p1,p2,p3,p4,p5,p6⟩
theorem o_u {w:World}{S:List Nat}{cs:List Value}{x:b_}{v:Str}(h:own w S cs x)(hv:v.b.length<=LEN):own w S (cs.set 0<|v.v) (⟨v,x.kind,x.size,x.little,x.bytes,x.names,x.tags,x.kids⟩:b_):=by
 obtain ⟨V,W,Y,a2,n2,c2,a3,n3,c3,a4,n4,c4,S1,S2,S3,S4,rfl,rfl,p0,G,H,I,J,L,O⟩:=c_T h;exact c_f (x:=⟨v,x.kind,x.size,x.little,x.bytes,x.names,x.tags,x.kids⟩) hv G H I J L O
theorem o_v {w:World}{S:List Nat}{cs:List Value}{x:b_}{v:Int}(h:own w S cs x)(hv:inI v):own w S (cs.set 1<|vI v) (⟨x.name,v,x.size,x.little,x.bytes,x.names,x.tags,x.kids⟩:b_):=by
 obtain ⟨V,W,Y,a2,n2,c2,a3,n3,c3,a4,n4,c4,S1,S2,S3,S4,rfl,rfl,G,p1,H,I,J,L,O⟩:=c_T h;exact c_f (x:=⟨x.name,v,x.size,x.little,x.bytes,x.names,x.tags,x.kids⟩) G hv H I J L O
theorem o_w {w:World}{S:List Nat}{cs:List Value}{x:b_}{v:Int}(h:own w S cs x)(hv:inI v):own w S (cs.set 2<|vI v) (⟨x.name,x.kind,v,x.little,x.bytes,x.names,x.tags,x.kids⟩:b_):=by
 obtain ⟨V,W,Y,a2,n2,c2,a3,n3,c3,a4,n4,c4,S1,S2,S3,S4,rfl,rfl,G,H,p2,I,J,L,O⟩:=c_T h;exact c_f (x:=⟨x.name,x.kind,v,x.little,x.bytes,x.names,x.tags,x.kids⟩) G H hv I J L O
theorem o_x {w:World}{S:List Nat}{cs:List Value}{x:b_}{v:Bool}(h:own w S cs x):own w S (cs.set 3<|vB v) (⟨x.name,x.kind,x.size,v,x.bytes,x.names,x.tags,x.kids⟩:b_):=by
 obtain ⟨W,Y,c1,a2,n2,c2,a3,n3,c3,a4,n4,c4,S1,S2,S3,S4,rfl,rfl,G,H,I,J,L,O,V⟩:=c_T h;exact c_f (x:=⟨x.name,x.kind,x.size,v,x.bytes,x.names,x.tags,x.kids⟩) G H I J L O V
structure c_ where
 rules:List b_
deriving DecidableEq,Inhabited
instance:Dat c_:=Dat.via<|λr=>r.rules
theorem c_o {w:World}{B:Zone}{cs:List Value}{x:c_}(h:rep w B cs x):∃(G:Option Addr)(H I:Nat),cs=[.slice G H I]/\e_ w B (.slice G H I) x.rules:=by
 obtain ⟨G,H,I,rfl,J⟩:=g_T h;exact ⟨G,H,I,rfl,J⟩
theorem f_C {w:World}{B:Zone}{x:c_}{G:Option Addr}{H I:Nat}(J:e_ w B (.slice G H I) x.rules):rep w B [.slice G H I] x:=(h_Y J)
theorem o_y {w:World}{x:c_}{G:Option Addr}{H I:Nat}{S1:List Nat}(J:a_ w S1 (.slice G H I) x.rules):own w (S1) [.slice G H I] x:=by
 have h:own w _ _ x:=(h_Z J)
 simpa using h
structure a_F where
 d:c_
 b:Bt
deriving DecidableEq,Inhabited
instance:Dat a_F:=Dat.via<|λr=>(r.d,r.b)
structure l_Y where
 position:Int
 code:Int
deriving DecidableEq,Inhabited
instance:Dat l_Y:=Dat.via<|λr=>(r.position,r.code)
instance:b_m l_Y:=⟨λh=>b_m.flat (α:=Int×Int) h,λh=>b_m.none (α:=Int×Int) h⟩
structure m_ where
 b:Bt
 i:Int
 h:Int
deriving DecidableEq,Inhabited
instance:Dat m_:=Dat.via<|λr=>(r.b,r.i,r.h)
structure W_ where
 versions:List c_
deriving DecidableEq,Inhabited
instance:Dat W_:=Dat.via<|λr=>r.versions
end Go.Vw
namespace Go.Vw
open Go.RowKit Dat
structure GlW (NG:Nat)(D:World->Prop)(w:World)(B:Zone):Prop where
 le:bl NG<=B
 nw:NG<=w.heap.size
 at_:∃u,D u/\∀k,k<NG->w.heap[k]? = u.heap[k]?
section
variable {NG:Nat}{D:World->Prop}{w w':World}{B:Zone}
theorem GlW.mk0 (h:D w)(hB:bl NG<=B)(hw:NG<=w.heap.size):GlW NG D w B:=⟨hB,hw,w,h,λ_ _=>rfl⟩
theorem GlW.ext (h:GlW NG D w B)(hb:Below w.heap.size w w'):GlW NG D w' B:=by
 obtain ⟨u,hu,he⟩:=h.at_;exact ⟨h.le,Nat.le_trans h.nw hb.size,u,hu,λk hk=>(hb.block k<|Nat.lt_of_lt_of_le hk h.nw).trans (he k hk)⟩
theorem GlW.chg {X:Nat->Prop}(h:GlW NG D w B)(hc:Chg X w w')(hx:∀k,B k->¬X k):GlW NG D w' B:=by
 obtain ⟨u,hu,he⟩:=h.at_;exact ⟨h.le,Nat.le_trans h.nw hc.size,u,hu,λk hk=>(hc.block k (Nat.lt_of_lt_of_le hk h.nw)<|hx k<|h.le k hk).trans (he k hk)⟩
theorem GlW.mono {B':Zone}(h:GlW NG D w B)(hb:B<=B'):GlW NG D w B':=⟨zt h.le hb,h.nw,h.at_⟩
theorem GlW.cell (h:GlW NG D w B){a:Addr}{v:Value}(hD:∀u,D u->u.cell? a=some v)(ha:a.block<NG):w.cell? a=some v:=by
 obtain ⟨u,hu,he⟩:=h.at_
 rw [World.cell?_of_block (w:=u) (he _ ha)];exact hD u hu
end
theorem as_chg {w:World}{g:Nat}{u v:Value}{o1 G o3 o4:Obj}(_h:Blk w g [u]):Chg (· = g) w (((((w.alloc o1).alloc G).alloc o3).alloc o4).setCell ⟨g,0,none⟩ v):=by
 exact Chg.comp (X:=(· = g)) (Y:=(· = g)) (Vw.Below.chg (bup (bup (bup (c_k w o1)<|c_k _ G)<|c_k _ o3)<|c_k _ o4) _) (show Chg (· = g) _ _ from m_f _ ⟨g,0,none⟩ _)<|λ_ _ h=>h
theorem as_blk {w:World}{g:Nat}{u v:Value}{o1 G o3 o4:Obj}(h:Blk w g [u]):Blk (((((w.alloc o1).alloc G).alloc o3).alloc o4).setCell ⟨g,0,none⟩ v) g [v]:=by
 have h1:=(((h.ext<|c_k w o1).ext (c_k _ G)).ext (c_k _ o3)).ext (c_k _ o4)
 simpa using h1.set 0 v
end Go.Vw
namespace Go.Vw
open Go.RowKit Dat
section
variable {X:Nat->Prop}{P:Program}{N:Nat}{e:Env}{w:World}{dst:Option Tmp}{ty:TypeId}{pos:String}{aft:Array Edge}{gd:Option (Nat×Bool)}{x y z:Operand}{T T' E:Nat}
end
def anyX:Nat->Prop:=λ_=>True
theorem j_h {X:Nat->Prop}{w w':World}(h:Chg X w w'):Chg anyX w w':=⟨h.os,h.tape,h.output,h.size,λ_ _ hn=>absurd trivial hn⟩
@[reducible] def un7 {G H I J L O V δ:Type} (f:G->H->I->J->L->O->V->δ):G×H×I×J×L×O×V->δ | (W,a2,Y,a4,a5,a6,a7)=>f W a2 Y a4 a5 a6 a7
theorem un7S {G H I J L O V γ:Type}{f:G->H->I->J->L->O->V->Option γ}{W:G}{a2:H}{Y:I}{a4:J}{a5:L}{a6:O}{a7:V}{r:Option γ}(h:un7 f (W,a2,Y,a4,a5,a6,a7)=r):f W a2 Y a4 a5 a6 a7=r:=h
@[reducible] def un8 {G H I J L O V t8 δ:Type} (f:G->H->I->J->L->O->V->t8->δ):G×H×I×J×L×O×V×t8->δ | (W,a2,Y,a4,a5,a6,a7,a8)=>f W a2 Y a4 a5 a6 a7 a8
theorem un8S {G H I J L O V W γ:Type}{f:G->H->I->J->L->O->V->W->Option γ}{Y:G}{a2:H}{a3:I}{a4:J}{a5:L}{a6:O}{a7:V}{a8:W}{r:Option γ}(h:un8 f (Y,a2,a3,a4,a5,a6,a7,a8)=r):f Y a2 a3 a4 a5 a6 a7 a8=r:=h
end Go.Vw
namespace Go.Vw
open Go.RowKit Dat
def PtrR {α:Type}[Dat α](w:World)(B:Zone)(b o:Nat)(x:α):Prop:=∃cs,u_ w b o cs/\rep w B cs x/\B b
def ptrO {α:Type}[Dat α](w:World)(B:Zone)(v:Value):Option α->Prop
 | none=>v = .pointer none
 | some x=>∃b o,v = .pointer (some ⟨b,o,none⟩)/\PtrR w B b o x
theorem PtrR.mk {α:Type}[Dat α]{w:World}{B:Zone}{b o:Nat}{cs:List Value}{x:α}(h:u_ w b o cs)(hr:rep w B cs x)(hb:B b):PtrR w B b o x:=⟨cs,h,hr,hb⟩
theorem ptrO.mk {α:Type}[Dat α]{w:World}{B:Zone}{b o:Nat}{x:α}(h:PtrR w B b o x):ptrO w B (.pointer<|some ⟨b,o,none⟩) (some x):=⟨b,o,rfl,h⟩
theorem ptrO.nil {α:Type}[Dat α]{w:World}{B:Zone}:ptrO w B (.pointer none) (none:Option α):=rfl
section
variable {X:Nat->Prop}{P:Program}{N:Nat}{e:Env}{w:World}{dst:Option Tmp}{ty:TypeId}{pos:String}{aft:Array Edge}{gd:Option (Nat×Bool)}{x:Operand}{T1 T2 E:Nat}
end
end Go.Vw
namespace Go.Vw
open Go.RowKit Dat
structure RowI (m:Nat)(l:List Int):Prop where
 len:l.length=m
 inn:∀x∈l,inI x
section
variable {P:Program}{N:Nat}{e:Env}{w:World}{X:Nat->Prop}{dst:Option Tmp}{T E m:Nat}{ty:TypeId}{pos:String}{aft:Array Edge}{gd:Option (Nat×Bool)}{x y:Operand}
theorem RowI.at {l:List Int}{i z:Int}(hr:RowI m l)(hi:idx l i=some z):inI z :=
 hr.inn _ (List.mem_of_getElem? (b_e hi).2.1)
end
end Go.Vw
namespace Go.Vw
open Go.RowKit Dat
def Hole (w:World)(G:Nat)(S:List Nat)(b o:Nat)(x:Val)(k:Val->Val):Prop :=
 ∃cur Sx,Blk w b cur/\o+3<=cur.length/\own w Sx ((cur.drop o).take 3) x/\Sx.Nodup/\b∉Sx/\b∈G::S/\(∀j∈Sx,j∈S) /\
  ∀(Y:Nat->Prop)(w':World)(cur':List Value)(x':Val)(Sx':List Nat),(∀j∈G::S,Y j->j=b∨j∈Sx)->Blk w' b cur'->cur'.length=cur.length->(∀j,j<o∨o+3<=j->cur'[j]? = cur[j]?)->own w' Sx' ((cur'.drop o).take 3) x'->Chg Y w w'->Sx'.Nodup->(∀j∈Sx',j∈Sx∨w.heap.size<=j) ->
   ∃cs S',Blk w' G cs/\own w' S' cs (k x')/\S'.Nodup/\(∀j∈S',j∈S∨w.heap.size<=j)
theorem p_7 {w:World}{S:List Nat}{cs:List Value}{x:Val}(h:own w S cs x):cs.length=3:=by
 obtain ⟨_,_,_,_,_,_,_,_,rfl,_⟩:=s_h h;rfl
theorem Hole.rd {w w':World}{B:Zone}{G:Nat}{S:List Nat}{b o:Nat}{x:Val}{k:Val->Val}(h:Hole w G S b o x k)(hb:Below w.heap.size w w')(hS:∀j∈G::S,B j):PtrR w' B b o x:=by
 obtain ⟨cur,Sx,h1,h2,h3,h4,h5,h6,H,I⟩:=h;exact ⟨_,(h1.ext hb).row o 3 rfl,own_rep (i_7 h3 hb)<|λj hj=>hS j<|List.mem_cons_of_mem _<|H j hj,hS b h6⟩
theorem Hole.put {w I:World}{J:Nat}{S:List Nat}{b o:Nat}{x y:Val}{k:Val->Val}{Sy:List Nat}{cs:List Value}(h:Hole w J S b o x k)(hb:Below w.heap.size w I)(hy:own I Sy cs y)(hn:Sy.Nodup)(hs:∀j∈Sy,w.heap.size<=j) :
  ∃cur,Blk I b cur/\o+3<=cur.length/\cs.length=3/\∀G,Blk G b (cur.take o++cs++cur.drop (o+3))->Chg (· = b) I G->∃c' S',Blk G J c'/\own G S' c' (k y)/\S'.Nodup/\(∀j∈S',j∈S∨w.heap.size<=j):=by
 obtain ⟨cur,Sx,h1,h2,h3,h4,h5,h6,O,L⟩:=h;have H:=p_7 hy;refine ⟨cur,h1.ext hb,h2,H,λG hB hc=>?_⟩;have hbl:b<w.heap.size:=h1.lt;have hlc:(cur.take o).length=o:=by rw [List.length_take];omega
 have hnb:b∉Sy:=λq=>absurd (hs b q)<|Nat.not_le.2 hbl
 refine L (λj=>j=b) G _ y Sy (λj hj e=>.inl e) hB ?_ ?_ ?_ ?_ hn<|λj hj=>.inr<|hs j hj
 .simp only [List.length_append,List.length_drop,hlc,H];omega
 .intro j hj
  rcases hj with q | q
  .rw [List.append_assoc,List.getElem?_append_left (by omega),List.getElem?_take,if_pos q]
  .rw [List.getElem?_append_right (by simp only [List.length_append,hlc,H];omega),List.getElem?_drop]
   congr 1
   simp only [List.length_append,hlc,H];omega
 .rw [List.append_assoc,List.drop_append,List.drop_of_length_le (by omega),hlc,Nat.sub_self,List.drop_zero,List.nil_append,List.take_append,List.take_of_length_le (by omega),H,Nat.sub_self,List.take_zero,List.append_nil]
  exact d_U hy hc λj hj e=>hnb<|e ▸ hj
 .exact ((Chg.refl _ w).ext hb).comp hc λj hlt e=>e
end Go.Vw
namespace Go.Vw
open Go.RowKit Dat
section
variable {P:Program}{N:Nat}{e:Env}{w:World}{X:Nat->Prop}{dst:Option Tmp}{ty:TypeId}{pos:String}{aft:Array Edge}{gd:Option (Nat×Bool)}{x:Operand}
theorem o_C {f:FuncId}{first:List Operand}{vs:List Value}(hv:evs e first=some vs):Rd X P N ⟨dst,.makeFunc (.func f) first.toArray #[],ty,pos,aft,gd⟩ e w (.func (.func f) vs.toArray #[]):=λa ha w' _=>by
 have hm:(first.toArray.map a.eval)=vs.toArray:=by rw [List.map_toArray,ha.evs hv]
 simp [execOp,Instr.makeFunc,hm]
theorem o_D {f:FuncId}{args:List Operand}{tys:Array TypeId}{vs first:List Value}{R:Value->World->Prop}(hcall:∀(args:Array Value)(w:World),(callFunc f args).run P w = .ok (.enter f args) w)(hx:ev e x=some (.func (.func f) first.toArray #[]))(hv:evs e args=some vs)(hc:n_ P f (first++vs) w R) :
  Ef P N ⟨dst,.call { callee:=.value x,args:=args.toArray,argTypes:=tys },ty,pos,aft,gd⟩ e w R:=⟨λa ha Q=>by
 have hm:(args.toArray.map a.eval)=vs.toArray:=by rw [List.map_toArray,ha.evs hv]
 unfold Oper.wp
 have hr:(execOp a.eval ⟨dst,.call { callee:=.value x,args:=args.toArray,argTypes:=tys },ty,pos,aft,gd⟩).run P w = .ok (.enter f (first++vs).toArray) w:=by
  simp [execOp,resolve,ha.ev hx,Deferred.ofValue,invoke,hcall,hm]
 rw [hr]
 exact Calls.mono hc.run λe' w' ⟨v,he,hR⟩=>by subst he;exact ⟨v,rfl,hR⟩⟩
end
end Go.Vw
namespace Go.Vw
open Go.RowKit Dat
section
variable {α:Type}{kv:α->Value}{ok:α->Prop}{w w':World}{g:Nat}{f:α->Bool}
variable {X:Nat->Prop}{P:Program}{N:Nat}{e:Env}{dst:Option Tmp}{ty:TypeId}{p:String}{aft:Array Edge}{gd:Option (Nat×Bool)}{x y z:Operand}{T:Nat}{k:α}
end
theorem nm0 {k:Nat}:k∉([]:List Nat):=by simp
end Go.Vw
namespace Go.Vw
open Go.RowKit Dat
inductive LfE (P:Program):Nat->Value->Value->Bool->Prop
 | int {t:Nat} {p q:Int} (h:P.underlying t=some (.int .i64)):LfE P t (vI p) (vI q) (p==q)
 | str {t:Nat} {s r:Str} (h:P.underlying t=some .string):LfE P t s.v r.v (s.b==r.b)
 | bool {t:Nat} {p q:Bool} (h:P.underlying t=some .bool):LfE P t (vB p) (vB q) (p==q)
inductive FsE (P:Program)(xs ys:Array Value):List Field->Bool->Prop
 | nil:FsE P xs ys [] true
 | cons {f:Field} {fs:List Field} {a b:Value} {r q:Bool} (hn:(f.name != "_")=true) (hg:∀w,(isAgg f.type).run P w = .ok false w) (hx:xs[f.offset]? = some a) (hy:ys[f.offset]? = some b) (hl:LfE P f.type a b r) (ht:FsE P xs ys fs q):FsE P xs ys (f::fs) (r && q)
theorem LfE.run {P:Program}{t:Nat}{a b:Value}{r:Bool}(h:LfE P t a b r)(d:Nat)(w:World):(Op.equalIn (d+1) t a b).run P w = .ok r w:=by
 cases h with
 | int h=>exact run_equalIn_int w d t _ _ _ _ h
 | str h =>
  rename_i s r
  have:=run_equalIn_string w d t ⟨s.b.toArray⟩ ⟨r.b.toArray⟩ h
  rw [m_h,m_h] at this
  exact this
 | bool h=>exact run_equalIn_bool' w d t _ _ h
theorem m_1 {P:Program}{t:Nat}{xs:Array Value}{o:Nat}{v:Value}(hg:∀w,(isAgg t).run P w = .ok false w)(hx:xs[o]? = some v)(w:World):(part t xs o).run P w = .ok v w:=by
 simp [part,hg,hx,Result.andThen]
theorem FsE.run {P:Program}{xs ys:Array Value}{fs:List Field}{r:Bool}(h:FsE P xs ys fs r)(d:Nat)(w:World):(Op.eqFields (d+1) xs ys fs).run P w = .ok r w:=by
 induction h with
 | nil=>simp [Op.eqFields]
 | cons hn hg hx hy hl ht ih =>
  rename_i f fs a b r q
  have hn':f.name ≠ "_" := by simpa using hn
  simp only [Op.eqFields,if_pos hn',Sem.run_bind,m_1 hg hx,m_1 hg hy,Result.andThen_ok,hl.run d w]
  cases r with
  | true=>simp only [Bool.not_true,Bool.false_eq_true,if_false,Bool.true_and];exact ih
  | false=>simp
structure EqA {α:Type}[DecidableEq α](P:Program)(T:Nat)(kv:α->Value):Prop where
 run:∀x y,∃xs ys fs,kv x = .agg xs/\kv y = .agg ys/\P.underlying T=some (.struct fs)/\FsE P xs ys fs.toList (decide<|x=y)
 stood:P.stoodInHeld T=false
 guard:P.eqGuardType P.depth T=false
section
variable {α:Type}[DecidableEq α]{kv:α->Value}{w:World}{X:Nat->Prop}{P:Program}{N:Nat}{e:Env}{dst:Option Tmp}{ty:TypeId}{pos:String}{aft:Array Edge}{gd:Option (Nat×Bool)}{x y:Operand}{T T':Nat}{a b:α}
theorem EqA.eql (E:EqA P T kv)(w:World):(Op.equalIn 10000 T (kv a)<|kv b).run P w = .ok (decide<|a=b) w:=by
 obtain ⟨xs,ys,fs,h1,h2,h3,h4⟩:=E.run a b;have hf:P.fieldsOf T=fs:=by unfold Program.fieldsOf;rw [h3]
 rw [h1,h2,run_equalIn_struct w 9999 T xs ys (by rw [h3,hf]) E.stood,hf]
 exact h4.run 9998 w
end
theorem h_U {w:World}{x:UInt8}{i:Int}(h:byteI x=i):own w [] [.int .u8 i] x:=by subst h;exact a_u
section
variable {α:Type}{kv:α->Value}{ok:α->Prop}{w w':World}{g:Nat}{f:α->Bool}{P:Program}{N:Nat}{e:Env}{dst:Option Tmp}{ty:TypeId}{p:String}{aft:Array Edge}{gd:Option (Nat×Bool)}{x y z:Operand}{T U:Nat}{k:α}
end
section
variable {P:Program}{N:Nat}{e:Env}{w:World}{fn:Func}{R:Value->World->Prop}
end
end Go.Vw
namespace Go.Vw
open Go.RowKit Dat
structure k_y {α:Type}[Dat α](w:World)(S:List Nat)(ao:Option Addr)(g n c:Nat)(i:Int)(l:List α)(cs:List Value)(Si:List Nat):Prop where
 eao:ao=some ⟨g,0,none⟩
 hn:n=l.length
 lo:0<=i
 hi:i<(l.length:Int)
 gN:g∉Si
 gS:g∈S
 lt:g<w.heap.size
 cur:∃cur,Blk w g cur/\cur.length=c * sz α/\i.toNat<c/\X_ (sz α) i.toNat cur=cs
 close:∀(Y:Nat->Prop)(w':World)(cur cur':List Value)(x':α)(Si':List Nat),(∀k∈S,Y k->k=g∨k∈Si)->Blk w g cur->Blk w' g cur'->cur'.length=cur.length->(∀j,j<c->j ≠ i.toNat->X_ (sz α) j cur'=X_ (sz α) j cur)->own w' Si' (X_ (sz α) i.toNat cur') x'->Chg Y w w'->Si'.Nodup->(∀k∈Si',k∈Si∨w.heap.size<=k) ->
  ∃S',a_ w' S' (.slice ao n c) (l.set i.toNat x')/\S'.Nodup/\(∀k∈S',k∈S∨w.heap.size<=k)
theorem g_V {α:Type}[Dat α]{w:World}{S:List Nat}{ao:Option Addr}{g n c:Nat}{i:Int}{l:List α}{x:α}(ha:ao=some ⟨g,0,none⟩)(ho:a_ w S (.slice ao n c) l)(hN:S.Nodup)(hx:idx l i=some x) :
  ∃cs Si,u_ w g (0+i.toNat * sz α) cs/\own w Si cs x/\Si.Nodup/\(∀k∈Si,k∈S)/\g∈S/\k_y w S ao g n c i l cs Si:=by
 subst ha;obtain ⟨I,hx',hl⟩:=b_e hx;obtain ⟨cur,Si,h1,h2,h3,h4,h5,h6,J,L,G,H⟩:=m_c ho hN hx';refine ⟨X_ (sz α) i.toNat cur,Si,?_,h5,h6,J,G,⟨rfl,h4,I,by omega,L,G,h1.lt,⟨cur,h1,h2,h3,rfl⟩,?_⟩⟩
 .rw [Nat.zero_add];exact h1.cells _ _
 .intro Y w' O cur' x' Si' hY hb hb' hl hch hx' hc hN' hsub;obtain rfl:=h1.uniq hb;exact H Y w' cur' x' Si' hY hb' hl hch hx' hc hN' hsub
section
variable {P:Program}{N:Nat}{ops:Array Oper}{K:Act->World->Prop}{T0:Nat}{p:a_E}{op:Op}{d:Nat}{e:Env}{w:World}{X:Nat->Prop}{dst:Option Tmp}{T E:Nat}{ty:TypeId}{pos:String}{aft:Array Edge}{gd:Option (Nat×Bool)}{x y:Operand}
theorem dAn {i:Nat}{v:Value}(ho:ops[i]? = some ⟨some d,op,ty,pos,aft,none⟩)(hf:Nat.blt d N=true)(h:Rd noX P N ⟨some d,op,ty,pos,aft,none⟩ e w v)(k:PR X P N ops T0 K p ((d,v)::e) w):PR X P N ops T0 K (.ef i p) e w :=
 k_s (R:=λv' w'=>v'=v/\w'=w) ho rfl hf (d_g λa ha=>⟨v,w,h a ha w<|Chg.refl _ _,rfl,rfl⟩) (.inr λ_ _ h=>by rw [h.2];exact Chg.refl _ _) (λv' w' h=>by obtain ⟨rfl,rfl⟩:=h;exact k)
theorem g_W {α:Type}[Dat α]{ao:Option Addr}{g n c sz':Nat}{w0:World}{S Si:List Nat}{cs:List Value}{l:List α}{i:Int}{kk:IntKind}(hT:P.underlying T=some (.slice E))(hs:∀w,(sizeOf E).run P w = .ok sz' w)(hx:ev e x=some (.slice ao n c))(hy:ev e y=some (.int kk i))(hL:k_y w0 S ao g n c i l cs Si) :
  Rd X P N ⟨dst,.indexAddr T x y,ty,pos,aft,gd⟩ e w (.pointer<|some ⟨g,0+i.toNat * sz',none⟩):=by
 obtain ⟨rfl,rfl,G,h1,_⟩:=hL;exact i_8 (k:=kk) hT hs hx hy G h1
theorem g_X {α:Type}[Dat α]{Y:Nat->Prop}{S Si Si':List Nat}{g n c o sz':Nat}{ao:Option Addr}{w0:World}{i:Int}{l:List α}{cs:List Value}{x':α}{u:Value}(hs:∀w,(sizeOf T).run P w = .ok 1 w)(hsz:sz'=sz α)(hx:ev e x=some (.pointer<|some ⟨g,0+i.toNat * sz'+o,none⟩))(hy:ev e y=some u)(hu:u.cells.toList=[u])(h1:u.oneCell'=true)
  (hL:k_y w0 S ao g n c i l cs Si) (hc:Chg Y w0 w) (hY:∀k∈S,Y k->k∈Si) (ho:own w Si' (cs.set o u) x') (hN:Si'.Nodup) (hsub:∀k∈Si',k∈Si∨w0.heap.size<=k) (hlt:o<sz') :
  Ef P N ⟨none,.store T x y,ty,pos,aft,gd⟩ e w (λ_ w'=>∃S',Chg (· ∈ S) w w'/\a_ w' S' (.slice ao n c) (l.set i.toNat x')/\S'.Nodup/\(∀k∈S',k∈S∨w0.heap.size<=k)):=by
 subst hsz;obtain ⟨cur,G,hcl,hic,hcs⟩:=hL.cur;have hB:=G.chg hc<|λh=>hL.gN<|hY g hL.gS h;have hle:i.toNat * sz α+sz α<=cur.length:=by rw [hcl,← Nat.succ_mul];exact Nat.mul_le_mul_right _ (by omega)
 have hus:u.cells.size=1:=by rw [← Array.length_toList,hu];rfl
 have h:=c_U (P:=P) (N:=N) (ty:=ty) (pos:=pos) (aft:=aft) (gd:=gd) hs hx hy hB hus (by omega) (by rw [hu];simpa using h1) rfl
 constructor
 intro a ha Q;refine Oper.wp_mono ?_<|h.run a ha Q;rintro a' w' ⟨H,rfl,hb,hch⟩
 have hb':Blk w' g (cur.set (i.toNat * sz α+o) u):=by
  rw [hu] at hb
  simp only [Nat.zero_add,List.length_cons,List.length_nil] at hb
  rw [List.set_eq_take_append_cons_drop,if_pos (by omega)]
  simpa using hb
 obtain ⟨S',k1,k2,k3⟩:=hL.close (λk=>Y k∨k=g) w' cur (cur.set (i.toNat * sz α+o) u) x' Si' (λk hk h=>h.elim (λh=>.inr (hY k hk h)) .inl) G hb' (by simp) (by
   intro j hj hji;unfold X_
   apply List.ext_getElem?
   intro q
   rw [List.getElem?_take,List.getElem?_take]
   split
   .rename_i hq
    rw [List.getElem?_drop,List.getElem?_drop,List.getElem?_set_ne]
    intro he
    rcases Nat.lt_or_ge j i.toNat with h | h
    .have:=Nat.mul_le_mul_right (sz α)<|Nat.succ_le_of_lt h
     rw [Nat.succ_mul] at this
     omega
    .have:=Nat.mul_le_mul_right (sz α)<|Nat.succ_le_of_lt<|Nat.lt_of_le_of_ne h<|Ne.symm hji
     rw [Nat.succ_mul] at this
     omega
   .rfl) (by
   have:X_ (sz α) i.toNat (cur.set (i.toNat * sz α+o) u)=(X_ (sz α) i.toNat cur).set o u:=by
    unfold X_
    rw [List.drop_set,if_neg (by omega),show i.toNat * sz α+o - i.toNat * sz α=o by omega,List.take_set]
   rw [this,hcs]
   exact d_U ho hch (λk hk h=>(hsub k hk).elim (λhk'=>hL.gN (h ▸ hk')) (λhk'=>absurd hL.lt (Nat.not_lt.2 (h ▸ hk'))))) ((hc.mono λk _ h=>.inl h).trans (hch.mono λk _ h=>.inr h)) hN hsub
 exact ⟨H,rfl,S',hch.mono<|λk _ hk=>hk ▸ hL.gS,k1,k2,k3⟩
end
def Hx (L:List Nat)(ao:Option Addr)(z k:Nat):Prop:=(k∈L/\∀a,ao=some a->a.block ≠ k)∨z<=k
theorem c_G {L:List Nat}{ao:Option Addr}{z k:Nat}(h:k∉L)(hl:k<z):¬Hx L ao z k:=λh'=>h'.elim (λx=>h x.1)<|λh2=>absurd hl<|Nat.not_lt.2 h2
theorem hxr {L:List Nat}{ao:Option Addr}{z g:Nat}(ha:ao=some ⟨g,0,none⟩)(hl:g<z):¬Hx L ao z g:=λh'=>h'.elim (λx=>x.2 _ ha rfl)<|λh2=>absurd hl<|Nat.not_lt.2 h2
theorem hxm {L S:List Nat}{ao:Option Addr}{z g:Nat}(ha:ao=some ⟨g,0,none⟩)(h1:∀k∈S,k∈L∨z<=k)(h2:g∉S):∀k∈S,Hx L ao z k:=λk hk=>(h1 k hk).imp (λh=>⟨h,λa e he=>h2 (by
 rw [ha] at e
 have:=Option.some.inj e;subst this;have he':g=k:=he;subst he'
 exact hk)⟩) id
end Go.Vw
namespace Go.Vw
open Go.RowKit Dat
section
variable {X:Nat->Prop}{P:Program}{N:Nat}{e:Env}{w:World}{dst:Option Tmp}{ty:TypeId}{pos:String}{aft:Array Edge}{gd:Option (Nat×Bool)}{x:Operand}
theorem k_v {f:FuncId}{caps:List Operand}{vs:List Value}(hv:evs e caps=some vs):Rd X P N ⟨dst,.makeFunc (.func f) #[] caps.toArray,ty,pos,aft,gd⟩ e w (.func (.func f) #[] vs.toArray):=λa ha w' _=>by
 have hm:(caps.toArray.map a.eval)=vs.toArray:=by rw [List.map_toArray,ha.evs hv]
 simp [execOp,Instr.makeFunc,hm]
theorem f_F {f:FuncId}{args:List Operand}{tys:Array TypeId}{vs caps:List Value}{R:Value->World->Prop}(hcall:∀(args:Array Value)(w:World),(callFunc f args).run P w = .ok (.enter f args) w)(hx:ev e x=some (.func (.func f) #[] caps.toArray))(hv:evs e args=some vs)(hc:n_ P f (vs++caps) w R) :
  Ef P N ⟨dst,.call { callee:=.value x,args:=args.toArray,argTypes:=tys },ty,pos,aft,gd⟩ e w R:=⟨λa ha Q=>by
 have hm:(args.toArray.map a.eval)=vs.toArray:=by rw [List.map_toArray,ha.evs hv]
 unfold Oper.wp
 have hr:(execOp a.eval ⟨dst,.call { callee:=.value x,args:=args.toArray,argTypes:=tys },ty,pos,aft,gd⟩).run P w = .ok (.enter f (vs++caps).toArray) w:=by
  simp [execOp,resolve,ha.ev hx,Deferred.ofValue,invoke,hcall,hm]
 rw [hr]
 exact Calls.mono hc.run λe' w' ⟨v,he,hR⟩=>by subst he;exact ⟨v,rfl,hR⟩⟩
end
end Go.Vw
namespace Go.Vw
open Go.RowKit Dat
theorem least {p:Nat->Prop}(h:∃ m,p m):∃m,p m/\∀k,p k->m<=k:=by
 obtain ⟨m,hm⟩:=h
 induction m using Nat.strongRecOn with
 | _ m ih =>
  by_cases hk:∃k,k<m/\p k
  .obtain ⟨k,hk,hp⟩:=hk;exact ih k hk hp
  .exact ⟨m,hm,λk hp=>Nat.le_of_not_lt λh=>hk ⟨k,h,hp⟩⟩
section
variable {P:Program}{N:Nat}{e:Env}{w:World}{K:Act->World->Prop}{Q:Exit->Act->World->Prop}{l:Nat}{rest c:Code}
end
end Go.Vw
namespace Go.Vw
open Go.RowKit Dat
def WCI (P:Program)(N n l:Nat)(c:Code)(K:Act->World->Prop)(Q:Exit->Act->World->Prop)(e:Env)(w:World):Prop :=
 ∀a,Sat N e a->c.wpIn (Fence.wide.inRound l) n P (Exit.then K Q) a w
section
variable {P:Program}{N n l:Nat}{K:Act->World->Prop}{Q:Exit->Act->World->Prop}{e:Env}{w:World}
theorem WCI.of_KC {y:Code}(h:WCI P N n l y K Q e w):AtK N (λa w=>y.wpIn (Fence.wide.inRound l) n P (Exit.then K Q) a w) e w:=h
variable {ops:Array Oper}{rest:List Oper}{d:Tmp}{op:Op}{ty:TypeId}{pos:String}{aft:Array Edge}
end
def i_t (W:World)(b g:Nat):Prop:=∃n c,W.cell? ⟨b,0,none⟩=some (.slice (some ⟨g,0,none⟩) n c)
def r_z (b:Nat)(W:World)(k:Nat):Prop:=k=b∨i_t W b k∨∃o,W.heap[k]? = some o/\o.isCells=false
structure KpS (b:Nat)(W W':World):Prop where
 chg:Chg (r_z b W) W W'
 row:∀g,i_t W' b g->i_t W b g∨W.heap.size<=g
theorem KpS.trans {b:Nat}{A B C:World}(h:KpS b A B)(k:KpS b B C):KpS b A C :=
 ⟨⟨k.chg.os.trans h.chg.os,k.chg.tape.trans h.chg.tape,k.chg.output.trans h.chg.output,Nat.le_trans h.chg.size k.chg.size,λi hi hx=>by
  have h1:=h.chg.block i hi hx;refine (k.chg.block i (Nat.lt_of_lt_of_le hi h.chg.size) λhm=>?_).trans h1
  rcases hm with rfl | hm | ⟨o,ho,hc⟩
  .exact hx<|.inl rfl
  .rcases h.row i hm with h2 | h2
   .exact hx<|.inr<|.inl h2
   .omega
  .exact hx (.inr (.inr ⟨o,h1.symm.trans ho,hc⟩))⟩,λg hg=>by
  rcases k.row g hg with h1 | h1
  .exact h.row g h1
  .exact .inr (Nat.le_trans h.chg.size h1)⟩
theorem KpS.put {b:Nat}(W:World)(l:Nat)(o o':Obj)(hb:b<l)(hl:W.heap[l]? = some o)(hc:o.isCells=false):KpS b W (W.putObj l o'):=by
 have hlt:=(Array.getElem?_eq_some_iff.1 hl).1;refine ⟨⟨rfl,rfl,rfl,by simp [World.putObj],λk _ hx=>?_⟩,λg hg=>?_⟩
 .by_cases h:k=l
  .subst h;exact absurd (.inr<|.inr ⟨o,hl,hc⟩) hx
  .exact World.putObj_heap_other h
 .left
  obtain ⟨n,c,h⟩:=hg;refine ⟨n,c,?_⟩
  rw [← h]
  exact (World.cell?_of_block (w:=W) (a:=⟨b,0,none⟩)<|World.putObj_heap_other<|Nat.ne_of_lt hb).symm
theorem r_A {α:Type}[Dat α][b_m α]{w:World}{S:List Nat}{v:Value}{l:List α}(h:a_ w S v l):∀k∈S,∃cur,Blk w k cur:=by
 rcases h with ⟨_,_,rfl⟩ | ⟨g,c,cur,Ss,_,_,_,hb,_,rfl,hl,hi⟩
 .intro k hk;cases hk
 .intro k hk
  rcases List.mem_cons.1 hk with rfl | hk
  .exact ⟨cur,hb⟩
  .obtain ⟨Si,hSi,hk⟩:=List.mem_flatten.1 hk;obtain ⟨i,hi'⟩:=List.mem_iff_getElem?.1 hSi;have hlt:=(List.getElem?_eq_some_iff.1 hi').1;have:=b_m.none<|hi i l[i] Si (List.getElem?_eq_getElem (by omega)) hi'
   rw [this] at hk;cases hk
theorem Blk.isCells {w:World}{k:Nat}{cur:List Value}(h:Blk w k cur){o:Obj}(ho:w.heap[k]? = some o):o.isCells=true:=by
 obtain ⟨T,fr,h,_⟩:=h
 rw [h] at ho;cases ho;rfl
theorem KpS.own {b:Nat}{α:Type}[Dat α][b_m α]{w w':World}{S:List Nat}{v:Value}{l:List α}(h:a_ w S v l)(hk:KpS b w w')(hb:b∉S)(hr:∀g,i_t w b g->g∉S):a_ w' S v l/\∀g,i_t w' b g->g∉S:=by
 refine ⟨h.chg hk.chg λk hm ht=>?_,λg hg hm=>?_⟩
 .rcases ht with rfl | ht | ⟨o,ho,hc⟩
  .exact hb hm
  .exact hr k ht hm
  .obtain ⟨cur,hB⟩:=r_A h k hm
   rw [hB.isCells ho] at hc;cases hc
 .rcases hk.row g hg with h1 | h1
  .exact hr g h1 hm
  .exact absurd (h.lt g hm)<|Nat.not_lt.2 h1
theorem r_B {w w':World}{row:Option Nat}(h:w.grownBy w' row):Chg (λk=>row=some k) w w':=⟨h.os,h.tape,h.output,h.size,λk hk hx=>h.block k hk λe=>hx e.symm⟩
section
variable {P:Program}{N:Nat}{e:Env}{w:World}{fn:Func}{R:Value->World->Prop}
end
section
variable {X:Nat->Prop}{P:Program}{N:Nat}{e:Env}{w:World}{dst:Option Tmp}{ty:TypeId}{pos:String}{aft:Array Edge}{gd:Option (Nat×Bool)}{x:Operand}{T E:Nat}
end
theorem Blk.grown {w w':World}{row:Option Nat}{g:Nat}{l:List Value}(h:Blk w g l)(hg:w.grownBy w' row)(hr:∀r,row=some r->∃o:Obj,w.heap[r]? = some o/\o.isCells=false):Blk w' g l:=h.chg (r_B hg) λhe=>by
 obtain ⟨o,ho,hc⟩:=hr g he
 rw [h.isCells ho] at hc;cases hc
end Go.Vw
namespace Go.Vw
open Go.RowKit Dat
def keyL (n:Int):Value:=.agg #[vI n]
def c_j {α:Type}[Dat α](w:World)(S:List Nat)(g:Nat)(l:List α):Prop :=
 ∃es clock Ss,w.heap[g]? = some (.map es clock)/\es.size=l.length/\List.length Ss=l.length/\S=List.flatten Ss/\l.length<=LIM /\
  ∀(i:Nat)(x:α)(Si:List Nat)(en:MapEntry),l[i]? = some x->Ss[i]? = some Si->es[i]? = some en->en.key=keyL (i:Int)/\∃cs,en.val = .agg cs.toArray/\own w Si cs x
section
variable {α:Type}[Dat α]{w w':World}{S:List Nat}{g:Nat}{l:List α}
theorem c_j.lt (h:c_j w S g l):g<w.heap.size:=by obtain ⟨es,c,Ss,h,_⟩:=h;exact (Array.getElem?_eq_some_iff.1 h).1
theorem c_j.ltS (h:c_j w S g l):∀k∈S,k<w.heap.size:=by
 obtain ⟨es,c,Ss,_,h1,h2,rfl,_,h3⟩:=h;intro k hk;obtain ⟨Si,hSi,hk⟩:=List.mem_flatten.1 hk;obtain ⟨i,hi⟩:=List.mem_iff_getElem?.1 hSi;have hil:=(List.getElem?_eq_some_iff.1 hi).1;have hie:i<es.size:=by omega
 obtain ⟨_,cs,_,ho⟩:=h3 i l[i] Si es[i] (List.getElem?_eq_getElem (by omega)) hi (Array.getElem?_eq_getElem hie);exact own_lt ho k hk
theorem c_j.of_eq (h:c_j w S g l)(he:w'.heap[g]? = w.heap[g]?)(hs:∀k∈S,w'.heap[k]? = w.heap[k]?):c_j w' S g l:=by
 obtain ⟨es,c,Ss,h,h1,h2,rfl,hl,h3⟩:=h;refine ⟨es,c,Ss,he.trans h,h1,h2,rfl,hl,λi x Si en a b d=>?_⟩;obtain ⟨k1,cs,k2,k3⟩:=h3 i x Si en a b d;exact ⟨k1,cs,k2,own_eq k3 λk hk=>hs k<|List.mem_flatten.2 ⟨Si,List.mem_of_getElem? b,hk⟩⟩
theorem c_j.ext (h:c_j w S g l)(hb:Below w.heap.size w w'):c_j w' S g l:=h.of_eq (hb.block g h.lt) λk hk=>hb.block k<|h.ltS k hk
theorem c_j.chg {X:Nat->Prop}(h:c_j w S g l)(hc:Chg X w w')(hx:¬X g)(hs:∀k∈S,¬X k):c_j w' S g l:=h.of_eq (hc.block g h.lt hx) λk hk=>hc.block k (h.ltS k hk)<|hs k hk
variable {X:Nat->Prop}{P:Program}{N:Nat}{e:Env}{dst:Option Tmp}{ty:TypeId}{p:String}{aft:Array Edge}{gd:Option (Nat×Bool)}{x y z:Operand}{T:Nat}
end
def c_2 {α:Type}[Dat α](w:World)(S:List Nat)(v:Value)(l:List α):Prop:=∃g S0,v = .map (some g)/\S=g::S0/\c_j w S0 g l/\g∉S0
section
variable {α:Type}[Dat α]{w w':World}{S:List Nat}{l:List α}{v:Value}
theorem c_2.lt (h:c_2 w S v l):∀k∈S,k<w.heap.size:=by
 obtain ⟨g,S0,rfl,rfl,h,_⟩:=h;intro k hk
 rcases List.mem_cons.1 hk with rfl | hk
 .exact h.lt
 .exact h.ltS k hk
theorem c_2.ext (h:c_2 w S v l)(hb:Below w.heap.size w w'):c_2 w' S v l:=by
 obtain ⟨g,S0,rfl,rfl,h,hn⟩:=h;exact ⟨g,S0,rfl,rfl,h.ext hb,hn⟩
theorem c_2.chg {X:Nat->Prop}(h:c_2 w S v l)(hc:Chg X w w')(hx:∀k∈S,¬X k):c_2 w' S v l:=by
 obtain ⟨g,S0,rfl,rfl,h,hn⟩:=h;exact ⟨g,S0,rfl,rfl,h.chg hc (hx _ List.mem_cons_self)<|λk hk=>hx k<|List.mem_cons_of_mem _ hk,hn⟩
theorem c_2.len (h:c_2 w S v l):l.length<=LEN:=by
 obtain ⟨g,S0,rfl,rfl,⟨es,c,Ss,_,_,_,_,h,_⟩,hn⟩:=h;have:=f_I;omega
abbrev c_2.e:=@c_2.ext
abbrev c_2.c:=@c_2.chg
variable {X:Nat->Prop}{P:Program}{N:Nat}{e:Env}{dst:Option Tmp}{ty:TypeId}{p:String}{aft:Array Edge}{gd:Option (Nat×Bool)}{x y z:Operand}{T:Nat}
end
end Go.Vw
namespace Go.Vw
open Go.RowKit Dat
structure Raw (α:Type)[Dat α] where
 cs:List Value
 len:cs.length=sz α
 one:∀c∈cs,c.oneCell'=true
instance {α:Type}[Dat α]:Dat (Raw α) where
 sz:=sz α
 rep _ _ cs x:=cs=x.cs
 own _ S cs x:=S=[]/\cs=x.cs
 rep_len:=by rintro _ _ _ x rfl;exact x.len
 rep_one:=by rintro _ _ _ x rfl;exact x.one
 rep_eq h _:=h
 rep_mono h _:=h
 own_eq h _:=h
 own_lt:=by rintro _ _ _ _ ⟨rfl,_⟩ k hk;cases hk
 own_rep:=by rintro _ _ _ _ _ ⟨rfl,h⟩ _;exact h
 pos:=pos (α:=α)
instance {α:Type}[Dat α]:b_m (Raw α):=⟨λh=>⟨rfl,h⟩,λh=>h.1⟩
def c_b {α:Type}[Dat α](w:World)(B:Zone)(rs:List (Raw α))(l:List α):Prop :=
 rs.length=l.length/\∀(i:Nat)(r:Raw α)(x:α),rs[i]? = some r->l[i]? = some x->rep w B r.cs x
theorem c_b.eq {α:Type}[Dat α]{w w':World}{B:Zone}{rs:List (Raw α)}{l:List α}(h:c_b w B rs l)(he:∀k,B k->k<w.heap.size->w'.heap[k]? = w.heap[k]?):c_b w' B rs l:=⟨h.1,λi r x a b=>rep_eq (h.2 i r x a b) he⟩
theorem c_b.mono {α:Type}[Dat α]{w:World}{B B':Zone}{rs:List (Raw α)}{l:List α}(h:c_b w B rs l)(hb:B<=B'):c_b w B' rs l:=⟨h.1,λi r x a b=>rep_mono (h.2 i r x a b) hb⟩
structure N_ {α:Type}[Dat α](w:World)(S:List Nat)(B:Zone)(v:Value)(l:List α):Prop where
 ex:(∃ao,v = .slice ao 0 0/\l=[]/\S=[])∨∃rs:List (Raw α),a_ w S v rs/\c_b w B rs l
section
variable {α:Type}[Dat α]{w w':World}{S:List Nat}{B:Zone}{v:Value}{l:List α}
theorem N_.lt (h:N_ w S B v l):∀k∈S,k<w.heap.size:=by
 obtain ⟨⟨_,_,_,rfl⟩ | ⟨rs,h1,_⟩⟩:=h
 .intro k hk;cases hk
 .exact a_.lt h1
theorem N_.mono {B':Zone}(h:N_ w S B v l)(hb:B<=B'):N_ w S B' v l:=by
 obtain ⟨h | ⟨rs,h1,h2⟩⟩:=h
 .exact ⟨.inl h⟩
 .exact ⟨.inr ⟨rs,h1,h2.mono hb⟩⟩
theorem N_.ext (h:N_ w S B v l)(hb:Below w.heap.size w w'):N_ w' S B v l:=by
 obtain ⟨h | ⟨rs,h1,h2⟩⟩:=h
 .exact ⟨.inl h⟩
 .exact ⟨.inr ⟨rs,h1.ext hb,h2.eq λk _ hk=>hb.block k hk⟩⟩
theorem N_.chg {X:Nat->Prop}(h:N_ w S B v l)(hc:Chg X w w')(hx:∀k∈S,¬X k)(hb:∀k,B k->¬X k):N_ w' S B v l:=by
 obtain ⟨h | ⟨rs,h1,h2⟩⟩:=h
 .exact ⟨.inl h⟩
 .exact ⟨.inr ⟨rs,h1.chg hc hx,h2.eq λk h3 hk=>hc.block k hk<|hb k h3⟩⟩
theorem N_.rep (h:N_ w S B v l){B':Zone}(hS:∀k∈S,B' k)(hb:B<=B'):e_ w B' v l:=by
 obtain ⟨⟨ao,rfl,rfl,rfl⟩ | ⟨rs,h1,h2⟩⟩:=h
 .exact ⟨ao,0,rfl,Nat.le_refl _,Nat.zero_le _,λ_=>rfl,λp _=>⟨λh=>absurd rfl h,λh=>absurd rfl h,λi x hx=>by simp at hx⟩⟩
 obtain ⟨ao,c,hv,g1,O,G,H⟩:=d_c h1 hS;have hl:=h2.1;refine ⟨ao,c,by rw [hv,hl],by omega,by omega,λh=>?_,λp hp=>?_⟩
 .have:=G h;subst this;exact List.eq_nil_of_length_eq_zero (by simpa using hl.symm)
 .obtain ⟨k1,k2,k3⟩:=H p hp;have hne:l ≠ []->rs ≠ []:=by rintro h rfl;exact h<|List.eq_nil_of_length_eq_zero (by simpa using hl.symm)
  refine ⟨λh=>k1<|hne h,λh=>k2<|hne h,λi x hx=>?_⟩;obtain ⟨r,hr⟩:=e_L hl hx;obtain ⟨cs,I,J⟩:=k3 i r hr;have L:cs=r.cs:=J;subst L;exact ⟨r.cs,I,rep_mono (h2.2 i r x hr hx) hb⟩
theorem l_6 {cs:List Value}{x:α}(h:rep w B cs x):∃r:Raw α,r.cs=cs:=⟨⟨cs,rep_len h,rep_one h⟩,rfl⟩
theorem n_L {l m:List α}{x:α}(h:psh l x=some m){rs:List (Raw α)}(hl:rs.length=l.length)(r:Raw α):psh rs r=some (rs++[r])/\m=l++[x]:=by
 unfold psh at *
 rw [hl]
 split at h
 .rename_i h1;rw [if_pos h1];exact ⟨rfl,(Option.some.inj h).symm⟩
 .cases h
theorem c_b.app {rs ts:List (Raw α)}{xs:List α}(h:c_b w B rs l)(k:c_b w B ts xs):c_b w B (rs++ts) (l++xs):=by
 refine ⟨by simp [h.1,k.1],λi r x a b=>?_⟩
 by_cases hi:i<rs.length
 .rw [List.getElem?_append_left hi] at a
  rw [List.getElem?_append_left (by rw [← h.1];exact hi)] at b
  exact h.2 i r x a b
 .rw [List.getElem?_append_right (by omega)] at a
  rw [List.getElem?_append_right (by rw [← h.1];omega),← h.1] at b
  exact k.2 _ r x a b
theorem c_b.set {rs:List (Raw α)}{i:Nat}{r:Raw α}{x:α}(h:c_b w B rs l)(hr:Dat.rep w B r.cs x):c_b w B (rs.set i r) (l.set i x):=by
 refine ⟨by simp [h.1],λj q y a b=>?_⟩
 by_cases hj:i=j
 .subst hj;have h1:=(List.getElem?_eq_some_iff.1 a).1;have h2:=(List.getElem?_eq_some_iff.1 b).1
  simp only [List.length_set] at h1 h2
  rw [List.getElem?_set_self h1] at a
  rw [List.getElem?_set_self h2] at b
  cases a;cases b;exact hr
 .rw [List.getElem?_set_ne hj] at a b
  exact h.2 j q y a b
end
section
variable {P:Program}{N:Nat}{X:Nat->Prop}{e:Env}{w:World}{dst:Option Tmp}{ty:TypeId}{pos:String}{aft:Array Edge}{gd:Option (Nat×Bool)}{x y:Operand}{T E:TypeId}
theorem r_C {α:Type}[Dat α]{bytes:Nat}{zz:Value}(hE:El P T E (sz α) bytes zz){B:Zone}{xs:List α}{ts:List (Raw α)}{n0 H:Nat}{I G:Option Addr}(hm:app ([]:List (Raw α)) ts=some ([]++ts))(hx:ev e x=some (.slice G 0 0))(hy:ev e y=some (.slice I n0 H))
  (h3:e_ w w.heap.size (.slice I n0 H) ts) (h4:c_b w B ts xs) :
  Ef P N ⟨dst,.call { callee:=.builtin .append,args:=#[x,y],argTypes:=#[T,T] },ty,pos,aft,gd⟩ e w (λv' w'=>∃S' ao n c,v' = .slice ao n c/\Chg (· ∈ ([]:List Nat)) w w'/\N_ w' S' B (.slice ao n c) ([]++xs)/\S'.Nodup/\(∀k∈S',k∈([]:List Nat)∨w.heap.size<=k)):=by
 obtain ⟨_,hl⟩:=appS hm;have hLIM:LIM=4294967296:=rfl;have hLEN:LEN=140737488355328:=rfl;have hsm:=hE.small;obtain ⟨ao',c',he,g1,g2,g3,g4⟩:=h3
 simp only [Value.slice.injEq] at he
 obtain ⟨rfl,rfl,rfl⟩:=he;obtain ⟨i,hi,hz,hsz,hbz⟩:=info_parts hE.info;have hszR:i.size=sz (Raw α):=hsz
 constructor
 intro a ha Q;have hx':=ha.ev hx;have hy':=ha.ev hy;unfold Oper.wp
 have fin:∀v' w',(Builtin.append_ #[T,T] ty #[.slice G 0 0,.slice I ts.length H]).run P w = .ok v' w'->(execOp a.eval ⟨dst,.call { callee:=.builtin .append,args:=#[x,y],argTypes:=#[T,T] },ty,pos,aft,gd⟩).run P w = .ok (.value v') w':=by
  intro v' w' h
  simp [execOp,resolve,invoke,builtin,hx',hy',h]
 by_cases J:ts=[]
 .subst J;have hxs:xs=[]:=List.eq_nil_of_length_eq_zero (by simpa using h4.1.symm);subst hxs
  have hr:(Builtin.append_ #[T,T] ty #[.slice G 0 0,.slice I ([]:List (Raw α)).length H]).run P w = .ok (.slice G 0 0) w:=by
   cases G <;> cases I <;> simp [Builtin.append_,run_underlying hE.sl,sizeOf,typeInfo,hi,Builtin.lenOf,Builtin.firstCells,storeCells,loadCells,loadCellsFrom]
  rw [fin _ _ hr]
  exact ⟨_,rfl,[],G,0,0,rfl,Chg.refl _ _,⟨.inl ⟨G,rfl,rfl,rfl⟩⟩,s_,λk hk=>by cases hk⟩
 .have hpos:0<ts.length:=by cases ts with | nil=>exact absurd rfl J | cons a t=>simp
  cases hao:I with
  | none=>exact absurd (g3 hao) J
  | some p =>
   obtain ⟨k1,_,k3⟩:=g4 p hao;obtain ⟨news,L,n2,n3⟩:=m_k ts k3;subst hao
   simp at hl
   have hby:(0+ts.length) * i.bytes<=140737488355328:=by
    rw [hbz]
    have:=Nat.mul_le_mul (show 0+ts.length<=4294967296 by omega) hsm
    omega
   -- as onto nil, but that the old row may have an address
   have hr:∃v' w',(Builtin.append_ #[T,T] ty #[.slice G 0 0,.slice (some p) ts.length H]).run P w = .ok v' w'/\App w w' 0 ts.length (sz<|Raw α) (.slice none 0 0) v' news:=by
    have hn':∀j u,news[j]? = some u->w.cell? (p.add j)=some u:=λj u hu=>by
     have hsp:=k1 J;have hpe:p=⟨p.block,p.off,none⟩:=by cases p;simp only at hsp;rw [hsp]
     rw [hpe,Addr.add_lit];exact n2 j u hu
    have hge:=grownCap_ge w ts.length 0 E
    have W:Blk (w.drew.alloc<|.cells (news.toArray++Builtin.zeroCells zz.cells (grownCap w ts.length 0 E - ts.length)) E) w.heap.size ([]++news++(Builtin.zeroCells zz.cells<|grownCap w ts.length 0 E - ts.length).toList):=by
     have:=alloc_blk' w.drew (news.toArray++Builtin.zeroCells zz.cells (grownCap w ts.length 0 E - ts.length)) E
     simpa using this
    have Y:([]++news++(Builtin.zeroCells zz.cells<|grownCap w ts.length 0 E - ts.length).toList).length=grownCap w ts.length 0 E * sz (Raw α):=by
     simp only [List.nil_append,List.length_append,L,Array.length_toList,size_zeroCells,hE.zlen]
     have:sz (Raw α)=sz α:=rfl
     rw [this,← Nat.add_mul];congr 1;omega
    cases G with
    | none =>
     have hr:=run_append_nil (P:=P) w T ty E i zz hE.sl hi hz p ts.length H news (by rw [hszR];exact L) hn' hpos (by omega) (by have:=hby;simp only [Nat.zero_add] at this;omega);exact ⟨_,_,hr,.grown (grownCap w ts.length 0 E) [] _ (by simp) (by simpa using hge) W Y (by simp) (λg c cur h=>by cases h)<|Below.trans (j_q w)<|c_k w.drew _⟩
    | some q =>
     have hr:=run_append_grow (P:=P) w T ty E i zz hE.sl hi hz q 0 0 [] (by simp) (λj v hv=>by simp at hv) p ts.length H news (by rw [hszR];exact L) hn' (by omega) (by omega)<|growslice_fits (by omega) hby
     simp only [Nat.zero_add] at hr
     refine ⟨_,_,hr,.grown (grownCap w ts.length 0 E) [] (Builtin.zeroCells zz.cells<|grownCap w ts.length 0 E - ts.length).toList (by simp) (by simpa using hge) ?_ Y (by simp) (λg c cur h=>by cases h) (Below.trans (j_q w)<|c_k w.drew _)⟩
     simpa using W
   obtain ⟨v',w',hr,happ⟩:=hr
   rw [fin _ _ hr]
   obtain ⟨S',O,q2,V,q4⟩:=m_l (α:=Raw α) (S:=[]) (l:=[]) (xs:=ts) (Ts:=List.replicate ts.length []) (k_w w) s_ L (by simp) (λi z Ti hz hT=>by
    have:Ti=[]:=by
     have:=(List.getElem?_eq_some_iff.1 hT).2
     simpa using this.symm
    subst this
    exact ⟨rfl,n3 i z hz⟩) (by simp) (by simp) (by simp;omega) happ
   have hch:=V
   rw [List.nil_append] at O
   have he:∀k,B k->k<w.heap.size->w'.heap[k]? = w.heap[k]? := λk hk hk'=>V.block k hk' (by simp)
   obtain ⟨ao,c,hv,_⟩:=O.rep;subst hv;exact ⟨_,rfl,S',ao,_,c,rfl,V,⟨.inr ⟨ts,O,by rw [List.nil_append];exact h4.eq he⟩⟩,q2,λk hk=>(q4 k hk).elim .inl λh=>.inr<|h.elim (λh=>by simp at h) λh=>Nat.le_of_eq h.symm⟩
theorem r_D {α:Type}[Dat α]{bytes:Nat}{zz:Value}(hE:El P T E (sz α) bytes zz){B:Zone}{G:Option Addr}{m:List α}{v:α}{g:Nat}{cs:List Value}(hm:psh ([]:List α) v=some m)(hx:ev e x=some (.slice G 0 0))(hy:ev e y=some (.slice (some ⟨g,0,none⟩) 1 1))
  (hB:Blk w g cs) (hv:rep w B cs v) :
  Ef P N ⟨dst,.call { callee:=.builtin .append,args:=#[x,y],argTypes:=#[T,T] },ty,pos,aft,gd⟩ e w (λv' w'=>∃S' ao n c,v' = .slice ao n c/\Chg (· ∈ ([]:List Nat)) w w'/\N_ w' S' B (.slice ao n c) m/\S'.Nodup/\(∀k∈S',k∈([]:List Nat)∨w.heap.size<=k)):=by
 obtain ⟨r,rfl⟩:=l_6 hv;obtain ⟨_,rfl⟩:=n_L hm (rs:=([]:List (Raw α))) rfl r;refine r_C hE (ts:=[r]) (xs:=[v]) (by unfold app;rw [if_pos (by simp [LIM])]) hx hy ?_ ⟨rfl,λi q z a b=>?_⟩
 .refine ⟨some ⟨g,0,none⟩,1,rfl,Nat.le_refl _,by simp [LEN],λh=>(by cases h),λp hp=>?_⟩
  cases hp
  refine ⟨λ_=>rfl,λ_=>hB.lt,λi z hz=>?_⟩
  cases i with
  | succ i=>simp at hz
  | zero =>
   simp only [List.getElem?_cons_zero,Option.some.injEq] at hz
   subst hz;refine ⟨r.cs,?_,rfl⟩;have:=hB.cells 0 r.cs.length
   simpa using this
 .cases i with
  | zero=>cases a;cases b;exact hv
  | succ i=>simp at a
theorem k_3 {α:Type}[Dat α]{bytes:Nat}{zz:Value}(hE:El P T E (sz α) bytes zz){S:List Nat}{B:Zone}{sv:Value}{l m:List α}{v:α}{g:Nat}{cs:List Value}(hm:psh l v=some m)(hx:ev e x=some sv)(hy:ev e y=some (.slice (some ⟨g,0,none⟩) 1 1))
  (ho:N_ w S B sv l) (hN:S.Nodup) (hB:Blk w g cs) (hv:rep w B cs v) (hS:∀k∈S,¬B k) :
  Ef P N ⟨dst,.call { callee:=.builtin .append,args:=#[x,y],argTypes:=#[T,T] },ty,pos,aft,gd⟩ e w (λv' w'=>∃S' ao n c,v' = .slice ao n c/\Chg (· ∈ S) w w'/\N_ w' S' B (.slice ao n c) m/\S'.Nodup/\(∀k∈S',k∈S∨w.heap.size<=k)):=by
 obtain ⟨⟨G,rfl,rfl,rfl⟩ | ⟨rs,h1,h2⟩⟩:=ho
 .exact r_D hE hm hx hy hB hv
 obtain ⟨r,rfl⟩:=l_6 hv;obtain ⟨hp,rfl⟩:=n_L hm h2.1 r;have h:=a_j (α:=Raw α) (P:=P) (N:=N) (dst:=dst) (ty:=ty) (pos:=pos) (aft:=aft) (gd:=gd) hE hp hx hy h1 hN hB (show own w [] r.cs r from ⟨rfl,rfl⟩) c_g s_
 constructor
 intro a ha Q;refine Oper.wp_mono ?_<|h.run a ha Q;rintro a' w' ⟨v',rfl,S',ao,n,c,rfl,k1,k2,k3,k4⟩;refine ⟨_,rfl,S',ao,n,c,rfl,k1,⟨.inr ⟨_,k2,?_⟩⟩,k3,λk hk=>(k4 k hk).elim .inl λh=>.inr<|h.elim (λh=>by cases h) id⟩;have he:∀k,B k->k<w.heap.size->w'.heap[k]? = w.heap[k]? := λk hk hk'=>k1.block k hk' λhm=>hS k hm hk
 refine (h2.eq he).app ⟨rfl,λi q z a b=>?_⟩
 cases i with
 | zero=>cases a;cases b;exact rep_eq hv he
 | succ i=>simp at a
theorem r_E (ao:Option Addr)(k:Nat):ao.map (·.add (0 * k))=ao:=by
 cases ao with
 | none=>rfl
 | some p=>simp [Addr.add]
theorem n_M {α:Type}[Dat α][b_m α]{S:List Nat}{n c sz':Nat}{ao:Option Addr}{l m:List α}{b:Int}{hi:Option Operand}(hT:P.underlying T=some (.slice E))(hs:∀w,(sizeOf E).run P w = .ok sz' w)(hx:ev e x=some (.slice ao n c))(h:a_ w S (.slice ao n c) l)
  (hhi:evo e hi l.length b) (hm:slc l 0 b=some m) :
  ∃v,Rd X P N ⟨dst,.slice T x none hi none,ty,pos,aft,gd⟩ e w v/\∃n',v = .slice ao n' c/\a_ w S (.slice ao n' c) m:=by
 obtain ⟨g1,V,H,he⟩:=slcS hm;have hml:=m_5 hm;obtain ⟨_,_,hv,k1,k2,_⟩:=h.rep
 simp only [Value.slice.injEq] at hv
 obtain ⟨rfl,rfl,rfl⟩:=hv;refine ⟨.slice ao b.toNat c,?_,_,rfl,?_⟩
 .intro act ha w' _
  have hsl:(Instr.sliceAt T (.slice ao l.length c) none (hi.map act.eval) none).run P w' = .ok (.slice ao b.toNat c) w':=by
   have hb:∀code,(Instr.sliceBound (vI b) c code).run P w' = .ok b.toNat w':=λcode=>run_sliceBound w' .i64 b c code (by omega) (by omega)
   have hbs:(Instr.sliceBounds true l.length c none (hi.map act.eval) none).run P w' = .ok (0,b.toNat,c) w':=by
    cases hi with
    | none =>
     obtain rfl:b=(l.length:Int):=hhi
     simp [Instr.sliceBounds]
    | some y=>simp [Instr.sliceBounds,ha.ev hhi,hb]
   have:=r_E ao sz'
   simp [Instr.sliceAt,run_underlying hT,Instr.slice,hbs,hs]
   intro _
   simpa using this
  simp only [execOp,ha.ev hx,Option.map_none,Sem.run_bind,hsl,Result.andThen_ok]
  rfl
 .have hmn:b.toNat=m.length:=by omega
  rw [hmn]
  rcases h with ⟨h1,rfl,h2⟩ | ⟨g,c',cur,Ss,h1,h2,h3,h4,h5,h6,I,G⟩
  .have:m=[]:=List.eq_nil_of_length_eq_zero (by simp at H;omega);subst this;exact .inl ⟨by simpa using h1,rfl,h2⟩
  .simp only [Value.slice.injEq] at h1
   obtain ⟨rfl,_,rfl⟩:=h1;refine .inr ⟨g,c,cur,Ss.take m.length,rfl,by omega,by omega,h4,h5,?_,by simp;omega,λi z Si a b'=>?_⟩
   .rw [h6]
    have hz:∀L∈Ss,L=[]:=λL hL=>by
     obtain ⟨i,hi'⟩:=List.getElem?_of_mem hL;obtain ⟨z,hz⟩:=zip_some' I hi';exact b_m.none<|G i z L hz hi'
    have J:List.flatten Ss=[]:=List.flatten_eq_nil_iff.2 hz;have O:List.flatten (Ss.take m.length)=[]:=List.flatten_eq_nil_iff.2 λL hL=>hz L<|List.mem_of_mem_take hL
    rw [J,O]
   .have hil:=(List.getElem?_eq_some_iff.1 a).1
    rw [List.getElem?_take,if_pos hil] at b'
    refine G i z Si ?_ b'
    rw [he] at a
    simp only [Int.toNat_zero,List.drop_zero] at a
    rw [List.getElem?_take] at a
    split at a
    .exact a
    .cases a
end
end Go.Vw
namespace Go.Vw
open Go.RowKit Dat
def b_Q (l:Bt):List Value:=l.map λb=>vU<|byteI b
theorem f_r {l:Bt}{i:Nat}{x:UInt8}(h:l[i]? = some x):(b_Q l)[i]? = some (vU<|byteI x):=by simp [b_Q,h]
theorem e_e (l:Bt):(b_Q l).length=l.length:=by simp [b_Q]
theorem o_4 (l:Bt):∀u∈b_Q l,u.oneCell'=true:=by
 intro u hu
 simp only [b_Q,List.mem_map] at hu
 obtain ⟨b,_,rfl⟩:=hu;rfl
theorem h_C:sz UInt8=1:=rfl
section
variable {w w':World}{S:List Nat}{v:Value}{l xs:Bt}{B:Zone}
theorem k_n:a_ w S v l ↔ (v = .slice none 0 0/\l=[]/\S=[])∨∃g c cur,v = .slice (some ⟨g,0,none⟩) l.length c/\l.length<=c/\l.length<=LEN/\Blk w g cur/\cur.length=c/\S=[g]/\cur.take l.length=b_Q l:=by
 constructor
 .rintro (h | ⟨g,c,cur,Ss,h1,h2,h3,h4,h5,h6,H,G⟩)
  .exact .inl h
  .rw [h_C,Nat.mul_one] at h5
   refine .inr ⟨g,c,cur,h1,h2,h3,h4,h5,?_,?_⟩
   .have I:List.flatten Ss=[]:=List.flatten_eq_nil_iff.2 λL hL=>by
     obtain ⟨i,hi⟩:=List.getElem?_of_mem hL;obtain ⟨x,hx⟩:=zip_some' H hi;exact (G i x L hx hi).1
    rw [h6,I]
   .apply List.ext_getElem?
    intro i
    by_cases hi:i<l.length
    .obtain ⟨Si,hSi⟩:=e_L H<|List.getElem?_eq_getElem hi;have:=G i _ Si (List.getElem?_eq_getElem hi) hSi;obtain ⟨_,u,hu,rfl⟩:=this
     rw [h_C,Nat.mul_one] at hu
     rw [f_r (List.getElem?_eq_getElem hi),List.getElem?_take,if_pos hi]
     have J:((cur.drop i).take 1)[0]? = some (vU<|byteI l[i]):=by rw [hu];rfl
     simpa using J
    .rw [List.getElem?_eq_none (by simp;omega),List.getElem?_eq_none (by simp [b_Q];omega)]
 .rintro (h | ⟨g,c,cur,h1,h2,h3,h4,h5,h6,H⟩)
  .exact .inl h
  .refine .inr ⟨g,c,cur,List.replicate l.length [],h1,h2,h3,h4,by rw [h_C,Nat.mul_one];exact h5,?_,by simp,λi x Si hx hS=>?_⟩
   .rw [h6];simp
   .have hi:=(List.getElem?_eq_some_iff.1 hx).1
    have:Si=[]:=by
     have:=(List.getElem?_eq_some_iff.1 hS).2
     simpa using this.symm
    refine ⟨this,vU<|byteI x,?_,rfl⟩
    rw [h_C,Nat.mul_one]
    have G:cur[i]? = some (vU<|byteI x):=by
     rw [← f_r hx,← H,List.getElem?_take,if_pos hi]
    have hic:=(List.getElem?_eq_some_iff.1 G).1
    rw [List.drop_eq_getElem_cons hic]
    simp only [List.take_succ_cons,List.take_zero]
    rw [(List.getElem?_eq_some_iff.1 G).2]
theorem o_5 {ao:Option Addr}{n c:Nat}(h:e_ w B (.slice ao n c) l):n=l.length/\(ao=none->l=[])/\∀p,ao=some p->(l ≠ []->p.spot=none)/\u_ w p.block p.off (b_Q l):=by
 obtain ⟨_,_,he,h1,h2,h3,h4⟩:=h
 cases he
 refine ⟨rfl,h3,λp hp=>⟨(h4 p hp).1,λi v hv=>?_⟩⟩;have hil:i<l.length:=by have:=(List.getElem?_eq_some_iff.1 hv).1;rwa [e_e] at this
 obtain ⟨cs,hc,u,rfl,rfl⟩:=(h4 p hp).2.2 i l[i] (List.getElem?_eq_getElem hil)
 rw [f_r (List.getElem?_eq_getElem hil)] at hv
 cases hv
 have:=hc 0 _ rfl
 rw [h_C,Nat.mul_one] at this
 exact this
end
section
variable {P:Program}{N:Nat}{X:Nat->Prop}{e:Env}{w:World}{dst:Option Tmp}{ty:TypeId}{pos:String}{aft:Array Edge}{gd:Option (Nat×Bool)}{x y:Operand}{T T2 E:TypeId}
def cpy (l xs:Bt):Bt:=xs.take l.length++l.drop xs.length
theorem g_z (l xs:Bt):(cpy l xs).length=l.length:=by simp [cpy];omega
theorem o_6 {S:List Nat}{B:Zone}{n c I H:Nat}{ao G:Option Addr}{l xs:Bt}(hT:P.underlying T=some (.slice E))(hs:∀w,(sizeOf E).run P w = .ok 1 w)(hx:ev e x=some (.slice ao n c))(hy:ev e y=some (.slice G I H))
  (ho:a_ w S (.slice ao n c) l) (hr:e_ w B (.slice G I H) xs) :
  Ef P N ⟨dst,.call { callee:=.builtin .copy,args:=#[x,y],argTypes:=#[T,T2] },ty,pos,aft,gd⟩ e w (λv w'=>v=vI (Nat.min xs.length l.length:Nat)/\Chg (· ∈ S) w w'/\a_ w' S (.slice ao n c) (cpy l xs)):=by
 obtain ⟨rfl,J,L⟩:=o_5 hr
 constructor
 intro a ha Q;have hx':=ha.ev hx;have hy':=ha.ev hy
 have cells:∀k,k<=xs.length->(Builtin.firstCells 1 k<|.slice G xs.length H).run P w = .ok (b_Q<|xs.take k).toArray w:=by
  intro k hk
  cases G with
  | none=>obtain rfl:=J rfl;simp [Builtin.firstCells,b_Q]
  | some p =>
   obtain ⟨k1,k2⟩:=L p rfl
   have hl:=run_loadCells_list (P:=P) w p (b_Q<|xs.take k) λj v hv=>by
    have hj:j<k:=by have:=(List.getElem?_eq_some_iff.1 hv).1;rw [e_e] at this;simp at this;omega
    have hv':(b_Q xs)[j]? = some v:=by
     simp only [b_Q,List.map_take] at hv ⊢
     rw [List.getElem?_take,if_pos hj] at hv;exact hv
    have hne:xs ≠ []:=by rintro rfl;simp [b_Q] at hv'
    have:=k2 j v hv';have hpe:p=⟨p.block,p.off,none⟩:=by cases p;simp only at k1;rw [k1 hne]
    rw [hpe,Addr.add_lit];exact this
   rw [e_e,List.length_take,Nat.min_eq_left hk] at hl
   simp only [Builtin.firstCells,Nat.mul_one]
   exact hl
 have hk:=cells (Nat.min xs.length n)<|Nat.min_le_left _ _;unfold Oper.wp
 rcases k_n.1 ho with ⟨he,rfl,rfl⟩ | ⟨g,c',cur,he,h2,h3,h4,h5,rfl,V⟩
 .cases he
  have O:=cells 0<|Nat.zero_le _
  have hrun:(execOp a.eval ⟨dst,.call { callee:=.builtin .copy,args:=#[x,y],argTypes:=#[T,T2] },ty,pos,aft,gd⟩).run P w = .ok (.value<|vI ((Nat.min xs.length 0:Nat):Int)) w:=by
   simp [execOp,resolve,invoke,builtin,hx',hy',Builtin.copy_,run_underlying hT,Builtin.lenOf,hs,O,goInt]
  rw [hrun]
  refine ⟨_,rfl,rfl,Chg.refl _ _,k_n.2<|.inl ⟨rfl,?_,rfl⟩⟩
  simp [cpy]
 .cases he
  have hmn:Nat.min xs.length l.length<=cur.length:=Nat.le_trans (Nat.min_le_right _ _) (by omega);obtain ⟨w',hst,hb',hch⟩:=j_l (P:=P) (o:=0) (b_Q<|xs.take<|Nat.min xs.length l.length) 0 w cur h4 (by rw [e_e,List.length_take];simp;omega)<|o_4 _
  have hrun:(execOp a.eval ⟨dst,.call { callee:=.builtin .copy,args:=#[x,y],argTypes:=#[T,T2] },ty,pos,aft,gd⟩).run P w = .ok (.value<|vI ((Nat.min xs.length l.length:Nat):Int)) w':=by
   simp [execOp,resolve,invoke,builtin,hx',hy',Builtin.copy_,run_underlying hT,Builtin.lenOf,hs,hk,goInt,hst]
  rw [hrun]
  refine ⟨_,rfl,rfl,hch.mono λk _ hk=>by rw [hk];exact List.mem_singleton.2 rfl,k_n.2<|.inr ⟨g,c,_,?_,?_,?_,hb',?_,rfl,?_⟩⟩
  .rw [g_z]
  .rw [g_z];exact h2
  .rw [g_z];exact h3
  .simp [b_Q];omega
  .have W:Nat.min xs.length l.length=min xs.length l.length:=rfl
   rw [g_z,W]
   apply List.ext_getElem?
   intro i
   rw [List.getElem?_take]
   by_cases hi:i<l.length
   .rw [if_pos hi]
    have hc:cur[i]? = some (vU<|byteI l[i]):=by
     rw [← f_r (List.getElem?_eq_getElem hi),← V,List.getElem?_take,if_pos hi]
    simp only [Nat.zero_add,List.take_zero,List.nil_append]
    by_cases hx:i<xs.length
    .rw [List.getElem?_append_left (by rw [e_e,List.length_take];omega)]
     have q:(cpy l xs)[i]? = some xs[i]:=by
      unfold cpy
      rw [List.getElem?_append_left (by rw [List.length_take];omega),List.getElem?_take,if_pos hi]
      exact List.getElem?_eq_getElem hx
     rw [f_r q]
     refine f_r ?_
     rw [List.getElem?_take,if_pos (by omega)]
     exact List.getElem?_eq_getElem hx
    .rw [List.getElem?_append_right (by rw [e_e,List.length_take];omega)]
     have q:(cpy l xs)[i]? = some l[i]:=by
      unfold cpy
      rw [List.getElem?_append_right (by rw [List.length_take];omega),List.getElem?_drop,List.length_take]
      rw [show xs.length+(i - min l.length xs.length)=i by omega]
      exact List.getElem?_eq_getElem hi
     rw [f_r q,List.getElem?_drop,e_e,List.length_take]
     rw [show min (min xs.length l.length) xs.length+(i - min (min xs.length l.length) xs.length)=i by omega]
     exact hc
   .rw [if_neg hi,List.getElem?_eq_none (by rw [e_e,g_z];omega)]
end
end Go.Vw
namespace Go.Vw
def b_6 (x1:Int)(x2:Int)(x3:Int):Option Bool :=
 bd (α:=Bool) (if (decide<|x2<=x1) then some (decide<|x1<=x3) else some false) (λG=>some G)
def h_m (x1:Str):Option Bool :=
 bd (y_ (σ:=Unit) (ρ:=Bool) (λk10=>(λ(_:Unit)=>bd (α:=Bool) (bd (idx x1.b (k10:Int)) λG=>if (decide<|(byteI (97:UInt8))<=(byteI G)) then bd (idx x1.b (k10:Int)) λH=>some (decide<|(byteI H)<=(byteI (122:UInt8))) else some false) (λI=>bd (α:=Bool) (bd (idx x1.b (k10:Int)) λJ=>if (decide<|(byteI (48:UInt8))<=(byteI J)) then bd (idx x1.b (k10:Int)) λL=>some (decide<|(byteI L)<=(byteI (57:UInt8))) else some false) (λO=>bd (α:=Bool) (if (!I) then if (!O) then some true else some ((k10:Int)==0) else some false) (λV=>if V then some (.ret false) else some (.next ())))))) x1.b.length 0 ()) (el (λ(_:Unit)=>bd (b_6 (x1.b.length:Int) 1 12) λW=>some W)<|λY=>some Y)
def d_B (n:Nat)(x1:Int):Option Str :=
 if (x1==0) then some (⟨[48]⟩:Str) else bd (M_ (σ:=Str×Int) (ρ:=Str) (un2 λH G=>if (G != 0) then bd (α:=Int) (if (decide<|(b_q G 10)<0) then some (g_Y<|b_q G 10) else some (b_q G 10)) (λI=>bd (cat (⟨[mkB (h_ 48 I)]⟩:Str) H) λJ=>some<|.next (J,c_l G 10)) else some (.brk (H,G))) n ((⟨[]⟩:Str),x1)) (el (un2 λH G=>if (decide<|x1<0) then bd (cat (⟨[45]⟩:Str) H) λL=>some L else some H)<|λO=>some O)
def c_z (x1:b_)(x2:Bool)(x3:Bool)(x4:Bool)(x5:Bool)(x6:Int):Option Bool :=
 bd (α:=Bool) (bd (α:=Bool) (if x2 then some true else some (x1.size==0)) λG=>bd (α:=Bool) (if G then if x3 then some true else some ((x1.bytes.length:Int)==0) else some false) λH=>bd (α:=Bool) (if H then if x4 then some true else some ((x1.names.length:Int)==0) else some false) λI=>bd (α:=Bool) (if I then if x5 then some true else some ((x1.tags.length:Int)==0) else some false) λJ=>bd (α:=Bool) (if J then if (decide<|x6<0) then some true else some ((x1.kids.length:Int)==x6) else some false) λL=>if L then if (!x1.little) then some true else some (x1.kind==1) else some false) (λO=>some O)
def d_a (x1:Int):Option Int :=
 bd (nn<|a_5 8 x1) λG=>some<|b_w .i64 1<|a_5 8 x1
def e_7 (x1:c_)(x2:Int):Option Int :=
 bd (α:=Bool) (bd (b_6 x2 0<|j_ (x1.rules.length:Int) 1) λG=>if (!G) then some true else bd (idx x1.rules x2) λH=>if (H.kind != 1) then some true else bd (idx x1.rules x2) λI=>bd (b_6 I.size 1 4) λJ=>some (!J)) (λL=>if L then some (-1) else bd (idx x1.rules x2) λO=>bd (d_a O.size) λV=>some<|j_ V 1)
def i_u (x1:List Str)(x2:Str):Option Bool :=
 bd (y_ (σ:=Unit) (ρ:=Bool) (λk10=>(λ(_:Unit)=>bd (idx x1 (k10:Int)) λG=>if (G.b==x2.b) then some (.ret true) else some (.next ()))) x1.length 0 ()) (el (λ(_:Unit)=>some false)<|λH=>some H)
def i_v (x1:List Str):Option Bool :=
 bd (y_ (σ:=Unit) (ρ:=Bool) (λk10=>(λ(_:Unit)=>bd (α:=Bool) (bd (idx x1 (k10:Int)) λG=>bd (h_m G) λH=>if (!H) then some true else bd (slc x1 0 (k10:Int)) λI=>bd (idx x1 (k10:Int)) λJ=>bd (i_u I J) λL=>some L) (λO=>if O then some (.ret false) else some (.next ())))) x1.length 0 ()) (el (λ(_:Unit)=>bd (b_6 (x1.length:Int) 1 8) λV=>some V)<|λW=>some W)
def i_w (x1:c_)(x2:b_):Option Bool :=
 bd (α:=Bool) (if ((x2.kids.length:Int) != (h_ (x2.tags.length:Int) 1)) then some true else bd (b_6 (x2.tags.length:Int) 1 8) λG=>some (!G)) (λH=>if H then some false else bd (y_ (σ:=Unit) (ρ:=Bool) (λk10=>(λ(_:Unit)=>bd (α:=Bool) (bd (idx x2.tags (k10:Int)) λI=>bd (idx x2.kids 0) λJ=>bd (e_7 x1 J) λL=>bd (b_6 I 0 L) λO=>if (!O) then some true else if (decide<|0<(k10:Int)) then bd (idx x2.tags<|j_ (k10:Int) 1) λV=>bd (idx x2.tags (k10:Int)) λW=>some (decide<|W<=V) else some false) (λY=>if Y then some (.ret false) else some (.next ())))) x2.tags.length 0 ()) (el (λ(_:Unit)=>some true)<|λa0=>some a0))
def i_x (x1:c_)(x2:b_):Option Bool :=
 if (x2.kind==1) then bd (α:=Bool) (bd (c_z x2 true false false false 0) λG=>if G then bd (b_6 x2.size 1 4) λH=>if H then if (!x2.little) then some true else some (decide<|1<x2.size) else some false else some false) (λI=>some I) else if (x2.kind==2) then bd (α:=Bool) (bd (c_z x2 false true false false 0) λJ=>if J then bd (b_6 (x2.bytes.length:Int) 1 16) λL=>some L else some false) (λO=>some O) else if (x2.kind==3) then bd (α:=Bool) (bd (c_z x2 true false false false 0) λV=>if V then bd (b_6 x2.size 1 64) λW=>some W else some false) (λY=>some Y) else if (x2.kind==4) then bd (α:=Bool) (bd (c_z x2 false false false false 1) λa0=>if a0 then bd (idx x2.kids 0) λa1=>bd (e_7 x1 a1) λa2=>some (decide<|0<a2) else some false) (λa3=>some a3) else if (x2.kind==5) then bd (α:=Bool) (bd (c_z x2 false false false false 2) λa4=>if a4 then bd (idx x2.kids 0) λa5=>bd (e_7 x1 a5) λa6=>some (decide<|0<a6) else some false) (λa7=>some a7) else if (x2.kind==6) then bd (α:=Bool) (bd (c_z x2 false false true false (x2.names.length:Int)) λa8=>if a8 then bd (i_v x2.names) λa9=>some a9 else some false) (λaa=>some aa) else if (x2.kind==7) then bd (α:=Bool) (bd (c_z x2 false false false true (-1)) λab=>if ab then bd (i_w x1 x2) λad=>some ad else some false) (λae=>some ae) else bd (α:=Bool) (if (x2.kind==8) then some (x2.kind==8) else some (x2.kind==9)) (λaf=>if af then bd (c_z x2 false false false false 1) λah=>some ah else if (x2.kind==10) then bd (α:=Bool) (bd (c_z x2 false true false false 0) λai=>if ai then if ((x2.bytes.length:Int)==1) then bd (idx x2.bytes 0) λaj=>some ((byteI aj) != (byteI (92:UInt8))) else some false else some false) (λak=>some ak) else some false)
def i_y (x1:c_)(x2:Int):Option Bool :=
 bd (b_6 x2 0<|j_ (x1.rules.length:Int) 1) λH=>if (!H) then some false else bd (idx x1.rules x2) λG=>bd (y_ (σ:=Unit) (ρ:=Bool) (λI=>(λ(_:Unit)=>bd (idx x1.rules (I:Int)) λJ=>if (J.name.b==G.name.b) then some (.ret false) else some (.next ()))) x2.toNat 0 ()) (el (λ(_:Unit)=>bd (y_ (σ:=Unit) (ρ:=Bool) (λL=>(λ(_:Unit)=>bd (idx G.kids (L:Int)) λO=>bd (b_6 O 0<|j_ x2 1) λV=>if (!V) then some (.ret false) else some (.next ()))) G.kids.length 0 ()) (el (λ(_:Unit)=>bd (α:=Bool) (bd (h_m G.name) λW=>if W then bd (i_x x1 G) λY=>some Y else some false)<|λa0=>some a0)<|λa1=>some a1))<|λa2=>some a2)
def f_6 (x1:c_):Option Bool :=
 bd (y_ (σ:=Unit) (ρ:=Bool) (λk10=>(λ(_:Unit)=>bd (i_y x1 (k10:Int)) λG=>if (!G) then some (.ret false) else some (.next ()))) x1.rules.length 0 ()) (el (λ(_:Unit)=>bd (b_6 (x1.rules.length:Int) 1 24) λH=>some H)<|λI=>some I)
def f_7 (x1:c_):Option Int :=
 some (j_ (x1.rules.length:Int) 1)
def i_z (x1:Bt)(x2:Bool):Option Int :=
 if (decide<|4<(x1.length:Int)) then some 0 else bd (y_ (σ:=Int) (ρ:=Int) (λH=>(λG=>bd (α:=Int) (if x2 then some (j_ (j_ (x1.length:Int) 1) (H:Int)) else some (H:Int))<|λI=>bd (idx x1 I) λJ=>some<|.next<|h_ (a_5 G 256)<|byteI J)) x1.length 0 0) (el (λG=>some G)<|λL=>some L)
def g_m (x1:c_)(x2:Int)(x3:Bt)(x4:Int):Option (Int×Int×Bool) :=
 bd (idx x1.rules x2) λG=>if (decide<|(j_ (x3.length:Int) x4)<G.size) then some (0,x4,false) else bd (slc x3 x4<|h_ x4 G.size) λH=>bd (i_z H G.little) λI=>some (I,h_ x4 G.size,true)
def b_r (x1:b_)(x2:Int)(x3:Int):Option Int :=
 if (x1.kind==5) then bd (idx x1.kids 1) λG=>some G else bd (α:=Sum Unit Int) (if (x1.kind==6) then if (decide<|x3<(x1.kids.length:Int)) then bd (idx x1.kids x3) λH=>some (.inr H) else some (.inl ()) else bd (α:=Sum Unit<|Sum Unit Int) (if (x1.kind==7) then bd (y_ (σ:=Unit) (ρ:=Int) (λk10=>(λ(_:Unit)=>bd (idx x1.tags (k10:Int)) λI=>if (I==x2) then bd (idx x1.kids ((k10+1:Nat):Int)) λJ=>some (.ret J) else some (.next ()))) x1.tags.length 0 ()) (el (λ(_:Unit)=>some<|.inl ())<|λL=>some<|.inr<|.inr L) else bd (α:=Bool) (if (x1.kind==8) then some (x1.kind==8) else some (x1.kind==9)) (λO=>if O then bd (idx x1.kids 0) λV=>some (.inr<|.inr V) else some (.inl ()))) (el (λ(_:Unit)=>some<|.inl ()) some)) (el (λ(_:Unit)=>some (-1)) some)
def i_A (x1:b_)(x2:Bt)(x3:Int):Option (Val×Int×Int) :=
 bd (y_ (σ:=Unit) (ρ:=Val×Int×Int) (λk10=>(λ(_:Unit)=>if (decide<|(x2.length:Int)<=(h_ x3 (k10:Int))) then some (.ret ((⟨0,([]:Bt),([]:List Val)⟩:Val),x3,1)) else bd (idx x2<|h_ x3 (k10:Int)) λG=>bd (idx x1.bytes (k10:Int)) λH=>if ((byteI G) != (byteI H)) then some (.ret ((⟨0,([]:Bt),([]:List Val)⟩:Val),h_ x3 (k10:Int),2)) else some (.next ()))) x1.bytes.length 0 ()) (el (λ(_:Unit)=>some ((⟨0,([]:Bt),([]:List Val)⟩:Val),h_ x3 (x1.bytes.length:Int),0))<|λI=>some I)
def h_n (x1:Bt)(x2:Int)(x3:Int):Option (Val×Int×Int) :=
 if (decide<|(j_ (x1.length:Int) x2)<x3) then some ((⟨0,([]:Bt),([]:List Val)⟩:Val),x2,1) else bd (slc x1 x2<|h_ x2 x3) λG=>bd (app ([]:Bt) G) λH=>some ((⟨0,H,([]:List Val)⟩:Val),h_ x2 x3,0)
def i_B (n:Nat)(x1:Bt)(x2:Int)(x3:UInt8):Option (Bt×Int×Bool) :=
 bd (M_ (σ:=Bt×Int) (ρ:=Bt×Int×Bool) (un2 λH G=>bd (α:=Bool) (bd (b_6 x2 0 (x1.length:Int)) λJ=>if J then some (decide<|G<(x1.length:Int)) else some false) (λL=>if L then bd (idx x1 G) λO=>if ((byteI O)==(byteI x3)) then some (.ret (H,h_ G 1,true)) else bd (idx x1 G) λV=>bd (α:=Sum Int<|Out (Bt×Int)<|Bt×Int×Bool) (if ((byteI V)==(byteI (92:UInt8))) then if ((h_ G 1)==(x1.length:Int)) then some (.inr<|.brk (H,h_ G 1)) else some (.inl<|h_ G 1) else some (.inl G)) (el (λI=>bd (idx x1 I) λW=>bd (psh H W) λY=>some<|.next (Y,h_ I 1)) some) else some (.brk (H,G)))) n (([]:Bt),x2)) (el (un2 λH G=>some (([]:Bt),x2,false))<|λa0=>some a0)
def h_o (x1:Bt):Option Int :=
 bd (y_ (σ:=Int) (ρ:=Int) (λH=>(λG=>bd (idx x1 (H:Int)) λI=>some<|.next<|b_q (h_ G<|byteI I) 256)) x1.length 0 0) (el (λG=>some G)<|λJ=>some J)
structure h_p where
 spec_l11Read:c_->Int->Bt->Int->Option (Val×Int×Int)
 spec_l11Items:c_->b_->Int->Int->Bt->Int->Option (Val×Int×Int)
 spec_l11Choice:c_->b_->Bt->Int->Option (Val×Int×Int)
 spec_l11Option:c_->b_->Bt->Int->Option (Val×Int×Int)
 spec_l11Checked:c_->b_->Bt->Int->Option (Val×Int×Int)
def i_C (n:Nat)(rec:h_p)(x1:c_)(x2:Int)(x3:Bt)(x4:Int):Option (Val×Int×Int) :=
 bd (idx x1.rules x2) λG=>if (G.kind==1) then bd3 (g_m x1 x2 x3 x4) λJ L O=>if (!O) then some ((⟨0,([]:Bt),([]:List Val)⟩:Val),x4,1) else some ((⟨J,([]:Bt),([]:List Val)⟩:Val),L,0) else if (G.kind==2) then bd3 (i_A G x3 x4) λV W Y=>some (V,W,Y) else if (G.kind==3) then bd3 (h_n x3 x4 G.size) λa0 a1 a2=>some (a0,a1,a2) else if (G.kind==10) then bd (idx G.bytes 0) λa3=>bd3 (i_B n x3 x4 a3) λa4 a5 a6=>if (!a6) then some ((⟨0,([]:Bt),([]:List Val)⟩:Val),x4,1) else some ((⟨0,a4,([]:List Val)⟩:Val),a5,0) else if (G.kind==6) then bd3 (rec.spec_l11Items x1 G 0 (G.kids.length:Int) x3 x4) λa7 a8 a9=>some (a7,a8,a9) else if (G.kind==7) then bd3 (rec.spec_l11Choice x1 G x3 x4) λaa ab ad=>some (aa,ab,ad) else if (G.kind==8) then bd3 (rec.spec_l11Option x1 G x3 x4) λae af ah=>some (ae,af,ah) else if (G.kind==9) then bd3 (rec.spec_l11Checked x1 G x3 x4) λai aj ak=>some (ai,aj,ak) else bd (idx G.kids 0) λal=>bd3 (g_m x1 al x3 x4) λH I am=>if (!am) then some ((⟨0,([]:Bt),([]:List Val)⟩:Val),x4,1) else if (G.kind==4) then bd3 (h_n x3 I H) λan ap aq=>some (an,ap,aq) else if (decide<|40<H) then some ((⟨0,([]:Bt),([]:List Val)⟩:Val),x4,6) else bd3 (rec.spec_l11Items x1 G 0 H x3 I) λar au av=>some (ar,au,av)
def i_D (n:Nat)(rec:h_p)(x1:c_)(x2:b_)(x3:Int)(x4:Int)(x5:Bt)(x6:Int):Option (Val×Int×Int) :=
 bd (y_ (σ:=Int×(List Val)) (ρ:=Val×Int×Int) (λO=>un2 λG H=>bd (α:=Int×Bt×(List Val)×Int×Int) (bd (b_r x2 x3 (O:Int)) λV=>bd3 (rec.spec_l11Read x1 V x5 G) λI W Y=>some (I.number,I.bytes,I.items,W,Y)) (un5 λa0 a1 a2 J L=>if (L != 0) then some (.ret ((⟨0,([]:Bt),([]:List Val)⟩:Val),J,L)) else bd (psh H (⟨a0,a1,a2⟩:Val)) λa3=>some<|.next (J,a3))) x4.toNat 0 (x6,([]:List Val))) (el (un2 λG H=>some ((⟨0,([]:Bt),H⟩:Val),G,0))<|λa4=>some a4)
def i_E (n:Nat)(rec:h_p)(x1:c_)(x2:b_)(x3:Bt)(x4:Int):Option (Val×Int×Int) :=
 bd (idx x2.kids 0) λJ=>bd3 (g_m x1 J x3 x4) λG L O=>if (!O) then some ((⟨0,([]:Bt),([]:List Val)⟩:Val),x4,1) else bd (b_r x2 G 0) λV=>if (decide<|V<0) then some ((⟨0,([]:Bt),([]:List Val)⟩:Val),x4,3) else bd3 (rec.spec_l11Items x1 x2 G 1 x3 L) λH W I=>bd (α:=Int) (if (I==0) then some G else some H.number)<|λY=>some ((⟨Y,H.bytes,H.items⟩:Val),W,I)
def i_F (n:Nat)(rec:h_p)(x1:c_)(x2:b_)(x3:Bt)(x4:Int):Option (Val×Int×Int) :=
 if (decide<|(x3.length:Int)<=x4) then some ((⟨0,([]:Bt),([]:List Val)⟩:Val),x4,1) else bd (idx x3 x4) λG=>if (decide<|(byteI (1:UInt8))<(byteI G)) then some ((⟨0,([]:Bt),([]:List Val)⟩:Val),x4,4) else bd (idx x3 x4) λH=>bd3 (rec.spec_l11Items x1 x2 0 (byteI H) x3<|h_ x4 1) λI J L=>some (I,J,L)
def i_G (n:Nat)(rec:h_p)(x1:c_)(x2:b_)(x3:Bt)(x4:Int):Option (Val×Int×Int) :=
 bd3 (rec.spec_l11Items x1 x2 0 1 x3 x4) λH G I=>if (I != 0) then some (H,G,I) else if (decide<|(x3.length:Int)<=G) then some ((⟨0,([]:Bt),([]:List Val)⟩:Val),G,1) else bd (idx x3 G) λJ=>bd (slc x3 x4 G) λL=>bd (h_o L) λO=>if ((byteI J) != O) then some ((⟨0,([]:Bt),([]:List Val)⟩:Val),G,5) else some (H,h_ G 1,0)
def a_x:Nat->h_p
 | 0=>⟨λ_ _ _ _=>none,λ_ _ _ _ _ _=>none,λ_ _ _ _=>none,λ_ _ _ _=>none,λ_ _ _ _=>none⟩
 | n+1=>⟨i_C n<|a_x n,i_D n<|a_x n,i_E n<|a_x n,i_F n<|a_x n,i_G n<|a_x n⟩
def k_4 (n:Nat):=(a_x n).spec_l11Read
def g_n (n:Nat):=(a_x n).spec_l11Items
def f_8 (x1:c_)(x2:Int):Option Bool :=
 bd (α:=Bool) (bd (b_6 x2 0<|j_ (x1.rules.length:Int) 1) λG=>if G then bd (f_6 x1) λH=>some H else some false) (λI=>some I)
def i_H (n:Nat)(x1:c_)(x2:Int)(x3:Bt)(x4:Int):Option (Val×Int×Int) :=
 bd (α:=Bool) (bd (f_8 x1 x2) λG=>if (!G) then some true else bd (b_6 x4 0 (x3.length:Int)) λH=>if (!H) then some true else some (decide<|400<(x3.length:Int))) (λI=>if I then some ((⟨0,([]:Bt),([]:List Val)⟩:Val),0,8) else bd3 (k_4 n x1 x2 x3 x4) λJ L O=>some (J,L,O))
def h_q (n:Nat)(x1:c_)(x2:Bt):Option (Val×Int×Int) :=
 bd (α:=Int×Bt×(List Val)×Int×Int) (bd (f_7 x1) λJ=>bd3 (i_H n x1 J x2 0) λG L O=>some (G.number,G.bytes,G.items,L,O)) (un5 λV W Y H I=>bd (α:=Bool) (if (I==0) then some (decide<|H<(x2.length:Int)) else some false) (λa0=>if a0 then some ((⟨0,([]:Bt),([]:List Val)⟩:Val),H,7) else some ((⟨V,W,Y⟩:Val),H,I)))
def d_C (n:Nat)(x1:c_)(x2:Bt):Option Bool :=
 bd3 (h_q n x1 x2) λH I G=>some<|G==0
def g_o (n:Nat)(x1:Str):Option Bool :=
 bd (α:=Bool) (if (decide<|(x1.b.length:Int)<1) then some true else some (decide<|12<(x1.b.length:Int))) (λH=>if H then some false else bd (M_ (σ:=Nat) (ρ:=Bool) (λG=>if (decide<|G<x1.b.length) then bd (α:=Bool) (if (decide<|97<=((dec x1 G).1)) then some (decide<|((dec x1 G).1)<=122) else some false) (λI=>bd (α:=Bool) (if (decide<|48<=((dec x1 G).1)) then some (decide<|((dec x1 G).1)<=57) else some false) (λJ=>bd (α:=Bool) (if (!I) then if (!J) then some true else some ((G:Int)==0) else some false) (λL=>if L then some (.ret false) else some (.next<|G+(dec x1 G).2)))) else some (.brk G)) n 0) (el (λG=>some true)<|λO=>some O))
def c_c (x1:Int)(x2:Int)(x3:Int):Option Bool :=
 bd (α:=Bool) (if (decide<|x2<=x1) then some (decide<|x1<=x3) else some false) (λG=>some G)
def f_9 (x1:c_)(x2:Int):Option Bool :=
 bd (α:=Bool) (if (decide<|0<=x2) then some (decide<|x2<(x1.rules.length:Int)) else some false) (λG=>some G)
def c_A (x1:b_)(x2:Bool)(x3:Bool)(x4:Bool)(x5:Bool)(x6:Int):Option Bool :=
 bd (α:=Bool) (bd (α:=Bool) (if x2 then some true else some (x1.size==0)) λG=>bd (α:=Bool) (if G then if x3 then some true else some ((x1.bytes.length:Int)==0) else some false) λH=>bd (α:=Bool) (if H then if x4 then some true else some ((x1.names.length:Int)==0) else some false) λI=>bd (α:=Bool) (if I then if x5 then some true else some ((x1.tags.length:Int)==0) else some false) λJ=>if J then if (decide<|x6<0) then some true else some ((x1.kids.length:Int)==x6) else some false) (λL=>some L)
def c_M (x1:c_)(x2:Int):Option Int :=
 bd (α:=Bool) (bd (f_9 x1 x2) λH=>if (!H) then some true else bd (idx x1.rules x2) λI=>if (I.kind != 1) then some true else bd (idx x1.rules x2) λJ=>bd (c_c J.size 1 4) λL=>some (!L)) (λO=>if O then some (-1) else bd (idx x1.rules x2) λG=>bd (nn<|a_5 8 G.size) λV=>some<|j_ (b_w .i64 1<|a_5 8 G.size) 1)
def h_r (x1:List Str)(x2:Str):Option Bool :=
 bd (y_ (σ:=Unit) (ρ:=Bool) (λk10=>(λ(_:Unit)=>bd (idx x1 (k10:Int)) λG=>if (G.b==x2.b) then some (.ret true) else some (.next ()))) x1.length 0 ()) (el (λ(_:Unit)=>some false)<|λH=>some H)
def i_I (n:Nat)(x1:b_):Option Bool :=
 bd (α:=Bool) (bd (c_A x1 false false true false (-1)) λH=>if (!H) then some true else if ((x1.kids.length:Int) != (x1.names.length:Int)) then some true else bd (c_c (x1.kids.length:Int) 1 8) λI=>some (!I)) (λJ=>if J then some false else bd (y_ (σ:=Unit) (ρ:=Bool) (λk10=>(λ(_:Unit)=>bd (idx x1.names (k10:Int)) λG=>bd (α:=Bool) (bd (g_o n G) λL=>if (!L) then some true else bd (slc x1.names 0 (k10:Int)) λO=>bd (h_r O G) λV=>some V) (λW=>if W then some (.ret false) else some (.next ())))) x1.names.length 0 ()) (el (λ(_:Unit)=>some true)<|λY=>some Y))
def i_J (x1:c_)(x2:b_):Option Bool :=
 bd (α:=Bool) (bd (c_A x2 false false false true<|h_ (x2.tags.length:Int) 1) λI=>if (!I) then some true else bd (c_c (x2.tags.length:Int) 1 8) λJ=>some (!J)) (λL=>if L then some false else bd (idx x2.kids 0) λO=>bd (c_M x1 O) λG=>bd (y_ (σ:=Unit) (ρ:=Bool) (λk10=>(λ(_:Unit)=>bd (idx x2.tags (k10:Int)) λH=>bd (α:=Bool) (bd (c_c H 0 G) λV=>if (!V) then some true else if (decide<|0<(k10:Int)) then bd (idx x2.tags<|j_ (k10:Int) 1) λW=>some (decide<|H<=W) else some false) (λY=>if Y then some (.ret false) else some (.next ())))) x2.tags.length 0 ())<|el (λ(_:Unit)=>some<|decide<|0<G)<|λa0=>some a0)
def i_K (n:Nat)(x1:c_)(x2:b_):Option Bool :=
 if (x2.kind==1) then bd (α:=Bool) (bd (c_A x2 true false false false 0) λG=>if G then bd (c_c x2.size 1 4) λH=>if H then if (!x2.little) then some true else some (decide<|1<x2.size) else some false else some false) (λI=>some I) else if (x2.kind==2) then bd (α:=Bool) (bd (c_A x2 false true false false 0) λJ=>if J then bd (c_c (x2.bytes.length:Int) 1 16) λL=>some L else some false) (λO=>some O) else if (x2.kind==3) then bd (α:=Bool) (bd (c_A x2 true false false false 0) λV=>if V then bd (c_c x2.size 1 64) λW=>some W else some false) (λY=>some Y) else if (x2.kind==4) then bd (α:=Bool) (bd (c_A x2 false false false false 1) λa0=>if a0 then bd (idx x2.kids 0) λa1=>bd (c_M x1 a1) λa2=>some (decide<|0<a2) else some false) (λa3=>some a3) else if (x2.kind==5) then bd (α:=Bool) (bd (c_A x2 false false false false 2) λa4=>if a4 then bd (idx x2.kids 0) λa5=>bd (c_M x1 a5) λa6=>some (decide<|0<a6) else some false) (λa7=>some a7) else if (x2.kind==6) then bd (i_I n x2) λa8=>some a8 else if (x2.kind==7) then bd (i_J x1 x2) λa9=>some a9 else bd (α:=Bool) (if (x2.kind==8) then some (x2.kind==8) else some (x2.kind==9)) (λaa=>if aa then bd (c_A x2 false false false false 1) λab=>some ab else if (x2.kind==10) then bd (α:=Bool) (bd (c_A x2 false true false false 0) λad=>if ad then if ((x2.bytes.length:Int)==1) then bd (idx x2.bytes 0) λae=>some ((byteI ae) != (byteI (92:UInt8))) else some false else some false) (λaf=>some af) else some false)
def i_L (n:Nat)(x1:c_)(x2:Int):Option Bool :=
 bd (f_9 x1 x2) λJ=>if (!J) then some false else bd (idx x1.rules x2) λG=>bd (α:=Bool) (bd (g_o n G.name) λL=>if (!L) then some true else if G.little then some (G.kind != 1) else some false) (λO=>if O then some false else bd (slc x1.rules 0 x2) λH=>bd (y_ (σ:=Unit) (ρ:=Bool) (λV=>(λ(_:Unit)=>bd (idx H (V:Int)) λW=>if (W.name.b==G.name.b) then some (.ret false) else some (.next ()))) H.length 0 ()) (el (λ(_:Unit)=>bd (y_ (σ:=Unit) (ρ:=Bool) (λY=>(λ(_:Unit)=>bd (idx G.kids (Y:Int)) λI=>bd (α:=Bool) (if (decide<|I<0) then some true else some (decide<|x2<=I)) (λa0=>if a0 then some (.ret false) else some (.next ())))) G.kids.length 0 ())<|el (λ(_:Unit)=>bd (i_K n x1 G) λa1=>some a1)<|λa2=>some a2)<|λa3=>some a3))
def h_s (n:Nat)(x1:c_):Option Bool :=
 bd (c_c (x1.rules.length:Int) 1 24) λG=>if (!G) then some false else bd (y_ (σ:=Unit) (ρ:=Bool) (λH=>(λ(_:Unit)=>bd (i_L n x1 (H:Int)) λI=>if (!I) then some (.ret false) else some (.next ()))) x1.rules.length 0 ()) (el (λ(_:Unit)=>some true)<|λJ=>some J)
def f_a (x1:c_):Option Int :=
 some (j_ (x1.rules.length:Int) 1)
def g_p (n:Nat)(x1:c_)(x2:Int):Option Bool :=
 bd (α:=Bool) (bd (h_s n x1) λG=>if G then bd (f_9 x1 x2) λH=>some H else some false) (λI=>some I)
def i_M (x1:Bt)(x2:Bool):Option Int :=
 if (decide<|4<(x1.length:Int)) then some 0 else bd (y_ (σ:=Int) (ρ:=Int) (λH=>(λG=>bd (α:=Int) (if x2 then bd (idx x1<|j_ (j_ (x1.length:Int) 1) (H:Int)) λI=>some (a_O .i64 (· ||| ·) (b_w .i64 G 8)<|byteI I) else bd (idx x1 (H:Int)) λJ=>some<|a_O .i64 (· ||| ·) (b_w .i64 G 8)<|byteI J)<|λL=>some<|.next L)) x1.length 0 0) (el (λG=>some G)<|λO=>some O)
def g_q (x1:Bt):Option Int :=
 bd (y_ (σ:=Int) (ρ:=Int) (λH=>(λG=>bd (idx x1 (H:Int)) λI=>some<|.next<|h_ G<|byteI I)) x1.length 0 0) (el (λG=>some<|b_q G 256)<|λJ=>some J)
def i_N (n:Nat)(x1:Bt)(x2:Int)(x3:UInt8):Option (Bt×Int×Bool) :=
 bd (α:=Bool) (if (decide<|x2<0) then some true else some (decide<|(x1.length:Int)<x2)) (λJ=>if J then some (([]:Bt),x2,false) else bd (M_ (σ:=Bt×Int) (ρ:=Bt×Int×Bool) (un2 λH G=>if (decide<|G<(x1.length:Int)) then bd (idx x1 G) λL=>if ((byteI L)==(byteI x3)) then some (.ret (H,h_ G 1,true)) else bd (idx x1 G) λO=>bd (α:=Sum Int<|Out (Bt×Int)<|Bt×Int×Bool) (if ((byteI O)==(byteI (92:UInt8))) then if ((h_ G 1)==(x1.length:Int)) then some (.inr<|.brk (H,h_ G 1)) else some (.inl<|h_ G 1) else some (.inl G)) (el (λI=>bd (idx x1 I) λV=>bd (psh H V) λW=>some<|.next (W,h_ I 1)) some) else some (.brk (H,G))) n (([]:Bt),x2)) (el (un2 λH G=>some (([]:Bt),x2,false))<|λY=>some Y))
def n_N (x1:Int)(x2:Int):Option Bool :=
 some (x1==x2)
def n_O (x1:List Int)(G:Int):Option Int :=
 bd (y_ (σ:=Unit) (ρ:=Int) (λk10=>(λ(_:Unit)=>bd (idx x1 (k10:Int)) λH=>bd (n_N H G) λI=>if I then some (.ret (k10:Int)) else some (.next ()))) x1.length 0 ()) (el (λ(_:Unit)=>some (-1))<|λJ=>some J)
def b_Y (x1:Int)(x2:Int):Option (Option<|Int×Int) :=
 some (some (x1,x2))
def f_b (x1:a_F)(x2:Int)(x3:Int):Option (Bt×(Option<|Int×Int)) :=
 if (decide<|(j_ (x1.b.length:Int) x2)<x3) then bd (b_Y x2 1) λG=>some (([]:Bt),G) else bd (slc x1.b x2<|h_ x2 x3) λH=>some (H,none)
def f_c (x1:a_F)(x2:Int)(x3:Int):Option (Int×Int×(Option<|Int×Int)) :=
 bd (idx x1.d.rules x2) λG=>bd2 (f_b x1 x3 G.size) λI H=>if H.isSome then some (0,x3,H) else bd (i_M I G.little) λJ=>some (J,h_ x3 G.size,none)
def i_O (x1:a_F)(x2:b_)(x3:Int):Option (Int×(Option<|Int×Int)) :=
 bd (y_ (σ:=Unit) (ρ:=Int×(Option<|Int×Int)) (λk10=>(λ(_:Unit)=>bd (idx x2.bytes (k10:Int)) λG=>if (decide<|(x1.b.length:Int)<=(h_ x3 (k10:Int))) then bd (b_Y x3 1) λH=>some (.ret (x3,H)) else bd (idx x1.b<|h_ x3 (k10:Int)) λI=>if ((byteI I) != (byteI G)) then bd (b_Y (h_ x3 (k10:Int)) 2) λJ=>some (.ret (x3,J)) else some (.next ()))) x2.bytes.length 0 ()) (el (λ(_:Unit)=>some (h_ x3 (x2.bytes.length:Int),none))<|λL=>some L)
def h_t (x1:a_F)(x2:Int)(x3:Int):Option (Val×Int×(Option<|Int×Int)) :=
 bd2 (f_b x1 x2 x3) λH G=>if G.isSome then some ((⟨0,([]:Bt),([]:List Val)⟩:Val),x2,G) else bd (app ([]:Bt) H) λI=>some ((⟨0,I,([]:List Val)⟩:Val),h_ x2 x3,none)
structure g_r where
 impl_fileReader_value:a_F->Int->Int->Option (Val×Int×(Option<|Int×Int))
 impl_fileReader_array:a_F->b_->Int->Option (Val×Int×(Option<|Int×Int))
 impl_fileReader_items:a_F->Val->(List Int)->Int->Option (Val×Int×(Option<|Int×Int))
 impl_fileReader_choice:a_F->b_->Int->Option (Val×Int×(Option<|Int×Int))
 impl_fileReader_option:a_F->b_->Int->Option (Val×Int×(Option<|Int×Int))
 impl_fileReader_checked:a_F->b_->Int->Option (Val×Int×(Option<|Int×Int))
def i_P (n:Nat)(rec:g_r)(x1:a_F)(x2:Int)(x3:Int):Option (Val×Int×(Option<|Int×Int)) :=
 bd (idx x1.d.rules x2) λG=>if (G.kind==1) then bd3 (f_c x1 x2 x3) λI J L=>some ((⟨I,([]:Bt),([]:List Val)⟩:Val),J,L) else if (G.kind==2) then bd2 (i_O x1 G x3) λO V=>some ((⟨0,([]:Bt),([]:List Val)⟩:Val),O,V) else if (G.kind==3) then bd3 (h_t x1 x3 G.size) λW Y a0=>some (W,Y,a0) else if (G.kind==4) then bd (idx G.kids 0) λa1=>bd3 (f_c x1 a1 x3) λa2 a3 H=>if H.isSome then some ((⟨0,([]:Bt),([]:List Val)⟩:Val),x3,H) else bd3 (h_t x1 a3 a2) λa4 a5 a6=>some (a4,a5,a6) else if (G.kind==5) then bd3 (rec.impl_fileReader_array x1 G x3) λa7 a8 a9=>some (a7,a8,a9) else if (G.kind==6) then bd3 (rec.impl_fileReader_items x1 (⟨0,([]:Bt),([]:List Val)⟩:Val) G.kids x3) λaa ab ad=>some (aa,ab,ad) else if (G.kind==7) then bd3 (rec.impl_fileReader_choice x1 G x3) λae af ah=>some (ae,af,ah) else if (G.kind==8) then bd3 (rec.impl_fileReader_option x1 G x3) λai aj ak=>some (ai,aj,ak) else if (G.kind==9) then bd3 (rec.impl_fileReader_checked x1 G x3) λal am an=>some (al,am,an) else bd (idx G.bytes 0) λap=>bd3 (i_N n x1.b x3 ap) λaq ar au=>if (!au) then bd (b_Y x3 1) λav=>some ((⟨0,([]:Bt),([]:List Val)⟩:Val),x3,av) else some ((⟨0,aq,([]:List Val)⟩:Val),ar,none)
def i_Q (n:Nat)(rec:g_r)(x1:a_F)(x2:b_)(x3:Int):Option (Val×Int×(Option<|Int×Int)) :=
 bd (idx x2.kids 0) λL=>bd3 (f_c x1 L x3) λH O I=>if I.isSome then some ((⟨0,([]:Bt),([]:List Val)⟩:Val),x3,I) else if (decide<|40<H) then bd (b_Y x3 6) λV=>some ((⟨0,([]:Bt),([]:List Val)⟩:Val),x3,V) else bd (mk0 0 H) λJ=>bd (y_ (σ:=List Int) (ρ:=Val×Int×(Option<|Int×Int)) (λW=>(λG=>bd (idx x2.kids 1) λY=>bd (upd G (W:Int) Y) λa0=>some<|.next a0)) J.length 0 J)<|el (λG=>bd3 (rec.impl_fileReader_items x1 (⟨0,([]:Bt),([]:List Val)⟩:Val) G O) λa1 a2 a3=>some (a1,a2,a3))<|λa4=>some a4
def i_R (n:Nat)(rec:g_r)(x1:a_F)(x2:Val)(x3:List Int)(x4:Int):Option (Val×Int×(Option<|Int×Int)) :=
 bd (y_ (σ:=Int×(List Val)) (ρ:=Val×Int×(Option<|Int×Int)) (λJ=>un2 λG H=>bd (idx x3 (J:Int)) λL=>bd3 (rec.impl_fileReader_value x1 L G) λO V I=>if I.isSome then some (.ret ((⟨0,([]:Bt),([]:List Val)⟩:Val),G,I)) else bd (psh H O) λW=>some<|.next (V,W)) x3.length 0 (x4,x2.items)) (el (un2 λG H=>some ((⟨x2.number,x2.bytes,H⟩:Val),G,none))<|λY=>some Y)
def i_S (n:Nat)(rec:g_r)(x1:a_F)(x2:b_)(x3:Int):Option (Val×Int×(Option<|Int×Int)) :=
 bd (idx x2.kids 0) λI=>bd3 (f_c x1 I x3) λG J H=>if H.isSome then some ((⟨0,([]:Bt),([]:List Val)⟩:Val),x3,H) else bd (y_ (σ:=Unit) (ρ:=Val×Int×(Option<|Int×Int)) (λk10=>(λ(_:Unit)=>bd (idx x2.tags (k10:Int)) λL=>if (L==G) then bd (slc x2.kids ((k10+1:Nat):Int)<|h_ (k10:Int) 2) λO=>bd3 (rec.impl_fileReader_items x1 (⟨G,([]:Bt),([]:List Val)⟩:Val) O J) λV W Y=>some (.ret (V,W,Y)) else some (.next ()))) x2.tags.length 0 ()) (el (λ(_:Unit)=>bd (b_Y x3 3) λa0=>some ((⟨0,([]:Bt),([]:List Val)⟩:Val),x3,a0))<|λa1=>some a1)
def i_T (n:Nat)(rec:g_r)(x1:a_F)(x2:b_)(x3:Int):Option (Val×Int×(Option<|Int×Int)) :=
 bd2 (f_b x1 x3 1) λG H=>if H.isSome then some ((⟨0,([]:Bt),([]:List Val)⟩:Val),x3,H) else bd (idx G 0) λI=>if (decide<|(byteI (1:UInt8))<(byteI I)) then bd (b_Y x3 4) λJ=>some ((⟨0,([]:Bt),([]:List Val)⟩:Val),x3,J) else bd (idx G 0) λL=>if ((byteI L)==(byteI (0:UInt8))) then some ((⟨0,([]:Bt),([]:List Val)⟩:Val),h_ x3 1,none) else bd3 (rec.impl_fileReader_items x1 (⟨0,([]:Bt),([]:List Val)⟩:Val) x2.kids<|h_ x3 1) λO V W=>some (O,V,W)
def i_U (n:Nat)(rec:g_r)(x1:a_F)(x2:b_)(x3:Int):Option (Val×Int×(Option<|Int×Int)) :=
 bd3 (rec.impl_fileReader_items x1 (⟨0,([]:Bt),([]:List Val)⟩:Val) x2.kids x3) λJ G H=>if H.isSome then some ((⟨0,([]:Bt),([]:List Val)⟩:Val),x3,H) else bd2 (f_b x1 G 1) λL I=>if I.isSome then some ((⟨0,([]:Bt),([]:List Val)⟩:Val),x3,I) else bd (idx L 0) λO=>bd (slc x1.b x3 G) λV=>bd (g_q V) λW=>if ((byteI O) != W) then bd (b_Y G 5) λY=>some ((⟨0,([]:Bt),([]:List Val)⟩:Val),x3,Y) else some (J,h_ G 1,none)
def a_m:Nat->g_r
 | 0=>⟨λ_ _ _=>none,λ_ _ _=>none,λ_ _ _ _=>none,λ_ _ _=>none,λ_ _ _=>none,λ_ _ _=>none⟩
 | n+1=>⟨i_P n<|a_m n,i_Q n<|a_m n,i_R n<|a_m n,i_S n<|a_m n,i_T n<|a_m n,i_U n<|a_m n⟩
def k_5 (n:Nat):=(a_m n).impl_fileReader_value
def g_s (n:Nat):=(a_m n).impl_fileReader_items
def i_V (n:Nat)(x1:c_)(x2:Int)(x3:Bt)(x4:Int):Option (Val×Int×Int) :=
 bd (α:=Bool) (bd (g_p n x1 x2) λH=>if (!H) then some true else if (decide<|x4<0) then some true else if (decide<|(x3.length:Int)<x4) then some true else some (decide<|400<(x3.length:Int))) (λI=>if I then some ((⟨0,([]:Bt),([]:List Val)⟩:Val),0,8) else bd3 (k_5 n (⟨(⟨x1.rules⟩:c_),x3⟩:a_F) x2 x4) λJ L G=>if G.isSome then (bd2 G λO V=>some ((⟨0,([]:Bt),([]:List Val)⟩:Val),O,V)) else some (J,L,0))
def h_u (n:Nat)(x1:c_)(x2:Bt):Option (Val×Int×Int) :=
 bd (α:=Int×Bt×(List Val)×Int×Int) (bd (f_a x1) λJ=>bd3 (i_V n x1 J x2 0) λG L O=>some (G.number,G.bytes,G.items,L,O)) (un5 λV W Y H I=>bd (α:=Bool) (if (I==0) then some (decide<|H<(x2.length:Int)) else some false) (λa0=>if a0 then some ((⟨0,([]:Bt),([]:List Val)⟩:Val),H,7) else some ((⟨V,W,Y⟩:Val),H,I)))
def f_d (n:Nat)(x1:c_)(x2:Bt):Option Bool :=
 bd3 (h_u n x1 x2) λH I G=>some<|G==0
def f_e (x1:c_)(x2:Int)(x3:Val)(x4:Int):Option Int :=
 bd (idx x1.rules x2) λG=>if (G.kind==5) then bd (idx G.kids 1) λI=>some I else bd (α:=Sum Unit Int) (if (G.kind==6) then if (decide<|x4<(G.kids.length:Int)) then bd (idx G.kids x4) λJ=>some (.inr J) else some (.inl ()) else bd (α:=Sum Unit<|Sum Unit Int) (if (G.kind==7) then bd (y_ (σ:=Unit) (ρ:=Int) (λH=>(λ(_:Unit)=>bd (idx G.tags (H:Int)) λL=>if (L==x3.number) then bd (idx G.kids ((H+1:Nat):Int)) λO=>some (.ret O) else some (.next ()))) G.tags.length 0 ()) (el (λ(_:Unit)=>some<|.inl ())<|λV=>some<|.inr<|.inr V) else bd (α:=Bool) (if (G.kind==8) then some (G.kind==8) else some (G.kind==9)) (λW=>if W then bd (idx G.kids 0) λY=>some (.inr<|.inr Y) else some (.inl ()))) (el (λ(_:Unit)=>some<|.inl ()) some)) (el (λ(_:Unit)=>some (-1)) some)
def d_b (x1:Int)(x2:Int):Option Int :=
 if (decide<|x2<x1) then some x2 else some x1
def e_8 (n:Nat)(x1:Int)(x2:Int):Option Bt :=
 bd (α:=Bool) (bd (b_6 x2 1 4) λI=>if (!I) then some true else bd (d_a x2) λJ=>bd (b_6 x1 0<|j_ J 1) λL=>some (!L)) (λO=>if O then some ([]:Bt) else bd (M_ (σ:=Bt×Int) (ρ:=Bt) (un2 λH G=>if (decide<|0<=G) then bd (nn<|a_5 8 G) λY=>bd (psh H<|mkB<|a_g .i64 x1<|a_5 8 G) λV=>some (.next (V,j_ G 1)) else some (.brk (H,G))) n (([]:Bt),j_ x2 1)) (el (un2 λH G=>some H)<|λW=>some W))
def i_W (x1:W_):Option Bool :=
 bd (y_ (σ:=Unit) (ρ:=Bool) (λk10=>(λ(_:Unit)=>bd (idx x1.versions (k10:Int)) λG=>bd (f_6 G) λH=>if (!H) then some (.ret false) else some (.next ()))) x1.versions.length 0 ()) (el (λ(_:Unit)=>some<|decide<|(x1.versions.length:Int)<=8)<|λI=>some I)
def i_X (n:Nat)(x1:W_):Option Bool :=
 if (decide<|8<(x1.versions.length:Int)) then some false else bd (y_ (σ:=Unit) (ρ:=Bool) (λk10=>(λ(_:Unit)=>bd (idx x1.versions (k10:Int)) λG=>bd (h_s n G) λH=>if (!H) then some (.ret false) else some (.next ()))) x1.versions.length 0 ()) (el (λ(_:Unit)=>some true)<|λI=>some I)
def i_Y (x1:Int)(x2:Int):Option Bool :=
 some (decide<|x1<x2)
def k_6 (x2:Int)(x3:List Int):Option Int :=
 bd (y_ (σ:=Int) (ρ:=Int) (λI=>(λG=>bd (idx x3 (I:Int)) λH=>bd (i_Y H G) λJ=>bd (α:=Int) (if J then some H else some G)<|λL=>some<|.next L)) x3.length 0 x2) (el (λG=>some G)<|λO=>some O)
def h_v (x1:Int)(x2:Int):Option Int :=
 bd (k_6 x1 [x2]) λG=>some G
def h_w (x1:W_)(x2:Int):Option Bool :=
 bd (α:=Bool) (if (decide<|0<=x2) then some (decide<|x2<(x1.versions.length:Int)) else some false) (λG=>some G)
def k_7 (x1:b_):Option b_ :=
 bd (app ([]:Bt) x1.bytes) λG=>bd (app ([]:List Str) x1.names) λH=>bd (app ([]:List Int) x1.tags) λI=>bd (app ([]:List Int) x1.kids) λJ=>some (⟨x1.name,x1.kind,x1.size,x1.little,G,H,I,J⟩:b_)
def i_Z (x1:c_):Option c_ :=
 bd (y_ (σ:=List b_) (ρ:=c_) (λH=>(λG=>bd (idx x1.rules (H:Int)) λI=>bd (k_7 I) λJ=>bd (psh G J) λL=>some<|.next L)) x1.rules.length 0 ([]:List b_)) (el (λG=>some (⟨G⟩:c_))<|λO=>some O)
def n_P (x1:b_):Option b_ :=
 bd (app ([]:Bt) x1.bytes) λG=>bd (app ([]:List Str) x1.names) λH=>bd (app ([]:List Int) x1.tags) λI=>bd (app ([]:List Int) x1.kids) λJ=>some (⟨x1.name,x1.kind,x1.size,x1.little,G,H,I,J⟩:b_)
end Go.Vw
