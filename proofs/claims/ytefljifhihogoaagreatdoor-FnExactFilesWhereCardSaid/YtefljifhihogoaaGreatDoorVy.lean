
import Derived.Test.YtefljifhihogoaaGreatDoorVx
namespace Go.Vw
set_option linter.unusedVariables false
open Go.RowKit Dat
def f_h (r:f_)(ts:List Str)(j:Nat):Str:=if r.kind=6 then ⟨(r.names.getD j ⟨[]⟩).b++[58]++(ts.getD j ⟨[]⟩).b⟩ else ts.getD j ⟨[]⟩
def c_k (r:f_)(ts:List Str):List Str:=(List.range ts.length).map (f_h r ts)
theorem g_j (r:f_)(ts:List Str):(c_k r ts).length=ts.length:=by simp [c_k]
theorem o_o (r:f_)(ts:List Str){j:Nat}(h:j<(c_k r ts).length):(c_k r ts)[j]=f_h r ts j:=by simp [c_k]
def d_n (l:List Str):Bt:=Lib.join (l.map (·.b)) [44]
theorem y_1 {l:List Str}{k:Nat}(h:k<l.length):d_n (l.take<|k+1)=if k=0 then l[k].b else d_n (l.take k)++[44]++l[k].b:=by
 unfold d_n
 rw [QAy,gG_ h,QBB,QBN,List.map_cons,List.map_nil,x_Y]
 by_cases hk:k=0
 .grind
 .rw [iN_ hk,iN_]
  intro he
  simp_all
section
variable {d:d_}{r:f_}{v:Val}{ts:List Str}{m:Nat}
theorem s_u (hn:r.kind=6->∀s∈r.names,s.b.length<=12)(hl:ts.length=v.items.length)(hs:∀j (h:j<ts.length) (h':j<v.items.length),ts[j].b.length<=40 * vsz m v.items[j]+22) :
  ∀k,k<=ts.length->(d_n<|(c_k r ts).take k).length<=40 * lsz m (v.items.take k):=by
 intro k hk;refine y_0 m _ _ (by grind [List.length_take,g_j])<|λj h h'=>?_
 rw [QAT] at h h'
 rw [List.getElem_take,List.getElem_take,o_o]
 grind [f_h]
theorem y_2 {n:Nat}{rec:n_b}(hk:i_a r)(hn:r.kind=6->∀s∈r.names,s.b.length<=12)(h6:r.kind=6->r.names.length=v.items.length)(hl:ts.length=v.items.length)(hz:lsz m v.items<=20000)
  (hs:∀j (h:j<ts.length) (h':j<v.items.length),ts[j].b.length<=40 * vsz m v.items[j]+22)
  (hrec:∀j (h:j<ts.length) (h':j<v.items.length),rec.spec_l10Text d (a_n r v.number j) v.items[j]=some ts[j]):l_f n rec d r v=some ⟨d_n<|c_k r ts⟩:=by
 have hLIM:=a_7;have hps:=s_u (m:=m) hn hl hs;unfold l_f;refine (congrArg (λz=>bd z _)<|j_s (λk=>(⟨d_n<|(c_k r ts).take k⟩:Str)) (n:=v.items.length) rfl<|λj hj=>?_).trans ?_
 .have hjt:j<ts.length:=by omega
  have hp:=hps j (by omega);have ht:=r_1 m v.items j hj;have h0:=hs j hjt hj;have hg:ts.getD j ⟨[]⟩=ts[j]:=a_x hjt
  rw [y_1 (by grind [g_j]),o_o]
  generalize d_n ((c_k r ts).take j)=J at hp
  have fin:∀s:Str,s.b.length<=40 * lsz m (v.items.take j)+1->(bd (α:=Str) (if (r.kind==6) then bd (idx r.names ((j:Nat):Int)) λI=>bd (cat s I) λL=>bd (cat L (⟨[58]⟩:Str)) λO=>some O else some s)<|λV=>bd (idx v.items ((j:Nat):Int)) λW=>bd (b_S r v.number ((j:Nat):Int)) λY=>bd (rec.spec_l10Text d Y W) λa0=>bd (cat V a0) λa1=>(some (.next a1):Option (Out Str Str)))=some (.next ⟨s.b++(f_h r ts j).b⟩):=by
   intro s hsl;unfold f_h
   rw [hg]
   by_cases G:r.kind=6
   .have hjn:j<r.names.length:=by omega
    have hnl:=hn G _<|gE_ hjn
    rw [show (r.kind==6)=true by grind,iP_ rfl,iP_ G,ix_ hjn,a_,a_y (by omega),a_,a_y (by grind),a_,a_,ix_ hj,a_,d_I hk,a_,hrec j hjt hj,a_,a_y (by grind),a_,a_x hjn]
    simp
   .rw [show (r.kind==6)=false by grind,iN_ (by simp),iN_ G,a_,ix_ hj,a_,d_I hk,a_,hrec j hjt hj,a_,a_y (by omega),a_]
  by_cases H:j=0
  .subst H
   rw [dF_ (by omega),iN_ (by simp),a_,iP_ rfl,fin _ (by grind)]
   simp_all [lsz,QAK]
  .rw [dT_ (show (0:Int)<(j:Int) by omega),iP_ rfl,a_y (by grind),a_,a_,iN_ H,fin _ (by grind)]
 grind [a_,W_,List.take_of_length_le,g_j]
theorem s_v {l:List Str}(h:(d_n l).length<=1000000):j_1 l ⟨[44]⟩=some ⟨d_n l⟩:=by
 unfold j_1 l_q
 rw [iP_ (show (j_8 l ⟨[44]⟩).b.length<=LEN from QAG h (by decide)),a_]
 rfl
end
end Go.Vw
