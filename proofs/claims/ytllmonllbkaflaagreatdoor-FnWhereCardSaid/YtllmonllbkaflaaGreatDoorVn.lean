
import Derived.Test.YtllmonllbkaflaaGreatDoorVm
namespace Go.Vw
open Go.RowKit Dat
def e_v (r:b_)(ts:List Str)(j:Nat):Str:=if r.kind=6 then ⟨(r.names.getD j ⟨[]⟩).b++[58]++(ts.getD j ⟨[]⟩).b⟩ else ts.getD j ⟨[]⟩
def b_X (r:b_)(ts:List Str):List Str:=(List.range ts.length).map (e_v r ts)
theorem e_w (r:b_)(ts:List Str):(b_X r ts).length=ts.length:=by unfold b_X;simp
theorem m_w (r:b_)(ts:List Str){j:Nat}(h:j<(b_X r ts).length):(b_X r ts)[j]=e_v r ts j:=by simp only [b_X,List.getElem_map,List.getElem_range]
def c_Q (l:List Str):Bt:=Lib.join (l.map (·.b)) [44]
theorem u_b {l:List Str}{k:Nat}(h:k<l.length):c_Q (l.take<|k+1)=if k=0 then l[k].b else c_Q (l.take k)++[44]++l[k].b:=by
 unfold c_Q
 rw [List.take_add_one,gG_ h,Option.toList_some,List.map_append,List.map_cons,List.map_nil,u_8]
 by_cases hk:k=0
 .subst hk;simp
 .rw [iN_ hk,iN_]
  intro he;have:=congrArg List.length he
  rw [List.length_map,List.length_take,List.length_nil] at this
  omega
section
variable {d:c_}{r:b_}{v:Val}{ts:List Str}{m:Nat}
theorem p_f (hn:r.kind=6->∀s∈r.names,s.b.length<=12)(hl:ts.length=v.items.length)(hs:∀j (h:j<ts.length) (h':j<v.items.length),ts[j].b.length<=40 * vsz m v.items[j]+22) :
  ∀k,k<=ts.length->(c_Q<|(b_X r ts).take k).length<=40 * lsz m (v.items.take k):=by
 intro k hk;refine u_a m _ _ (by rw [List.length_take,List.length_take,e_w,hl])<|λj h h'=>?_
 rw [List.length_take] at h h'
 rw [List.getElem_take,List.getElem_take,m_w]
 have H:=hs j (by omega) (by omega);have hg:ts.getD j ⟨[]⟩=ts[j]'(by omega):=Z_ (by omega);unfold e_v
 rw [hg]
 split
 .rename_i G
  have:(r.names.getD j ⟨[]⟩).b.length<=12:=by
   rw [gD_]
   cases hx:r.names[j]? with
   | none=>simp
   | some s=>exact hn G s<|List.mem_of_getElem? hx
  simp only [List.length_append,lC_,List.length_nil]
  omega
 .omega
theorem u_c {n:Nat}{rec:k_V}(hk:h_e r)(hn:r.kind=6->∀s∈r.names,s.b.length<=12)(h6:r.kind=6->r.names.length=v.items.length)(hl:ts.length=v.items.length)(hz:lsz m v.items<=20000)
  (hs:∀j (h:j<ts.length) (h':j<v.items.length),ts[j].b.length<=40 * vsz m v.items[j]+22)
  (hrec:∀j (h:j<ts.length) (h':j<v.items.length),rec.spec_l10Text d (X_ r v.number j) v.items[j]=some ts[j]):j_p n rec d r v=some ⟨c_Q<|b_X r ts⟩:=by
 have hLIM:=a_m;have hps:=p_f (m:=m) hn hl hs;unfold j_p;refine (congrArg (λz=>bd z _)<|i_h (λk=>(⟨c_Q<|(b_X r ts).take k⟩:Str)) (n:=v.items.length) rfl<|λj hj=>?_).trans ?_
 .have hjt:j<ts.length:=by omega
  have hp:=hps j (by omega);have ht:=o_B m v.items j hj;have h0:=hs j hjt hj;have hg:ts.getD j ⟨[]⟩=ts[j]:=Z_ hjt
  rw [u_b (by rw [e_w];exact hjt),m_w]
  generalize c_Q ((b_X r ts).take j)=J at hp
  have fin:∀s:Str,s.b.length<=40 * lsz m (v.items.take j)+1->(bd (α:=Str) (if (r.kind==6) then bd (idx r.names ((j:Nat):Int)) λI=>bd (cat s I) λL=>bd (cat L (⟨[58]⟩:Str)) λO=>some O else some s)<|λV=>bd (idx v.items ((j:Nat):Int)) λW=>bd (b_9 r v.number ((j:Nat):Int)) λY=>bd (rec.spec_l10Text d Y W) λa0=>bd (cat V a0) λa1=>(some (.next a1):Option (Out Str Str)))=some (.next ⟨s.b++(e_v r ts j).b⟩):=by
   intro s hsl;unfold e_v
   rw [hg]
   by_cases G:r.kind=6
   .have hjn:j<r.names.length:=by have:=h6 G;omega
    have hnl:=hn G _<|gE_ hjn
    rw [show (r.kind==6)=true by simpa using G,iP_ rfl,iP_ G,ix_ hjn,bd_some,a_6 (by omega),bd_some,a_6 (by simp only [List.length_append,lC_,List.length_nil];omega),bd_some,bd_some,ix_ hj,bd_some,c_D hk,bd_some,hrec j hjt hj,bd_some,a_6 (by simp only [List.length_append,lC_,List.length_nil];omega),bd_some,Z_ hjn]
    simp
   .rw [show (r.kind==6)=false by simpa using G,iN_ (by simp),iN_ G,bd_some,ix_ hj,bd_some,c_D hk,bd_some,hrec j hjt hj,bd_some,a_6 (by omega),bd_some]
  by_cases H:j=0
  .subst H
   rw [dF_ (by omega),iN_ (by simp),bd_some,iP_ rfl,fin _ (by simp only;omega)]
   have:J=[]:=by
    have a2:lsz m (v.items.take 0)=0:=by simp [lsz]
    rw [a2] at hp
    exact List.eq_nil_of_length_eq_zero (by omega)
   rw [this];rfl
  .rw [dT_ (show (0:Int)<(j:Int) by omega),iP_ rfl,a_6 (by simp only [lC_,List.length_nil];omega),bd_some,bd_some,iN_ H,fin _ (by simp only [List.length_append,lC_,List.length_nil];omega)]
 .rw [bd_some,el_inl,List.take_of_length_le (by rw [e_w];omega)]
theorem p_g {l:List Str}(h:(c_Q l).length<=1000000):h_F l ⟨[44]⟩=some ⟨c_Q l⟩:=by
 unfold h_F j_G
 rw [iP_ (show (h_S l ⟨[44]⟩).b.length<=LEN from Nat.le_trans h (by decide)),bd_some]
 rfl
end
end Go.Vw
