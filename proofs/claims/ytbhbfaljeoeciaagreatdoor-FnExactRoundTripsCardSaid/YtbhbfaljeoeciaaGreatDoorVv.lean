
import Derived.Test.YtbhbfaljeoeciaaGreatDoorVu
namespace Go.Vw
open Go.RowKit Dat
def b_J (r:g_)(ts:List Str)(j:Nat):Str:=if r.kind=6 then ⟨(r.names.getD j ⟨[]⟩).b++[58]++(ts.getD j ⟨[]⟩).b⟩ else ts.getD j ⟨[]⟩
def a_6 (r:g_)(ts:List Str):List Str:=(List.range ts.length).map (b_J r ts)
theorem b_c (r:g_)(ts:List Str):(a_6 r ts).length=ts.length:=by unfold a_6;simp
theorem e_o (r:g_)(ts:List Str){j:Nat}(h:j<(a_6 r ts).length):(a_6 r ts)[j]=b_J r ts j:=by simp only [a_6,List.getElem_map,List.getElem_range]
def a_q (l:List Str):List UInt8:=Lib.join (l.map (·.b)) [44]
theorem q_n {l:List Str}{k:Nat}(h:k<l.length):a_q (l.take<|k+1)=if k=0 then l[k].b else a_q (l.take k)++[44]++l[k].b:=by
 unfold a_q
 rw [List.take_add_one,gG_ h,Option.toList_some,List.map_append,List.map_cons,List.map_nil,q_k]
 by_cases hk:k=0
 ·subst hk;simp
 ·rw [iN_ hk,iN_]
  intro he;have:=congrArg List.length he
  rw [List.length_map,List.length_take,List.length_nil] at this
  omega
section
variable {d:c_}{r:g_}{v:Val}{ts:List Str}{m:Nat}
theorem m_M (hn:r.kind=6->∀s∈r.names,s.b.length<=12)(hl:ts.length=v.items.length)(hs:∀j (h:j<ts.length) (h':j<v.items.length),ts[j].b.length<=40 * vsz m v.items[j]+22) :
  ∀k,k<=ts.length->(a_q<|(a_6 r ts).take k).length<=40 * lsz m (v.items.take k):=by
 intro k hk;refine q_m m _ _ (by rw [List.length_take,List.length_take,b_c,hl])<|fun j h h'=>?_
 rw [List.length_take] at h h'
 rw [List.getElem_take,List.getElem_take,e_o]
 have H:=hs j (by omega) (by omega);have hg:ts.getD j ⟨[]⟩=ts[j]'(by omega):=W_ (by omega);unfold b_J
 rw [hg]
 split
 ·rename_i G
  have:(r.names.getD j ⟨[]⟩).b.length<=12:=by
   rw [gD_]
   cases hx:r.names[j]? with
   | none=>simp
   | some s=>exact hn G s<|List.mem_of_getElem? hx
  simp only [List.length_append,lC_,List.length_nil]
  omega
 ·omega
theorem q_o {n:Nat}{rec:j_c}(hk:d_2 r)(hn:r.kind=6->∀s∈r.names,s.b.length<=12)(h6:r.kind=6->r.names.length=v.items.length)(hl:ts.length=v.items.length)(hz:lsz m v.items<=20000)
  (hs:∀j (h:j<ts.length) (h':j<v.items.length),ts[j].b.length<=40 * vsz m v.items[j]+22)
  (hrec:∀j (h:j<ts.length) (h':j<v.items.length),rec.spec_l10Text d (N_ r v.number j) v.items[j]=some ts[j]):h_t n rec d r v=some ⟨a_q<|a_6 r ts⟩:=by
 have hLIM:=a_p;have hps:=m_M (m:=m) hn hl hs;unfold h_t;refine (congrArg (fun z=>bd z _)<|d_N (fun k=>(⟨a_q<|(a_6 r ts).take k⟩:Str)) (n:=v.items.length) rfl<|fun j hj=>?_).trans ?_
 ·have hjt:j<ts.length:=by omega
  have hp:=hps j (by omega);have ht:=m_y m v.items j hj;have h0:=hs j hjt hj;have hg:ts.getD j ⟨[]⟩=ts[j]:=W_ hjt
  rw [q_n (by rw [b_c];exact hjt),e_o]
  generalize a_q ((a_6 r ts).take j)=J at hp
  have fin:∀s:Str,s.b.length<=40 * lsz m (v.items.take j)+1->(bd (α:=Str) (if (r.kind==6)=true then bd (idx r.names ((j:Nat):Int)) fun I=>bd (cat s I) fun L=>bd (cat L (⟨[58]⟩:Str)) fun O=>some O else some s)<|fun V=>bd (idx v.items ((j:Nat):Int)) fun W=>bd (b_d r v.number ((j:Nat):Int)) fun Y=>bd (rec.spec_l10Text d Y W) fun a0=>bd (cat V a0) fun a1=>(some (.next a1):Option (Out Str Str)))=some (.next ⟨s.b++(b_J r ts j).b⟩):=by
   intro s hsl;unfold b_J
   rw [hg]
   by_cases G:r.kind=6
   ·have hjn:j<r.names.length:=by have:=h6 G;omega
    have hnl:=hn G _<|gE_ hjn
    rw [show (r.kind==6)=true by simpa using G,iP_ rfl,iP_ G,ix_ hjn,bd_some,a_g (by omega),bd_some,a_g (by simp only [List.length_append,lC_,List.length_nil];omega),bd_some,bd_some,ix_ hj,bd_some,c_L hk,bd_some,hrec j hjt hj,bd_some,a_g (by simp only [List.length_append,lC_,List.length_nil];omega),bd_some,W_ hjn]
    simp
   ·rw [show (r.kind==6)=false by simpa using G,iN_ (by simp),iN_ G,bd_some,ix_ hj,bd_some,c_L hk,bd_some,hrec j hjt hj,bd_some,a_g (by omega),bd_some]
  by_cases H:j=0
  ·subst H
   rw [dF_ (by omega),iN_ (by simp),bd_some,iP_ rfl,fin _ (by simp only;omega)]
   have:J=[]:=by
    have a2:lsz m (v.items.take 0)=0:=by simp [lsz]
    rw [a2] at hp
    exact List.eq_nil_of_length_eq_zero (by omega)
   rw [this];rfl
  ·rw [dT_ (show (0:Int)<(j:Int) by omega),iP_ rfl,a_g (by simp only [lC_,List.length_nil];omega),bd_some,bd_some,iN_ H,fin _ (by simp only [List.length_append,lC_,List.length_nil];omega)]
 ·rw [bd_some,el_inl,List.take_of_length_le (by rw [b_c];omega)]
theorem m_N {l:List Str}(h:(a_q l).length<=1000000):f_y l ⟨[44]⟩=some ⟨a_q l⟩:=by
 unfold f_y i_k
 rw [iP_ (show (g_a l ⟨[44]⟩).b.length<=LEN from Nat.le_trans h (by decide)),bd_some]
 rfl
end
end Go.Vw
