
import Derived.Test.YtajhmimbhplkfaaGreatDoorVc
namespace Go.Vw
open Go.RowKit Dat
section
variable {d:e_}{b:List UInt8}
def b_1 (d:e_)(b:List UInt8)(pattern:Str):List m_:=(b_0 d b).filter (fun e=>d_M pattern e.path)
theorem o_c {α:Type}{f:α->Bool}{l:List α}{k:Nat}(hk:k<l.length):(l.take<|k+1).filter f=if f l[k]=true then (l.take k).filter f++[l[k]] else (l.take k).filter f:=by
 rw [f_n hk,List.filter_append]
 cases h:f l[k] <;> simp [h]
theorem o_d {e:m_}(he:e∈b_0 d b):e.path.b.length<=MX:=by
 have hMX:=MXv;obtain ⟨_,_,i,p,L⟩:=n_Z he;have:=L.path
 omega
theorem o_e {l:List m_}(h:l.length<=10000)(x:m_):psh l x=some (l++[x]):=b_h (by rw [a_u];omega)
theorem o_f (f:m_->Bool)(k:Nat):(((b_0 d b).take k).filter f).length<=10000:=by
 have h1:=n_H (d:=d) (b:=b);have h2:=List.length_filter_le f<|(b_0 d b).take k
 rw [List.length_take] at h2
 omega
theorem s_v {n:Nat}(hn:1048600<=n)(hd:SmD d){pattern:Str}(hp:pattern.b.length<=MX):i_D n d b pattern=some (b_1 d b pattern):=by
 unfold i_D b_1
 rw [s_4 hd (by omega)]
 simp only [bd2_some]
 refine (congrArg (fun z=>bd z _)<|e_F (fun k=>((b_0 d b).take k).filter (fun e=>d_M pattern e.path)) (n:=(b_0 d b).length) rfl<|fun k hk=>?_).trans ?_
 ·simp only [ix_ hk,bd_some,s_t hn hp<|o_d<|gE_ hk]
  rw [o_c hk]
  cases d_M pattern (b_0 d b)[k].path with
  | true=>simp only [fT_];rw [o_e (o_f _ k)];rfl
  | false=>rfl
 ·rw [bd_some,el_inl,List.take_length]
theorem s_w {n:Nat}(hn:1048600<=n)(hd:SmD d){pattern:Str}(hp:pattern.b.length<=MX):i_J n d b pattern=some (b_1 d b pattern):=by
 unfold i_J
 rw [s_5 hd (by omega)]
 simp only [bd2_some]
 cases hok:okF d b with
 | false =>
  have:b_1 d b pattern=[]:=by unfold b_1 b_0;rw [hok];rfl
  rw [this];rfl
 | true =>
  simp only [nT_,bF_,fF_]
  unfold k_W k_V b_1;refine (congrArg (fun z=>bd (bd z _) _)<|e_F (fun k=>((b_0 d b).take k).filter (fun e=>d_M pattern e.path)) (n:=(b_0 d b).length) rfl<|fun k hk=>?_).trans ?_
  ·simp only [ix_ hk,bd_some,s_u hn hp<|o_d<|gE_ hk]
   rw [o_c hk]
   cases d_M pattern (b_0 d b)[k].path with
   | true=>simp only [fT_];rw [o_e (o_f _ k)];rfl
   | false=>rfl
  ·rw [bd_some,el_inl,List.take_length];rfl
theorem o_g (pattern:Str):(b_1 d b pattern).length<=10000:=by
 have h1:=n_H (d:=d) (b:=b);have h2:=List.length_filter_le (fun e:m_=>d_M pattern e.path)<|b_0 d b;unfold b_1;omega
def b_z (d:e_)(b:List UInt8)(a:Int)(e:m_):Int:=if (K_ d.rules e.rule).kind=1 then a+d_q (a_a b e.start.toNat e.end_.toNat) (K_ d.rules e.rule).little else a
def e_c (d:e_)(b:List UInt8)(pattern:Str):Int:=(b_1 d b pattern).foldl (b_z d b) 0
theorem s_x (hv:a_4 d=true){i p:Nat}(hi:i<d.rules.length)(hp:p<=b.length)(hok:(rdW d.rules b i p).2.2=0)(h1:d.rules[i].kind=1):p<=(rdW d.rules b i p).2.1/\(rdW d.rules b i p).2.1<=b.length/\(rdW d.rules b i p).2.1<=p+4:=by
 have hle:=d_1 hv i hi p hp;refine ⟨hle.1,hle.2,?_⟩;have hr:=b_R hv hi;have hin:=g_h hr.kind h1
 rw [f_u hv hi hp] at *
 generalize d.rules[i]=r at *
 unfold rdB at *
 rw [h1] at hok ⊢
 simp only [bQ_,fT_] at hok ⊢
 obtain ⟨_,_,h4⟩:=hin
 cases hq:a_d b r p with
 | none=>rw [hq] at hok;cases hok
 | some n=>simp only;omega
theorem l_E {e:m_}(he:e∈b_0 d b)(a:Int):∃q:Nat,e.rule=(q:Int)/\∃hq:q<d.rules.length,K_ d.rules e.rule=d.rules[q]/\(d.rules[q].kind=1->slc b e.start e.end_=some (a_a b e.start.toNat e.end_.toNat)/\(a_a b e.start.toNat e.end_.toNat).length<=4):=by
 obtain ⟨hv,hb,i,p,L⟩:=n_Z he;refine ⟨i,L.rule,L.hi,?_,fun h1=>?_⟩
 ·rw [L.rule]
  unfold K_
  simp [L.hi]
 ·obtain ⟨h2,h3,h4⟩:=s_x hv L.hi L.hp L.ok h1
  rw [L.start,L.end_]
  simp only [tN_]
  refine ⟨c_Y h2 h3,?_⟩
  rw [e_d h3];omega
theorem o_h {l:List m_}(hl:∀e∈l,e∈b_0 d b):0<=l.foldl (b_z d b) 0/\l.foldl (b_z d b) 0<=4294967296 * l.length:=by
 have key:∀(l:List m_)(a:Int),(∀e∈l,e∈b_0 d b)->0<=a->0<=l.foldl (b_z d b) a/\l.foldl (b_z d b) a<=a+4294967296 * l.length:=by
  intro l
  induction l with
  | nil=>intro a _ h;exact ⟨h,by simp⟩
  | cons e l ih =>
   intro a h G
   have hs:0<=b_z d b a e/\b_z d b a e<=a+4294967296:=by
    obtain ⟨q,h1,hq,h2,h3⟩:=l_E (h e mS_) a;unfold b_z
    split
    ·rename_i hk
     rw [h2] at hk ⊢
     have:=j_T (a_a b e.start.toNat e.end_.toNat) d.rules[q].little (h3 hk).2
     omega
    ·omega
   have:=ih (b_z d b a e) (fun x hx=>h x<|mT_ _ hx) hs.1
   rw [List.foldl_cons,lC_]
   omega
 have:=key l 0 hl<|Int.le_refl 0
 omega
theorem j_Z {e:m_}{pattern:Str}(h:e∈b_1 d b pattern):e∈b_0 d b:=(List.mem_filter.1 h).1
theorem o_i {l:List m_}{k:Nat}(hk:k<l.length):(l.take<|k+1).foldl (b_z d b) 0=b_z d b ((l.take k).foldl (b_z d b) 0) l[k]:=by
 rw [f_n hk,List.foldl_append];rfl
theorem o_j {pattern:Str}{k:Nat}(hk:k<(b_1 d b pattern).length):0<=((b_1 d b pattern).take k).foldl (b_z d b) 0/\((b_1 d b pattern).take k).foldl (b_z d b) 0<=4294967296 * 10000:=by
 have h:=o_h (d:=d) (b:=b) (l:=(b_1 d b pattern).take k)<|fun e he=>j_Z<|List.mem_of_mem_take he;have h1:=o_g (d:=d) (b:=b) pattern
 rw [List.length_take] at h
 omega
theorem s_y {n:Nat}(hn:1048600<=n)(hd:SmD d){pattern:Str}(hp:pattern.b.length<=MX):i_E n d b pattern=some (e_c d b pattern):=by
 unfold i_E e_c
 rw [s_v hn hd hp,bd_some]
 refine (congrArg (fun z=>bd z _)<|e_F (fun k=>((b_1 d b pattern).take k).foldl (b_z d b) 0) (n:=(b_1 d b pattern).length) rfl<|fun k hk=>?_).trans ?_
 ·have hb:=o_j hk
  rw [o_i hk]
  generalize ((b_1 d b pattern).take k).foldl (b_z d b) 0=a at *
  obtain ⟨q,h1,hq,h2,h3⟩:=l_E (j_Z<|gE_ hk) a
  simp only [ix_ hk,bd_some]
  rw [h1,ix_ hq]
  simp only [bd_some]
  unfold b_z
  rw [h2]
  by_cases h:d.rules[q].kind=1
  ·rw [show (d.rules[q].kind==1)=true by simpa using h,iP_ h]
   obtain ⟨H,G⟩:=h3 h;have hi:=j_T (a_a b (b_1 d b pattern)[k].start.toNat (b_1 d b pattern)[k].end_.toNat) d.rules[q].little G
   simp only [fT_,H,bd_some]
   rw [l_x _ _ G,bd_some,ia_ (by omega) (by omega)]
   rfl
  ·rw [show (d.rules[q].kind==1)=false by simpa using h,iN_ h]
   rfl
 ·rw [bd_some,el_inl,List.take_length]
theorem s_z {n:Nat}(hn:1048600<=n)(hd:SmD d){pattern:Str}(hp:pattern.b.length<=MX):i_K n d b pattern=some (e_c d b pattern):=by
 unfold i_K e_c
 rw [s_w hn hd hp,bd_some]
 refine (congrArg (fun z=>bd z _)<|e_F (fun k=>((b_1 d b pattern).take k).foldl (b_z d b) 0) (n:=(b_1 d b pattern).length) rfl<|fun k hk=>?_).trans ?_
 ·have hb:=o_j hk
  rw [o_i hk]
  generalize ((b_1 d b pattern).take k).foldl (b_z d b) 0=a at *
  obtain ⟨q,h1,hq,h2,h3⟩:=l_E (j_Z<|gE_ hk) a
  simp only [ix_ hk,bd_some]
  rw [h1,ix_ hq]
  simp only [bd_some]
  unfold b_z
  rw [h2]
  by_cases h:d.rules[q].kind=1
  ·rw [show (d.rules[q].kind==1)=true by simpa using h,iP_ h]
   obtain ⟨H,G⟩:=h3 h;have hi:=j_T (a_a b (b_1 d b pattern)[k].start.toNat (b_1 d b pattern)[k].end_.toNat) d.rules[q].little G
   simp only [fT_,H,bd_some]
   rw [l_z _ _ G,bd_some,ia_ (by omega) (by omega)]
   rfl
  ·rw [show (d.rules[q].kind==1)=false by simpa using h,iN_ h]
   rfl
 ·rw [bd_some,el_inl,List.take_length]
end
end Go.Vw
