
import Derived.Test.YtdaajhjijbcdcaaGreatDoorVwP27
namespace Go.Vw
open Go.RowKit Dat
section
variable {d:g_}{b:Bt}
def b_b (d:g_)(b:Bt)(pattern:Str):List s_:=(a_7 d b).filter (λe=>b_8 pattern e.path)
theorem m_t {α:Type}{f:α->Bool}{l:List α}{k:Nat}(hk:k<l.length):(l.take<|k+1).filter f=if f l[k] then (l.take k).filter f++[l[k]] else (l.take k).filter f:=by
 rw [e_R hk,List.filter_append]
 cases h:f l[k] <;> simp [h]
theorem m_u {e:s_}(he:e∈a_7 d b):e.path.b.length<=MX:=by
 have hMX:=MXv;obtain ⟨_,_,i,p,L⟩:=k_8 he;have:=L.path
 omega
theorem p_Q {l:List s_}(h:l.length<=10000)(x:s_):psh l x=some (l++[x]):=a_D (by rw [a_C];omega)
theorem k_b (f:s_->Bool)(k:Nat):(((a_7 d b).take k).filter f).length<=10000:=by
 have h1:=j_Y (d:=d) (b:=b);have h2:=List.length_filter_le f<|(a_7 d b).take k
 rw [List.length_take] at h2
 omega
theorem k_c {n:Nat}(hn:1048600<=n)(hd:SmD d){pattern:Str}(hp:pattern.b.length<=MX):f_e n d b pattern=some (b_b d b pattern):=by
 unfold f_e
 rw [p_f hd (by omega)]
 simp only [bd2_some]
 cases hok:okF d b with
 | false =>
  have:b_b d b pattern=[]:=by unfold b_b a_7;rw [hok];rfl
  rw [this];rfl
 | true =>
  simp only [nT_,bF_,fF_]
  unfold j_h j_g b_b;refine (congrArg (λz=>bd (bd z _) _)<|f_G (λk=>((a_7 d b).take k).filter (λe=>b_8 pattern e.path)) (n:=(a_7 d b).length) rfl<|λk hk=>?_).trans ?_
  .simp only [ix_ hk,bd_some,p_P hn hp<|m_u<|gE_ hk]
   rw [m_t hk]
   cases b_8 pattern (a_7 d b)[k].path with
   | true=>simp only [fT_];rw [p_Q (k_b _ k)];rfl
   | false=>rfl
  .rw [bd_some,el_inl,List.take_length];rfl
theorem p_R (pattern:Str):(b_b d b pattern).length<=10000:=by
 have h1:=j_Y (d:=d) (b:=b);have h2:=List.length_filter_le (λe:s_=>b_8 pattern e.path)<|a_7 d b;unfold b_b;omega
def b_j (d:g_)(b:Bt)(a:Int)(e:s_):Int:=if (P_ d.rules e.rule).kind=1 then a+d_v (a_f b e.start.toNat e.end_.toNat) (P_ d.rules e.rule).little else a
def sumP (d:g_)(b:Bt)(pattern:Str):Int:=(b_b d b pattern).foldl (b_j d b) 0
theorem m_v (hv:a_c d=true){i p:Nat}(hi:i<d.rules.length)(hp:p<=b.length)(hok:(rdW d.rules b i p).2.2=0)(h1:d.rules[i].kind=1):p<=(rdW d.rules b i p).2.1/\(rdW d.rules b i p).2.1<=b.length/\(rdW d.rules b i p).2.1<=p+4:=by
 have hle:=c_x hv i hi p hp;refine ⟨hle.1,hle.2,?_⟩;have hr:=b_n hv hi;have hin:=e_S hr.kind h1
 rw [d_y hv hi hp] at *
 generalize d.rules[i]=r at *
 unfold rdB at *
 rw [h1] at hok ⊢
 simp only [bQ_,fT_] at hok ⊢
 obtain ⟨_,_,h4⟩:=hin
 cases hq:a_d b r p with
 | none=>rw [hq] at hok;cases hok
 | some n=>simp only;omega
theorem m_w {e:s_}(he:e∈a_7 d b)(a:Int):∃q:Nat,e.rule=(q:Int)/\∃hq:q<d.rules.length,P_ d.rules e.rule=d.rules[q]/\(d.rules[q].kind=1->slc b e.start e.end_=some (a_f b e.start.toNat e.end_.toNat)/\(a_f b e.start.toNat e.end_.toNat).length<=4):=by
 obtain ⟨hv,hb,i,p,L⟩:=k_8 he;refine ⟨i,L.rule,L.hi,?_,λh1=>?_⟩
 .rw [L.rule]
  unfold P_
  simp [L.hi]
 .obtain ⟨h2,h3,h4⟩:=m_v hv L.hi L.hp L.ok h1
  rw [L.start,L.end_]
  simp only [tN_]
  refine ⟨c_P h2 h3,?_⟩
  rw [d_w h3];omega
theorem m_x {l:List s_}(hl:∀e∈l,e∈a_7 d b):0<=l.foldl (b_j d b) 0/\l.foldl (b_j d b) 0<=4294967296 * l.length:=by
 have key:∀(l:List s_)(a:Int),(∀e∈l,e∈a_7 d b)->0<=a->0<=l.foldl (b_j d b) a/\l.foldl (b_j d b) a<=a+4294967296 * l.length:=by
  intro l
  induction l with
  | nil=>intro a _ h;exact ⟨h,by simp⟩
  | cons e l ih =>
   intro a h G
   have hs:0<=b_j d b a e/\b_j d b a e<=a+4294967296:=by
    obtain ⟨q,h1,hq,h2,h3⟩:=m_w (h e mS_) a;unfold b_j
    split
    .rename_i hk
     rw [h2] at hk ⊢
     have:=i_J (a_f b e.start.toNat e.end_.toNat) d.rules[q].little (h3 hk).2
     omega
    .omega
   have:=ih (b_j d b a e) (λx hx=>h x<|mT_ _ hx) hs.1
   rw [List.foldl_cons,lC_]
   omega
 have:=key l 0 hl<|Int.le_refl 0
 omega
theorem m_y {e:s_}{pattern:Str}(h:e∈b_b d b pattern):e∈a_7 d b:=(List.mem_filter.1 h).1
theorem p_S {l:List s_}{k:Nat}(hk:k<l.length):(l.take<|k+1).foldl (b_j d b) 0=b_j d b ((l.take k).foldl (b_j d b) 0) l[k]:=by
 rw [e_R hk,List.foldl_append];rfl
theorem p_T {pattern:Str}{k:Nat}(hk:k<(b_b d b pattern).length):0<=((b_b d b pattern).take k).foldl (b_j d b) 0/\((b_b d b pattern).take k).foldl (b_j d b) 0<=4294967296 * 10000:=by
 have h:=m_x (d:=d) (b:=b) (l:=(b_b d b pattern).take k)<|λe he=>m_y<|List.mem_of_mem_take he;have h1:=p_R (d:=d) (b:=b) pattern
 rw [List.length_take] at h
 omega
theorem p_U {n:Nat}(hn:1048600<=n)(hd:SmD d){pattern:Str}(hp:pattern.b.length<=MX):h_Q n d b pattern=some (sumP d b pattern):=by
 unfold h_Q sumP
 rw [k_c hn hd hp,bd_some]
 refine (congrArg (λz=>bd z _)<|f_G (λk=>((b_b d b pattern).take k).foldl (b_j d b) 0) (n:=(b_b d b pattern).length) rfl<|λk hk=>?_).trans ?_
 .have hb:=p_T hk
  rw [p_S hk]
  generalize ((b_b d b pattern).take k).foldl (b_j d b) 0=a at *
  obtain ⟨q,h1,hq,h2,h3⟩:=m_w (m_y<|gE_ hk) a
  simp only [ix_ hk,bd_some]
  rw [h1,ix_ hq]
  simp only [bd_some]
  unfold b_j
  rw [h2]
  by_cases G:d.rules[q].kind=1
  .rw [show (d.rules[q].kind==1)=true by simpa using G,iP_ G]
   obtain ⟨I,H⟩:=h3 G;have hi:=i_J (a_f b (b_b d b pattern)[k].start.toNat (b_b d b pattern)[k].end_.toNat) d.rules[q].little H
   simp only [fT_,I,bd_some]
   rw [k_6 _ _ H,bd_some,ia_ (by omega) (by omega)]
   rfl
  .rw [show (d.rules[q].kind==1)=false by simpa using G,iN_ G]
   rfl
 .rw [bd_some,el_inl,List.take_length]
end
end Go.Vw
