
import Derived.Test.YtgpbbhplnbndeaaGreatDoorVx
namespace Go.Vw
open Go.RowKit Dat
def mg (a b:List Int):List Int:=(List.range<|max a.length b.length).map (λi=>a.getD i 0+b.getD i 0)
theorem h_p (a b:List Int):(mg a b).length=max a.length b.length:=by unfold mg;simp
theorem g_u (a b:List Int)(i:Nat):(mg a b).getD i 0=a.getD i 0+b.getD i 0:=by
 by_cases h:i<(mg a b).length
 .have h':=h
  rw [h_p] at h'
  rw [gD_];unfold mg;rw [List.getElem?_map,List.getElem?_range h'];rfl
 .have h':=h
  rw [h_p] at h'
  rw [f_h (by omega),f_h (by omega),f_h (by omega)];rfl
structure Sml (a:List Int)(B:Int):Prop where
 len:a.length<=30
 bd:∀i,0<=a.getD i 0/\a.getD i 0<=B
theorem Sml.nil:Sml [] 0:=⟨by simp,λi=>by simp⟩
theorem Sml.mg {a b:List Int}{B C:Int}(ha:Sml a B)(hb:Sml b C):Sml (mg a b) (B+C) :=
 ⟨by have:=ha.len;have:=hb.len;rw [h_p];omega,λi=>by have:=ha.bd i;have:=hb.bd i;rw [g_u];omega⟩
theorem Sml.mono {a:List Int}{B C:Int}(ha:Sml a B)(h:B<=C):Sml a C:=⟨ha.len,λi=>by have:=ha.bd i;omega⟩
theorem q_q {a b:List Int}{B C:Int}(ha:Sml a B)(hb:Sml b C)(hBC:B+C<=1000000000):g_Z a b=some (mg a b):=by
 have hLIM:=a_9;have O:=ha.len;have V:=hb.len;have hlm:=h_p a b;unfold g_Z
 rw [l_1,bd_some,show max (a.length:Int) (b.length:Int)=((mg a b).length:Int) by omega,h_x (by omega),bd_some]
 have h:=f_i (ρ:=List Int) (s:=List.replicate (mg a b).length (0:Int)) (n:=(List.replicate (mg a b).length (0:Int)).length) (body:=λG=>(λH=>bd (c_U a ((G:Nat):Int)) λI=>bd (c_U b ((G:Nat):Int)) λJ=>bd (upd H ((G:Nat):Int) (d_ I J)) λL=>some (.next L))) (λk=>(mg a b).take k++List.replicate ((mg a b).length - k) 0) (by simp) (λj hj=>by
  rw [List.length_replicate] at hj
  have:=ha.bd j;have:=hb.bd j
  rw [k_O a (by omega),bd_some,k_O b (by omega),bd_some,tN_,f_l (by simp;omega),bd_some,ia_ (by omega) (by omega),← g_u,B_ hj]
  congr 2
  rw [List.set_append_right _ _ (by simp;omega),List.take_add_one,gG_ hj,Option.toList_some]
  rw [show (mg a b).length - j=((mg a b).length - (j+1))+1 by omega,List.replicate_succ]
  rw [show j - ((mg a b).take j).length=0 by simp;omega,List.set_cons_zero]
  simp only [List.append_assoc,List.cons_append,List.nil_append])
 rw [h,bd_some,el_inl]
 simp
theorem m_m {a b:List Int}{B C:Int}(ha:Sml a B)(hb:Sml b C)(hBC:B+C<=1000000000){n:Nat}(hn:100<=n):f_y n a b=some (mg a b):=by
 have hLIM:=a_9;have L:=ha.len;have O:=hb.len;have hlm:=h_p a b;unfold f_y
 suffices h:∃r,_=some r/\r=mg a b by obtain ⟨r,e,rfl⟩:=h;exact e
 refine j_9 (λs=>∃k:Nat,k<=(mg a b).length/\s=((mg a b).take k,(k:Int))) (λs=>(mg a b).length - s.2.toNat) (λs=>s.1=mg a b) ⟨0,Nat.zero_le _,by simp⟩ (by simp only;omega) ?_<|λs hs=>⟨_,rfl,hs⟩;rintro _ ⟨k,hk,rfl⟩
 simp only [un2]
 have hc:(if decide ((k:Int)<(a.length:Int)) then some true else some (decide<|(k:Int)<(b.length:Int)))=some (decide<|k<(mg a b).length):=by
  by_cases h:(k:Int)<(a.length:Int)
  .rw [dT_ h,iP_ rfl,dT_ (by omega)]
  .rw [dF_ h,iN_ (by simp)]
   congr 1
   rw [decide_eq_decide];omega
 have I:(if decide ((k:Int)<(a.length:Int)) then bd (idx a (k:Int)) λG=>some G else some 0)=some (a.getD k 0):=by
  by_cases h:(k:Int)<(a.length:Int)
  .rw [dT_ h,iP_ rfl,ix_ (by omega),bd_some,B_ (by omega)]
  .rw [dF_ h,iN_ (by simp),f_h (by omega)]
 have J:(if decide ((k:Int)<(b.length:Int)) then bd (idx b (k:Int)) λH=>some (d_ (a.getD k 0) H) else some (a.getD k 0))=some ((mg a b).getD k 0):=by
  have:=ha.bd k;have:=hb.bd k
  rw [g_u]
  by_cases h:(k:Int)<(b.length:Int)
  .rw [dT_ h,iP_ rfl,ix_ (by omega),bd_some,← B_ (x:=0) (by omega:k<b.length),ia_ (by omega) (by omega)]
  .rw [dF_ h,iN_ (by simp),f_h (show b.length<=k by omega),Int.add_zero]
 rw [hc,bd_some]
 by_cases h:k<(mg a b).length
 .left
  rw [dT_ h,iP_ rfl,I,bd_some,J,bd_some,a_d (by simp;omega),bd_some]
  refine ⟨_,rfl,⟨k+1,by omega,?_⟩,by simp only;rw [ia_ (by omega) (by omega)];omega⟩
  rw [ia_ (by omega) (by omega),B_ h,List.take_add_one,gG_ h]
  rfl
 .right
  rw [dF_ h,iN_ (by simp)]
  exact ⟨_,rfl,List.take_of_length_le (by omega)⟩
def c_w (x o:List Int):Prop:=∃i,i<x.length/\0<x.getD i 0/\o.getD i 0=0
open Classical in
theorem q_r (x o:List Int):g_T x o=some (decide<|c_w x o):=by
 unfold g_T
 rcases c_e (ρ:=Bool) (σ:=Unit) (n:=x.length) (body:=λH=>(λ(_:Unit)=>bd (idx x ((H:Nat):Int)) λL=>bd (α:=Bool) (if (decide<|0<L) then bd (c_U o ((H:Nat):Int)) λI=>some (I==0) else some false) (λJ=>if J then some (.ret true) else some (.next ()))))
  (λk _=>∀i,i<k->¬(0<x.getD i 0/\o.getD i 0=0)) (λr=>r=true/\c_w x o) (λk s hk hi=>by
   rw [ix_ hk,bd_some,k_O o (by omega),bd_some,tN_,← B_ (x:=0) hk]
   by_cases h:0<x.getD k 0
   .rw [dT_ h,iP_ rfl,bd_some]
    by_cases G:o.getD k 0=0
    .right
     rw [G,iP_ (by simp)]
     exact ⟨true,rfl,rfl,k,hk,h,G⟩
    .left
     rw [iN_ (by simpa using G)]
     refine ⟨(),rfl,λi hi'=>?_⟩
     by_cases hik:i=k
     .subst hik;exact λhh=>G hh.2
     .exact hi i (by omega)
   .left
    rw [dF_ h,iN_ (by simp),bd_some,iN_ (by simp)]
    refine ⟨(),rfl,λi hi'=>?_⟩
    by_cases hik:i=k
    .subst hik;exact λhh=>h hh.1
    .exact hi i (by omega)) x.length 0 () (by omega) (λi hi=>by omega) with ⟨s,e,hs⟩ | ⟨r,e,rfl,hr⟩
 .rw [e,bd_some,el_inl,dF_]
  rintro ⟨i,h1,h2⟩;exact hs i h1 h2
 .rw [e,bd_some,el_inr,dT_ hr]
theorem q_s (l:List Int)(q:Int):g_W l q=some (decide<|q∈l):=by
 unfold g_W
 rcases c_e (ρ:=Bool) (σ:=Unit) (n:=l.length) (body:=λG=>(λ(_:Unit)=>bd (idx l ((G:Nat):Int)) λH=>if (H==q) then some (.ret true) else some (.next ())))
  (λk _=>∀i (h:i<l.length),i<k->l[i] ≠ q) (λr=>r=true/\q∈l) (λk s hk hi=>by
   rw [ix_ hk,bd_some]
   by_cases h:l[k]=q
   .right
    rw [iP_ (by simpa using h)]
    exact ⟨true,rfl,rfl,h ▸ gE_ hk⟩
   .left
    rw [iN_ (by simpa using h)]
    refine ⟨(),rfl,λi h1 h2=>?_⟩
    by_cases hik:i=k
    .subst hik;exact h
    .exact hi i h1 (by omega)) l.length 0 () (by omega) (λi _ hi=>by omega) with ⟨s,e,hs⟩ | ⟨r,e,rfl,hr⟩
 .rw [e,bd_some,el_inl,dF_]
  intro h;obtain ⟨i,h1,h2⟩:=List.getElem_of_mem h;exact hs i h1 h1 h2
 .rw [e,bd_some,el_inr,dT_ hr]
def c_x (d:b_)(p:List Bool)(c:List Int):List Nat:=(List.range d.rules.length).filter (λi=>p.getD i false && c.getD i 0==0)
theorem q_t (d:b_)(p:List Bool)(c:List Int):(c_x d p c).length<=d.rules.length:=by
 unfold c_x;exact Nat.le_trans (List.length_filter_le _ _) (by simp)
def nmQ (d:b_)(i:Nat):Str:=(d.rules.getD i default).name
theorem j_a {d:b_}(hv:I_ d=true)(hs:SmD d){n:Nat}{p:List Bool}(hp:f_z n d=some p)(hl:p.length=d.rules.length)(c:List Int):d_N n d c=some ((c_x d p c).map (nmQ d)):=by
 have hLIM:=a_9;have hr:=hs.rules;have hMX:=MXv;unfold d_N
 rw [m_5 d hs,hv,bd_some,iN_ (by simp),hp,bd_some]
 have h:=f_i (ρ:=List Str) (s:=([]:List Str)) (n:=p.length) (body:=λG=>(λI=>bd (α:=Bool) (bd (idx p ((G:Nat):Int)) λJ=>if J then if (decide<|(c.length:Int)<=((G:Nat):Int)) then some true else bd (idx c ((G:Nat):Int)) λH=>some (H==0) else some false) (λL=>bd (α:=List Str) (if L then bd (idx d.rules ((G:Nat):Int)) λO=>bd (psh I O.name) λV=>some V else some I)<|λW=>some<|.next W)))
  (λk=>((List.range k).filter (λi=>p.getD i false && c.getD i 0==0)).map (nmQ d)) (by simp) (λj hj=>by
   have hc:(if p.getD j false then if (decide<|(c.length:Int)<=((j:Nat):Int)) then some true else bd (idx c ((j:Nat):Int)) λH=>some (H==0) else some false)=some (p.getD j false && c.getD j 0==0):=by
    by_cases h1:p.getD j false=true
    .rw [iP_ h1,h1,Bool.true_and]
     by_cases h2:(c.length:Int)<=(j:Int)
     .rw [dT_ h2,iP_ rfl,f_h (by omega)];rfl
     .rw [dF_ h2,iN_ (by simp),ix_ (by omega),bd_some,B_ (by omega)]
    .rw [iN_ h1,Bool.eq_false_iff.2 h1];rfl
   rw [ix_ hj,bd_some,← B_ (x:=false) hj,hc,bd_some,List.range_succ,List.filter_append,List.map_append]
   have hlen:(((List.range j).filter (λi=>p.getD i false && c.getD i 0==0)).map (nmQ d)).length<LIM:=by
    rw [List.length_map]
    have:=List.length_filter_le (λi=>p.getD i false && c.getD i 0==0)<|List.range j
    rw [List.length_range] at this
    omega
   cases hb:(p.getD j false && c.getD j 0==0)
   .rw [iN_ (by simp),bd_some,show List.filter (λi=>p.getD i false && c.getD i 0==0) [j]=[] by rw [List.filter_cons,hb];rfl]
    simp
   .have hjd:j<d.rules.length:=by omega
    rw [iP_ rfl,ix_ hjd,bd_some,a_d hlen,bd_some,bd_some,show List.filter (λi=>p.getD i false && c.getD i 0==0) [j]=[j] by rw [List.filter_cons,hb];rfl]
    simp only [List.map_cons,List.map_nil]
    unfold nmQ
    rw [B_ hjd])
 rw [h,bd_some,el_inl,hl]
 rfl
theorem m_n {d:b_}{p:List Bool}{c x:List Int}(hl:x.length<=d.rules.length)(hc:∀i,0<=c.getD i 0)(hx:∀i,0<=x.getD i 0)(hp:∀i,0<x.getD i 0->p.getD i false=true)(ha:c_w x c):(c_x d p<|mg c x).length<(c_x d p c).length:=by
 have:c_x d p (mg c x)=(c_x d p c).filter (λi=>x.getD i 0==0):=by
  unfold c_x
  rw [List.filter_filter]
  congr 1
  funext i
  have h1:=hc i;have h2:=hx i
  rw [g_u,Bool.eq_iff_iff]
  simp only [aE_,beq_iff_eq]
  constructor
  .rintro ⟨a,b⟩;exact ⟨by omega,a,by omega⟩
  .rintro ⟨a,b,e⟩;exact ⟨b,by omega⟩
 rw [this,List.length_filter_lt_length_iff_exists]
 obtain ⟨i,h1,h2,h3⟩:=ha;refine ⟨i,List.mem_filter.2 ⟨List.mem_range.2 (by omega),?_⟩,?_⟩
 .rw [hp i h2,h3];rfl
 .simp only [beq_iff_eq];omega
section
open Classical
noncomputable def stQ (ok:Nat->Bool) (x:Nat->List Int):Nat->List Int×List Int
 | 0=>([],[])
 | k+1=>if ok k=true/\c_w (x k) (stQ ok x k).2 then ((stQ ok x k).1++[(k:Int)+1],mg (stQ ok x k).2 (x k)) else stQ ok x k
def alQ (ok:Nat->Bool)(x:Nat->List Int):Nat->List Int
 | 0=>[]
 | k+1=>if ok k then mg (alQ ok x k) (x k) else alQ ok x k
variable {d:b_}{p:List Bool}{ok:Nat->Bool}{x:Nat->List Int}
theorem g_v {k:Nat}(h:ok k=true)(ha:c_w (x k) (stQ ok x k).2):stQ ok x (k+1)=((stQ ok x k).1++[(k:Int)+1],mg (stQ ok x k).2 (x k)):=by
 rw [stQ,iP_ ⟨h,ha⟩]
theorem e_b {k:Nat}(h:¬(ok k=true/\c_w (x k) (stQ ok x k).2)):stQ ok x (k+1)=stQ ok x k:=by rw [stQ,iN_ h]
theorem j_b (hx:∀k,Cov d p (x k) 2000000)(hd:d.rules.length<=30):∀k:Nat,Sml (stQ ok x k).2 (2000000 * (k:Int))/\Sml (alQ ok x k) (2000000 * (k:Int))
 | 0=>⟨Sml.nil,Sml.nil⟩
 | k+1=>by
  obtain ⟨h1,h2⟩:=j_b hx hd k;have hk:Sml (x k) 2000000:=⟨Nat.le_trans (hx k).len hd,(hx k).nn⟩;have hle:2000000 * (k:Int)<=2000000 * ((k+1:Nat):Int):=by omega
  constructor
  .rw [stQ];split
   .exact (h1.mg hk).mono (by omega)
   .exact h1.mono hle
  .rw [alQ];split
   .exact (h2.mg hk).mono (by omega)
   .exact h2.mono hle
theorem m_o (hx:∀k,Cov d p (x k) 2000000)(hd:d.rules.length<=30):∀k i:Nat,(stQ ok x k).2.getD i 0=0 ↔ (alQ ok x k).getD i 0=0
 | 0,i=>Iff.rfl
 | k+1,i=>by
  have ih:=m_o hx hd k i;obtain ⟨h1,h2⟩:=j_b (ok:=ok) hx hd k;have b1:=h1.bd i;have b2:=h2.bd i;have b3:=(hx k).nn i
  by_cases hok:ok k=true
  .rw [alQ,iP_ hok,g_u]
   by_cases ha:c_w (x k) (stQ ok x k).2
   .rw [g_v hok ha,g_u];omega
   .rw [e_b (λh=>ha h.2)]
    constructor
    .intro G
     have:¬0<(x k).getD i 0:=λhp=>ha ⟨i,by
      by_cases hl:i<(x k).length
      .exact hl
      .rw [f_h (by omega)] at hp;omega,hp,G⟩
     omega
    .omega
  .rw [alQ,iN_ hok,e_b<|λh=>hok h.1];exact ih
theorem k_P (hx:∀k,Cov d p (x k) 2000000)(hd:d.rules.length<=30):∀k:Nat,(stQ ok x k).1.length+(c_x d p (stQ ok x k).2).length<=d.rules.length
 | 0=>by have:=q_t d p [];simp only [stQ,List.length_nil];omega
 | k+1=>by
  have ih:=k_P hx hd k
  by_cases h:ok k=true/\c_w (x k) (stQ ok x k).2
  .have:=m_n (p:=p) (hx k).len (λi=>((j_b (ok:=ok) hx hd k).1.bd i).1) (λi=>((hx k).nn i).1) (hx k).ps h.2
   rw [g_v h.1 h.2]
   simp only [List.length_append,List.length_singleton]
   omega
  .rw [e_b h];exact ih
theorem m_p:∀m k:Nat,k<m->((k:Int)+1∈(stQ ok x m).1 ↔ ok k=true/\c_w (x k) (stQ ok x k).2)
 | 0,k,h=>by omega
 | m+1,k,h=>by
  have old:∀m,∀q∈(stQ ok x m).1,q<=(m:Int):=by
   intro m
   induction m with
   | zero=>intro q hq;cases hq
   | succ m ih =>
    intro q hq
    rw [stQ] at hq
    split at hq
    .rcases List.mem_append.1 hq with hq | hq
     .have:=ih q hq;omega
     .rw [List.mem_singleton] at hq;omega
    .have:=ih q hq;omega
  by_cases hk:k=m
  .subst hk
   constructor
   .intro hm
    rw [stQ] at hm
    split at hm
    .assumption
    .have:=old k _ hm;omega
   .intro hh
    rw [g_v hh.1 hh.2];simp
  .have ih:=m_p m k (by omega)
   rw [← ih]
   by_cases hc:ok m=true/\c_w (x m) (stQ ok x m).2
   .rw [g_v hc.1 hc.2]
    simp only [List.mem_append,List.mem_singleton]
    constructor
    .rintro (h1 | h1)
     .exact h1
     .omega
    .exact .inl
   .rw [e_b hc]
theorem q_u (hx:∀k,Cov d p (x k) 2000000)(hd:d.rules.length<=30)(k:Nat):c_x d p (stQ ok x k).2=c_x d p (alQ ok x k):=by
 unfold c_x
 congr 1
 funext i
 have:=m_o (ok:=ok) hx hd k i
 rw [Bool.eq_iff_iff]
 simp only [aE_,beq_iff_eq,this]
end
end Go.Vw
