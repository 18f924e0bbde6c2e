
import Derived.Test.YtajhmimbhplkfaaGreatDoorVwP55
set_option linter.unusedVariables false
namespace Go.Vw
open Go.RowKit Dat
theorem k_T {α:Type} {A R:List α} {x:α} {k:Nat} (h:A.length=k):idx (A++x::R) (k:Int)=some x:=by
 subst h
 rw [ix_ (by simp)];simp
theorem k_U {α:Type} {A R:List α} {x y:α} {k:Nat} (h:A.length=k):upd (A++x::R) (k:Int) y=some (A++y::R):=by
 subst h
 rw [h_b (by simp)];simp
theorem app_nil' {α:Type} {l:List α} (h:l.length≤MX):app ([]:List α) l=some l:=by
 have:=MXv;have:=a_B
 rw [c_h (by simp;omega)];simp
def shE (x:Int) (e:e_):e_:=⟨e.path,e.rule,j_ e.start x,j_ e.end_ x⟩
theorem k_V {l:List e_} (hl:l.length≤MX) (x:Int):e_l l x=some (l.map<|shE x):=by
 unfold e_l
 rw [app_nil' hl,bd_some]
 have h:=c_i (body:=(fun k168=>(fun x157=>bd (idx x157 ((k168:Nat):Int)) fun x230=>bd (idx x157 ((k168:Nat):Int)) fun x243=>bd (upd x157 ((k168:Nat):Int) (⟨x243.path,x243.rule,j_ x230.start x,x243.end_⟩:e_)) fun x248=>bd (idx x248 ((k168:Nat):Int)) fun x257=>bd (idx x248 ((k168:Nat):Int)) fun x270=>bd (upd x248 ((k168:Nat):Int) (⟨x270.path,x270.rule,x270.start,j_ x257.end_ x⟩:e_)) fun x275=>some<|.next x275))) (ρ:=List e_)
  (fun k=>(l.take k).map (shE x)++l.drop k) (n:=l.length) (fun k hk=>by
   have hA:((l.take k).map (shE x)).length=k:=by simp;omega
   have e1:(l.take<|k+1).map (shE x)++l.drop (k+1)=(l.take k).map (shE x)++shE x l[k]::l.drop (k+1):=by
    rw [List.take_add_one,gG_ hk,List.map_append,List.append_assoc];rfl
   rw [e1,dC_ hk]
   rw [k_T hA,bd_some,bd_some,k_U hA,bd_some,k_T hA,bd_some,bd_some,k_U hA,bd_some]
   rfl)
 have h0:(l.take 0).map (shE x)++l.drop 0=l:=by simp
 rw [h0] at h
 rw [h,bd_some,el_inl]
 simp
theorem k_W (l:List e_):e_m l l=some true∧f_m l l=some true:=by
 constructor
 ·unfold e_m
  rw [show ((l.length:Int) != (l.length:Int))=false by simp,iN_ (by simp)]
  rw [h_7 (fun k hk=>by rw [ix_ hk,bd_some,bd_some,dT_ rfl];rfl)]
  rfl
 ·unfold f_m h_h
  rw [show ((l.length:Int) != (l.length:Int))=false by simp,iN_ (by simp)]
  rw [h_7 (fun k hk=>by rw [ix_ hk,bd_some,bd_some,dT_ rfl];rfl)]
  rfl
theorem o_i {l:List e_} {e:e_} (he:e∈l) : ∃ r,f_q l e.path=some r∧0≤r:=by
 unfold f_q
 rw [e_j (fun k=>if hk:k<l.length then l[k].path.b==e.path.b else false) (fun k=>(k:Int)) (fun k hk _=>by
  rw [ix_ hk,bd_some,dif_pos hk]
  cases (l[k].path.b==e.path.b) <;> rfl)]
 cases hf:(List.range l.length).find? (fun k=>if hk:k<l.length then l[k].path.b==e.path.b else false) with
 | some k=>exact ⟨(k:Int),rfl,by omega⟩
 | none =>
  obtain ⟨i,hi,rfl⟩:=List.getElem_of_mem he;have:=List.find?_eq_none.1 hf i<|List.mem_range.2 hi
  rw [dif_pos hi] at this
  simp at this
theorem o_j {α:Type} {f:α→Bool} {l:List α} {k:Nat} (hk:k<l.length):(l.take<|k+1).filter f=if f l[k]=true then (l.take k).filter f++[l[k]] else (l.take k).filter f:=by
 rw [List.take_add_one,gG_ hk,List.filter_append]
 cases h:f l[k] <;> simp [h]
theorem o_k {l:List e_} (hl:l.length≤10000) (x:Int):f_p l x=some (l.filter<|fun e=>decide<|e.end_≤x):=by
 have hLIM:=a_B;unfold f_p h_j h_i
 have h:=c_i (σ:=List e_) (ρ:=List e_) (body:=(fun k195=>(fun x184=>bd (idx l ((k195:Nat):Int)) fun x277=>bd (some<|decide<|x277.end_≤x) fun r312=>bd (α:=List e_) (if r312=true then bd (psh x184 x277) fun x376=>some x376 else some x184)<|fun x343=>some<|.next x343)))
  (fun k=>(l.take k).filter (fun e=>decide (e.end_≤x))) (n:=l.length) (fun k hk=>by
   have h2:=List.length_filter_le (fun e:e_=>decide<|e.end_≤x)<|l.take k
   rw [List.length_take] at h2
   rw [ix_ hk,bd_some,bd_some,o_j hk]
   cases decide (l[k].end_≤x) with
   | true=>rw [iP_ rfl,a_P (by omega),bd_some,bd_some];rfl
   | false=>rw [iN_ (by simp),bd_some];rfl)
 rw [show (l.take 0).filter (fun e=>decide<|e.end_≤x)=[] by simp] at h
 rw [h,bd_some,el_inl,bd_some,List.take_length]
theorem j_d {σ ρ:Type} {body:Nat→σ→Option (Out σ ρ)} (I:Nat→σ→Prop) {n:Nat} {s:σ} (h0:I 0 s) (h : ∀ k s,k<n→I k s → ∃ s',body k s=some (.next s')∧I (k+1) s') : ∃ s',C_ body n 0 s=some (.inl s')∧I n s':=by
 rcases d_7 I (fun _=>False) (fun k s hk hi=>.inl<|h k s hk hi) n 0 s (by omega) h0 with h | ⟨_,_,h⟩
 ·exact h
 ·exact h.elim
theorem k_X {a l:List e_} (ha:a.length≤10000) : ∃ c,e_n a l=some c∧c≤(a.length:Int)∧((∀ e∈a,e∈l)→c=(a.length:Int)):=by
 unfold e_n
 obtain ⟨f,e,_⟩:=j_d (σ:=(e_→Bool)) (ρ:=Int) (body:=(fun k94=>(fun x89=>bd (idx a ((k94:Nat):Int)) fun x133=>some (.next (b_b x89 (x133:e_) true))))) (fun _ _=>True) (n:=a.length) (s:=(fun (_:e_)=>false)) trivial (fun k f hk _=>by
  rw [ix_ hk,bd_some];exact ⟨_,rfl,trivial⟩)
 rw [e,bd_some,el_inl]
 obtain ⟨g,e,hg⟩:=j_d (σ:=(e_→Bool)) (ρ:=Int) (body:=(fun k252=>(fun x247=>bd (idx l ((k252:Nat):Int)) fun x290=>some (.next (b_b x247 (x290:e_) false))))) (fun k f=>∀ j (hj:j<l.length),j<k→f l[j]=false) (n:=l.length) (s:=f) (fun j hj h0=>by omega) (fun k f hk hf=>by
  rw [ix_ hk,bd_some]
  refine ⟨_,rfl,fun j hj hjk=>?_⟩;unfold b_b
  split
  ·rfl
  ·rename_i hne
   exact hf j hj (by
    rcases Nat.lt_or_eq_of_le (Nat.le_of_lt_succ hjk) with h | h
    ·exact h
    ·subst h;exact absurd rfl hne))
 rw [e,bd_some,el_inl]
 obtain ⟨c,e,q0,q1,q2⟩:=j_d (σ:=Int) (ρ:=Int) (body:=(fun k413=>(fun x408=>bd (idx a ((k413:Nat):Int)) fun x455=>bd (α:=Int) (if (!(g (x455:e_)))=true then some (j_ x408 1) else some x408) (fun x487=>some (.next x487))))) (fun k c=>0≤c∧c≤(k:Int)∧((∀ e∈a,e∈l)→c=(k:Int))) (n:=a.length) (s:=0) ⟨by omega,by omega,fun _=>rfl⟩ (fun k c hk ⟨q0,q1,q2⟩=>by
  rw [ix_ hk,bd_some]
  cases hgk:g a[k] with
  | false =>
   rw [iP_ (by simp),bd_some,ia_ (by omega) (by omega)]
   exact ⟨_,rfl,by omega,by omega,fun h=>by have:=q2 h;omega⟩
  | true =>
   rw [iN_ (by simp),bd_some]
   refine ⟨_,rfl,by omega,by omega,fun h=>?_⟩;obtain ⟨j,hj,he⟩:=List.getElem_of_mem<|h _<|gE_ hk;have:=hg j hj (by omega)
   rw [he,hgk] at this
   cases this)
 rw [e,bd_some,el_inl]
 exact ⟨c,rfl,q1,q2⟩
theorem o_l {d:d_} {b:List UInt8} (hv:a_6 d=true) : ∀ (i:Nat),i<d.rules.length → ∀ (at_:Nat) (path:Str) (e:e_),at_≤b.length→(rdW d.rules b i at_).2.2=0→e∈ixW d.rules b i at_ path→0≤e.start∧e.start≤(b.length:Int):=by
 intro i
 induction i using Nat.strongRecOn with
 | _ i ih =>
  intro hi at_ path x ha hok hx;obtain ⟨ks,e,h⟩:=d_J hv hi ha hok
  rw [f_f hv hi h path] at hx
  rcases List.mem_cons.1 hx with rfl | hx
  ·simp only;omega
  ·obtain ⟨m,hm,hx⟩:=j_1 _ _ _ hx;have hr:=b_m hv hi;have hkr:=hr.kids _<|h.kids _<|gE_ hm;have hP:=j_0 h.ch m hm;exact ih ks[m].toNat (by omega) (by omega) _ _ x hP.1 hP.2 hx
theorem o_m {d:d_} {b:List UInt8} : ∀ e∈b_e d b,0≤e.start∧e.start≤(b.length:Int)∧0≤e.end_∧e.end_≤(b.length:Int):=by
 intro e h;unfold b_e at h
 split at h
 ·rename_i hok
  obtain ⟨hv,hb,hi,hroot,h0,_,e'⟩:=g_W hok;have h1:=o_l hv _ hi 0 _ e (Nat.zero_le _) h0 h;have h2:=o_c hv _ hi 0 _ e (Nat.zero_le _) h0 h;exact ⟨h1.1,h1.2,h2.1,h2.2⟩
 ·cases h
theorem o_n {l:List e_} {N:Nat} (hN:N≤1000000) (h : ∀ e∈l,0≤e.start∧e.start≤(N:Int)∧0≤e.end_∧e.end_≤(N:Int)):(l.map<|shE 5).map (shE (-5))=l:=by
 rw [List.map_map]
 conv=>rhs;rw [← List.map_id l]
 refine List.map_congr_left fun e he=>?_
 have g:=h e he
 simp only [Function.comp_def,shE,id]
 rw [ia_ (x:=e.start) (by omega) (by omega),ia_ (x:=e.end_) (by omega) (by omega),ia_ (by omega) (by omega),ia_ (by omega) (by omega)]
 cases e
 simp only [e_.mk.injEq,true_and]
 omega
section
variable {d:d_} {b:List UInt8}
def updQ (d:d_) (l:List e_) (b:List UInt8) (at_ rm:Int) (ins:List UInt8):List UInt8×List e_×Bool :=
 if (c_4 b at_ rm ins).2=true then (if okF d (c_4 b at_ rm ins).1=true then ((c_4 b at_ rm ins).1,b_e d (c_4 b at_ rm ins).1,true) else (b,l,false)) else (b,l,false)
theorem o_o {n:Nat} (hn:1000≤n) (hd:SmD d) {l:List e_} (hl:l.length≤MX) (hb:b.length≤MX) {at_ rm:Int} {ins:List UInt8} (hi:ins.length≤MX):f_o n d l b at_ rm ins=some (updQ d l b at_ rm ins):=by
 unfold f_o updQ
 rw [n_W hb hi]
 generalize c_4 b at_ rm ins=p;obtain ⟨x,ok⟩:=p
 simp only [bd2_some]
 rw [n_P hd hn]
 cases ok <;> cases okF d x <;> simp [app_nil' hb,app_nil' hl]
end
theorem o_p {c:List UInt8} (hb:c.length≤MX) {n:Nat} (hn:1048600≤n) : ∃ d b a r x,f_n n c=some (d,b_e d b,b,a,r,x)∧DrD d∧b.length≤61440∧x.length≤61440:=by
 have hMX:=MXv;unfold f_n;obtain ⟨d,b,e,hd,hbl⟩:=o_h hb hn
 rw [e,bd3_some]
 obtain ⟨h0,e0⟩:=k_N hb hn
 rw [e0,bd_some,ia_ (by omega) (by omega)]
 obtain ⟨k,i1,h1,e1,a0,a1,hk⟩:=a_Z (i:=0) (h:=h0) (n:=(b.length:Int)+2) (by omega) (by omega) hb (by omega)
 rw [e1,bd3_some,a_C (by omega) (by omega)]
 obtain ⟨r,i2,h2,e2,b0,b1,hr⟩:=a_Z (h:=h1) (n:=3) a0 a1 hb (by omega)
 simp only
 rw [e2,bd3_some]
 obtain ⟨s,i3,h3,e3,c0,c1,hs⟩:=a_Z (h:=h2) (n:=3) b0 b1 hb (by omega)
 rw [e3,bd3_some]
 obtain ⟨x,i4,h4,e4,d0,d1,hx⟩:=f_e (h:=h3) c0 c1 hb (n:=s) (by omega)
 rw [e4,bd3_some]
 have hx2:x.length≤2:=by omega
 have fin : ∀ (f:Bool) (i h:Int),(f=true→0≤k - 1∧k - 1≤(b.length:Int) - 1) → ∃ a' r' x',(un3 fun x204 x205 x207=>bd (α:=List UInt8) (if x204=true then bd (c_j (b.length:Int)<|j_ (k - 1) r) fun r352=>bd (slc b (k - 1) r352) fun x358=>bd (app ([]:List UInt8) x358) fun x376=>some x376 else some x)<|fun x321=>some (d,b_e d b,b,k - 1,r,x321)) (f,i,h)=some (d,b_e d b,b,a',r',x')∧x'.length≤61440:=by
  intro f i h hf
  cases f with
  | false=>exact ⟨_,_,x,rfl,by omega⟩
  | true =>
   have hf:=hf rfl
   simp only [un3]
   rw [iP_ trivial,ia_ (by omega) (by omega)]
   obtain ⟨z,ez,z1,z2,z3⟩:=d_I (b.length:Int)<|k - 1+r
   rw [ez,bd_some,j_3 (by omega) (by omega) (by omega),bd_some,app_nil' (by simp;omega),bd_some,bd_some]
   exact ⟨_,_,_,rfl,by simp;omega⟩
 rw [b_n,a_C (by omega) (by omega)]
 by_cases hrx:(r==(x.length:Int))=true
 ·rw [iP_ hrx,bd_some]
  cases hin:(decide ((0:Int)≤k - 1) && decide (k - 1≤(b.length:Int) - 1)) with
  | false =>
   rw [iN_ (by simp),bd_some]
   obtain ⟨a',r',x',e,hx'⟩:=fin false i4 h4 (fun h=>by cases h);exact ⟨d,b,a',r',x',e,hd,hbl,hx'⟩
  | true =>
   simp only [aE_,dE_] at hin
   obtain ⟨g,i5,h5,e5,_,_,_⟩:=h_5 (h:=h4) d0 d1 hb 2
   rw [iP_ rfl,e5,bd3_some,bd_some]
   obtain ⟨a',r',x',e,hx'⟩:=fin g i5 h5<|fun _=>hin;exact ⟨d,b,a',r',x',e,hd,hbl,hx'⟩
 ·rw [iN_ hrx,bd_some]
  obtain ⟨a',r',x',e,hx'⟩:=fin false i4 h4 (fun h=>by cases h);exact ⟨d,b,a',r',x',e,hd,hbl,hx'⟩
theorem o_q {n:Nat} (hn:4000000≤n) (c:List UInt8):f_r n c=some true:=by
 have hMX:=MXv;unfold f_r g_k
 rw [bd_some]
 by_cases h1:(1048576:Int)<(c.length:Int)
 ·rw [dT_ h1];rfl
 rw [dF_ h1,iN_ (by simp)]
 obtain ⟨d,b,a,r,x,e,hd,hb,hx⟩:=o_p (c:=c) (by omega) (n:=n) (by omega);have hl:(b_e d b).length≤10000:=indexP_len';have hin:=o_m (d:=d) (b:=b)
 rw [e,bd6_some,o_o (by omega) hd.sm (by omega) (by omega) (by omega),bd3_some,n_V (by omega) (by omega)]
 unfold updQ;have hsl:=n_U b a r x;generalize c_4 b a r x=p at hsl
 obtain ⟨y,ok⟩:=p
 simp only [bd2_some]
 rw [i_Y hd.sm (by omega),bd2_some]
 have hm:(b_e d y).length≤10000:=indexP_len';have hsame:=k_W<|b_e d b
 cases ok with
 | false =>
  simp only [bF_,fF_,bN_,bd_some,Bool.not_false,fT_,j_c,hsame.2]
 | true =>
  cases hok:okF d y with
  | false=>simp only [bF_,fF_,fT_,bN_,bd_some,Bool.not_false,j_c,hsame.2]
  | true =>
   simp only [fT_,bN_,bd_some,nT_,bF_,fF_]
   rw [o_k hl,bd_some]
   rw [h_7 (fun k hk=>by
    have hmem:=gE_ hk
    rw [List.mem_filter] at hmem
    obtain ⟨r,e1,h0⟩:=o_i hmem.1;have h2:=of_decide_eq_true hmem.2
    rw [ix_ hk,bd_some,dF_ (by omega),iN_ (by simp),bd_some,e1,bd_some,dF_ (by omega),bd_some,iN_ (by simp)])]
   rw [bd_some,el_inl,k_V (by omega),bd_some,k_V (by simp;omega),bd_some,o_n (N:=b.length) (by omega) hin,j_c,bd_some,iP_ rfl,(k_W<|b_e d y).1,bd_some,iP_ rfl,hsame.1,bd_some,iP_ rfl]
   obtain ⟨c1,e1,_,q1⟩:=k_X (l:=b_e d b) hl
   rw [e1,bd_some,q1<|fun _ h=>h,iP_ (by simp)]
   obtain ⟨c2,e2,q2,_⟩:=k_X (l:=b_e d b) hm
   rw [e2,bd_some,dT_ q2,bd_some]
end Go.Vw
