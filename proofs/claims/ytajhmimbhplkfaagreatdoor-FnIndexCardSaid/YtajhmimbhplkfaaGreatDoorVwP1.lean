
import Derived.Test.YtajhmimbhplkfaaGreatDoorVmB
set_option linter.unusedVariables false
namespace Go.Vw
open Go.RowKit Dat
def MX:Nat:=1048576
structure SmR (r:e_):Prop where
 name:r.name.b.length≤MX
 bytes:r.bytes.length≤MX
 names:r.names.length≤MX
 tags:r.tags.length≤MX
 kids:r.kids.length≤MX
 each : ∀ s∈r.names,s.b.length≤MX
structure SmD (d:d_):Prop where
 rules:d.rules.length≤MX
 each : ∀ r∈d.rules,SmR r
theorem n_Q {α:Type} {c:Prop} [Decidable c] (x y:α):(if c then some x else some y)=some (if c then x else y):=by split <;> rfl
theorem c_r {ρ:Type} {c:Bool} (x y:Out Unit ρ):(if c=true then some x else some y)=some (if c=true then x else y):=by split <;> rfl
def d_M (c:UInt8):Bool:=decide (byteI (97:UInt8)≤byteI c) && decide (byteI c≤byteI (122:UInt8))
def c_s (c:UInt8):Bool:=decide (byteI (48:UInt8)≤byteI c) && decide (byteI c≤byteI (57:UInt8))
theorem k_q (c:UInt8):d_M c=(decide (97≤(c.toNat:Int)) && decide ((c.toNat:Int)≤122)):=rfl
theorem j_4 (c:UInt8):c_s c=(decide (48≤(c.toNat:Int)) && decide ((c.toNat:Int)≤57)):=rfl
theorem j_5 (k:Nat):((k:Int)==0)=(k==0):=by
 rw [Bool.eq_iff_iff];simp
def b_g (s:Str) (k:Nat):Bool:=match s.b[k]? with
 | some c=>!d_M c && (!c_s c || k==0)
 | none=>false
def a_Z (s:Str):Bool:=!((List.range s.b.length).any (b_g s)) && (decide (1≤s.b.length) && decide (s.b.length≤12))
theorem b_x (x lo hi:Int):a_N x lo hi=some (decide (lo≤x) && decide (x≤hi)):=by
 unfold a_N;generalize decide (lo≤x)=a;generalize decide (x≤hi)=b
 cases a <;> rfl
theorem e_m (x lo hi:Int):b_X x lo hi=some (decide (lo≤x) && decide (x≤hi)):=by
 unfold b_X;generalize decide (lo≤x)=a;generalize decide (x≤hi)=b
 cases a <;> rfl
theorem k_r (s:Str):e_y s=some (a_Z s):=by
 unfold e_y
 rw [d_o (b_g s) false]
 ·unfold a_Z
  cases (List.range s.b.length).any (b_g s)
  ·have e1:decide ((1:Int)≤s.b.length)=decide (1≤s.b.length):=decide_eq_decide.2 (by omega);have e2:decide ((s.b.length:Int)≤12)=decide (s.b.length≤12):=decide_eq_decide.2 (by omega)
   simp only [bF_,fF_,bd_some,el_inl,b_x,e1,e2,Bool.not_false,Bool.true_and]
  ·rfl
 ·intro k hk _
  simp only [ix_ hk,bd_some,b_g,gG_ hk,d_M,c_s,j_5]
  generalize decide (byteI (97:UInt8)≤byteI s.b[k])=a;generalize decide (byteI s.b[k]≤byteI (122:UInt8))=b;generalize decide (byteI (48:UInt8)≤byteI s.b[k])=c;generalize decide (byteI s.b[k]≤byteI (57:UInt8))=d;generalize (k==0)=e
  cases a <;> cases b <;> cases c <;> cases d <;> cases e <;> rfl
theorem k_s (n:Nat) (hn:14≤n) (s:Str):e_2 n s=some (a_Z s):=by
 unfold e_2
 by_cases h1:s.b.length<1
 ·have:a_Z s=false:=by unfold a_Z;simp [show ¬ 1≤s.b.length by omega]
  rw [this];simp [show ((s.b.length:Int)<1) by omega]
 by_cases h2:12<s.b.length
 ·have:a_Z s=false:=by unfold a_Z;simp [show ¬ s.b.length≤12 by omega]
  rw [this];simp [show ¬ ((s.b.length:Int)<1) by omega,show ((12:Int)<s.b.length) by omega]
 have e1:decide ((s.b.length:Int)<1)=false:=by simp;omega
 have e2:decide ((12:Int)<(s.b.length:Int))=false:=by simp;omega
 rw [e1,e2]
 simp only [bF_,fF_,bd_some]
 have hstep : ∀ k,k<s.b.length→b_g s k=false → ∀ {ρ:Type} (x:Nat→ρ),x (k+(dec s k).2)=x (k+1):=by
  intro k hk hb ρ x
  rw [l_t hk]
  have hb':b_g s k=(!d_M s.b[k] && (!c_s s.b[k] || k==0)):=by unfold b_g;rw [gG_ hk]
  rw [hb'] at hb
  rw [k_q,j_4] at hb
  simp only [Bool.and_eq_false_iff,Bool.not_eq_false',Bool.or_eq_false_iff,aE_,dE_] at hb
  omega
 have hgood : ∀ k (hk:k<s.b.length),b_g s k=(bd (α:=Bool) (if (decide<|97≤((dec s k).1))=true then some (decide<|((dec s k).1)≤122) else some false) (fun x168=>bd (α:=Bool) (if (decide<|48≤((dec s k).1))=true then some (decide<|((dec s k).1)≤57) else some false) (fun x182=>bd (α:=Bool) (if (!x168)=true then if (!x182)=true then some true else some ((k:Int)==0) else some false) some))).getD false ∧
   (bd (α:=Bool) (if (decide<|97≤((dec s k).1))=true then some (decide<|((dec s k).1)≤122) else some false) (fun x168=>bd (α:=Bool) (if (decide<|48≤((dec s k).1))=true then some (decide<|((dec s k).1)≤57) else some false) (fun x182=>bd (α:=Bool) (if (!x168)=true then if (!x182)=true then some true else some ((k:Int)==0) else some false) (fun x199=>if x199=true then some (.ret false) else some (.next<|k+(dec s k).2)))))=some (if b_g s k=true then (.ret false:Out Nat Bool) else .next (k+(dec s k).2)):=by
  intro k hk;have hb':b_g s k=(!d_M s.b[k] && (!c_s s.b[k] || k==0)):=by unfold b_g;rw [gG_ hk]
  rw [hb']
  rw [k_q,j_4]
  rw [j_5]
  by_cases ha:s.b[k].toNat<128
  ·rw [l_t hk ha]
   simp only
   generalize (s.b[k].toNat:Int)=c;generalize decide (97≤c)=a;generalize decide (c≤122)=b;generalize decide (48≤c)=c';generalize decide (c≤57)=d;generalize (k==0)=e
   cases a <;> cases b <;> cases c' <;> cases d <;> cases e <;> exact ⟨rfl,rfl⟩
  ·have hd:=p_l hk (by omega);generalize (dec s k).1=c at hd
   generalize (dec s k).2=c2;have g1:97≤c:=by omega
   have g2 : ¬ c≤122:=by omega
   have g3:48≤c:=by omega
   have g4 : ¬ c≤57:=by omega
   have k2 : ¬ (s.b[k].toNat:Int)≤122:=by omega
   have k4 : ¬ (s.b[k].toNat:Int)≤57:=by omega
   simp [g1,g2,g3,g4,k2,k4]
 have hit:a_7 (σ:=Nat) (ρ:=Bool) (fun x120=>if (decide<|x120<s.b.length)=true then bd (α:=Bool) (if (decide<|97≤((dec s x120).1))=true then some (decide<|((dec s x120).1)≤122) else some false) (fun x168=>bd (α:=Bool) (if (decide<|48≤((dec s x120).1))=true then some (decide<|((dec s x120).1)≤57) else some false) (fun x182=>bd (α:=Bool) (if (!x168)=true then if (!x182)=true then some true else some ((x120:Int)==0) else some false) (fun x199=>if x199=true then some (.ret false) else some (.next<|x120+(dec s x120).2)))) else some (.brk x120)) n 0=some (if (List.range s.b.length).any (b_g s)=true then .inr false else .inl s.b.length):=by
  cases hf:(List.range s.b.length).find? (b_g s) with
  | none =>
   have hall : ∀ k,k<s.b.length→b_g s k=false:=fun k hk=>by simpa using List.find?_eq_none.1 hf k (List.mem_range.2 hk)
   have hany:(List.range s.b.length).any (b_g s)=false:=by rw [List.any_eq_false];exact fun x hx=>by simpa using List.find?_eq_none.1 hf x hx
   rw [hany]
   refine l_s (fun k=>k) (j0:=s.b.length) (by omega) (fun k hk=>?_) ?_
   ·simp only [hk,decide_true,fT_]
    rw [(hgood k hk).2,hall k hk]
    simp only [bF_,fF_]
    rw [hstep k hk (hall k hk) (fun x=>some<|Out.next x)]
   ·simp
  | some k =>
   have hany:(List.range s.b.length).any (b_g s)=true:=List.any_eq_true.2 ⟨k,List.mem_of_find?_eq_some hf,List.find?_some hf⟩
   rw [hany]
   obtain ⟨hp,as,bs,hl,has⟩:=List.find?_eq_some_iff_append.1 hf;have hk:k<s.b.length:=List.mem_range.1<|List.mem_of_find?_eq_some hf
   have hbef : ∀ j,j<k→b_g s j=false:=by
    intro j hj;have hlen:as.length<s.b.length:=by have:=congrArg List.length hl;simp at this;omega
    have hke:as.length=k:=by
     have h2:(List.range s.b.length)[as.length]? = some k:=by rw [hl];simp
     rw [List.getElem?_range hlen] at h2
     exact Option.some.inj h2
    have hj':j<as.length:=by omega
    have h2:(List.range s.b.length)[j]? = some (as[j]):=by rw [hl,List.getElem?_append_left hj'];simp
    rw [List.getElem?_range (by omega)] at h2
    have h3:=has as[j] (gE_ hj')
    rw [← Option.some.inj h2] at h3
    simpa using h3
   refine p_k (fun k=>k) (j0:=k) (by omega) (fun j hj=>?_) ?_
   ·have hj2:j<s.b.length:=by omega
    simp only [hj2,decide_true,fT_]
    rw [(hgood j hj2).2,hbef j hj]
    simp only [bF_,fF_]
    rw [hstep j hj2 (hbef j hj) (fun x=>some<|Out.next x)]
   ·simp only [hk,decide_true,fT_]
    rw [(hgood k hk).2,hp]
    rfl
 rw [hit]
 unfold a_Z;have g1:decide (1≤s.b.length)=true:=dT_ (by omega);have g2:decide (s.b.length≤12)=true:=dT_ (by omega)
 rw [g1,g2]
 cases (List.range s.b.length).any (b_g s) <;> rfl
def plain (r:e_) (a b c d:Bool) (k:Int):Bool:=(a || r.size==0) && ((b || (r.bytes.length:Int)==0) && ((c || (r.names.length:Int)==0) && ((d || (r.tags.length:Int)==0) && (decide (k<0) || (r.kids.length:Int)==k))))
theorem j_6 (r:e_) (a b c d:Bool) (k:Int):b_Y r a b c d k=some (plain r a b c d k):=by
 unfold b_Y plain;generalize (r.size==0)=p1;generalize ((r.bytes.length:Int)==0)=p2;generalize ((r.names.length:Int)==0)=p3;generalize ((r.tags.length:Int)==0)=p4;generalize decide (k<0)=p5;generalize ((r.kids.length:Int)==k)=p6
 cases a <;> cases p1 <;> try rfl
 all_goals cases b <;> cases p2 <;> try rfl
 all_goals cases c <;> cases p3 <;> try rfl
 all_goals cases d <;> cases p4 <;> try rfl
 all_goals cases p5 <;> rfl
theorem n_R (r:e_) (a b c d:Bool) (k:Int):b_V r a b c d k=some (plain r a b c d k && (!r.little || r.kind==1)):=by
 unfold b_V plain;generalize (r.size==0)=p1;generalize ((r.bytes.length:Int)==0)=p2;generalize ((r.names.length:Int)==0)=p3;generalize ((r.tags.length:Int)==0)=p4;generalize decide (k<0)=p5;generalize ((r.kids.length:Int)==k)=p6;generalize (r.kind==1)=p7;generalize r.little=p8
 cases a <;> cases p1 <;> try rfl
 all_goals cases b <;> cases p2 <;> try rfl
 all_goals cases c <;> cases p3 <;> try rfl
 all_goals cases d <;> cases p4 <;> try rfl
 all_goals cases p5 <;> cases p6 <;> cases p8 <;> rfl
def lim (rs:List e_) (i:Int):Int:=match idx rs i with
 | some r=>if r.kind=1∧1≤r.size∧r.size≤4 then 256 ^ r.size.toNat - 1 else -1
 | none=>-1
theorem k_t {α:Type} {l:List α} {i:Int} (h : ¬ (0≤i∧i<l.length)):idx l i=none:=by
 unfold idx;split
 ·rw [gN_];omega
 ·rfl
theorem g_U {s:Int} (h1:1≤s) (h4:s≤4):I_ (b_o .i64 1<|a_d 8 s) 1=256 ^ s.toNat - 1∧nn (a_d 8 s)=some ():=by
 have:s=1∨s=2∨s=3∨s=4:=by omega
 rcases this with rfl | rfl | rfl | rfl <;> exact ⟨by decide,by decide⟩
theorem k_u (d:d_) (i:Int):e_3 d i=some (lim d.rules i):=by
 unfold e_3 d_s lim
 by_cases h:0≤i∧i<d.rules.length
 ·obtain ⟨h0,h1⟩:=h
  rw [dT_ h0,dT_ h1,d_m h0 (by omega)]
  generalize d.rules[i.toNat]=r
  simp only [fT_,bd_some,e_m]
  by_cases hk:r.kind=1
  ·by_cases hs1:1≤r.size
   ·by_cases hs4:r.size≤4
    ·simp [hk,hs1,hs4,(g_U hs1 hs4).1,(g_U hs1 hs4).2]
    ·simp [hk,hs1,hs4]
   ·simp [hk,hs1]
  ·simp [hk]
 ·rw [k_t h]
  by_cases h0:0≤i
  ·have h1 : ¬ i<d.rules.length:=fun h1=>h ⟨h0,h1⟩
   simp [h0,h1]
  ·simp [h0]
theorem g_V (d:d_) (i:Int) (hd:d.rules.length≤MX):c_W d i=some (lim d.rules i):=by
 unfold c_W lim
 rw [b_x]
 have hMX:MX=1048576:=rfl;have e:I_ (d.rules.length:Int) 1=(d.rules.length:Int) - 1:=a_F (by omega) (by omega)
 rw [e]
 by_cases h:0≤i∧i<d.rules.length
 ·obtain ⟨h0,h1⟩:=h
  rw [dT_ h0,dT_ (show i≤(d.rules.length:Int) - 1 by omega),d_m h0 (by omega)]
  generalize d.rules[i.toNat]=r
  simp only [bd_some,b_x,c_A]
  by_cases hk:r.kind=1
  ·by_cases hs1:1≤r.size
   ·by_cases hs4:r.size≤4
    ·simp [hk,hs1,hs4,(g_U hs1 hs4).1,(g_U hs1 hs4).2]
    ·simp [hk,hs1,hs4]
   ·simp [hk,hs1]
  ·simp [hk]
 ·rw [k_t h]
  by_cases h0:0≤i
  ·have h1 : ¬ i≤(d.rules.length:Int) - 1:=fun h1=>h ⟨h0,by omega⟩
   simp [h0,h1]
  ·simp [h0]
def c_P (l:List Str) (s:Str):Bool:=l.any<|fun x=>x.b==s.b
theorem n_S (l:List Str) (s:Str):e_E l s=some (c_P l s):=by
 unfold e_E c_P
 rw [e_v (fun x=>x.b==s.b) true (fun k hk=>by simp only [ix_ hk,bd_some];exact c_r _ _)]
 cases l.any (fun x=>x.b==s.b) <;> rfl
theorem n_T (l:List Str) (s:Str):f_D l s=some (c_P l s):=by
 unfold f_D c_P
 rw [e_v (fun x=>x.b==s.b) true (fun k hk=>by simp only [ix_ hk,bd_some];exact c_r _ _)]
 cases l.any (fun x=>x.b==s.b) <;> rfl
def b_U (l:List Str) (k:Nat):Bool:=match l[k]? with
 | some s=>!a_Z s || c_P (l.take k) s
 | none=>false
def c_b (m:Int) (l:List Int) (k:Nat):Bool:=match l[k]? with
 | some t=>!(decide (0≤t) && decide (t≤m)) || (decide (0<(k:Int)) && decide (t≤l.getD (k - 1) 0))
 | none=>false
def b_N (n:Nat):Bool:=decide (1≤(n:Int)) && decide ((n:Int)≤8)
def B_ (r:e_):Int:=r.kids.getD 0 0
def a_h (rs:List e_) (r:e_):Bool :=
 if r.kind==1 then plain r true false false false 0 && ((decide (1≤r.size) && decide (r.size≤4)) && (!r.little || decide (1<r.size)))
 else if r.kind==2 then plain r false true false false 0 && (decide (1≤(r.bytes.length:Int)) && decide ((r.bytes.length:Int)≤16))
 else if r.kind==3 then plain r true false false false 0 && (decide (1≤r.size) && decide (r.size≤64))
 else if r.kind==4 then plain r false false false false 1 && decide (0<lim rs (B_ r))
 else if r.kind==5 then plain r false false false false 2 && decide (0<lim rs (B_ r))
 else if r.kind==6 then plain r false false true false r.names.length && (!((List.range r.names.length).any (b_U r.names)) && b_N r.names.length)
 else if r.kind==7 then plain r false false false true ((r.tags.length:Int)+1) && (b_N r.tags.length && !((List.range r.tags.length).any (c_b (lim rs<|B_ r) r.tags)))
 else if r.kind==8 then plain r false false false false 1
 else if r.kind==9 then plain r false false false false 1
 else if r.kind==10 then plain r false true false false 0 && ((r.bytes.length:Int)==1 && byteI (r.bytes.getD 0 0) != byteI (92:UInt8))
 else false
theorem c_c {r:e_} {a b c d:Bool} {k:Int} (h:plain r a b c d k=true) (hk:0≤k):(r.kids.length:Int)=k:=by
 unfold plain at h
 simp only [aE_,Bool.or_eq_true,dE_,beq_iff_eq] at h
 omega
theorem k_v (r:e_) (a b c d:Bool) (k:Int):plain r a b c d k=(plain r a b c d (-1) && (decide (k<0) || (r.kids.length:Int)==k)):=by
 unfold plain;simp [Bool.and_assoc]
theorem j_7 {α:Type} {l:List α} {k:Nat} (h:k≤l.length):slc l 0 (k:Int)=some (l.take k):=by
 rw [j_u (Int.le_refl 0) (by omega) (by omega)];simp
theorem k_w (rs:List e_) (i:Int):lim rs i = -1∨0<lim rs i:=by
 unfold lim
 cases idx rs i with
 | none=>exact .inl rfl
 | some r =>
  simp only
  by_cases h:r.kind=1∧1≤r.size∧r.size≤4
  ·rw [iP_ h]
   right
   obtain ⟨_,h1,h4⟩:=h;have:r.size=1∨r.size=2∨r.size=3∨r.size=4:=by omega
   rcases this with h | h | h | h <;> rw [h] <;> decide
  ·rw [iN_ h];exact .inl rfl
theorem a_j {α:Type} {l:List α} {k:Nat} {x:α} (h:k<l.length):l.getD k x=l[k]:=by simp [h]
theorem n_U (n:Nat) (hn:14≤n) (l:List Str):C_ (σ:=Unit) (ρ:=Bool) (fun k149=>(fun (_:Unit)=>bd (idx l ((k149:Nat):Int)) fun x205=>bd (α:=Bool) (bd (e_2 n x205) fun r251=>if (!r251)=true then some true else bd (slc l 0 ((k149:Nat):Int)) fun x261=>bd (e_E x261 x205) fun r271=>some r271) (fun x244=>if x244=true then some (.ret false) else some (.next ())))) l.length 0 ()=some (if (List.range l.length).any (b_U l)=true then .inr false else .inl ()):=by
 refine d_o (b_U l) false<|fun k hk _=>?_
 simp only [ix_ hk,bd_some,k_s n hn,j_7<|Nat.le_of_lt hk,n_S,b_U,gG_ hk]
 generalize a_Z l[k]=a;generalize c_P (l.take k) l[k]=b
 cases a <;> cases b <;> rfl
theorem n_V (l:List Str):f_E l=some (!((List.range l.length).any (b_U l)) && b_N l.length):=by
 unfold f_E
 rw [d_o (b_U l) false]
 ·rw [b_x]
  unfold b_N
  cases (List.range l.length).any (b_U l) <;> rfl
 ·intro k hk _
  simp only [ix_ hk,bd_some,k_r,j_7<|Nat.le_of_lt hk,n_T,b_U,gG_ hk]
  generalize a_Z l[k]=a;generalize c_P (l.take k) l[k]=b
  cases a <;> cases b <;> rfl
theorem n_W (n:Nat) (hn:14≤n) (r:e_):f_T n r=some (plain r false false true false r.names.length && (!((List.range r.names.length).any (b_U r.names)) && b_N r.names.length)):=by
 unfold f_T
 rw [n_U n hn,j_6,e_m,k_v r _ _ _ _ r.names.length]
 have e1:decide ((r.names.length:Int)<0)=false:=dF_ (by omega)
 rw [e1]
 unfold b_N;generalize (List.range r.names.length).any (b_U r.names)=a;generalize plain r false false true false (-1)=b
 by_cases h:(r.kids.length:Int)=r.names.length
 ·rw [h]
  have e2:((r.names.length:Int)==(r.names.length:Int))=true:=by simp
  have e3:((r.names.length:Int) != (r.names.length:Int))=false:=by simp
  rw [e2,e3]
  generalize (decide (1≤(r.names.length:Int)) && decide ((r.names.length:Int)≤8))=c
  cases a <;> cases b <;> cases c <;> rfl
 ·have e2:((r.kids.length:Int)==(r.names.length:Int))=false:=by simpa using h
  have e3:((r.kids.length:Int) != (r.names.length:Int))=true:=by simpa using h
  rw [e2,e3]
  cases a <;> cases b <;> rfl
theorem g_W {m:Int} {l:List Int} {k:Nat} (hk:k<l.length):c_b m l k=(!(decide (0≤l[k]) && decide (l[k]≤m)) || (decide (0<(k:Int)) && decide (l[k]≤l.getD (k - 1) 0))):=by
 unfold c_b;rw [gG_ hk]
theorem k_x {l:List Int} {k:Nat} (hk:k<l.length) (h0:0<k):idx l (I_ (k:Int) 1)=some (l.getD (k - 1) 0) ∨ ¬ l.length≤MX:=by
 by_cases hM:l.length≤MX
 ·left
  have hMX:MX=1048576:=rfl
  rw [a_F (by omega) (by omega),d_m (by omega) (by omega),a_j (by omega)]
  simp [show ((k:Int) - 1).toNat=k - 1 by omega]
 ·exact .inr hM
theorem n_X (m:Int) (l:List Int) (hl:l.length≤MX):C_ (σ:=Unit) (ρ:=Bool) (fun k197=>(fun (_:Unit)=>bd (idx l ((k197:Nat):Int)) fun x255=>bd (α:=Bool) (bd (b_X x255 0 m) fun r300=>if (!r300)=true then some true else if (decide<|0<((k197:Nat):Int))=true then bd (idx l<|I_ ((k197:Nat):Int) 1) fun x312=>some (decide<|x255≤x312) else some false) (fun x293=>if x293=true then some (.ret false) else some (.next ())))) l.length 0 ()=some (if (List.range l.length).any (c_b m l)=true then .inr false else .inl ()):=by
 refine d_o (c_b m l) false<|fun k hk _=>?_
 simp only [ix_ hk,bd_some,e_m,g_W hk]
 by_cases h0:0<k
 ·have e:=(k_x hk h0).resolve_right (fun h=>h hl);have e1:decide (0<(k:Int))=true:=dT_ (by omega)
  rw [e,e1]
  generalize decide (0≤l[k])=a;generalize decide (l[k]≤m)=b
  simp only [bd_some]
  generalize decide (l[k]≤l.getD (k - 1) 0)=c
  cases a <;> cases b <;> cases c <;> rfl
 ·have e1:decide (0<(k:Int))=false:=dF_ (by omega)
  rw [e1]
  generalize decide (0≤l[k])=a;generalize decide (l[k]≤m)=b
  cases a <;> cases b <;> rfl
theorem b_s {r:e_} (h:0<r.kids.length):idx r.kids 0=some (B_ r):=by
 rw [b_1 h,B_,a_j h]
theorem n_Y (d:d_) (r:e_) (ht:r.tags.length≤MX):f_U d r=some (plain r false false false true ((r.tags.length:Int)+1) && (b_N r.tags.length && !((List.range r.tags.length).any (c_b (lim d.rules<|B_ r) r.tags)))):=by
 have hMX:MX=1048576:=rfl;unfold f_U
 rw [j_6,e_m,ia_ (x:=(r.tags.length:Int)) (by omega) (by omega)]
 unfold b_N
 cases hp:plain r false false false true ((r.tags.length:Int)+1)
 ·rfl
 ·have hk:=c_c hp (by omega)
  rw [b_s (by omega)]
  simp only [bd_some,nT_,bF_,fF_,k_u,n_X _ _ ht]
  by_cases h18:1≤(r.tags.length:Int)∧(r.tags.length:Int)≤8
  ·rw [dT_ h18.1,dT_ h18.2]
   cases ha:(List.range r.tags.length).any (c_b (lim d.rules<|B_ r) r.tags)
   ·have hpos:0<lim d.rules (B_ r):=by
     rcases k_w d.rules (B_ r) with h | h
     ·exfalso
      have h0:0<r.tags.length:=by omega
      have:=List.any_eq_false.1 ha 0<|List.mem_range.2 h0
      rw [g_W h0,h] at this
      simp only [Bool.or_eq_true,Bool.not_eq_true',Bool.and_eq_false_iff,decide_eq_false_iff_not] at this
      omega
     ·exact h
    rw [dT_ hpos]
    rfl
   ·rfl
  ·have:(decide (1≤(r.tags.length:Int)) && decide ((r.tags.length:Int)≤8))=false:=by
    rw [Bool.and_eq_false_iff]
    simp only [decide_eq_false_iff_not]
    omega
   rw [this]
   rfl
theorem n_Z (d:d_) (r:e_) (hd:d.rules.length≤MX) (ht:r.tags.length≤MX):f_F d r=some (((r.kids.length:Int)==(r.tags.length:Int)+1) && (b_N r.tags.length && !((List.range r.tags.length).any (c_b (lim d.rules<|B_ r) r.tags)))):=by
 have hMX:MX=1048576:=rfl;unfold f_F
 rw [ia_ (x:=(r.tags.length:Int)) (by omega) (by omega),b_x]
 unfold b_N
 by_cases hk:(r.kids.length:Int)=(r.tags.length:Int)+1
 ·have e2:((r.kids.length:Int)==(r.tags.length:Int)+1)=true:=by simpa using hk
  have e3:((r.kids.length:Int) != (r.tags.length:Int)+1)=false:=by simpa using hk
  rw [e2,e3]
  rw [d_o (c_b (lim d.rules<|B_ r) r.tags) false]
  ·generalize (List.range r.tags.length).any (c_b (lim d.rules<|B_ r) r.tags)=a;generalize (decide (1≤(r.tags.length:Int)) && decide ((r.tags.length:Int)≤8))=c
   cases a <;> cases c <;> rfl
  ·intro k hk' _
   simp only [ix_ hk',bd_some,b_s (show 0<r.kids.length by omega),g_V d _ hd,b_x,g_W hk']
   by_cases h0:0<k
   ·have e:=(k_x hk' h0).resolve_right (fun h=>h ht);have e1:decide (0<(k:Int))=true:=dT_ (by omega)
    rw [e,e1]
    generalize decide (0≤r.tags[k])=a;generalize decide (r.tags[k]≤lim d.rules (B_ r))=b
    simp only [bd_some]
    generalize decide (r.tags[k]≤r.tags.getD (k - 1) 0)=c
    cases a <;> cases b <;> cases c <;> rfl
   ·have e1:decide (0<(k:Int))=false:=dF_ (by omega)
    rw [e1]
    generalize decide (0≤r.tags[k])=a;generalize decide (r.tags[k]≤lim d.rules (B_ r))=b
    cases a <;> cases b <;> rfl
 ·have e2:((r.kids.length:Int)==(r.tags.length:Int)+1)=false:=by simpa using hk
  have e3:((r.kids.length:Int) != (r.tags.length:Int)+1)=true:=by simpa using hk
  rw [e2,e3]
  rfl
theorem o_0 (n:Nat) (hn:14≤n) (d:d_) (r:e_) (ht:r.tags.length≤MX):f_V n d r=some (a_h d.rules r):=by
 unfold f_V a_h
 rw [n_W n hn,n_Y d r ht]
 simp only [j_6,e_m,k_u,bd_some]
 cases (r.kind==1) with
 | true =>
  generalize plain r true false false false 0=a;generalize (decide (1≤r.size) && decide (r.size≤4))=b;generalize decide (1<r.size)=c;generalize r.little=e
  cases a <;> cases b <;> cases c <;> cases e <;> rfl
 | false =>
 cases (r.kind==2) with
 | true =>
  generalize plain r false true false false 0=a
  cases a <;> rfl
 | false =>
 cases (r.kind==3) with
 | true =>
  generalize plain r true false false false 0=a
  cases a <;> rfl
 | false =>
 cases (r.kind==4) with
 | true =>
  cases hp:plain r false false false false 1
  ·rfl
  ·have hk:=c_c hp (by omega)
   rw [b_s (by omega)]
   rfl
 | false =>
 cases (r.kind==5) with
 | true =>
  cases hp:plain r false false false false 2
  ·rfl
  ·have hk:=c_c hp (by omega)
   rw [b_s (by omega)]
   rfl
 | false =>
 cases (r.kind==6) with
 | true=>rfl
 | false =>
 cases (r.kind==7) with
 | true=>rfl
 | false =>
 cases (r.kind==8) with
 | true=>rfl
 | false =>
 cases (r.kind==9) with
 | true=>rfl
 | false =>
 cases (r.kind==10) with
 | true =>
  generalize plain r false true false false 0=a
  by_cases hb:(r.bytes.length:Int)=1
  ·have e:((r.bytes.length:Int)==1)=true:=by simpa using hb
   rw [e,b_1 (show 0<r.bytes.length by omega),a_j (show 0<r.bytes.length by omega)]
   cases a <;> rfl
  ·have e:((r.bytes.length:Int)==1)=false:=by simpa using hb
   rw [e]
   cases a <;> rfl
 | false=>rfl
theorem o_1 (d:d_) (r:e_) (hd:d.rules.length≤MX) (ht:r.tags.length≤MX):f_G d r=some (a_h d.rules r && (!r.little || r.kind==1)):=by
 unfold f_G a_h
 rw [n_Z d r hd ht,n_V]
 simp only [n_R,b_x,g_V d _ hd,bd_some]
 have e7:plain r false false false true ((r.tags.length:Int)+1)=(plain r false false false true (-1) && ((r.kids.length:Int)==(r.tags.length:Int)+1)):=by
  rw [k_v,dF_ (show ¬ ((r.tags.length:Int)+1<0) by omega)];rfl
 rw [e7]
 cases (r.kind==1) with
 | true =>
  generalize plain r true false false false 0=a;generalize (decide (1≤r.size) && decide (r.size≤4))=b;generalize decide (1<r.size)=c;generalize r.little=e
  cases a <;> cases b <;> cases c <;> cases e <;> rfl
 | false =>
 generalize r.little=e
 cases (r.kind==2) with
 | true =>
  generalize plain r false true false false 0=a;generalize (decide (1≤(r.bytes.length:Int)) && decide ((r.bytes.length:Int)≤16))=b
  cases a <;> cases e <;> cases b <;> rfl
 | false =>
 cases (r.kind==3) with
 | true =>
  generalize plain r true false false false 0=a;generalize (decide (1≤r.size) && decide (r.size≤64))=b
  cases a <;> cases e <;> cases b <;> rfl
 | false =>
 cases (r.kind==4) with
 | true =>
  cases hp:plain r false false false false 1
  ·rfl
  ·have hk:=c_c hp (by omega)
   rw [b_s (by omega)]
   simp only [bd_some]
   generalize decide (0<lim d.rules (B_ r))=b
   cases e <;> cases b <;> rfl
 | false =>
 cases (r.kind==5) with
 | true =>
  cases hp:plain r false false false false 2
  ·rfl
  ·have hk:=c_c hp (by omega)
   rw [b_s (by omega)]
   simp only [bd_some]
   generalize decide (0<lim d.rules (B_ r))=b
   cases e <;> cases b <;> rfl
 | false =>
 cases (r.kind==6) with
 | true =>
  generalize plain r false false true false r.names.length=a;generalize (!((List.range r.names.length).any (b_U r.names)) && b_N r.names.length)=b
  cases a <;> cases e <;> cases b <;> rfl
 | false =>
 cases (r.kind==7) with
 | true =>
  generalize plain r false false false true (-1)=a;generalize ((r.kids.length:Int)==(r.tags.length:Int)+1)=b;generalize (b_N r.tags.length && !((List.range r.tags.length).any (c_b (lim d.rules<|B_ r) r.tags)))=c
  cases a <;> cases e <;> cases b <;> cases c <;> rfl
 | false =>
 cases (r.kind==8) with
 | true =>
  generalize plain r false false false false 1=a
  cases a <;> cases e <;> rfl
 | false =>
 cases (r.kind==9) with
 | true =>
  generalize plain r false false false false 1=a
  cases a <;> cases e <;> rfl
 | false =>
 cases (r.kind==10) with
 | true =>
  generalize plain r false true false false 0=a
  by_cases hb:(r.bytes.length:Int)=1
  ·have e:((r.bytes.length:Int)==1)=true:=by simpa using hb
   rw [e,b_1 (show 0<r.bytes.length by omega),a_j (show 0<r.bytes.length by omega)]
   simp only [bd_some]
   generalize (byteI r.bytes[0] != byteI (92:UInt8))=b
   rename_i e'
   cases a <;> cases e' <;> cases b <;> rfl
  ·have e:((r.bytes.length:Int)==1)=false:=by simpa using hb
   rw [e]
   rename_i e'
   cases a <;> cases e' <;> rfl
 | false=>cases e <;> rfl
def c_t (i:Nat) (k:Int):Bool:=decide (k<0) || decide ((i:Int)≤k)
def c_u (rs:List e_) (i:Nat):Bool:=match rs[i]? with
 | none=>false
 | some r=>(a_Z r.name && !(r.little && r.kind != 1)) && (!((rs.take i).any (fun x=>x.name.b==r.name.b)) && (!(r.kids.any<|c_t i) && a_h rs r))
def a_1 (d:d_):Bool:=(decide (1≤(d.rules.length:Int)) && decide ((d.rules.length:Int)≤24)) && !((List.range d.rules.length).any (fun i=>!c_u d.rules i))
theorem o_2 (n:Nat) (hn:14≤n) (d:d_) (hd:SmD d) {i:Nat} (hi:i<d.rules.length):f_W n d i=some (c_u d.rules i):=by
 unfold f_W d_s c_u;have hr:=hd.each d.rules[i] (gE_ hi)
 rw [dT_ (show (0:Int)≤(i:Int) by omega),dT_ (show (i:Int)<(d.rules.length:Int) by omega),gG_ hi,ix_ hi]
 simp only [fT_,bd_some,k_s n hn,j_7<|Nat.le_of_lt hi,o_0 n hn d _ hr.tags]
 generalize d.rules[i]=r;have e1:=e_v (body:=(fun k220=>(fun (_:Unit)=>bd (idx (d.rules.take i) ((k220:Nat):Int)) fun x290=>if (x290.name.b==r.name.b)=true then some (Out.ret false:Out Unit Bool) else some (.next ())))) (l:=d.rules.take i) (fun x=>x.name.b==r.name.b) false (fun k hk=>by simp only [ix_ hk,bd_some];exact c_r _ _)
 have e2:=e_v (body:=(fun k416=>(fun (_:Unit)=>bd (idx r.kids ((k416:Nat):Int)) fun x452=>bd (α:=Bool) (if (decide (x452<0))=true then some true else some (decide ((i:Int)≤x452))) (fun x466=>if x466=true then some (Out.ret false:Out Unit Bool) else some (.next ()))))) (l:=r.kids) (c_t i) false (fun k hk=>by
  simp only [ix_ hk,bd_some]
  rw [show c_t i r.kids[k]=(decide (r.kids[k]<0) || decide ((i:Int)≤r.kids[k])) from rfl]
  generalize decide (r.kids[k]<0)=a;generalize decide ((i:Int)≤r.kids[k])=b
  cases a <;> cases b <;> rfl)
 rw [e1,e2]
 generalize a_Z r.name=a;generalize r.little=b;generalize (r.kind != 1)=c;generalize (d.rules.take i).any (fun x=>x.name.b==r.name.b)=x;generalize r.kids.any (c_t i)=y;generalize a_h d.rules r=z
 cases a <;> cases b <;> cases c <;> cases x <;> cases y <;> rfl
theorem o_3 (d:d_) (hd:SmD d) {i:Nat} (hi:i<d.rules.length):f_H d i=some (c_u d.rules i):=by
 have hMX:MX=1048576:=rfl;have hdl:=hd.rules;unfold f_H c_u;have hr:=hd.each d.rules[i] (gE_ hi)
 rw [b_x,a_F (x:=(d.rules.length:Int)) (by omega) (by omega),a_F (x:=(i:Int)) (by omega) (by omega),dT_ (show (0:Int)≤(i:Int) by omega),dT_ (show (i:Int)≤(d.rules.length:Int) - 1 by omega),gG_ hi,ix_ hi]
 simp only [bd_some,k_r,o_1 d _ hd.rules hr.tags]
 generalize d.rules[i]=r;have hl:((i:Int)).toNat=(d.rules.take i).length:=by simp;omega
 have e1:C_ (σ:=Unit) (ρ:=Bool) (fun k137=>(fun (_:Unit)=>bd (idx d.rules ((k137:Nat):Int)) fun x207=>if (x207.name.b==r.name.b)=true then some (.ret false) else some (.next ()))) (i:Int).toNat 0 ()=some (if (d.rules.take i).any (fun x=>x.name.b==r.name.b)=true then .inr false else .inl ()):=by
  rw [hl]
  refine e_v (fun x:e_=>x.name.b==r.name.b) false<|fun k hk=>?_;have hk':k<d.rules.length:=by simp at hk;omega
  simp only [ix_ hk',bd_some,List.getElem_take]
  exact c_r _ _
 have e2:C_ (σ:=Unit) (ρ:=Bool) (fun k317=>(fun (_:Unit)=>bd (idx r.kids ((k317:Nat):Int)) fun x366=>bd (a_N x366 0<|(i:Int) - 1) fun r381=>if (!r381)=true then some (.ret false) else some (.next ()))) r.kids.length 0 ()=some (if r.kids.any (c_t i)=true then .inr false else .inl ()):=by
  refine e_v (c_t i) false<|fun k hk=>?_
  simp only [ix_ hk,bd_some,b_x]
  rw [show c_t i r.kids[k] = !(decide (0≤r.kids[k]) && decide (r.kids[k]≤(i:Int) - 1)) from by
   unfold c_t
   by_cases h0:r.kids[k]<0
   ·rw [dT_ h0,dF_ (show ¬ 0≤r.kids[k] by omega)];rfl
   ·rw [dF_ h0,dT_ (show 0≤r.kids[k] by omega)]
    by_cases h1:(i:Int)≤r.kids[k]
    ·rw [dT_ h1,dF_ (show ¬ r.kids[k]≤(i:Int) - 1 by omega)];rfl
    ·rw [dF_ h1,dT_ (show r.kids[k]≤(i:Int) - 1 by omega)];rfl]
  exact c_r _ _
 rw [e1,e2]
 have e3:(!(r.little && r.kind != 1))=(!r.little || r.kind==1):=by
  simp only [bne]
  generalize (r.kind==1)=c
  cases r.little <;> cases c <;> rfl
 rw [e3]
 generalize a_Z r.name=a;generalize (!r.little || r.kind==1)=b;generalize (d.rules.take i).any (fun x=>x.name.b==r.name.b)=x;generalize r.kids.any (c_t i)=y;generalize a_h d.rules r=z
 cases a <;> cases b <;> cases x <;> cases y <;> cases z <;> rfl
theorem o_4 (n:Nat) (hn:14≤n) (d:d_) (hd:SmD d):f_X n d=some (a_1 d):=by
 unfold f_X a_1
 rw [e_m,d_o (fun i=>!c_u d.rules i) false (fun k hk _=>by rw [o_2 n hn d hd hk];simp only [bd_some];exact c_r _ _)]
 generalize (decide (1≤(d.rules.length:Int)) && decide ((d.rules.length:Int)≤24))=a;generalize (List.range d.rules.length).any (fun i=>!c_u d.rules i)=b
 cases a <;> cases b <;> rfl
theorem o_5 (d:d_) (hd:SmD d):f_I d=some (a_1 d):=by
 unfold f_I a_1
 rw [b_x,d_o (fun i=>!c_u d.rules i) false (fun k hk _=>by rw [o_3 d hd hk];simp only [bd_some];exact c_r _ _)]
 generalize (decide (1≤(d.rules.length:Int)) && decide ((d.rules.length:Int)≤24))=a;generalize (List.range d.rules.length).any (fun i=>!c_u d.rules i)=b
 cases a <;> cases b <;> rfl
def b_5 (d:d_) (r:Int):Bool:=decide (0≤r) && decide (r<(d.rules.length:Int))
theorem j_8 (n:Nat) (hn:14≤n) (d:d_) (hd:SmD d) (r:Int):e_4 n d r=some (a_1 d && b_5 d r):=by
 unfold e_4 d_s b_5
 rw [o_4 n hn d hd]
 generalize a_1 d=a;generalize decide (0≤r)=b;generalize decide (r<(d.rules.length:Int))=c
 cases a <;> cases b <;> rfl
theorem g_X (d:d_) (hd:SmD d) (r:Int):e_1 d r=some (a_1 d && b_5 d r):=by
 have hMX:MX=1048576:=rfl;have hdl:=hd.rules;unfold e_1 b_5
 rw [o_5 d hd,b_x,a_F (x:=(d.rules.length:Int)) (by omega) (by omega),show decide (r≤(d.rules.length:Int) - 1)=decide (r<(d.rules.length:Int)) from decide_eq_decide.2 (by omega)]
 generalize a_1 d=a;generalize decide (0≤r)=b;generalize decide (r<(d.rules.length:Int))=c
 cases a <;> cases b <;> cases c <;> rfl
end Go.Vw
