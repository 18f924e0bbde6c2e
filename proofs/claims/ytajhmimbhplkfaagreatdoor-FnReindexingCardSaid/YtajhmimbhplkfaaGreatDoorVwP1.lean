
import Derived.Test.YtajhmimbhplkfaaGreatDoorVmB
set_option linter.unusedVariables false
namespace Go.Vw
open Go.RowKit Dat
def MX:Nat:=1048576
structure SmR (r:g_):Prop where
 name:r.name.b.length≤MX
 bytes:r.bytes.length≤MX
 names:r.names.length≤MX
 tags:r.tags.length≤MX
 kids:r.kids.length≤MX
 each : ∀ s∈r.names,s.b.length≤MX
structure SmD (d:d_):Prop where
 rules:d.rules.length≤MX
 each : ∀ r∈d.rules,SmR r
theorem n_w {α:Type} {c:Prop} [Decidable c] (x y:α):(if c then some x else some y)=some (if c then x else y):=by split <;> rfl
theorem c_u {ρ:Type} {c:Bool} (x y:Out Unit ρ):(if c=true then some x else some y)=some (if c=true then x else y):=by split <;> rfl
def lowC (c:UInt8):Bool:=decide (byteI (97:UInt8)≤byteI c) && decide (byteI c≤byteI (122:UInt8))
def digC (c:UInt8):Bool:=decide (byteI (48:UInt8)≤byteI c) && decide (byteI c≤byteI (57:UInt8))
theorem k_n (c:UInt8):lowC c=(decide (97≤(c.toNat:Int)) && decide ((c.toNat:Int)≤122)):=rfl
theorem k_o (c:UInt8):digC c=(decide (48≤(c.toNat:Int)) && decide ((c.toNat:Int)≤57)):=rfl
theorem i_U (k:Nat):((k:Int)==0)=(k==0):=by
 rw [Bool.eq_iff_iff];simp
def b_k (s:Str) (k:Nat):Bool:=match s.b[k]? with
 | some c=>!lowC c && (!digC c || k==0)
 | none=>false
def b_l (s:Str):Bool:=!((List.range s.b.length).any (b_k s)) && (decide (1≤s.b.length) && decide (s.b.length≤12))
theorem b_n (x lo hi:Int):a_I x lo hi=some (decide (lo≤x) && decide (x≤hi)):=by
 unfold a_I;generalize decide (lo≤x)=a;generalize decide (x≤hi)=b
 cases a <;> rfl
theorem e_d (x lo hi:Int):b_U x lo hi=some (decide (lo≤x) && decide (x≤hi)):=by
 unfold b_U;generalize decide (lo≤x)=a;generalize decide (x≤hi)=b
 cases a <;> rfl
theorem k_p (s:Str):e_p s=some (b_l s):=by
 unfold e_p
 rw [d_f (b_k s) false]
 ·unfold b_l
  cases (List.range s.b.length).any (b_k s)
  ·have e1:decide ((1:Int)≤s.b.length)=decide (1≤s.b.length):=decide_eq_decide.2 (by omega);have e2:decide ((s.b.length:Int)≤12)=decide (s.b.length≤12):=decide_eq_decide.2 (by omega)
   simp only [bF_,fF_,bd_some,el_inl,b_n,e1,e2,Bool.not_false,Bool.true_and]
  ·rfl
 ·intro k hk _
  simp only [ix_ hk,bd_some,b_k,gG_ hk,lowC,digC,i_U]
  generalize decide (byteI (97:UInt8)≤byteI s.b[k])=a;generalize decide (byteI s.b[k]≤byteI (122:UInt8))=b;generalize decide (byteI (48:UInt8)≤byteI s.b[k])=c;generalize decide (byteI s.b[k]≤byteI (57:UInt8))=d;generalize (k==0)=e
  cases a <;> cases b <;> cases c <;> cases d <;> cases e <;> rfl
theorem k_q (n:Nat) (hn:14≤n) (s:Str):d_P n s=some (b_l s):=by
 unfold d_P
 by_cases h1:s.b.length<1
 ·have:b_l s=false:=by unfold b_l;simp [show ¬ 1≤s.b.length by omega]
  rw [this];simp [show ((s.b.length:Int)<1) by omega]
 by_cases h2:12<s.b.length
 ·have:b_l s=false:=by unfold b_l;simp [show ¬ s.b.length≤12 by omega]
  rw [this];simp [show ¬ ((s.b.length:Int)<1) by omega,show ((12:Int)<s.b.length) by omega]
 have e1:decide ((s.b.length:Int)<1)=false:=by simp;omega
 have e2:decide ((12:Int)<(s.b.length:Int))=false:=by simp;omega
 rw [e1,e2]
 simp only [bF_,fF_,bd_some]
 have hstep : ∀ k,k<s.b.length→b_k s k=false → ∀ {ρ:Type} (x:Nat→ρ),x (k+(dec s k).2)=x (k+1):=by
  intro k hk hb ρ x
  rw [l_f hk]
  have hb':b_k s k=(!lowC s.b[k] && (!digC s.b[k] || k==0)):=by unfold b_k;rw [gG_ hk]
  rw [hb'] at hb
  rw [k_n,k_o] at hb
  simp only [Bool.and_eq_false_iff,Bool.not_eq_false',Bool.or_eq_false_iff,aE_,dE_] at hb
  omega
 have hgood : ∀ k (hk:k<s.b.length),b_k s k=(bd (α:=Bool) (if (decide<|97≤((dec s k).1))=true then some (decide<|((dec s k).1)≤122) else some false) (fun x168=>bd (α:=Bool) (if (decide<|48≤((dec s k).1))=true then some (decide<|((dec s k).1)≤57) else some false) (fun x182=>bd (α:=Bool) (if (!x168)=true then if (!x182)=true then some true else some ((k:Int)==0) else some false) some))).getD false ∧
   (bd (α:=Bool) (if (decide<|97≤((dec s k).1))=true then some (decide<|((dec s k).1)≤122) else some false) (fun x168=>bd (α:=Bool) (if (decide<|48≤((dec s k).1))=true then some (decide<|((dec s k).1)≤57) else some false) (fun x182=>bd (α:=Bool) (if (!x168)=true then if (!x182)=true then some true else some ((k:Int)==0) else some false) (fun x199=>if x199=true then some (.ret false) else some (.next<|k+(dec s k).2)))))=some (if b_k s k=true then (.ret false:Out Nat Bool) else .next (k+(dec s k).2)):=by
  intro k hk;have hb':b_k s k=(!lowC s.b[k] && (!digC s.b[k] || k==0)):=by unfold b_k;rw [gG_ hk]
  rw [hb']
  rw [k_n,k_o]
  rw [i_U]
  by_cases ha:s.b[k].toNat<128
  ·rw [l_f hk ha]
   simp only
   generalize (s.b[k].toNat:Int)=c;generalize decide (97≤c)=a;generalize decide (c≤122)=b;generalize decide (48≤c)=c';generalize decide (c≤57)=d;generalize (k==0)=e
   cases a <;> cases b <;> cases c' <;> cases d <;> cases e <;> exact ⟨rfl,rfl⟩
  ·have hd:=o_P hk (by omega);generalize (dec s k).1=c at hd
   generalize (dec s k).2=c2;have g1:97≤c:=by omega
   have g2 : ¬ c≤122:=by omega
   have g3:48≤c:=by omega
   have g4 : ¬ c≤57:=by omega
   have k2 : ¬ (s.b[k].toNat:Int)≤122:=by omega
   have k4 : ¬ (s.b[k].toNat:Int)≤57:=by omega
   simp [g1,g2,g3,g4,k2,k4]
 have hit:a_f (σ:=Nat) (ρ:=Bool) (fun x120=>if (decide<|x120<s.b.length)=true then bd (α:=Bool) (if (decide<|97≤((dec s x120).1))=true then some (decide<|((dec s x120).1)≤122) else some false) (fun x168=>bd (α:=Bool) (if (decide<|48≤((dec s x120).1))=true then some (decide<|((dec s x120).1)≤57) else some false) (fun x182=>bd (α:=Bool) (if (!x168)=true then if (!x182)=true then some true else some ((x120:Int)==0) else some false) (fun x199=>if x199=true then some (.ret false) else some (.next<|x120+(dec s x120).2)))) else some (.brk x120)) n 0=some (if (List.range s.b.length).any (b_k s)=true then .inr false else .inl s.b.length):=by
  cases hf:(List.range s.b.length).find? (b_k s) with
  | none =>
   have hall : ∀ k,k<s.b.length→b_k s k=false:=fun k hk=>by simpa using List.find?_eq_none.1 hf k (List.mem_range.2 hk)
   have hany:(List.range s.b.length).any (b_k s)=false:=by rw [List.any_eq_false];exact fun x hx=>by simpa using List.find?_eq_none.1 hf x hx
   rw [hany]
   refine o_N (fun k=>k) (j0:=s.b.length) (by omega) (fun k hk=>?_) ?_
   ·simp only [hk,decide_true,fT_]
    rw [(hgood k hk).2,hall k hk]
    simp only [bF_,fF_]
    rw [hstep k hk (hall k hk) (fun x=>some<|Out.next x)]
   ·simp
  | some k =>
   have hany:(List.range s.b.length).any (b_k s)=true:=List.any_eq_true.2 ⟨k,List.mem_of_find?_eq_some hf,List.find?_some hf⟩
   rw [hany]
   obtain ⟨hp,as,bs,hl,has⟩:=List.find?_eq_some_iff_append.1 hf;have hk:k<s.b.length:=List.mem_range.1<|List.mem_of_find?_eq_some hf
   have hbef : ∀ j,j<k→b_k s j=false:=by
    intro j hj;have hlen:as.length<s.b.length:=by have:=congrArg List.length hl;simp at this;omega
    have hke:as.length=k:=by
     have h2:(List.range s.b.length)[as.length]? = some k:=by rw [hl];simp
     rw [List.getElem?_range hlen] at h2
     exact Option.some.inj h2
    have hj':j<as.length:=by omega
    have h2:(List.range s.b.length)[j]? = some (as[j]):=by rw [hl,List.getElem?_append_left hj'];simp
    rw [List.getElem?_range (by omega)] at h2
    have h3:=has as[j] (gE_ hj')
    rw [← Option.some.inj h2] at h3
    simpa using h3
   refine o_O (fun k=>k) (j0:=k) (by omega) (fun j hj=>?_) ?_
   ·have hj2:j<s.b.length:=by omega
    simp only [hj2,decide_true,fT_]
    rw [(hgood j hj2).2,hbef j hj]
    simp only [bF_,fF_]
    rw [hstep j hj2 (hbef j hj) (fun x=>some<|Out.next x)]
   ·simp only [hk,decide_true,fT_]
    rw [(hgood k hk).2,hp]
    rfl
 rw [hit]
 unfold b_l;have g1:decide (1≤s.b.length)=true:=dT_ (by omega);have g2:decide (s.b.length≤12)=true:=dT_ (by omega)
 rw [g1,g2]
 cases (List.range s.b.length).any (b_k s) <;> rfl
def plain (r:g_) (a b c d:Bool) (k:Int):Bool:=(a || r.size==0) && ((b || (r.bytes.length:Int)==0) && ((c || (r.names.length:Int)==0) && ((d || (r.tags.length:Int)==0) && (decide (k<0) || (r.kids.length:Int)==k))))
theorem i_V (r:g_) (a b c d:Bool) (k:Int):b_V r a b c d k=some (plain r a b c d k):=by
 unfold b_V plain;generalize (r.size==0)=p1;generalize ((r.bytes.length:Int)==0)=p2;generalize ((r.names.length:Int)==0)=p3;generalize ((r.tags.length:Int)==0)=p4;generalize decide (k<0)=p5;generalize ((r.kids.length:Int)==k)=p6
 cases a <;> cases p1 <;> try rfl
 all_goals cases b <;> cases p2 <;> try rfl
 all_goals cases c <;> cases p3 <;> try rfl
 all_goals cases d <;> cases p4 <;> try rfl
 all_goals cases p5 <;> rfl
theorem n_x (r:g_) (a b c d:Bool) (k:Int):b_T r a b c d k=some (plain r a b c d k && (!r.little || r.kind==1)):=by
 unfold b_T plain;generalize (r.size==0)=p1;generalize ((r.bytes.length:Int)==0)=p2;generalize ((r.names.length:Int)==0)=p3;generalize ((r.tags.length:Int)==0)=p4;generalize decide (k<0)=p5;generalize ((r.kids.length:Int)==k)=p6;generalize (r.kind==1)=p7;generalize r.little=p8
 cases a <;> cases p1 <;> try rfl
 all_goals cases b <;> cases p2 <;> try rfl
 all_goals cases c <;> cases p3 <;> try rfl
 all_goals cases d <;> cases p4 <;> try rfl
 all_goals cases p5 <;> cases p6 <;> cases p8 <;> rfl
def lim (rs:List g_) (i:Int):Int:=match idx rs i with
 | some r=>if r.kind=1∧1≤r.size∧r.size≤4 then 256 ^ r.size.toNat - 1 else -1
 | none=>-1
theorem k_r {α:Type} {l:List α} {i:Int} (h : ¬ (0≤i∧i<l.length)):idx l i=none:=by
 unfold idx;split
 ·rw [gN_];omega
 ·rfl
theorem g_S {s:Int} (h1:1≤s) (h4:s≤4):I_ (b_j .i64 1<|a_e 8 s) 1=256 ^ s.toNat - 1∧nn (a_e 8 s)=some ():=by
 have:s=1∨s=2∨s=3∨s=4:=by omega
 rcases this with rfl | rfl | rfl | rfl <;> exact ⟨by decide,by decide⟩
theorem k_s (d:d_) (i:Int):d_Q d i=some (lim d.rules i):=by
 unfold d_Q d_i lim
 by_cases h:0≤i∧i<d.rules.length
 ·obtain ⟨h0,h1⟩:=h
  rw [dT_ h0,dT_ h1,d_e h0 (by omega)]
  generalize d.rules[i.toNat]=r
  simp only [fT_,bd_some,e_d]
  by_cases hk:r.kind=1
  ·by_cases hs1:1≤r.size
   ·by_cases hs4:r.size≤4
    ·simp [hk,hs1,hs4,(g_S hs1 hs4).1,(g_S hs1 hs4).2]
    ·simp [hk,hs1,hs4]
   ·simp [hk,hs1]
  ·simp [hk]
 ·rw [k_r h]
  by_cases h0:0≤i
  ·have h1 : ¬ i<d.rules.length:=fun h1=>h ⟨h0,h1⟩
   simp [h0,h1]
  ·simp [h0]
theorem g_T (d:d_) (i:Int) (hd:d.rules.length≤MX):c_P d i=some (lim d.rules i):=by
 unfold c_P lim
 rw [b_n]
 have hMX:MX=1048576:=rfl;have e:I_ (d.rules.length:Int) 1=(d.rules.length:Int) - 1:=a_C (by omega) (by omega)
 rw [e]
 by_cases h:0≤i∧i<d.rules.length
 ·obtain ⟨h0,h1⟩:=h
  rw [dT_ h0,dT_ (show i≤(d.rules.length:Int) - 1 by omega),d_e h0 (by omega)]
  generalize d.rules[i.toNat]=r
  simp only [bd_some,b_n,c_B]
  by_cases hk:r.kind=1
  ·by_cases hs1:1≤r.size
   ·by_cases hs4:r.size≤4
    ·simp [hk,hs1,hs4,(g_S hs1 hs4).1,(g_S hs1 hs4).2]
    ·simp [hk,hs1,hs4]
   ·simp [hk,hs1]
  ·simp [hk]
 ·rw [k_r h]
  by_cases h0:0≤i
  ·have h1 : ¬ i≤(d.rules.length:Int) - 1:=fun h1=>h ⟨h0,by omega⟩
   simp [h0,h1]
  ·simp [h0]
def d_C (l:List Str) (s:Str):Bool:=l.any<|fun x=>x.b==s.b
theorem n_y (l:List Str) (s:Str):e_u l s=some (d_C l s):=by
 unfold e_u d_C
 rw [e_k (fun x=>x.b==s.b) true (fun k hk=>by simp only [ix_ hk,bd_some];exact c_u _ _)]
 cases l.any (fun x=>x.b==s.b) <;> rfl
theorem n_z (l:List Str) (s:Str):f_t l s=some (d_C l s):=by
 unfold f_t d_C
 rw [e_k (fun x=>x.b==s.b) true (fun k hk=>by simp only [ix_ hk,bd_some];exact c_u _ _)]
 cases l.any (fun x=>x.b==s.b) <;> rfl
def c_2 (l:List Str) (k:Nat):Bool:=match l[k]? with
 | some s=>!b_l s || d_C (l.take k) s
 | none=>false
def c_e (m:Int) (l:List Int) (k:Nat):Bool:=match l[k]? with
 | some t=>!(decide (0≤t) && decide (t≤m)) || (decide (0<(k:Int)) && decide (t≤l.getD (k - 1) 0))
 | none=>false
def b_G (n:Nat):Bool:=decide (1≤(n:Int)) && decide ((n:Int)≤8)
def E_ (r:g_):Int:=r.kids.getD 0 0
def a_q (rs:List g_) (r:g_):Bool :=
 if r.kind==1 then plain r true false false false 0 && ((decide (1≤r.size) && decide (r.size≤4)) && (!r.little || decide (1<r.size)))
 else if r.kind==2 then plain r false true false false 0 && (decide (1≤(r.bytes.length:Int)) && decide ((r.bytes.length:Int)≤16))
 else if r.kind==3 then plain r true false false false 0 && (decide (1≤r.size) && decide (r.size≤64))
 else if r.kind==4 then plain r false false false false 1 && decide (0<lim rs (E_ r))
 else if r.kind==5 then plain r false false false false 2 && decide (0<lim rs (E_ r))
 else if r.kind==6 then plain r false false true false r.names.length && (!((List.range r.names.length).any (c_2 r.names)) && b_G r.names.length)
 else if r.kind==7 then plain r false false false true ((r.tags.length:Int)+1) && (b_G r.tags.length && !((List.range r.tags.length).any (c_e (lim rs<|E_ r) r.tags)))
 else if r.kind==8 then plain r false false false false 1
 else if r.kind==9 then plain r false false false false 1
 else if r.kind==10 then plain r false true false false 0 && ((r.bytes.length:Int)==1 && byteI (r.bytes.getD 0 0) != byteI (92:UInt8))
 else false
theorem c_f {r:g_} {a b c d:Bool} {k:Int} (h:plain r a b c d k=true) (hk:0≤k):(r.kids.length:Int)=k:=by
 unfold plain at h
 simp only [aE_,Bool.or_eq_true,dE_,beq_iff_eq] at h
 omega
theorem k_t (r:g_) (a b c d:Bool) (k:Int):plain r a b c d k=(plain r a b c d (-1) && (decide (k<0) || (r.kids.length:Int)==k)):=by
 unfold plain;simp [Bool.and_assoc]
theorem i_W {α:Type} {l:List α} {k:Nat} (h:k≤l.length):slc l 0 (k:Int)=some (l.take k):=by
 rw [j_l (Int.le_refl 0) (by omega) (by omega)];simp
theorem k_u (rs:List g_) (i:Int):lim rs i = -1∨0<lim rs i:=by
 unfold lim
 cases idx rs i with
 | none=>exact .inl rfl
 | some r =>
  simp only
  by_cases h:r.kind=1∧1≤r.size∧r.size≤4
  ·rw [iP_ h]
   right
   obtain ⟨_,h1,h4⟩:=h;have:r.size=1∨r.size=2∨r.size=3∨r.size=4:=by omega
   rcases this with h | h | h | h <;> rw [h] <;> decide
  ·rw [iN_ h];exact .inl rfl
theorem a_v {α:Type} {l:List α} {k:Nat} {x:α} (h:k<l.length):l.getD k x=l[k]:=by simp [h]
theorem n_A (n:Nat) (hn:14≤n) (l:List Str):C_ (σ:=Unit) (ρ:=Bool) (fun k149=>(fun (_:Unit)=>bd (idx l ((k149:Nat):Int)) fun x205=>bd (α:=Bool) (bd (d_P n x205) fun r251=>if (!r251)=true then some true else bd (slc l 0 ((k149:Nat):Int)) fun x261=>bd (e_u x261 x205) fun r271=>some r271) (fun x244=>if x244=true then some (.ret false) else some (.next ())))) l.length 0 ()=some (if (List.range l.length).any (c_2 l)=true then .inr false else .inl ()):=by
 refine d_f (c_2 l) false<|fun k hk _=>?_
 simp only [ix_ hk,bd_some,k_q n hn,i_W<|Nat.le_of_lt hk,n_y,c_2,gG_ hk]
 generalize b_l l[k]=a;generalize d_C (l.take k) l[k]=b
 cases a <;> cases b <;> rfl
theorem n_B (l:List Str):f_u l=some (!((List.range l.length).any (c_2 l)) && b_G l.length):=by
 unfold f_u
 rw [d_f (c_2 l) false]
 ·rw [b_n]
  unfold b_G
  cases (List.range l.length).any (c_2 l) <;> rfl
 ·intro k hk _
  simp only [ix_ hk,bd_some,k_p,i_W<|Nat.le_of_lt hk,n_z,c_2,gG_ hk]
  generalize b_l l[k]=a;generalize d_C (l.take k) l[k]=b
  cases a <;> cases b <;> rfl
theorem n_C (n:Nat) (hn:14≤n) (r:g_):f_M n r=some (plain r false false true false r.names.length && (!((List.range r.names.length).any (c_2 r.names)) && b_G r.names.length)):=by
 unfold f_M
 rw [n_A n hn,i_V,e_d,k_t r _ _ _ _ r.names.length]
 have e1:decide ((r.names.length:Int)<0)=false:=dF_ (by omega)
 rw [e1]
 unfold b_G;generalize (List.range r.names.length).any (c_2 r.names)=a;generalize plain r false false true false (-1)=b
 by_cases h:(r.kids.length:Int)=r.names.length
 ·rw [h]
  have e2:((r.names.length:Int)==(r.names.length:Int))=true:=by simp
  have e3:((r.names.length:Int) != (r.names.length:Int))=false:=by simp
  rw [e2,e3]
  generalize (decide (1≤(r.names.length:Int)) && decide ((r.names.length:Int)≤8))=c
  cases a <;> cases b <;> cases c <;> rfl
 ·have e2:((r.kids.length:Int)==(r.names.length:Int))=false:=by simpa using h
  have e3:((r.kids.length:Int) != (r.names.length:Int))=true:=by simpa using h
  rw [e2,e3]
  cases a <;> cases b <;> rfl
theorem g_U {m:Int} {l:List Int} {k:Nat} (hk:k<l.length):c_e m l k=(!(decide (0≤l[k]) && decide (l[k]≤m)) || (decide (0<(k:Int)) && decide (l[k]≤l.getD (k - 1) 0))):=by
 unfold c_e;rw [gG_ hk]
theorem k_v {l:List Int} {k:Nat} (hk:k<l.length) (h0:0<k):idx l (I_ (k:Int) 1)=some (l.getD (k - 1) 0) ∨ ¬ l.length≤MX:=by
 by_cases hM:l.length≤MX
 ·left
  have hMX:MX=1048576:=rfl
  rw [a_C (by omega) (by omega),d_e (by omega) (by omega),a_v (by omega)]
  simp [show ((k:Int) - 1).toNat=k - 1 by omega]
 ·exact .inr hM
theorem n_D (m:Int) (l:List Int) (hl:l.length≤MX):C_ (σ:=Unit) (ρ:=Bool) (fun k197=>(fun (_:Unit)=>bd (idx l ((k197:Nat):Int)) fun x255=>bd (α:=Bool) (bd (b_U x255 0 m) fun r300=>if (!r300)=true then some true else if (decide<|0<((k197:Nat):Int))=true then bd (idx l<|I_ ((k197:Nat):Int) 1) fun x312=>some (decide<|x255≤x312) else some false) (fun x293=>if x293=true then some (.ret false) else some (.next ())))) l.length 0 ()=some (if (List.range l.length).any (c_e m l)=true then .inr false else .inl ()):=by
 refine d_f (c_e m l) false<|fun k hk _=>?_
 simp only [ix_ hk,bd_some,e_d,g_U hk]
 by_cases h0:0<k
 ·have e:=(k_v hk h0).resolve_right (fun h=>h hl);have e1:decide (0<(k:Int))=true:=dT_ (by omega)
  rw [e,e1]
  generalize decide (0≤l[k])=a;generalize decide (l[k]≤m)=b
  simp only [bd_some]
  generalize decide (l[k]≤l.getD (k - 1) 0)=c
  cases a <;> cases b <;> cases c <;> rfl
 ·have e1:decide (0<(k:Int))=false:=dF_ (by omega)
  rw [e1]
  generalize decide (0≤l[k])=a;generalize decide (l[k]≤m)=b
  cases a <;> cases b <;> rfl
theorem b_s {r:g_} (h:0<r.kids.length):idx r.kids 0=some (E_ r):=by
 rw [b_6 h,E_,a_v h]
theorem n_E (d:d_) (r:g_) (ht:r.tags.length≤MX):f_N d r=some (plain r false false false true ((r.tags.length:Int)+1) && (b_G r.tags.length && !((List.range r.tags.length).any (c_e (lim d.rules<|E_ r) r.tags)))):=by
 have hMX:MX=1048576:=rfl;unfold f_N
 rw [i_V,e_d,ia_ (x:=(r.tags.length:Int)) (by omega) (by omega)]
 unfold b_G
 cases hp:plain r false false false true ((r.tags.length:Int)+1)
 ·rfl
 ·have hk:=c_f hp (by omega)
  rw [b_s (by omega)]
  simp only [bd_some,nT_,bF_,fF_,k_s,n_D _ _ ht]
  by_cases h18:1≤(r.tags.length:Int)∧(r.tags.length:Int)≤8
  ·rw [dT_ h18.1,dT_ h18.2]
   cases ha:(List.range r.tags.length).any (c_e (lim d.rules<|E_ r) r.tags)
   ·have hpos:0<lim d.rules (E_ r):=by
     rcases k_u d.rules (E_ r) with h | h
     ·exfalso
      have h0:0<r.tags.length:=by omega
      have:=List.any_eq_false.1 ha 0<|List.mem_range.2 h0
      rw [g_U h0,h] at this
      simp only [Bool.or_eq_true,Bool.not_eq_true',Bool.and_eq_false_iff,decide_eq_false_iff_not] at this
      omega
     ·exact h
    rw [dT_ hpos]
    rfl
   ·rfl
  ·have:(decide (1≤(r.tags.length:Int)) && decide ((r.tags.length:Int)≤8))=false:=by
    rw [Bool.and_eq_false_iff]
    simp only [decide_eq_false_iff_not]
    omega
   rw [this]
   rfl
theorem n_F (d:d_) (r:g_) (hd:d.rules.length≤MX) (ht:r.tags.length≤MX):f_v d r=some (((r.kids.length:Int)==(r.tags.length:Int)+1) && (b_G r.tags.length && !((List.range r.tags.length).any (c_e (lim d.rules<|E_ r) r.tags)))):=by
 have hMX:MX=1048576:=rfl;unfold f_v
 rw [ia_ (x:=(r.tags.length:Int)) (by omega) (by omega),b_n]
 unfold b_G
 by_cases hk:(r.kids.length:Int)=(r.tags.length:Int)+1
 ·have e2:((r.kids.length:Int)==(r.tags.length:Int)+1)=true:=by simpa using hk
  have e3:((r.kids.length:Int) != (r.tags.length:Int)+1)=false:=by simpa using hk
  rw [e2,e3]
  rw [d_f (c_e (lim d.rules<|E_ r) r.tags) false]
  ·generalize (List.range r.tags.length).any (c_e (lim d.rules<|E_ r) r.tags)=a;generalize (decide (1≤(r.tags.length:Int)) && decide ((r.tags.length:Int)≤8))=c
   cases a <;> cases c <;> rfl
  ·intro k hk' _
   simp only [ix_ hk',bd_some,b_s (show 0<r.kids.length by omega),g_T d _ hd,b_n,g_U hk']
   by_cases h0:0<k
   ·have e:=(k_v hk' h0).resolve_right (fun h=>h ht);have e1:decide (0<(k:Int))=true:=dT_ (by omega)
    rw [e,e1]
    generalize decide (0≤r.tags[k])=a;generalize decide (r.tags[k]≤lim d.rules (E_ r))=b
    simp only [bd_some]
    generalize decide (r.tags[k]≤r.tags.getD (k - 1) 0)=c
    cases a <;> cases b <;> cases c <;> rfl
   ·have e1:decide (0<(k:Int))=false:=dF_ (by omega)
    rw [e1]
    generalize decide (0≤r.tags[k])=a;generalize decide (r.tags[k]≤lim d.rules (E_ r))=b
    cases a <;> cases b <;> rfl
 ·have e2:((r.kids.length:Int)==(r.tags.length:Int)+1)=false:=by simpa using hk
  have e3:((r.kids.length:Int) != (r.tags.length:Int)+1)=true:=by simpa using hk
  rw [e2,e3]
  rfl
theorem n_G (n:Nat) (hn:14≤n) (d:d_) (r:g_) (ht:r.tags.length≤MX):f_O n d r=some (a_q d.rules r):=by
 unfold f_O a_q
 rw [n_C n hn,n_E d r ht]
 simp only [i_V,e_d,k_s,bd_some]
 cases (r.kind==1) with
 | true =>
  generalize plain r true false false false 0=a;generalize (decide (1≤r.size) && decide (r.size≤4))=b;generalize decide (1<r.size)=c;generalize r.little=e
  cases a <;> cases b <;> cases c <;> cases e <;> rfl
 | false =>
 cases (r.kind==2) with
 | true =>
  generalize plain r false true false false 0=a
  cases a <;> rfl
 | false =>
 cases (r.kind==3) with
 | true =>
  generalize plain r true false false false 0=a
  cases a <;> rfl
 | false =>
 cases (r.kind==4) with
 | true =>
  cases hp:plain r false false false false 1
  ·rfl
  ·have hk:=c_f hp (by omega)
   rw [b_s (by omega)]
   rfl
 | false =>
 cases (r.kind==5) with
 | true =>
  cases hp:plain r false false false false 2
  ·rfl
  ·have hk:=c_f hp (by omega)
   rw [b_s (by omega)]
   rfl
 | false =>
 cases (r.kind==6) with
 | true=>rfl
 | false =>
 cases (r.kind==7) with
 | true=>rfl
 | false =>
 cases (r.kind==8) with
 | true=>rfl
 | false =>
 cases (r.kind==9) with
 | true=>rfl
 | false =>
 cases (r.kind==10) with
 | true =>
  generalize plain r false true false false 0=a
  by_cases hb:(r.bytes.length:Int)=1
  ·have e:((r.bytes.length:Int)==1)=true:=by simpa using hb
   rw [e,b_6 (show 0<r.bytes.length by omega),a_v (show 0<r.bytes.length by omega)]
   cases a <;> rfl
  ·have e:((r.bytes.length:Int)==1)=false:=by simpa using hb
   rw [e]
   cases a <;> rfl
 | false=>rfl
theorem n_H (d:d_) (r:g_) (hd:d.rules.length≤MX) (ht:r.tags.length≤MX):f_w d r=some (a_q d.rules r && (!r.little || r.kind==1)):=by
 unfold f_w a_q
 rw [n_F d r hd ht,n_B]
 simp only [n_x,b_n,g_T d _ hd,bd_some]
 have e7:plain r false false false true ((r.tags.length:Int)+1)=(plain r false false false true (-1) && ((r.kids.length:Int)==(r.tags.length:Int)+1)):=by
  rw [k_t,dF_ (show ¬ ((r.tags.length:Int)+1<0) by omega)];rfl
 rw [e7]
 cases (r.kind==1) with
 | true =>
  generalize plain r true false false false 0=a;generalize (decide (1≤r.size) && decide (r.size≤4))=b;generalize decide (1<r.size)=c;generalize r.little=e
  cases a <;> cases b <;> cases c <;> cases e <;> rfl
 | false =>
 generalize r.little=e
 cases (r.kind==2) with
 | true =>
  generalize plain r false true false false 0=a;generalize (decide (1≤(r.bytes.length:Int)) && decide ((r.bytes.length:Int)≤16))=b
  cases a <;> cases e <;> cases b <;> rfl
 | false =>
 cases (r.kind==3) with
 | true =>
  generalize plain r true false false false 0=a;generalize (decide (1≤r.size) && decide (r.size≤64))=b
  cases a <;> cases e <;> cases b <;> rfl
 | false =>
 cases (r.kind==4) with
 | true =>
  cases hp:plain r false false false false 1
  ·rfl
  ·have hk:=c_f hp (by omega)
   rw [b_s (by omega)]
   simp only [bd_some]
   generalize decide (0<lim d.rules (E_ r))=b
   cases e <;> cases b <;> rfl
 | false =>
 cases (r.kind==5) with
 | true =>
  cases hp:plain r false false false false 2
  ·rfl
  ·have hk:=c_f hp (by omega)
   rw [b_s (by omega)]
   simp only [bd_some]
   generalize decide (0<lim d.rules (E_ r))=b
   cases e <;> cases b <;> rfl
 | false =>
 cases (r.kind==6) with
 | true =>
  generalize plain r false false true false r.names.length=a;generalize (!((List.range r.names.length).any (c_2 r.names)) && b_G r.names.length)=b
  cases a <;> cases e <;> cases b <;> rfl
 | false =>
 cases (r.kind==7) with
 | true =>
  generalize plain r false false false true (-1)=a;generalize ((r.kids.length:Int)==(r.tags.length:Int)+1)=b;generalize (b_G r.tags.length && !((List.range r.tags.length).any (c_e (lim d.rules<|E_ r) r.tags)))=c
  cases a <;> cases e <;> cases b <;> cases c <;> rfl
 | false =>
 cases (r.kind==8) with
 | true =>
  generalize plain r false false false false 1=a
  cases a <;> cases e <;> rfl
 | false =>
 cases (r.kind==9) with
 | true =>
  generalize plain r false false false false 1=a
  cases a <;> cases e <;> rfl
 | false =>
 cases (r.kind==10) with
 | true =>
  generalize plain r false true false false 0=a
  by_cases hb:(r.bytes.length:Int)=1
  ·have e:((r.bytes.length:Int)==1)=true:=by simpa using hb
   rw [e,b_6 (show 0<r.bytes.length by omega),a_v (show 0<r.bytes.length by omega)]
   simp only [bd_some]
   generalize (byteI r.bytes[0] != byteI (92:UInt8))=b
   rename_i e'
   cases a <;> cases e' <;> cases b <;> rfl
  ·have e:((r.bytes.length:Int)==1)=false:=by simpa using hb
   rw [e]
   rename_i e'
   cases a <;> cases e' <;> rfl
 | false=>cases e <;> rfl
def c_v (i:Nat) (k:Int):Bool:=decide (k<0) || decide ((i:Int)≤k)
def c_w (rs:List g_) (i:Nat):Bool:=match rs[i]? with
 | none=>false
 | some r=>(b_l r.name && !(r.little && r.kind != 1)) && (!((rs.take i).any (fun x=>x.name.b==r.name.b)) && (!(r.kids.any<|c_v i) && a_q rs r))
def a_6 (d:d_):Bool:=(decide (1≤(d.rules.length:Int)) && decide ((d.rules.length:Int)≤24)) && !((List.range d.rules.length).any (fun i=>!c_w d.rules i))
theorem n_I (n:Nat) (hn:14≤n) (d:d_) (hd:SmD d) {i:Nat} (hi:i<d.rules.length):f_P n d i=some (c_w d.rules i):=by
 unfold f_P d_i c_w;have hr:=hd.each d.rules[i] (gE_ hi)
 rw [dT_ (show (0:Int)≤(i:Int) by omega),dT_ (show (i:Int)<(d.rules.length:Int) by omega),gG_ hi,ix_ hi]
 simp only [fT_,bd_some,k_q n hn,i_W<|Nat.le_of_lt hi,n_G n hn d _ hr.tags]
 generalize d.rules[i]=r;have e1:=e_k (body:=(fun k220=>(fun (_:Unit)=>bd (idx (d.rules.take i) ((k220:Nat):Int)) fun x290=>if (x290.name.b==r.name.b)=true then some (Out.ret false:Out Unit Bool) else some (.next ())))) (l:=d.rules.take i) (fun x=>x.name.b==r.name.b) false (fun k hk=>by simp only [ix_ hk,bd_some];exact c_u _ _)
 have e2:=e_k (body:=(fun k416=>(fun (_:Unit)=>bd (idx r.kids ((k416:Nat):Int)) fun x452=>bd (α:=Bool) (if (decide (x452<0))=true then some true else some (decide ((i:Int)≤x452))) (fun x466=>if x466=true then some (Out.ret false:Out Unit Bool) else some (.next ()))))) (l:=r.kids) (c_v i) false (fun k hk=>by
  simp only [ix_ hk,bd_some]
  rw [show c_v i r.kids[k]=(decide (r.kids[k]<0) || decide ((i:Int)≤r.kids[k])) from rfl]
  generalize decide (r.kids[k]<0)=a;generalize decide ((i:Int)≤r.kids[k])=b
  cases a <;> cases b <;> rfl)
 rw [e1,e2]
 generalize b_l r.name=a;generalize r.little=b;generalize (r.kind != 1)=c;generalize (d.rules.take i).any (fun x=>x.name.b==r.name.b)=x;generalize r.kids.any (c_v i)=y;generalize a_q d.rules r=z
 cases a <;> cases b <;> cases c <;> cases x <;> cases y <;> rfl
theorem n_J (d:d_) (hd:SmD d) {i:Nat} (hi:i<d.rules.length):f_x d i=some (c_w d.rules i):=by
 have hMX:MX=1048576:=rfl;have hdl:=hd.rules;unfold f_x c_w;have hr:=hd.each d.rules[i] (gE_ hi)
 rw [b_n,a_C (x:=(d.rules.length:Int)) (by omega) (by omega),a_C (x:=(i:Int)) (by omega) (by omega),dT_ (show (0:Int)≤(i:Int) by omega),dT_ (show (i:Int)≤(d.rules.length:Int) - 1 by omega),gG_ hi,ix_ hi]
 simp only [bd_some,k_p,n_H d _ hd.rules hr.tags]
 generalize d.rules[i]=r;have hl:((i:Int)).toNat=(d.rules.take i).length:=by simp;omega
 have e1:C_ (σ:=Unit) (ρ:=Bool) (fun k137=>(fun (_:Unit)=>bd (idx d.rules ((k137:Nat):Int)) fun x207=>if (x207.name.b==r.name.b)=true then some (.ret false) else some (.next ()))) (i:Int).toNat 0 ()=some (if (d.rules.take i).any (fun x=>x.name.b==r.name.b)=true then .inr false else .inl ()):=by
  rw [hl]
  refine e_k (fun x:g_=>x.name.b==r.name.b) false<|fun k hk=>?_;have hk':k<d.rules.length:=by simp at hk;omega
  simp only [ix_ hk',bd_some,List.getElem_take]
  exact c_u _ _
 have e2:C_ (σ:=Unit) (ρ:=Bool) (fun k317=>(fun (_:Unit)=>bd (idx r.kids ((k317:Nat):Int)) fun x366=>bd (a_I x366 0<|(i:Int) - 1) fun r381=>if (!r381)=true then some (.ret false) else some (.next ()))) r.kids.length 0 ()=some (if r.kids.any (c_v i)=true then .inr false else .inl ()):=by
  refine e_k (c_v i) false<|fun k hk=>?_
  simp only [ix_ hk,bd_some,b_n]
  rw [show c_v i r.kids[k] = !(decide (0≤r.kids[k]) && decide (r.kids[k]≤(i:Int) - 1)) from by
   unfold c_v
   by_cases h0:r.kids[k]<0
   ·rw [dT_ h0,dF_ (show ¬ 0≤r.kids[k] by omega)];rfl
   ·rw [dF_ h0,dT_ (show 0≤r.kids[k] by omega)]
    by_cases h1:(i:Int)≤r.kids[k]
    ·rw [dT_ h1,dF_ (show ¬ r.kids[k]≤(i:Int) - 1 by omega)];rfl
    ·rw [dF_ h1,dT_ (show r.kids[k]≤(i:Int) - 1 by omega)];rfl]
  exact c_u _ _
 rw [e1,e2]
 have e3:(!(r.little && r.kind != 1))=(!r.little || r.kind==1):=by
  simp only [bne]
  generalize (r.kind==1)=c
  cases r.little <;> cases c <;> rfl
 rw [e3]
 generalize b_l r.name=a;generalize (!r.little || r.kind==1)=b;generalize (d.rules.take i).any (fun x=>x.name.b==r.name.b)=x;generalize r.kids.any (c_v i)=y;generalize a_q d.rules r=z
 cases a <;> cases b <;> cases x <;> cases y <;> cases z <;> rfl
theorem n_K (n:Nat) (hn:14≤n) (d:d_) (hd:SmD d):f_Q n d=some (a_6 d):=by
 unfold f_Q a_6
 rw [e_d,d_f (fun i=>!c_w d.rules i) false (fun k hk _=>by rw [n_I n hn d hd hk];simp only [bd_some];exact c_u _ _)]
 generalize (decide (1≤(d.rules.length:Int)) && decide ((d.rules.length:Int)≤24))=a;generalize (List.range d.rules.length).any (fun i=>!c_w d.rules i)=b
 cases a <;> cases b <;> rfl
theorem n_L (d:d_) (hd:SmD d):f_y d=some (a_6 d):=by
 unfold f_y a_6
 rw [b_n,d_f (fun i=>!c_w d.rules i) false (fun k hk _=>by rw [n_J d hd hk];simp only [bd_some];exact c_u _ _)]
 generalize (decide (1≤(d.rules.length:Int)) && decide ((d.rules.length:Int)≤24))=a;generalize (List.range d.rules.length).any (fun i=>!c_w d.rules i)=b
 cases a <;> cases b <;> rfl
def b_3 (d:d_) (r:Int):Bool:=decide (0≤r) && decide (r<(d.rules.length:Int))
theorem i_X (n:Nat) (hn:14≤n) (d:d_) (hd:SmD d) (r:Int):d_R n d r=some (a_6 d && b_3 d r):=by
 unfold d_R d_i b_3
 rw [n_K n hn d hd]
 generalize a_6 d=a;generalize decide (0≤r)=b;generalize decide (r<(d.rules.length:Int))=c
 cases a <;> cases b <;> rfl
theorem g_V (d:d_) (hd:SmD d) (r:Int):d_O d r=some (a_6 d && b_3 d r):=by
 have hMX:MX=1048576:=rfl;have hdl:=hd.rules;unfold d_O b_3
 rw [n_L d hd,b_n,a_C (x:=(d.rules.length:Int)) (by omega) (by omega),show decide (r≤(d.rules.length:Int) - 1)=decide (r<(d.rules.length:Int)) from decide_eq_decide.2 (by omega)]
 generalize a_6 d=a;generalize decide (0≤r)=b;generalize decide (r<(d.rules.length:Int))=c
 cases a <;> cases b <;> cases c <;> rfl
end Go.Vw
