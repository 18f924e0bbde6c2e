
import Derived.Test.YtnncfaaebnkcbaaGreatDoorVmB
namespace Go.Vw
open Go.RowKit Dat
def MX:Nat:=1048576
structure SmR (r:b_):Prop where
 name:r.name.b.length<=MX
 bytes:r.bytes.length<=MX
 names:r.names.length<=MX
 tags:r.tags.length<=MX
 kids:r.kids.length<=MX
 each:∀s∈r.names,s.b.length<=MX
structure SmD (d:f_):Prop where
 rules:d.rules.length<=MX
 each:∀r∈d.rules,SmR r
theorem p_1 {α:Type}{c:Prop}[Decidable c](x y:α):(if c then some x else some y)=some (if c then x else y):=by split <;> rfl
theorem d_s {ρ:Type}{c:Bool}(x y:Out Unit ρ):(if c=true then some x else some y)=some (if c=true then x else y):=by split <;> rfl
def lowC (c:UInt8):Bool:=decide (byteI (97:UInt8)<=byteI c) && decide (byteI c<=byteI (122:UInt8))
def a_J (c:UInt8):Bool:=decide (byteI (48:UInt8)<=byteI c) && decide (byteI c<=byteI (57:UInt8))
theorem l_U (c:UInt8):lowC c=(decide (97<=(c.toNat:Int)) && decide ((c.toNat:Int)<=122)):=rfl
theorem e_1 (c:UInt8):a_J c=(decide (48<=(c.toNat:Int)) && decide ((c.toNat:Int)<=57)):=rfl
theorem j_B (k:Nat):((k:Int)==0)=(k==0):=by
 rw [Bool.eq_iff_iff];simp
def b_q (s:Str)(k:Nat):Bool:=match s.b[k]? with
 | some c=>!lowC c && (!a_J c || k==0)
 | none=>false
def b_l (s:Str):Bool:=!((List.range s.b.length).any (b_q s)) && (decide (1<=s.b.length) && decide (s.b.length<=12))
theorem b_r (x lo hi:Int):a_L x lo hi=some (decide (lo<=x) && decide (x<=hi)):=by
 unfold a_L;generalize decide (lo<=x)=a;generalize decide (x<=hi)=b
 cases a <;> rfl
theorem b_z (x lo hi:Int):b_Z x lo hi=some (decide (lo<=x) && decide (x<=hi)):=by
 unfold b_Z;generalize decide (lo<=x)=a;generalize decide (x<=hi)=b
 cases a <;> rfl
theorem j_C (s:Str):f_4 s=some (b_l s):=by
 unfold f_4
 rw [e_9 (b_q s) false]
 ·unfold b_l
  cases (List.range s.b.length).any (b_q s)
  ·have G:decide ((1:Int)<=s.b.length)=decide (1<=s.b.length):=decide_eq_decide.2 (by omega);have H:decide ((s.b.length:Int)<=12)=decide (s.b.length<=12):=decide_eq_decide.2 (by omega)
   simp only [bF_,fF_,bd_some,el_inl,b_r,G,H,Bool.not_false,Bool.true_and]
  ·rfl
 ·intro k hk _
  simp only [ix_ hk,bd_some,b_q,gG_ hk,lowC,a_J,j_B]
  generalize decide (byteI (97:UInt8)<=byteI s.b[k])=a;generalize decide (byteI s.b[k]<=byteI (122:UInt8))=b;generalize decide (byteI (48:UInt8)<=byteI s.b[k])=c;generalize decide (byteI s.b[k]<=byteI (57:UInt8))=d;generalize (k==0)=e
  cases a <;> cases b <;> cases c <;> cases d <;> cases e <;> rfl
theorem j_D (n:Nat)(hn:14<=n)(s:Str):e_i n s=some (b_l s):=by
 unfold e_i
 by_cases h1:s.b.length<1
 ·have:b_l s=false:=by unfold b_l;simp [show ¬1<=s.b.length by omega]
  rw [this];simp [show ((s.b.length:Int)<1) by omega]
 by_cases h2:12<s.b.length
 ·have:b_l s=false:=by unfold b_l;simp [show ¬s.b.length<=12 by omega]
  rw [this];simp [show ¬((s.b.length:Int)<1) by omega,show ((12:Int)<s.b.length) by omega]
 have V:decide ((s.b.length:Int)<1)=false:=by simp;omega
 have W:decide ((12:Int)<(s.b.length:Int))=false:=by simp;omega
 rw [V,W]
 simp only [bF_,fF_,bd_some]
 have hstep:∀k,k<s.b.length->b_q s k=false->∀{ρ:Type}(x:Nat->ρ),x (k+(dec s k).2)=x (k+1):=by
  intro k hk hb ρ x
  rw [m_U hk]
  have hb':b_q s k=(!lowC s.b[k] && (!a_J s.b[k] || k==0)):=by unfold b_q;rw [gG_ hk]
  rw [hb'] at hb
  rw [l_U,e_1] at hb
  simp only [Bool.and_eq_false_iff,Bool.not_eq_false',Bool.or_eq_false_iff,aE_,dE_] at hb
  omega
 have hgood:∀k (hk:k<s.b.length),b_q s k=(bd (α:=Bool) (if (decide<|97<=((dec s k).1))=true then some (decide<|((dec s k).1)<=122) else some false) (fun H=>bd (α:=Bool) (if (decide<|48<=((dec s k).1))=true then some (decide<|((dec s k).1)<=57) else some false) (fun I=>bd (α:=Bool) (if (!H)=true then if (!I)=true then some true else some ((k:Int)==0) else some false) some))).getD false /\
   (bd (α:=Bool) (if (decide<|97<=((dec s k).1))=true then some (decide<|((dec s k).1)<=122) else some false) (fun H=>bd (α:=Bool) (if (decide<|48<=((dec s k).1))=true then some (decide<|((dec s k).1)<=57) else some false) (fun I=>bd (α:=Bool) (if (!H)=true then if (!I)=true then some true else some ((k:Int)==0) else some false) (fun J=>if J=true then some (.ret false) else some (.next<|k+(dec s k).2)))))=some (if b_q s k=true then (.ret false:Out Nat Bool) else .next (k+(dec s k).2)):=by
  intro k hk;have hb':b_q s k=(!lowC s.b[k] && (!a_J s.b[k] || k==0)):=by unfold b_q;rw [gG_ hk]
  rw [hb']
  rw [l_U,e_1]
  rw [j_B]
  by_cases ha:s.b[k].toNat<128
  ·rw [m_U hk ha]
   simp only
   generalize (s.b[k].toNat:Int)=c;generalize decide (97<=c)=a;generalize decide (c<=122)=b;generalize decide (48<=c)=c';generalize decide (c<=57)=d;generalize (k==0)=e
   cases a <;> cases b <;> cases c' <;> cases d <;> cases e <;> exact ⟨rfl,rfl⟩
  ·have hd:=q_Z hk (by omega);generalize (dec s k).1=c at hd
   generalize (dec s k).2=c2;have g1:97<=c:=by omega
   have O:¬c<=122:=by omega
   have Y:48<=c:=by omega
   have g4:¬c<=57:=by omega
   have k2:¬(s.b[k].toNat:Int)<=122:=by omega
   have k4:¬(s.b[k].toNat:Int)<=57:=by omega
   simp [g1,O,Y,g4,k2,k4]
 have hit:H_ (σ:=Nat) (ρ:=Bool) (fun G=>if (decide<|G<s.b.length)=true then bd (α:=Bool) (if (decide<|97<=((dec s G).1))=true then some (decide<|((dec s G).1)<=122) else some false) (fun H=>bd (α:=Bool) (if (decide<|48<=((dec s G).1))=true then some (decide<|((dec s G).1)<=57) else some false) (fun I=>bd (α:=Bool) (if (!H)=true then if (!I)=true then some true else some ((G:Int)==0) else some false) (fun J=>if J=true then some (.ret false) else some (.next<|G+(dec s G).2)))) else some (.brk G)) n 0=some (if (List.range s.b.length).any (b_q s)=true then .inr false else .inl s.b.length):=by
  cases hf:(List.range s.b.length).find? (b_q s) with
  | none =>
   have hall:∀k,k<s.b.length->b_q s k=false:=fun k hk=>by simpa using List.find?_eq_none.1 hf k (List.mem_range.2 hk)
   have hany:(List.range s.b.length).any (b_q s)=false:=by rw [List.any_eq_false];exact fun x hx=>by simpa using List.find?_eq_none.1 hf x hx
   rw [hany]
   refine i_B (fun k=>k) (j0:=s.b.length) (by omega) (fun k hk=>?_) ?_
   ·simp only [hk,decide_true,fT_]
    rw [(hgood k hk).2,hall k hk]
    simp only [bF_,fF_]
    rw [hstep k hk (hall k hk) (fun x=>some<|Out.next x)]
   ·simp
  | some k =>
   have hany:(List.range s.b.length).any (b_q s)=true:=List.any_eq_true.2 ⟨k,List.mem_of_find?_eq_some hf,List.find?_some hf⟩
   rw [hany]
   obtain ⟨hp,as,bs,hl,has⟩:=List.find?_eq_some_iff_append.1 hf;have hk:k<s.b.length:=List.mem_range.1<|List.mem_of_find?_eq_some hf
   have hbef:∀j,j<k->b_q s j=false:=by
    intro j hj;have hlen:as.length<s.b.length:=by have:=congrArg List.length hl;simp at this;omega
    have hke:as.length=k:=by
     have h2:(List.range s.b.length)[as.length]? = some k:=by rw [hl];simp
     rw [List.getElem?_range hlen] at h2
     exact Option.some.inj h2
    have hj':j<as.length:=by omega
    have h2:(List.range s.b.length)[j]? = some (as[j]):=by rw [hl,List.getElem?_append_left hj'];simp
    rw [List.getElem?_range (by omega)] at h2
    have h3:=has as[j] (gE_ hj')
    rw [← Option.some.inj h2] at h3
    simpa using h3
   refine m_T (fun k=>k) (j0:=k) (by omega) (fun j hj=>?_) ?_
   ·have L:j<s.b.length:=by omega
    simp only [L,decide_true,fT_]
    rw [(hgood j L).2,hbef j hj]
    simp only [bF_,fF_]
    rw [hstep j L (hbef j hj) (fun x=>some<|Out.next x)]
   ·simp only [hk,decide_true,fT_]
    rw [(hgood k hk).2,hp]
    rfl
 rw [hit]
 unfold b_l;have g1:decide (1<=s.b.length)=true:=dT_ (by omega);have O:decide (s.b.length<=12)=true:=dT_ (by omega)
 rw [g1,O]
 cases (List.range s.b.length).any (b_q s) <;> rfl
def plain (r:b_)(a b c d:Bool)(k:Int):Bool:=(a || r.size==0) && ((b || (r.bytes.length:Int)==0) && ((c || (r.names.length:Int)==0) && ((d || (r.tags.length:Int)==0) && (decide (k<0) || (r.kids.length:Int)==k))))
theorem j_E (r:b_)(a b c d:Bool)(k:Int):c_j r a b c d k=some (plain r a b c d k):=by
 unfold c_j plain;generalize (r.size==0)=G;generalize ((r.bytes.length:Int)==0)=H;generalize ((r.names.length:Int)==0)=I;generalize ((r.tags.length:Int)==0)=J;generalize decide (k<0)=L;generalize ((r.kids.length:Int)==k)=O
 cases a <;> cases G <;> try rfl
 all_goals cases b <;> cases H <;> try rfl
 all_goals cases c <;> cases I <;> try rfl
 all_goals cases d <;> cases J <;> try rfl
 all_goals cases L <;> rfl
theorem p_2 (r:b_)(a b c d:Bool)(k:Int):c_i r a b c d k=some (plain r a b c d k && (!r.little || r.kind==1)):=by
 unfold c_i plain;generalize (r.size==0)=G;generalize ((r.bytes.length:Int)==0)=H;generalize ((r.names.length:Int)==0)=I;generalize ((r.tags.length:Int)==0)=J;generalize decide (k<0)=L;generalize ((r.kids.length:Int)==k)=O;generalize (r.kind==1)=W;generalize r.little=V
 cases a <;> cases G <;> try rfl
 all_goals cases b <;> cases H <;> try rfl
 all_goals cases c <;> cases I <;> try rfl
 all_goals cases d <;> cases J <;> try rfl
 all_goals cases L <;> cases O <;> cases V <;> rfl
def lim (rs:List b_)(i:Int):Int:=match idx rs i with
 | some r=>if r.kind=1/\1<=r.size/\r.size<=4 then 256 ^ r.size.toNat - 1 else -1
 | none=>-1
theorem l_V {α:Type}{l:List α}{i:Int}(h:¬(0<=i/\i<l.length)):idx l i=none:=by
 unfold idx;split
 ·rw [gN_];omega
 ·rfl
theorem f_u {s:Int}(h1:1<=s)(h4:s<=4):q_ (b_j .i64 1<|a_m 8 s) 1=256 ^ s.toNat - 1/\nn (a_m 8 s)=some ():=by
 have:s=1∨s=2∨s=3∨s=4:=by omega
 rcases this with rfl | rfl | rfl | rfl <;> exact ⟨by decide,by decide⟩
theorem f_v (d:f_)(i:Int):c_T d i=some (lim d.rules i):=by
 unfold c_T e_k lim
 by_cases h:0<=i/\i<d.rules.length
 ·obtain ⟨G,h1⟩:=h
  rw [dT_ G,dT_ h1,i_z G (by omega)]
  generalize d.rules[i.toNat]=r
  simp only [fT_,bd_some,b_z]
  by_cases hk:r.kind=1
  ·by_cases H:1<=r.size
   ·by_cases I:r.size<=4
    ·simp [hk,H,I,(f_u H I).1,(f_u H I).2]
    ·simp [hk,H,I]
   ·simp [hk,H]
  ·simp [hk]
 ·rw [l_V h]
  by_cases G:0<=i
  ·have h1:¬i<d.rules.length:=fun h1=>h ⟨G,h1⟩
   simp [G,h1]
  ·simp [G]
theorem i_g (d:f_)(i:Int)(hd:d.rules.length<=MX):d_F d i=some (lim d.rules i):=by
 unfold d_F lim
 rw [b_r]
 have hMX:MX=1048576:=rfl;have e:q_ (d.rules.length:Int) 1=(d.rules.length:Int) - 1:=b_s (by omega) (by omega)
 rw [e]
 by_cases h:0<=i/\i<d.rules.length
 ·obtain ⟨G,h1⟩:=h
  rw [dT_ G,dT_ (show i<=(d.rules.length:Int) - 1 by omega),i_z G (by omega)]
  generalize d.rules[i.toNat]=r
  simp only [bd_some,b_r,d_E]
  by_cases hk:r.kind=1
  ·by_cases H:1<=r.size
   ·by_cases I:r.size<=4
    ·simp [hk,H,I,(f_u H I).1,(f_u H I).2]
    ·simp [hk,H,I]
   ·simp [hk,H]
  ·simp [hk]
 ·rw [l_V h]
  by_cases G:0<=i
  ·have h1:¬i<=(d.rules.length:Int) - 1:=fun h1=>h ⟨G,by omega⟩
   simp [G,h1]
  ·simp [G]
def e_N (l:List Str)(s:Str):Bool:=l.any<|fun x=>x.b==s.b
theorem p_3 (l:List Str)(s:Str):f_S l s=some (e_N l s):=by
 unfold f_S e_N
 rw [f_C (fun x=>x.b==s.b) true (fun k hk=>by simp only [ix_ hk,bd_some];exact d_s _ _)]
 cases l.any (fun x=>x.b==s.b) <;> rfl
theorem p_4 (l:List Str)(s:Str):h_0 l s=some (e_N l s):=by
 unfold h_0 e_N
 rw [f_C (fun x=>x.b==s.b) true (fun k hk=>by simp only [ix_ hk,bd_some];exact d_s _ _)]
 cases l.any (fun x=>x.b==s.b) <;> rfl
def c_n (l:List Str)(k:Nat):Bool:=match l[k]? with
 | some s=>!b_l s || e_N (l.take k) s
 | none=>false
def c_D (m:Int)(l:List Int)(k:Nat):Bool:=match l[k]? with
 | some t=>!(decide (0<=t) && decide (t<=m)) || (decide (0<(k:Int)) && decide (t<=l.getD (k - 1) 0))
 | none=>false
def c_5 (n:Nat):Bool:=decide (1<=(n:Int)) && decide ((n:Int)<=8)
def s_ (r:b_):Int:=r.kids.getD 0 0
def a_p (rs:List b_)(r:b_):Bool :=
 if r.kind==1 then plain r true false false false 0 && ((decide (1<=r.size) && decide (r.size<=4)) && (!r.little || decide (1<r.size)))
 else if r.kind==2 then plain r false true false false 0 && (decide (1<=(r.bytes.length:Int)) && decide ((r.bytes.length:Int)<=16))
 else if r.kind==3 then plain r true false false false 0 && (decide (1<=r.size) && decide (r.size<=64))
 else if r.kind==4 then plain r false false false false 1 && decide (0<lim rs (s_ r))
 else if r.kind==5 then plain r false false false false 2 && decide (0<lim rs (s_ r))
 else if r.kind==6 then plain r false false true false r.names.length && (!((List.range r.names.length).any (c_n r.names)) && c_5 r.names.length)
 else if r.kind==7 then plain r false false false true ((r.tags.length:Int)+1) && (c_5 r.tags.length && !((List.range r.tags.length).any (c_D (lim rs<|s_ r) r.tags)))
 else if r.kind==8 then plain r false false false false 1
 else if r.kind==9 then plain r false false false false 1
 else if r.kind==10 then plain r false true false false 0 && ((r.bytes.length:Int)==1 && byteI (r.bytes.getD 0 0) != byteI (92:UInt8))
 else false
theorem c_E {r:b_}{a b c d:Bool}{k:Int}(h:plain r a b c d k=true)(hk:0<=k):(r.kids.length:Int)=k:=by
 unfold plain at h
 simp only [aE_,Bool.or_eq_true,dE_,beq_iff_eq] at h
 omega
theorem l_W (r:b_)(a b c d:Bool)(k:Int):plain r a b c d k=(plain r a b c d (-1) && (decide (k<0) || (r.kids.length:Int)==k)):=by
 unfold plain;simp [Bool.and_assoc]
theorem j_F {α:Type}{l:List α}{k:Nat}(h:k<=l.length):slc l 0 (k:Int)=some (l.take k):=by
 rw [e_X (Int.le_refl 0) (by omega) (by omega)];simp
theorem l_X (rs:List b_)(i:Int):lim rs i = -1∨0<lim rs i:=by
 unfold lim
 cases idx rs i with
 | none=>exact .inl rfl
 | some r =>
  simp only
  by_cases h:r.kind=1/\1<=r.size/\r.size<=4
  ·rw [iP_ h]
   right
   obtain ⟨_,h1,h4⟩:=h;have:r.size=1∨r.size=2∨r.size=3∨r.size=4:=by omega
   rcases this with h | h | h | h <;> rw [h] <;> decide
  ·rw [iN_ h];exact .inl rfl
theorem a_7 {α:Type}{l:List α}{k:Nat}{x:α}(h:k<l.length):l.getD k x=l[k]:=by simp [h]
theorem p_5 (n:Nat)(hn:14<=n)(l:List Str):w_ (σ:=Unit) (ρ:=Bool) (fun G=>(fun (_:Unit)=>bd (idx l ((G:Nat):Int)) fun H=>bd (α:=Bool) (bd (e_i n H) fun I=>if (!I)=true then some true else bd (slc l 0 ((G:Nat):Int)) fun J=>bd (f_S J H) fun L=>some L) (fun O=>if O=true then some (.ret false) else some (.next ())))) l.length 0 ()=some (if (List.range l.length).any (c_n l)=true then .inr false else .inl ()):=by
 refine e_9 (c_n l) false<|fun k hk _=>?_
 simp only [ix_ hk,bd_some,j_D n hn,j_F<|Nat.le_of_lt hk,p_3,c_n,gG_ hk]
 generalize b_l l[k]=a;generalize e_N (l.take k) l[k]=b
 cases a <;> cases b <;> rfl
theorem p_6 (l:List Str):h_1 l=some (!((List.range l.length).any (c_n l)) && c_5 l.length):=by
 unfold h_1
 rw [e_9 (c_n l) false]
 ·rw [b_r]
  unfold c_5
  cases (List.range l.length).any (c_n l) <;> rfl
 ·intro k hk _
  simp only [ix_ hk,bd_some,j_C,j_F<|Nat.le_of_lt hk,p_4,c_n,gG_ hk]
  generalize b_l l[k]=a;generalize e_N (l.take k) l[k]=b
  cases a <;> cases b <;> rfl
theorem p_7 (n:Nat)(hn:14<=n)(r:b_):h_h n r=some (plain r false false true false r.names.length && (!((List.range r.names.length).any (c_n r.names)) && c_5 r.names.length)):=by
 unfold h_h
 rw [p_5 n hn,j_E,b_z,l_W r _ _ _ _ r.names.length]
 have I:decide ((r.names.length:Int)<0)=false:=dF_ (by omega)
 rw [I]
 unfold c_5;generalize (List.range r.names.length).any (c_n r.names)=a;generalize plain r false false true false (-1)=b
 by_cases h:(r.kids.length:Int)=r.names.length
 ·rw [h]
  have G:((r.names.length:Int)==(r.names.length:Int))=true:=by simp
  have H:((r.names.length:Int) != (r.names.length:Int))=false:=by simp
  rw [G,H]
  generalize (decide (1<=(r.names.length:Int)) && decide ((r.names.length:Int)<=8))=c
  cases a <;> cases b <;> cases c <;> rfl
 ·have G:((r.kids.length:Int)==(r.names.length:Int))=false:=by simpa using h
  have H:((r.kids.length:Int) != (r.names.length:Int))=true:=by simpa using h
  rw [G,H]
  cases a <;> cases b <;> rfl
theorem g_x {m:Int}{l:List Int}{k:Nat}(hk:k<l.length):c_D m l k=(!(decide (0<=l[k]) && decide (l[k]<=m)) || (decide (0<(k:Int)) && decide (l[k]<=l.getD (k - 1) 0))):=by
 unfold c_D;rw [gG_ hk]
theorem l_Y {l:List Int}{k:Nat}(hk:k<l.length)(G:0<k):idx l (q_ (k:Int) 1)=some (l.getD (k - 1) 0)∨¬l.length<=MX:=by
 by_cases hM:l.length<=MX
 ·left
  have hMX:MX=1048576:=rfl
  rw [b_s (by omega) (by omega),i_z (by omega) (by omega),a_7 (by omega)]
  simp [show ((k:Int) - 1).toNat=k - 1 by omega]
 ·exact .inr hM
theorem p_8 (m:Int)(l:List Int)(hl:l.length<=MX):w_ (σ:=Unit) (ρ:=Bool) (fun G=>(fun (_:Unit)=>bd (idx l ((G:Nat):Int)) fun I=>bd (α:=Bool) (bd (b_Z I 0 m) fun J=>if (!J)=true then some true else if (decide<|0<((G:Nat):Int))=true then bd (idx l<|q_ ((G:Nat):Int) 1) fun L=>some (decide<|I<=L) else some false) (fun O=>if O=true then some (.ret false) else some (.next ())))) l.length 0 ()=some (if (List.range l.length).any (c_D m l)=true then .inr false else .inl ()):=by
 refine e_9 (c_D m l) false<|fun k hk _=>?_
 simp only [ix_ hk,bd_some,b_z,g_x hk]
 by_cases V:0<k
 ·have e:=(l_Y hk V).resolve_right (fun h=>h hl);have H:decide (0<(k:Int))=true:=dT_ (by omega)
  rw [e,H]
  generalize decide (0<=l[k])=a;generalize decide (l[k]<=m)=b
  simp only [bd_some]
  generalize decide (l[k]<=l.getD (k - 1) 0)=c
  cases a <;> cases b <;> cases c <;> rfl
 ·have H:decide (0<(k:Int))=false:=dF_ (by omega)
  rw [H]
  generalize decide (0<=l[k])=a;generalize decide (l[k]<=m)=b
  cases a <;> cases b <;> rfl
theorem c_F {r:b_}(h:0<r.kids.length):idx r.kids 0=some (s_ r):=by
 rw [b_8 h,s_,a_7 h]
theorem p_9 (d:f_)(r:b_)(ht:r.tags.length<=MX):h_i d r=some (plain r false false false true ((r.tags.length:Int)+1) && (c_5 r.tags.length && !((List.range r.tags.length).any (c_D (lim d.rules<|s_ r) r.tags)))):=by
 have hMX:MX=1048576:=rfl;unfold h_i
 rw [j_E,b_z,ia_ (x:=(r.tags.length:Int)) (by omega) (by omega)]
 unfold c_5
 cases hp:plain r false false false true ((r.tags.length:Int)+1)
 ·rfl
 ·have hk:=c_E hp (by omega)
  rw [c_F (by omega)]
  simp only [bd_some,nT_,bF_,fF_,f_v,p_8 _ _ ht]
  by_cases G:1<=(r.tags.length:Int)/\(r.tags.length:Int)<=8
  ·rw [dT_ G.1,dT_ G.2]
   cases ha:(List.range r.tags.length).any (c_D (lim d.rules<|s_ r) r.tags)
   ·have hpos:0<lim d.rules (s_ r):=by
     rcases l_X d.rules (s_ r) with h | h
     ·exfalso
      have H:0<r.tags.length:=by omega
      have:=List.any_eq_false.1 ha 0<|List.mem_range.2 H
      rw [g_x H,h] at this
      simp only [Bool.or_eq_true,Bool.not_eq_true',Bool.and_eq_false_iff,decide_eq_false_iff_not] at this
      omega
     ·exact h
    rw [dT_ hpos]
    rfl
   ·rfl
  ·have:(decide (1<=(r.tags.length:Int)) && decide ((r.tags.length:Int)<=8))=false:=by
    rw [Bool.and_eq_false_iff]
    simp only [decide_eq_false_iff_not]
    omega
   rw [this]
   rfl
theorem p_a (d:f_)(r:b_)(hd:d.rules.length<=MX)(ht:r.tags.length<=MX):h_2 d r=some (((r.kids.length:Int)==(r.tags.length:Int)+1) && (c_5 r.tags.length && !((List.range r.tags.length).any (c_D (lim d.rules<|s_ r) r.tags)))):=by
 have hMX:MX=1048576:=rfl;unfold h_2
 rw [ia_ (x:=(r.tags.length:Int)) (by omega) (by omega),b_r]
 unfold c_5
 by_cases hk:(r.kids.length:Int)=(r.tags.length:Int)+1
 ·have G:((r.kids.length:Int)==(r.tags.length:Int)+1)=true:=by simpa using hk
  have H:((r.kids.length:Int) != (r.tags.length:Int)+1)=false:=by simpa using hk
  rw [G,H]
  rw [e_9 (c_D (lim d.rules<|s_ r) r.tags) false]
  ·generalize (List.range r.tags.length).any (c_D (lim d.rules<|s_ r) r.tags)=a;generalize (decide (1<=(r.tags.length:Int)) && decide ((r.tags.length:Int)<=8))=c
   cases a <;> cases c <;> rfl
  ·intro k hk' _
   simp only [ix_ hk',bd_some,c_F (show 0<r.kids.length by omega),i_g d _ hd,b_r,g_x hk']
   by_cases J:0<k
   ·have e:=(l_Y hk' J).resolve_right (fun h=>h ht);have I:decide (0<(k:Int))=true:=dT_ (by omega)
    rw [e,I]
    generalize decide (0<=r.tags[k])=a;generalize decide (r.tags[k]<=lim d.rules (s_ r))=b
    simp only [bd_some]
    generalize decide (r.tags[k]<=r.tags.getD (k - 1) 0)=c
    cases a <;> cases b <;> cases c <;> rfl
   ·have I:decide (0<(k:Int))=false:=dF_ (by omega)
    rw [I]
    generalize decide (0<=r.tags[k])=a;generalize decide (r.tags[k]<=lim d.rules (s_ r))=b
    cases a <;> cases b <;> rfl
 ·have G:((r.kids.length:Int)==(r.tags.length:Int)+1)=false:=by simpa using hk
  have H:((r.kids.length:Int) != (r.tags.length:Int)+1)=true:=by simpa using hk
  rw [G,H]
  rfl
theorem p_b (n:Nat)(hn:14<=n)(d:f_)(r:b_)(ht:r.tags.length<=MX):h_j n d r=some (a_p d.rules r):=by
 unfold h_j a_p
 rw [p_7 n hn,p_9 d r ht]
 simp only [j_E,b_z,f_v,bd_some]
 cases (r.kind==1) with
 | true =>
  generalize plain r true false false false 0=a;generalize (decide (1<=r.size) && decide (r.size<=4))=b;generalize decide (1<r.size)=c;generalize r.little=e
  cases a <;> cases b <;> cases c <;> cases e <;> rfl
 | false =>
 cases (r.kind==2) with
 | true =>
  generalize plain r false true false false 0=a
  cases a <;> rfl
 | false =>
 cases (r.kind==3) with
 | true =>
  generalize plain r true false false false 0=a
  cases a <;> rfl
 | false =>
 cases (r.kind==4) with
 | true =>
  cases hp:plain r false false false false 1
  ·rfl
  ·have hk:=c_E hp (by omega)
   rw [c_F (by omega)]
   rfl
 | false =>
 cases (r.kind==5) with
 | true =>
  cases hp:plain r false false false false 2
  ·rfl
  ·have hk:=c_E hp (by omega)
   rw [c_F (by omega)]
   rfl
 | false =>
 cases (r.kind==6) with
 | true=>rfl
 | false =>
 cases (r.kind==7) with
 | true=>rfl
 | false =>
 cases (r.kind==8) with
 | true=>rfl
 | false =>
 cases (r.kind==9) with
 | true=>rfl
 | false =>
 cases (r.kind==10) with
 | true =>
  generalize plain r false true false false 0=a
  by_cases hb:(r.bytes.length:Int)=1
  ·have e:((r.bytes.length:Int)==1)=true:=by simpa using hb
   rw [e,b_8 (show 0<r.bytes.length by omega),a_7 (show 0<r.bytes.length by omega)]
   cases a <;> rfl
  ·have e:((r.bytes.length:Int)==1)=false:=by simpa using hb
   rw [e]
   cases a <;> rfl
 | false=>rfl
theorem p_c (d:f_)(r:b_)(hd:d.rules.length<=MX)(ht:r.tags.length<=MX):h_3 d r=some (a_p d.rules r && (!r.little || r.kind==1)):=by
 unfold h_3 a_p
 rw [p_a d r hd ht,p_6]
 simp only [p_2,b_r,i_g d _ hd,bd_some]
 have G:plain r false false false true ((r.tags.length:Int)+1)=(plain r false false false true (-1) && ((r.kids.length:Int)==(r.tags.length:Int)+1)):=by
  rw [l_W,dF_ (show ¬((r.tags.length:Int)+1<0) by omega)];rfl
 rw [G]
 cases (r.kind==1) with
 | true =>
  generalize plain r true false false false 0=a;generalize (decide (1<=r.size) && decide (r.size<=4))=b;generalize decide (1<r.size)=c;generalize r.little=e
  cases a <;> cases b <;> cases c <;> cases e <;> rfl
 | false =>
 generalize r.little=e
 cases (r.kind==2) with
 | true =>
  generalize plain r false true false false 0=a;generalize (decide (1<=(r.bytes.length:Int)) && decide ((r.bytes.length:Int)<=16))=b
  cases a <;> cases e <;> cases b <;> rfl
 | false =>
 cases (r.kind==3) with
 | true =>
  generalize plain r true false false false 0=a;generalize (decide (1<=r.size) && decide (r.size<=64))=b
  cases a <;> cases e <;> cases b <;> rfl
 | false =>
 cases (r.kind==4) with
 | true =>
  cases hp:plain r false false false false 1
  ·rfl
  ·have hk:=c_E hp (by omega)
   rw [c_F (by omega)]
   simp only [bd_some]
   generalize decide (0<lim d.rules (s_ r))=b
   cases e <;> cases b <;> rfl
 | false =>
 cases (r.kind==5) with
 | true =>
  cases hp:plain r false false false false 2
  ·rfl
  ·have hk:=c_E hp (by omega)
   rw [c_F (by omega)]
   simp only [bd_some]
   generalize decide (0<lim d.rules (s_ r))=b
   cases e <;> cases b <;> rfl
 | false =>
 cases (r.kind==6) with
 | true =>
  generalize plain r false false true false r.names.length=a;generalize (!((List.range r.names.length).any (c_n r.names)) && c_5 r.names.length)=b
  cases a <;> cases e <;> cases b <;> rfl
 | false =>
 cases (r.kind==7) with
 | true =>
  generalize plain r false false false true (-1)=a;generalize ((r.kids.length:Int)==(r.tags.length:Int)+1)=b;generalize (c_5 r.tags.length && !((List.range r.tags.length).any (c_D (lim d.rules<|s_ r) r.tags)))=c
  cases a <;> cases e <;> cases b <;> cases c <;> rfl
 | false =>
 cases (r.kind==8) with
 | true =>
  generalize plain r false false false false 1=a
  cases a <;> cases e <;> rfl
 | false =>
 cases (r.kind==9) with
 | true =>
  generalize plain r false false false false 1=a
  cases a <;> cases e <;> rfl
 | false =>
 cases (r.kind==10) with
 | true =>
  generalize plain r false true false false 0=a
  by_cases hb:(r.bytes.length:Int)=1
  ·have e:((r.bytes.length:Int)==1)=true:=by simpa using hb
   rw [e,b_8 (show 0<r.bytes.length by omega),a_7 (show 0<r.bytes.length by omega)]
   simp only [bd_some]
   generalize (byteI r.bytes[0] != byteI (92:UInt8))=b
   rename_i e'
   cases a <;> cases e' <;> cases b <;> rfl
  ·have e:((r.bytes.length:Int)==1)=false:=by simpa using hb
   rw [e]
   rename_i e'
   cases a <;> cases e' <;> rfl
 | false=>cases e <;> rfl
def d_8 (i:Nat)(k:Int):Bool:=decide (k<0) || decide ((i:Int)<=k)
def d_a (rs:List b_)(i:Nat):Bool:=match rs[i]? with
 | none=>false
 | some r=>(b_l r.name && !(r.little && r.kind != 1)) && (!((rs.take i).any (fun x=>x.name.b==r.name.b)) && (!(r.kids.any<|d_8 i) && a_p rs r))
def a_5 (d:f_):Bool:=(decide (1<=(d.rules.length:Int)) && decide ((d.rules.length:Int)<=24)) && !((List.range d.rules.length).any (fun i=>!d_a d.rules i))
theorem p_d (n:Nat)(hn:14<=n)(d:f_)(hd:SmD d){i:Nat}(hi:i<d.rules.length):h_k n d i=some (d_a d.rules i):=by
 unfold h_k e_k d_a;have hr:=hd.each d.rules[i] (gE_ hi)
 rw [dT_ (show (0:Int)<=(i:Int) by omega),dT_ (show (i:Int)<(d.rules.length:Int) by omega),gG_ hi,ix_ hi]
 simp only [fT_,bd_some,j_D n hn,j_F<|Nat.le_of_lt hi,p_b n hn d _ hr.tags]
 generalize d.rules[i]=r;have O:=f_C (body:=(fun H=>(fun (_:Unit)=>bd (idx (d.rules.take i) ((H:Nat):Int)) fun I=>if (I.name.b==r.name.b)=true then some (Out.ret false:Out Unit Bool) else some (.next ())))) (l:=d.rules.take i) (fun x=>x.name.b==r.name.b) false (fun k hk=>by simp only [ix_ hk,bd_some];exact d_s _ _)
 have V:=f_C (body:=(fun J=>(fun (_:Unit)=>bd (idx r.kids ((J:Nat):Int)) fun G=>bd (α:=Bool) (if (decide (G<0))=true then some true else some (decide ((i:Int)<=G))) (fun L=>if L=true then some (Out.ret false:Out Unit Bool) else some (.next ()))))) (l:=r.kids) (d_8 i) false (fun k hk=>by
  simp only [ix_ hk,bd_some]
  rw [show d_8 i r.kids[k]=(decide (r.kids[k]<0) || decide ((i:Int)<=r.kids[k])) from rfl]
  generalize decide (r.kids[k]<0)=a;generalize decide ((i:Int)<=r.kids[k])=b
  cases a <;> cases b <;> rfl)
 rw [O,V]
 generalize b_l r.name=a;generalize r.little=b;generalize (r.kind != 1)=c;generalize (d.rules.take i).any (fun x=>x.name.b==r.name.b)=x;generalize r.kids.any (d_8 i)=y;generalize a_p d.rules r=z
 cases a <;> cases b <;> cases c <;> cases x <;> cases y <;> rfl
theorem p_e (d:f_)(hd:SmD d){i:Nat}(hi:i<d.rules.length):h_4 d i=some (d_a d.rules i):=by
 have hMX:MX=1048576:=rfl;have hdl:=hd.rules;unfold h_4 d_a;have hr:=hd.each d.rules[i] (gE_ hi)
 rw [b_r,b_s (x:=(d.rules.length:Int)) (by omega) (by omega),b_s (x:=(i:Int)) (by omega) (by omega),dT_ (show (0:Int)<=(i:Int) by omega),dT_ (show (i:Int)<=(d.rules.length:Int) - 1 by omega),gG_ hi,ix_ hi]
 simp only [bd_some,j_C,p_c d _ hd.rules hr.tags]
 generalize d.rules[i]=r;have hl:((i:Int)).toNat=(d.rules.take i).length:=by simp;omega
 have V:w_ (σ:=Unit) (ρ:=Bool) (fun H=>(fun (_:Unit)=>bd (idx d.rules ((H:Nat):Int)) fun I=>if (I.name.b==r.name.b)=true then some (.ret false) else some (.next ()))) (i:Int).toNat 0 ()=some (if (d.rules.take i).any (fun x=>x.name.b==r.name.b)=true then .inr false else .inl ()):=by
  rw [hl]
  refine f_C (fun x:b_=>x.name.b==r.name.b) false<|fun k hk=>?_;have hk':k<d.rules.length:=by simp at hk;omega
  simp only [ix_ hk',bd_some,List.getElem_take]
  exact d_s _ _
 have W:w_ (σ:=Unit) (ρ:=Bool) (fun J=>(fun (_:Unit)=>bd (idx r.kids ((J:Nat):Int)) fun L=>bd (a_L L 0<|(i:Int) - 1) fun O=>if (!O)=true then some (.ret false) else some (.next ()))) r.kids.length 0 ()=some (if r.kids.any (d_8 i)=true then .inr false else .inl ()):=by
  refine f_C (d_8 i) false<|fun k hk=>?_
  simp only [ix_ hk,bd_some,b_r]
  rw [show d_8 i r.kids[k] = !(decide (0<=r.kids[k]) && decide (r.kids[k]<=(i:Int) - 1)) from by
   unfold d_8
   by_cases G:r.kids[k]<0
   ·rw [dT_ G,dF_ (show ¬0<=r.kids[k] by omega)];rfl
   ·rw [dF_ G,dT_ (show 0<=r.kids[k] by omega)]
    by_cases h1:(i:Int)<=r.kids[k]
    ·rw [dT_ h1,dF_ (show ¬r.kids[k]<=(i:Int) - 1 by omega)];rfl
    ·rw [dF_ h1,dT_ (show r.kids[k]<=(i:Int) - 1 by omega)];rfl]
  exact d_s _ _
 rw [V,W]
 have Y:(!(r.little && r.kind != 1))=(!r.little || r.kind==1):=by
  simp only [bne]
  generalize (r.kind==1)=c
  cases r.little <;> cases c <;> rfl
 rw [Y]
 generalize b_l r.name=a;generalize (!r.little || r.kind==1)=b;generalize (d.rules.take i).any (fun x=>x.name.b==r.name.b)=x;generalize r.kids.any (d_8 i)=y;generalize a_p d.rules r=z
 cases a <;> cases b <;> cases x <;> cases y <;> cases z <;> rfl
theorem p_f (n:Nat)(hn:14<=n)(d:f_)(hd:SmD d):h_l n d=some (a_5 d):=by
 unfold h_l a_5
 rw [b_z,e_9 (fun i=>!d_a d.rules i) false (fun k hk _=>by rw [p_d n hn d hd hk];simp only [bd_some];exact d_s _ _)]
 generalize (decide (1<=(d.rules.length:Int)) && decide ((d.rules.length:Int)<=24))=a;generalize (List.range d.rules.length).any (fun i=>!d_a d.rules i)=b
 cases a <;> cases b <;> rfl
theorem p_g (d:f_)(hd:SmD d):h_5 d=some (a_5 d):=by
 unfold h_5 a_5
 rw [b_r,e_9 (fun i=>!d_a d.rules i) false (fun k hk _=>by rw [p_e d hd hk];simp only [bd_some];exact d_s _ _)]
 generalize (decide (1<=(d.rules.length:Int)) && decide ((d.rules.length:Int)<=24))=a;generalize (List.range d.rules.length).any (fun i=>!d_a d.rules i)=b
 cases a <;> cases b <;> rfl
def a_Y (d:f_)(r:Int):Bool:=decide (0<=r) && decide (r<(d.rules.length:Int))
theorem f_w (n:Nat)(hn:14<=n)(d:f_)(hd:SmD d)(r:Int):e_m n d r=some (a_5 d && a_Y d r):=by
 unfold e_m e_k a_Y
 rw [p_f n hn d hd]
 generalize a_5 d=a;generalize decide (0<=r)=b;generalize decide (r<(d.rules.length:Int))=c
 cases a <;> cases b <;> rfl
theorem i_h (d:f_)(hd:SmD d)(r:Int):c_S d r=some (a_5 d && a_Y d r):=by
 have hMX:MX=1048576:=rfl;have hdl:=hd.rules;unfold c_S a_Y
 rw [p_g d hd,b_r,b_s (x:=(d.rules.length:Int)) (by omega) (by omega),show decide (r<=(d.rules.length:Int) - 1)=decide (r<(d.rules.length:Int)) from decide_eq_decide.2 (by omega)]
 generalize a_5 d=a;generalize decide (0<=r)=b;generalize decide (r<(d.rules.length:Int))=c
 cases a <;> cases b <;> cases c <;> rfl
end Go.Vw
