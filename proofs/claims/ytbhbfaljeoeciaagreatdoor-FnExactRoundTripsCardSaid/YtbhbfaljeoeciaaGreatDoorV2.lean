import Derived.Test.YtbhbfaljeoeciaaGreatDoorV1
namespace Go.Vw
open Go.RowKit Dat
def MX:Nat:=1048576
structure SmR (r:g_):Prop where
 name:r.name.b.length<=MX
 bytes:r.bytes.length<=MX
 names:r.names.length<=MX
 tags:r.tags.length<=MX
 kids:r.kids.length<=MX
 each:∀s∈r.names,s.b.length<=MX
structure SmD (d:c_):Prop where
 rules:d.rules.length<=MX
 each:∀r∈d.rules,SmR r
theorem p_1 {α:Type}{c:Prop}[Decidable c](x y:α):(if c then some x else some y)=some (if c then x else y):=by split <;> rfl
theorem d_q {ρ:Type}{c:Bool}(x y:Out Unit ρ):(if c=true then some x else some y)=some (if c=true then x else y):=by split <;> rfl
def lowC (c:UInt8):Bool:=decide (byteI (97:UInt8)<=byteI c) && decide (byteI c<=byteI (122:UInt8))
def c_D (c:UInt8):Bool:=decide (byteI (48:UInt8)<=byteI c) && decide (byteI c<=byteI (57:UInt8))
theorem l_S (c:UInt8):lowC c=(decide (97<=(c.toNat:Int)) && decide ((c.toNat:Int)<=122)):=rfl
theorem f_4 (c:UInt8):c_D c=(decide (48<=(c.toNat:Int)) && decide ((c.toNat:Int)<=57)):=rfl
theorem l_T (k:Nat):((k:Int)==0)=(k==0):=by
 rw [Bool.eq_iff_iff];simp
def b_p (s:Str)(k:Nat):Bool:=match s.b[k]? with
 | some c=>!lowC c && (!c_D c || k==0)
 | none=>false
def b_4 (s:Str):Bool:=!((List.range s.b.length).any (b_p s)) && (decide (1<=s.b.length) && decide (s.b.length<=12))
theorem b_j (x lo hi:Int):a_L x lo hi=some (decide (lo<=x) && decide (x<=hi)):=by
 unfold a_L;generalize decide (lo<=x)=a;generalize decide (x<=hi)=b
 cases a <;> rfl
theorem b_z (x lo hi:Int):b_X x lo hi=some (decide (lo<=x) && decide (x<=hi)):=by
 unfold b_X;generalize decide (lo<=x)=a;generalize decide (x<=hi)=b
 cases a <;> rfl
theorem l_U (s:Str):f_k s=some (b_4 s):=by
 unfold f_k
 rw [c_O (b_p s) false]
 ·unfold b_4
  cases (List.range s.b.length).any (b_p s)
  ·have G:decide ((1:Int)<=s.b.length)=decide (1<=s.b.length):=decide_eq_decide.2 (by omega);have H:decide ((s.b.length:Int)<=12)=decide (s.b.length<=12):=decide_eq_decide.2 (by omega)
   simp only [bF_,fF_,bd_some,el_inl,b_j,G,H,Bool.not_false,Bool.true_and]
  ·rfl
 ·intro k hk _
  simp only [ix_ hk,bd_some,b_p,gG_ hk,lowC,c_D,l_T]
  generalize decide (byteI (97:UInt8)<=byteI s.b[k])=a;generalize decide (byteI s.b[k]<=byteI (122:UInt8))=b;generalize decide (byteI (48:UInt8)<=byteI s.b[k])=c;generalize decide (byteI s.b[k]<=byteI (57:UInt8))=d;generalize (k==0)=e
  cases a <;> cases b <;> cases c <;> cases d <;> cases e <;> rfl
theorem l_V (n:Nat)(hn:14<=n)(s:Str):e_x n s=some (b_4 s):=by
 unfold e_x
 by_cases h1:s.b.length<1
 ·have:b_4 s=false:=by unfold b_4;simp [show ¬1<=s.b.length by omega]
  rw [this];simp [show ((s.b.length:Int)<1) by omega]
 by_cases h2:12<s.b.length
 ·have:b_4 s=false:=by unfold b_4;simp [show ¬s.b.length<=12 by omega]
  rw [this];simp [show ¬((s.b.length:Int)<1) by omega,show ((12:Int)<s.b.length) by omega]
 have V:decide ((s.b.length:Int)<1)=false:=by simp;omega
 have W:decide ((12:Int)<(s.b.length:Int))=false:=by simp;omega
 rw [V,W]
 simp only [bF_,fF_,bd_some]
 have hstep:∀k,k<s.b.length->b_p s k=false->∀{ρ:Type}(x:Nat->ρ),x (k+(dec s k).2)=x (k+1):=by
  intro k hk hb ρ x
  rw [m_X hk]
  have hb':b_p s k=(!lowC s.b[k] && (!c_D s.b[k] || k==0)):=by unfold b_p;rw [gG_ hk]
  rw [hb'] at hb
  rw [l_S,f_4] at hb
  simp only [Bool.and_eq_false_iff,Bool.not_eq_false',Bool.or_eq_false_iff,aE_,dE_] at hb
  omega
 have hgood:∀k (hk:k<s.b.length),b_p s k=(bd (α:=Bool) (if (decide<|97<=((dec s k).1))=true then some (decide<|((dec s k).1)<=122) else some false) (fun H=>bd (α:=Bool) (if (decide<|48<=((dec s k).1))=true then some (decide<|((dec s k).1)<=57) else some false) (fun I=>bd (α:=Bool) (if (!H)=true then if (!I)=true then some true else some ((k:Int)==0) else some false) some))).getD false /\
   (bd (α:=Bool) (if (decide<|97<=((dec s k).1))=true then some (decide<|((dec s k).1)<=122) else some false) (fun H=>bd (α:=Bool) (if (decide<|48<=((dec s k).1))=true then some (decide<|((dec s k).1)<=57) else some false) (fun I=>bd (α:=Bool) (if (!H)=true then if (!I)=true then some true else some ((k:Int)==0) else some false) (fun J=>if J=true then some (.ret false) else some (.next<|k+(dec s k).2)))))=some (if b_p s k=true then (.ret false:Out Nat Bool) else .next (k+(dec s k).2)):=by
  intro k hk;have hb':b_p s k=(!lowC s.b[k] && (!c_D s.b[k] || k==0)):=by unfold b_p;rw [gG_ hk]
  rw [hb']
  rw [l_S,f_4]
  rw [l_T]
  by_cases ha:s.b[k].toNat<128
  ·rw [m_X hk ha]
   simp only
   generalize (s.b[k].toNat:Int)=c;generalize decide (97<=c)=a;generalize decide (c<=122)=b;generalize decide (48<=c)=c';generalize decide (c<=57)=d;generalize (k==0)=e
   cases a <;> cases b <;> cases c' <;> cases d <;> cases e <;> exact ⟨rfl,rfl⟩
  ·have hd:=q_H hk (by omega);generalize (dec s k).1=c at hd
   generalize (dec s k).2=c2;have g1:97<=c:=by omega
   have O:¬c<=122:=by omega
   have Y:48<=c:=by omega
   have g4:¬c<=57:=by omega
   have k2:¬(s.b[k].toNat:Int)<=122:=by omega
   have k4:¬(s.b[k].toNat:Int)<=57:=by omega
   simp [g1,O,Y,g4,k2,k4]
 have hit:U_ (σ:=Nat) (ρ:=Bool) (fun G=>if (decide<|G<s.b.length)=true then bd (α:=Bool) (if (decide<|97<=((dec s G).1))=true then some (decide<|((dec s G).1)<=122) else some false) (fun H=>bd (α:=Bool) (if (decide<|48<=((dec s G).1))=true then some (decide<|((dec s G).1)<=57) else some false) (fun I=>bd (α:=Bool) (if (!H)=true then if (!I)=true then some true else some ((G:Int)==0) else some false) (fun J=>if J=true then some (.ret false) else some (.next<|G+(dec s G).2)))) else some (.brk G)) n 0=some (if (List.range s.b.length).any (b_p s)=true then .inr false else .inl s.b.length):=by
  cases hf:(List.range s.b.length).find? (b_p s) with
  | none =>
   have hall:∀k,k<s.b.length->b_p s k=false:=fun k hk=>by simpa using List.find?_eq_none.1 hf k (List.mem_range.2 hk)
   have hany:(List.range s.b.length).any (b_p s)=false:=by rw [List.any_eq_false];exact fun x hx=>by simpa using List.find?_eq_none.1 hf x hx
   rw [hany]
   refine f_h (fun k=>k) (j0:=s.b.length) (by omega) (fun k hk=>?_) ?_
   ·simp only [hk,decide_true,fT_]
    rw [(hgood k hk).2,hall k hk]
    simp only [bF_,fF_]
    rw [hstep k hk (hall k hk) (fun x=>some<|Out.next x)]
   ·simp
  | some k =>
   have hany:(List.range s.b.length).any (b_p s)=true:=List.any_eq_true.2 ⟨k,List.mem_of_find?_eq_some hf,List.find?_some hf⟩
   rw [hany]
   obtain ⟨hp,as,bs,hl,has⟩:=List.find?_eq_some_iff_append.1 hf;have hk:k<s.b.length:=List.mem_range.1<|List.mem_of_find?_eq_some hf
   have hbef:∀j,j<k->b_p s j=false:=by
    intro j hj;have hlen:as.length<s.b.length:=by have:=congrArg List.length hl;simp at this;omega
    have hke:as.length=k:=by
     have h2:(List.range s.b.length)[as.length]? = some k:=by rw [hl];simp
     rw [List.getElem?_range hlen] at h2
     exact Option.some.inj h2
    have hj':j<as.length:=by omega
    have h2:(List.range s.b.length)[j]? = some (as[j]):=by rw [hl,List.getElem?_append_left hj'];simp
    rw [List.getElem?_range (by omega)] at h2
    have h3:=has as[j] (gE_ hj')
    rw [← Option.some.inj h2] at h3
    simpa using h3
   refine q_G (fun k=>k) (j0:=k) (by omega) (fun j hj=>?_) ?_
   ·have L:j<s.b.length:=by omega
    simp only [L,decide_true,fT_]
    rw [(hgood j L).2,hbef j hj]
    simp only [bF_,fF_]
    rw [hstep j L (hbef j hj) (fun x=>some<|Out.next x)]
   ·simp only [hk,decide_true,fT_]
    rw [(hgood k hk).2,hp]
    rfl
 rw [hit]
 unfold b_4;have g1:decide (1<=s.b.length)=true:=dT_ (by omega);have O:decide (s.b.length<=12)=true:=dT_ (by omega)
 rw [g1,O]
 cases (List.range s.b.length).any (b_p s) <;> rfl
def plain (r:g_)(a b c d:Bool)(k:Int):Bool:=(a || r.size==0) && ((b || (r.bytes.length:Int)==0) && ((c || (r.names.length:Int)==0) && ((d || (r.tags.length:Int)==0) && (decide (k<0) || (r.kids.length:Int)==k))))
theorem j_L (r:g_)(a b c d:Bool)(k:Int):c_l r a b c d k=some (plain r a b c d k):=by
 unfold c_l plain;generalize (r.size==0)=G;generalize ((r.bytes.length:Int)==0)=H;generalize ((r.names.length:Int)==0)=I;generalize ((r.tags.length:Int)==0)=J;generalize decide (k<0)=L;generalize ((r.kids.length:Int)==k)=O
 cases a <;> cases G <;> try rfl
 all_goals cases b <;> cases H <;> try rfl
 all_goals cases c <;> cases I <;> try rfl
 all_goals cases d <;> cases J <;> try rfl
 all_goals cases L <;> rfl
theorem p_2 (r:g_)(a b c d:Bool)(k:Int):c_k r a b c d k=some (plain r a b c d k && (!r.little || r.kind==1)):=by
 unfold c_k plain;generalize (r.size==0)=G;generalize ((r.bytes.length:Int)==0)=H;generalize ((r.names.length:Int)==0)=I;generalize ((r.tags.length:Int)==0)=J;generalize decide (k<0)=L;generalize ((r.kids.length:Int)==k)=O;generalize (r.kind==1)=W;generalize r.little=V
 cases a <;> cases G <;> try rfl
 all_goals cases b <;> cases H <;> try rfl
 all_goals cases c <;> cases I <;> try rfl
 all_goals cases d <;> cases J <;> try rfl
 all_goals cases L <;> cases O <;> cases V <;> rfl
def lim (rs:List g_)(i:Int):Int:=match idx rs i with
 | some r=>if r.kind=1/\1<=r.size/\r.size<=4 then 256 ^ r.size.toNat - 1 else -1
 | none=>-1
theorem l_W {α:Type}{l:List α}{i:Int}(h:¬(0<=i/\i<l.length)):idx l i=none:=by
 unfold idx;split
 ·rw [gN_];omega
 ·rfl
theorem f_5 {s:Int}(h1:1<=s)(h4:s<=4):r_ (b_3 .i64 1<|a_f 8 s) 1=256 ^ s.toNat - 1/\nn (a_f 8 s)=some ():=by
 have:s=1∨s=2∨s=3∨s=4:=by omega
 rcases this with rfl | rfl | rfl | rfl <;> exact ⟨by decide,by decide⟩
theorem f_6 (d:c_)(i:Int):c_P d i=some (lim d.rules i):=by
 unfold c_P d_V lim
 by_cases h:0<=i/\i<d.rules.length
 ·obtain ⟨G,h1⟩:=h
  rw [dT_ G,dT_ h1,i_Y G (by omega)]
  generalize d.rules[i.toNat]=r
  simp only [fT_,bd_some,b_z]
  by_cases hk:r.kind=1
  ·by_cases H:1<=r.size
   ·by_cases I:r.size<=4
    ·simp [hk,H,I,(f_5 H I).1,(f_5 H I).2]
    ·simp [hk,H,I]
   ·simp [hk,H]
  ·simp [hk]
 ·rw [l_W h]
  by_cases G:0<=i
  ·have h1:¬i<d.rules.length:=fun h1=>h ⟨G,h1⟩
   simp [G,h1]
  ·simp [G]
theorem f_7 (d:c_)(i:Int)(hd:d.rules.length<=MX):d_y d i=some (lim d.rules i):=by
 unfold d_y lim
 rw [b_j]
 have hMX:MX=1048576:=rfl;have e:r_ (d.rules.length:Int) 1=(d.rules.length:Int) - 1:=b_7 (by omega) (by omega)
 rw [e]
 by_cases h:0<=i/\i<d.rules.length
 ·obtain ⟨G,h1⟩:=h
  rw [dT_ G,dT_ (show i<=(d.rules.length:Int) - 1 by omega),i_Y G (by omega)]
  generalize d.rules[i.toNat]=r
  simp only [bd_some,b_j,d_x]
  by_cases hk:r.kind=1
  ·by_cases H:1<=r.size
   ·by_cases I:r.size<=4
    ·simp [hk,H,I,(f_5 H I).1,(f_5 H I).2]
    ·simp [hk,H,I]
   ·simp [hk,H]
  ·simp [hk]
 ·rw [l_W h]
  by_cases G:0<=i
  ·have h1:¬i<=(d.rules.length:Int) - 1:=fun h1=>h ⟨G,by omega⟩
   simp [G,h1]
  ·simp [G]
def e_m (l:List Str)(s:Str):Bool:=l.any<|fun x=>x.b==s.b
theorem p_3 (l:List Str)(s:Str):f_p l s=some (e_m l s):=by
 unfold f_p e_m
 rw [d_8 (fun x=>x.b==s.b) true (fun k hk=>by simp only [ix_ hk,bd_some];exact d_q _ _)]
 cases l.any (fun x=>x.b==s.b) <;> rfl
theorem p_4 (l:List Str)(s:Str):g_T l s=some (e_m l s):=by
 unfold g_T e_m
 rw [d_8 (fun x=>x.b==s.b) true (fun k hk=>by simp only [ix_ hk,bd_some];exact d_q _ _)]
 cases l.any (fun x=>x.b==s.b) <;> rfl
def c_r (l:List Str)(k:Nat):Bool:=match l[k]? with
 | some s=>!b_4 s || e_m (l.take k) s
 | none=>false
def c_E (m:Int)(l:List Int)(k:Nat):Bool:=match l[k]? with
 | some t=>!(decide (0<=t) && decide (t<=m)) || (decide (0<(k:Int)) && decide (t<=l.getD (k - 1) 0))
 | none=>false
def c_5 (n:Nat):Bool:=decide (1<=(n:Int)) && decide ((n:Int)<=8)
def s_ (r:g_):Int:=r.kids.getD 0 0
def a_i (rs:List g_)(r:g_):Bool :=
 if r.kind==1 then plain r true false false false 0 && ((decide (1<=r.size) && decide (r.size<=4)) && (!r.little || decide (1<r.size)))
 else if r.kind==2 then plain r false true false false 0 && (decide (1<=(r.bytes.length:Int)) && decide ((r.bytes.length:Int)<=16))
 else if r.kind==3 then plain r true false false false 0 && (decide (1<=r.size) && decide (r.size<=64))
 else if r.kind==4 then plain r false false false false 1 && decide (0<lim rs (s_ r))
 else if r.kind==5 then plain r false false false false 2 && decide (0<lim rs (s_ r))
 else if r.kind==6 then plain r false false true false r.names.length && (!((List.range r.names.length).any (c_r r.names)) && c_5 r.names.length)
 else if r.kind==7 then plain r false false false true ((r.tags.length:Int)+1) && (c_5 r.tags.length && !((List.range r.tags.length).any (c_E (lim rs<|s_ r) r.tags)))
 else if r.kind==8 then plain r false false false false 1
 else if r.kind==9 then plain r false false false false 1
 else if r.kind==10 then plain r false true false false 0 && ((r.bytes.length:Int)==1 && byteI (r.bytes.getD 0 0) != byteI (92:UInt8))
 else false
theorem c_F {r:g_}{a b c d:Bool}{k:Int}(h:plain r a b c d k=true)(hk:0<=k):(r.kids.length:Int)=k:=by
 unfold plain at h
 simp only [aE_,Bool.or_eq_true,dE_,beq_iff_eq] at h
 omega
theorem l_X (r:g_)(a b c d:Bool)(k:Int):plain r a b c d k=(plain r a b c d (-1) && (decide (k<0) || (r.kids.length:Int)==k)):=by
 unfold plain;simp [Bool.and_assoc]
theorem j_M {α:Type}{l:List α}{k:Nat}(h:k<=l.length):slc l 0 (k:Int)=some (l.take k):=by
 rw [e_q (Int.le_refl 0) (by omega) (by omega)];simp
theorem l_Y (rs:List g_)(i:Int):lim rs i = -1∨0<lim rs i:=by
 unfold lim
 cases idx rs i with
 | none=>exact .inl rfl
 | some r =>
  simp only
  by_cases h:r.kind=1/\1<=r.size/\r.size<=4
  ·rw [iP_ h]
   right
   obtain ⟨_,h1,h4⟩:=h;have:r.size=1∨r.size=2∨r.size=3∨r.size=4:=by omega
   rcases this with h | h | h | h <;> rw [h] <;> decide
  ·rw [iN_ h];exact .inl rfl
theorem W_ {α:Type}{l:List α}{k:Nat}{x:α}(h:k<l.length):l.getD k x=l[k]:=by simp [h]
theorem p_5 (n:Nat)(hn:14<=n)(l:List Str):z_ (σ:=Unit) (ρ:=Bool) (fun G=>(fun (_:Unit)=>bd (idx l ((G:Nat):Int)) fun H=>bd (α:=Bool) (bd (e_x n H) fun I=>if (!I)=true then some true else bd (slc l 0 ((G:Nat):Int)) fun J=>bd (f_p J H) fun L=>some L) (fun O=>if O=true then some (.ret false) else some (.next ())))) l.length 0 ()=some (if (List.range l.length).any (c_r l)=true then .inr false else .inl ()):=by
 refine c_O (c_r l) false<|fun k hk _=>?_
 simp only [ix_ hk,bd_some,l_V n hn,j_M<|Nat.le_of_lt hk,p_3,c_r,gG_ hk]
 generalize b_4 l[k]=a;generalize e_m (l.take k) l[k]=b
 cases a <;> cases b <;> rfl
theorem p_6 (l:List Str):g_U l=some (!((List.range l.length).any (c_r l)) && c_5 l.length):=by
 unfold g_U
 rw [c_O (c_r l) false]
 ·rw [b_j]
  unfold c_5
  cases (List.range l.length).any (c_r l) <;> rfl
 ·intro k hk _
  simp only [ix_ hk,bd_some,l_U,j_M<|Nat.le_of_lt hk,p_4,c_r,gG_ hk]
  generalize b_4 l[k]=a;generalize e_m (l.take k) l[k]=b
  cases a <;> cases b <;> rfl
theorem p_7 (n:Nat)(hn:14<=n)(r:g_):h_8 n r=some (plain r false false true false r.names.length && (!((List.range r.names.length).any (c_r r.names)) && c_5 r.names.length)):=by
 unfold h_8
 rw [p_5 n hn,j_L,b_z,l_X r _ _ _ _ r.names.length]
 have I:decide ((r.names.length:Int)<0)=false:=dF_ (by omega)
 rw [I]
 unfold c_5;generalize (List.range r.names.length).any (c_r r.names)=a;generalize plain r false false true false (-1)=b
 by_cases h:(r.kids.length:Int)=r.names.length
 ·rw [h]
  have G:((r.names.length:Int)==(r.names.length:Int))=true:=by simp
  have H:((r.names.length:Int) != (r.names.length:Int))=false:=by simp
  rw [G,H]
  generalize (decide (1<=(r.names.length:Int)) && decide ((r.names.length:Int)<=8))=c
  cases a <;> cases b <;> cases c <;> rfl
 ·have G:((r.kids.length:Int)==(r.names.length:Int))=false:=by simpa using h
  have H:((r.kids.length:Int) != (r.names.length:Int))=true:=by simpa using h
  rw [G,H]
  cases a <;> cases b <;> rfl
theorem g_s {m:Int}{l:List Int}{k:Nat}(hk:k<l.length):c_E m l k=(!(decide (0<=l[k]) && decide (l[k]<=m)) || (decide (0<(k:Int)) && decide (l[k]<=l.getD (k - 1) 0))):=by
 unfold c_E;rw [gG_ hk]
theorem l_Z {l:List Int}{k:Nat}(hk:k<l.length)(G:0<k):idx l (r_ (k:Int) 1)=some (l.getD (k - 1) 0)∨¬l.length<=MX:=by
 by_cases hM:l.length<=MX
 ·left
  have hMX:MX=1048576:=rfl
  rw [b_7 (by omega) (by omega),i_Y (by omega) (by omega),W_ (by omega)]
  simp [show ((k:Int) - 1).toNat=k - 1 by omega]
 ·exact .inr hM
theorem p_8 (m:Int)(l:List Int)(hl:l.length<=MX):z_ (σ:=Unit) (ρ:=Bool) (fun G=>(fun (_:Unit)=>bd (idx l ((G:Nat):Int)) fun I=>bd (α:=Bool) (bd (b_X I 0 m) fun J=>if (!J)=true then some true else if (decide<|0<((G:Nat):Int))=true then bd (idx l<|r_ ((G:Nat):Int) 1) fun L=>some (decide<|I<=L) else some false) (fun O=>if O=true then some (.ret false) else some (.next ())))) l.length 0 ()=some (if (List.range l.length).any (c_E m l)=true then .inr false else .inl ()):=by
 refine c_O (c_E m l) false<|fun k hk _=>?_
 simp only [ix_ hk,bd_some,b_z,g_s hk]
 by_cases V:0<k
 ·have e:=(l_Z hk V).resolve_right (fun h=>h hl);have H:decide (0<(k:Int))=true:=dT_ (by omega)
  rw [e,H]
  generalize decide (0<=l[k])=a;generalize decide (l[k]<=m)=b
  simp only [bd_some]
  generalize decide (l[k]<=l.getD (k - 1) 0)=c
  cases a <;> cases b <;> cases c <;> rfl
 ·have H:decide (0<(k:Int))=false:=dF_ (by omega)
  rw [H]
  generalize decide (0<=l[k])=a;generalize decide (l[k]<=m)=b
  cases a <;> cases b <;> rfl
theorem c_G {r:g_}(h:0<r.kids.length):idx r.kids 0=some (s_ r):=by
 rw [a_W h,s_,W_ h]
theorem p_9 (d:c_)(r:g_)(ht:r.tags.length<=MX):h_9 d r=some (plain r false false false true ((r.tags.length:Int)+1) && (c_5 r.tags.length && !((List.range r.tags.length).any (c_E (lim d.rules<|s_ r) r.tags)))):=by
 have hMX:MX=1048576:=rfl;unfold h_9
 rw [j_L,b_z,ia_ (x:=(r.tags.length:Int)) (by omega) (by omega)]
 unfold c_5
 cases hp:plain r false false false true ((r.tags.length:Int)+1)
 ·rfl
 ·have hk:=c_F hp (by omega)
  rw [c_G (by omega)]
  simp only [bd_some,nT_,bF_,fF_,f_6,p_8 _ _ ht]
  by_cases G:1<=(r.tags.length:Int)/\(r.tags.length:Int)<=8
  ·rw [dT_ G.1,dT_ G.2]
   cases ha:(List.range r.tags.length).any (c_E (lim d.rules<|s_ r) r.tags)
   ·have hpos:0<lim d.rules (s_ r):=by
     rcases l_Y d.rules (s_ r) with h | h
     ·exfalso
      have H:0<r.tags.length:=by omega
      have:=List.any_eq_false.1 ha 0<|List.mem_range.2 H
      rw [g_s H,h] at this
      simp only [Bool.or_eq_true,Bool.not_eq_true',Bool.and_eq_false_iff,decide_eq_false_iff_not] at this
      omega
     ·exact h
    rw [dT_ hpos]
    rfl
   ·rfl
  ·have:(decide (1<=(r.tags.length:Int)) && decide ((r.tags.length:Int)<=8))=false:=by
    rw [Bool.and_eq_false_iff]
    simp only [decide_eq_false_iff_not]
    omega
   rw [this]
   rfl
theorem p_a (d:c_)(r:g_)(hd:d.rules.length<=MX)(ht:r.tags.length<=MX):g_V d r=some (((r.kids.length:Int)==(r.tags.length:Int)+1) && (c_5 r.tags.length && !((List.range r.tags.length).any (c_E (lim d.rules<|s_ r) r.tags)))):=by
 have hMX:MX=1048576:=rfl;unfold g_V
 rw [ia_ (x:=(r.tags.length:Int)) (by omega) (by omega),b_j]
 unfold c_5
 by_cases hk:(r.kids.length:Int)=(r.tags.length:Int)+1
 ·have G:((r.kids.length:Int)==(r.tags.length:Int)+1)=true:=by simpa using hk
  have H:((r.kids.length:Int) != (r.tags.length:Int)+1)=false:=by simpa using hk
  rw [G,H]
  rw [c_O (c_E (lim d.rules<|s_ r) r.tags) false]
  ·generalize (List.range r.tags.length).any (c_E (lim d.rules<|s_ r) r.tags)=a;generalize (decide (1<=(r.tags.length:Int)) && decide ((r.tags.length:Int)<=8))=c
   cases a <;> cases c <;> rfl
  ·intro k hk' _
   simp only [ix_ hk',bd_some,c_G (show 0<r.kids.length by omega),f_7 d _ hd,b_j,g_s hk']
   by_cases J:0<k
   ·have e:=(l_Z hk' J).resolve_right (fun h=>h ht);have I:decide (0<(k:Int))=true:=dT_ (by omega)
    rw [e,I]
    generalize decide (0<=r.tags[k])=a;generalize decide (r.tags[k]<=lim d.rules (s_ r))=b
    simp only [bd_some]
    generalize decide (r.tags[k]<=r.tags.getD (k - 1) 0)=c
    cases a <;> cases b <;> cases c <;> rfl
   ·have I:decide (0<(k:Int))=false:=dF_ (by omega)
    rw [I]
    generalize decide (0<=r.tags[k])=a;generalize decide (r.tags[k]<=lim d.rules (s_ r))=b
    cases a <;> cases b <;> rfl
 ·have G:((r.kids.length:Int)==(r.tags.length:Int)+1)=false:=by simpa using hk
  have H:((r.kids.length:Int) != (r.tags.length:Int)+1)=true:=by simpa using hk
  rw [G,H]
  rfl
theorem p_b (n:Nat)(hn:14<=n)(d:c_)(r:g_)(ht:r.tags.length<=MX):h_a n d r=some (a_i d.rules r):=by
 unfold h_a a_i
 rw [p_7 n hn,p_9 d r ht]
 simp only [j_L,b_z,f_6,bd_some]
 cases (r.kind==1) with
 | true =>
  generalize plain r true false false false 0=a;generalize (decide (1<=r.size) && decide (r.size<=4))=b;generalize decide (1<r.size)=c;generalize r.little=e
  cases a <;> cases b <;> cases c <;> cases e <;> rfl
 | false =>
 cases (r.kind==2) with
 | true =>
  generalize plain r false true false false 0=a
  cases a <;> rfl
 | false =>
 cases (r.kind==3) with
 | true =>
  generalize plain r true false false false 0=a
  cases a <;> rfl
 | false =>
 cases (r.kind==4) with
 | true =>
  cases hp:plain r false false false false 1
  ·rfl
  ·have hk:=c_F hp (by omega)
   rw [c_G (by omega)]
   rfl
 | false =>
 cases (r.kind==5) with
 | true =>
  cases hp:plain r false false false false 2
  ·rfl
  ·have hk:=c_F hp (by omega)
   rw [c_G (by omega)]
   rfl
 | false =>
 cases (r.kind==6) with
 | true=>rfl
 | false =>
 cases (r.kind==7) with
 | true=>rfl
 | false =>
 cases (r.kind==8) with
 | true=>rfl
 | false =>
 cases (r.kind==9) with
 | true=>rfl
 | false =>
 cases (r.kind==10) with
 | true =>
  generalize plain r false true false false 0=a
  by_cases hb:(r.bytes.length:Int)=1
  ·have e:((r.bytes.length:Int)==1)=true:=by simpa using hb
   rw [e,a_W (show 0<r.bytes.length by omega),W_ (show 0<r.bytes.length by omega)]
   cases a <;> rfl
  ·have e:((r.bytes.length:Int)==1)=false:=by simpa using hb
   rw [e]
   cases a <;> rfl
 | false=>rfl
theorem p_c (d:c_)(r:g_)(hd:d.rules.length<=MX)(ht:r.tags.length<=MX):g_W d r=some (a_i d.rules r && (!r.little || r.kind==1)):=by
 unfold g_W a_i
 rw [p_a d r hd ht,p_6]
 simp only [p_2,b_j,f_7 d _ hd,bd_some]
 have G:plain r false false false true ((r.tags.length:Int)+1)=(plain r false false false true (-1) && ((r.kids.length:Int)==(r.tags.length:Int)+1)):=by
  rw [l_X,dF_ (show ¬((r.tags.length:Int)+1<0) by omega)];rfl
 rw [G]
 cases (r.kind==1) with
 | true =>
  generalize plain r true false false false 0=a;generalize (decide (1<=r.size) && decide (r.size<=4))=b;generalize decide (1<r.size)=c;generalize r.little=e
  cases a <;> cases b <;> cases c <;> cases e <;> rfl
 | false =>
 generalize r.little=e
 cases (r.kind==2) with
 | true =>
  generalize plain r false true false false 0=a;generalize (decide (1<=(r.bytes.length:Int)) && decide ((r.bytes.length:Int)<=16))=b
  cases a <;> cases e <;> cases b <;> rfl
 | false =>
 cases (r.kind==3) with
 | true =>
  generalize plain r true false false false 0=a;generalize (decide (1<=r.size) && decide (r.size<=64))=b
  cases a <;> cases e <;> cases b <;> rfl
 | false =>
 cases (r.kind==4) with
 | true =>
  cases hp:plain r false false false false 1
  ·rfl
  ·have hk:=c_F hp (by omega)
   rw [c_G (by omega)]
   simp only [bd_some]
   generalize decide (0<lim d.rules (s_ r))=b
   cases e <;> cases b <;> rfl
 | false =>
 cases (r.kind==5) with
 | true =>
  cases hp:plain r false false false false 2
  ·rfl
  ·have hk:=c_F hp (by omega)
   rw [c_G (by omega)]
   simp only [bd_some]
   generalize decide (0<lim d.rules (s_ r))=b
   cases e <;> cases b <;> rfl
 | false =>
 cases (r.kind==6) with
 | true =>
  generalize plain r false false true false r.names.length=a;generalize (!((List.range r.names.length).any (c_r r.names)) && c_5 r.names.length)=b
  cases a <;> cases e <;> cases b <;> rfl
 | false =>
 cases (r.kind==7) with
 | true =>
  generalize plain r false false false true (-1)=a;generalize ((r.kids.length:Int)==(r.tags.length:Int)+1)=b;generalize (c_5 r.tags.length && !((List.range r.tags.length).any (c_E (lim d.rules<|s_ r) r.tags)))=c
  cases a <;> cases e <;> cases b <;> cases c <;> rfl
 | false =>
 cases (r.kind==8) with
 | true =>
  generalize plain r false false false false 1=a
  cases a <;> cases e <;> rfl
 | false =>
 cases (r.kind==9) with
 | true =>
  generalize plain r false false false false 1=a
  cases a <;> cases e <;> rfl
 | false =>
 cases (r.kind==10) with
 | true =>
  generalize plain r false true false false 0=a
  by_cases hb:(r.bytes.length:Int)=1
  ·have e:((r.bytes.length:Int)==1)=true:=by simpa using hb
   rw [e,a_W (show 0<r.bytes.length by omega),W_ (show 0<r.bytes.length by omega)]
   simp only [bd_some]
   generalize (byteI r.bytes[0] != byteI (92:UInt8))=b
   rename_i e'
   cases a <;> cases e' <;> cases b <;> rfl
  ·have e:((r.bytes.length:Int)==1)=false:=by simpa using hb
   rw [e]
   rename_i e'
   cases a <;> cases e' <;> rfl
 | false=>cases e <;> rfl
def c_Z (i:Nat)(k:Int):Bool:=decide (k<0) || decide ((i:Int)<=k)
def d_0 (rs:List g_)(i:Nat):Bool:=match rs[i]? with
 | none=>false
 | some r=>(b_4 r.name && !(r.little && r.kind != 1)) && (!((rs.take i).any (fun x=>x.name.b==r.name.b)) && (!(r.kids.any<|c_Z i) && a_i rs r))
def a_7 (d:c_):Bool:=(decide (1<=(d.rules.length:Int)) && decide ((d.rules.length:Int)<=24)) && !((List.range d.rules.length).any (fun i=>!d_0 d.rules i))
theorem p_d (n:Nat)(hn:14<=n)(d:c_)(hd:SmD d){i:Nat}(hi:i<d.rules.length):h_b n d i=some (d_0 d.rules i):=by
 unfold h_b d_V d_0;have hr:=hd.each d.rules[i] (gE_ hi)
 rw [dT_ (show (0:Int)<=(i:Int) by omega),dT_ (show (i:Int)<(d.rules.length:Int) by omega),gG_ hi,ix_ hi]
 simp only [fT_,bd_some,l_V n hn,j_M<|Nat.le_of_lt hi,p_b n hn d _ hr.tags]
 generalize d.rules[i]=r;have O:=d_8 (body:=(fun H=>(fun (_:Unit)=>bd (idx (d.rules.take i) ((H:Nat):Int)) fun I=>if (I.name.b==r.name.b)=true then some (Out.ret false:Out Unit Bool) else some (.next ())))) (l:=d.rules.take i) (fun x=>x.name.b==r.name.b) false (fun k hk=>by simp only [ix_ hk,bd_some];exact d_q _ _)
 have V:=d_8 (body:=(fun J=>(fun (_:Unit)=>bd (idx r.kids ((J:Nat):Int)) fun G=>bd (α:=Bool) (if (decide (G<0))=true then some true else some (decide ((i:Int)<=G))) (fun L=>if L=true then some (Out.ret false:Out Unit Bool) else some (.next ()))))) (l:=r.kids) (c_Z i) false (fun k hk=>by
  simp only [ix_ hk,bd_some]
  rw [show c_Z i r.kids[k]=(decide (r.kids[k]<0) || decide ((i:Int)<=r.kids[k])) from rfl]
  generalize decide (r.kids[k]<0)=a;generalize decide ((i:Int)<=r.kids[k])=b
  cases a <;> cases b <;> rfl)
 rw [O,V]
 generalize b_4 r.name=a;generalize r.little=b;generalize (r.kind != 1)=c;generalize (d.rules.take i).any (fun x=>x.name.b==r.name.b)=x;generalize r.kids.any (c_Z i)=y;generalize a_i d.rules r=z
 cases a <;> cases b <;> cases c <;> cases x <;> cases y <;> rfl
theorem p_e (d:c_)(hd:SmD d){i:Nat}(hi:i<d.rules.length):g_X d i=some (d_0 d.rules i):=by
 have hMX:MX=1048576:=rfl;have hdl:=hd.rules;unfold g_X d_0;have hr:=hd.each d.rules[i] (gE_ hi)
 rw [b_j,b_7 (x:=(d.rules.length:Int)) (by omega) (by omega),b_7 (x:=(i:Int)) (by omega) (by omega),dT_ (show (0:Int)<=(i:Int) by omega),dT_ (show (i:Int)<=(d.rules.length:Int) - 1 by omega),gG_ hi,ix_ hi]
 simp only [bd_some,l_U,p_c d _ hd.rules hr.tags]
 generalize d.rules[i]=r;have hl:((i:Int)).toNat=(d.rules.take i).length:=by simp;omega
 have V:z_ (σ:=Unit) (ρ:=Bool) (fun H=>(fun (_:Unit)=>bd (idx d.rules ((H:Nat):Int)) fun I=>if (I.name.b==r.name.b)=true then some (.ret false) else some (.next ()))) (i:Int).toNat 0 ()=some (if (d.rules.take i).any (fun x=>x.name.b==r.name.b)=true then .inr false else .inl ()):=by
  rw [hl]
  refine d_8 (fun x:g_=>x.name.b==r.name.b) false<|fun k hk=>?_;have hk':k<d.rules.length:=by simp at hk;omega
  simp only [ix_ hk',bd_some,List.getElem_take]
  exact d_q _ _
 have W:z_ (σ:=Unit) (ρ:=Bool) (fun J=>(fun (_:Unit)=>bd (idx r.kids ((J:Nat):Int)) fun L=>bd (a_L L 0<|(i:Int) - 1) fun O=>if (!O)=true then some (.ret false) else some (.next ()))) r.kids.length 0 ()=some (if r.kids.any (c_Z i)=true then .inr false else .inl ()):=by
  refine d_8 (c_Z i) false<|fun k hk=>?_
  simp only [ix_ hk,bd_some,b_j]
  rw [show c_Z i r.kids[k] = !(decide (0<=r.kids[k]) && decide (r.kids[k]<=(i:Int) - 1)) from by
   unfold c_Z
   by_cases G:r.kids[k]<0
   ·rw [dT_ G,dF_ (show ¬0<=r.kids[k] by omega)];rfl
   ·rw [dF_ G,dT_ (show 0<=r.kids[k] by omega)]
    by_cases h1:(i:Int)<=r.kids[k]
    ·rw [dT_ h1,dF_ (show ¬r.kids[k]<=(i:Int) - 1 by omega)];rfl
    ·rw [dF_ h1,dT_ (show r.kids[k]<=(i:Int) - 1 by omega)];rfl]
  exact d_q _ _
 rw [V,W]
 have Y:(!(r.little && r.kind != 1))=(!r.little || r.kind==1):=by
  simp only [bne]
  generalize (r.kind==1)=c
  cases r.little <;> cases c <;> rfl
 rw [Y]
 generalize b_4 r.name=a;generalize (!r.little || r.kind==1)=b;generalize (d.rules.take i).any (fun x=>x.name.b==r.name.b)=x;generalize r.kids.any (c_Z i)=y;generalize a_i d.rules r=z
 cases a <;> cases b <;> cases x <;> cases y <;> cases z <;> rfl
theorem p_f (n:Nat)(hn:14<=n)(d:c_)(hd:SmD d):h_c n d=some (a_7 d):=by
 unfold h_c a_7
 rw [b_z,c_O (fun i=>!d_0 d.rules i) false (fun k hk _=>by rw [p_d n hn d hd hk];simp only [bd_some];exact d_q _ _)]
 generalize (decide (1<=(d.rules.length:Int)) && decide ((d.rules.length:Int)<=24))=a;generalize (List.range d.rules.length).any (fun i=>!d_0 d.rules i)=b
 cases a <;> cases b <;> rfl
theorem p_g (d:c_)(hd:SmD d):g_Y d=some (a_7 d):=by
 unfold g_Y a_7
 rw [b_j,c_O (fun i=>!d_0 d.rules i) false (fun k hk _=>by rw [p_e d hd hk];simp only [bd_some];exact d_q _ _)]
 generalize (decide (1<=(d.rules.length:Int)) && decide ((d.rules.length:Int)<=24))=a;generalize (List.range d.rules.length).any (fun i=>!d_0 d.rules i)=b
 cases a <;> cases b <;> rfl
def b_q (d:c_)(r:Int):Bool:=decide (0<=r) && decide (r<(d.rules.length:Int))
theorem i_z (n:Nat)(hn:14<=n)(d:c_)(hd:SmD d)(r:Int):e_y n d r=some (a_7 d && b_q d r):=by
 unfold e_y d_V b_q
 rw [p_f n hn d hd]
 generalize a_7 d=a;generalize decide (0<=r)=b;generalize decide (r<(d.rules.length:Int))=c
 cases a <;> cases b <;> rfl
theorem g_t (d:c_)(hd:SmD d)(r:Int):e_w d r=some (a_7 d && b_q d r):=by
 have hMX:MX=1048576:=rfl;have hdl:=hd.rules;unfold e_w b_q
 rw [p_g d hd,b_j,b_7 (x:=(d.rules.length:Int)) (by omega) (by omega),show decide (r<=(d.rules.length:Int) - 1)=decide (r<(d.rules.length:Int)) from decide_eq_decide.2 (by omega)]
 generalize a_7 d=a;generalize decide (0<=r)=b;generalize decide (r<(d.rules.length:Int))=c
 cases a <;> cases b <;> cases c <;> rfl
end Go.Vw
namespace Go.Vw
open Go.RowKit Dat
def b_v (n:Int)(c:UInt8):Int:=n * 256+byteI c
def d_s (bs:List UInt8)(little:Bool):Int:=(if little=true then bs.reverse else bs).foldl b_v 0
theorem d_M {α β:Type}(f:β->α->β)(a:β){l:List α}{k:Nat}(h:k<l.length):(l.take<|k+1).foldl f a=f ((l.take k).foldl f a) l[k]:=by
 rw [List.take_add_one,gG_ h,Option.toList_some,List.foldl_append];rfl
theorem m_p (l:List UInt8):0<=l.foldl b_v 0/\l.foldl b_v 0<256 ^ l.length:=by
 have:∀k,k<=l.length->0<=(l.take k).foldl b_v 0/\(l.take k).foldl b_v 0<256 ^ k:=by
  intro k
  induction k with
  | zero=>intro _;simp
  | succ k ih =>
   intro hk;obtain ⟨h1,h2⟩:=ih (by omega)
   rw [d_M b_v 0 (show k<l.length by omega)]
   have h3:=e_U l[k];have h4:=e_V l[k];generalize (l.take k).foldl b_v 0=z at *
   unfold b_v
   rw [Int.pow_succ]
   omega
 have h:=this l.length<|Nat.le_refl _
 simpa using h
theorem i_J (l:List UInt8)(h:l.length<=4):0<=l.foldl b_v 0/\l.foldl b_v 0<4294967296:=by
 obtain ⟨h1,h2⟩:=m_p l;refine ⟨h1,?_⟩;have:l.length=0∨l.length=1∨l.length=2∨l.length=3∨l.length=4:=by omega
 rcases this with h | h | h | h | h <;> rw [h] at h2 <;> omega
theorem p_R (bs:List UInt8)(e:Bool)(h:bs.length<=4):0<=d_s bs e/\d_s bs e<4294967296:=by
 unfold d_s
 cases e
 ·exact i_J bs h
 ·exact i_J bs.reverse (by simpa using h)
theorem m_q {bs:List UInt8}{k:Nat}(hk:k<bs.length)(hb:bs.length<=4)(e:Bool):idx bs (if e=true then r_ (r_ (bs.length:Int) 1) (k:Int) else (k:Int))=some ((if e=true then bs.reverse else bs)[k]'(by cases e <;> simpa using hk)):=by
 cases e
 ·exact ix_ hk
 ·rw [iP_ rfl,b_7 (x:=(bs.length:Int)) (by omega) (by omega),b_7 (by omega) (by omega),i_Y (by omega) (by omega)]
  simp only [fT_]
  rw [List.getElem_reverse]
  congr 2
  omega
theorem p_S (bs:List UInt8)(e:Bool)(hb:bs.length<=4):g_Z bs e=some (d_s bs e):=by
 unfold g_Z
 rw [dF_ (show ¬(4:Int)<(bs.length:Int) by omega)]
 have hl:(if e=true then bs.reverse else bs).length=bs.length:=by cases e <;> simp
 have h:=c_9 (n:=bs.length) (σ:=Int) (ρ:=Int) (body:=(fun G=>(fun I=>bd (α:=Int) (if e=true then some (r_ (r_ (bs.length:Int) 1) ((G:Nat):Int)) else some ((G:Nat):Int))<|fun J=>bd (idx bs J) fun H=>some<|.next<|m_ (a_f I 256)<|byteI H)))
  (fun k=>((if e=true then bs.reverse else bs).take k).foldl b_v 0) (fun j hj=>by
   have L:=i_J ((if e=true then bs.reverse else bs).take j) (by simp;omega)
   rw [p_1,bd_some,m_q hj hb e,bd_some,d_M b_v 0 (by rw [hl];exact hj)]
   generalize (if e=true then bs.reverse else bs)[j]'(by rw [hl];exact hj)=c at *
   have h3:=e_U c;have h4:=e_V c
   rw [e_p (by omega) (by omega),ia_ (by omega) (by omega)]
   rfl)
 simp only [List.take_zero,List.foldl_nil] at h
 rw [h]
 simp only [bF_,fF_,bd_some,el_inl]
 unfold d_s
 rw [List.take_of_length_le (by omega)]
theorem m_r {n:Int}{c:UInt8}(G:0<=n)(h1:n<4294967296):b_n .i64 (· ||| ·) (b_3 .i64 n 8) (byteI c)=b_v n c:=by
 have e:b_3 .i64 n 8=n * 256:=by
  unfold b_3
  rw [show (min (8:Int).toNat IntKind.i64.bits)=8 from rfl,IntKind.wrap_i64]
  omega
 rw [e]
 unfold b_n b_v;obtain ⟨m,rfl⟩:=Int.eq_ofNat_of_zero_le G;have hc:=c.toNat_lt;have hm:m<4294967296:=by omega
 have H:BitVec.ofInt IntKind.i64.bits ((m:Int) * 256)=BitVec.ofNat 64 (m * 256):=by
  rw [show ((m:Int) * 256)=((m * 256:Nat):Int) by omega];exact BitVec.ofInt_natCast 64 _
 have I:BitVec.ofInt IntKind.i64.bits (byteI c)=BitVec.ofNat 64 c.toNat:=by
  unfold byteI;exact BitVec.ofInt_natCast 64 _
 show IntKind.i64.wrap ((BitVec.ofInt IntKind.i64.bits ((m:Int) * 256) ||| BitVec.ofInt IntKind.i64.bits (byteI c)).toNat:Int)=_
 rw [H,I]
 have J:(BitVec.ofNat 64 (m * 256) ||| BitVec.ofNat 64 c.toNat).toNat=m * 256+c.toNat:=by
  rw [BitVec.toNat_or,BitVec.toNat_ofNat,BitVec.toNat_ofNat,Nat.mod_eq_of_lt (by omega),Nat.mod_eq_of_lt (by omega)]
  have:=Nat.shiftLeft_add_eq_or_of_lt (i:=8) (b:=c.toNat) (by omega) m
  rw [Nat.shiftLeft_eq] at this
  exact this.symm
 have L:((BitVec.ofNat 64 (m * 256) ||| BitVec.ofNat 64 c.toNat:BitVec IntKind.i64.bits).toNat:Int)=(m:Int) * 256+(c.toNat:Int):=by
  rw [show (BitVec.ofNat 64 (m * 256) ||| BitVec.ofNat 64 c.toNat:BitVec IntKind.i64.bits).toNat=m * 256+c.toNat from J];omega
 refine (congrArg IntKind.i64.wrap L).trans ?_
 rw [IntKind.wrap_i64]
 unfold byteI
 omega
theorem p_T (bs:List UInt8)(e:Bool)(hb:bs.length<=4):h_d bs e=some (d_s bs e):=by
 unfold h_d
 rw [dF_ (show ¬(4:Int)<(bs.length:Int) by omega)]
 have hl:(if e=true then bs.reverse else bs).length=bs.length:=by cases e <;> simp
 have h:=c_9 (n:=bs.length) (σ:=Int) (ρ:=Int) (body:=(fun H=>(fun I=>bd (α:=Int) (if e=true then bd (idx bs<|r_ (r_ (bs.length:Int) 1) ((H:Nat):Int)) fun J=>some (b_n .i64 (· ||| ·) (b_3 .i64 I 8)<|byteI J) else bd (idx bs ((H:Nat):Int)) fun L=>some<|b_n .i64 (· ||| ·) (b_3 .i64 I 8)<|byteI L)<|fun O=>some<|.next O)))
  (fun k=>((if e=true then bs.reverse else bs).take k).foldl b_v 0) (fun j hj=>by
   have G:=i_J ((if e=true then bs.reverse else bs).take j) (by simp;omega);have hbt:=m_q hj hb e
   rw [d_M b_v 0 (by rw [hl];exact hj)]
   cases e
   ·simp only [bF_,fF_] at hbt G ⊢
    rw [hbt,bd_some,bd_some,m_r G.1 G.2]
   ·simp only [fT_] at hbt G ⊢
    rw [hbt,bd_some,bd_some,m_r G.1 G.2])
 simp only [List.take_zero,List.foldl_nil] at h
 rw [h]
 simp only [bF_,fF_,bd_some,el_inl]
 unfold d_s
 rw [List.take_of_length_le (by omega)]
def c_s (n:Int)(c:UInt8):Int:=n+byteI c
def b_V (bs:List UInt8):Int:=bs.foldl c_s 0 % 256
theorem k_2 (bs:List UInt8)(k:Nat)(hk:k<=bs.length):0<=(bs.take k).foldl c_s 0/\(bs.take k).foldl c_s 0<=256 * k:=by
 induction k with
 | zero=>simp
 | succ k ih =>
  obtain ⟨h1,h2⟩:=ih (by omega)
  rw [d_M c_s 0 (show k<bs.length by omega)]
  have h3:=e_U bs[k];have h4:=e_V bs[k];generalize (bs.take k).foldl c_s 0=z at *
  unfold c_s
  omega
theorem m_s (bs:List UInt8)(hb:bs.length<=MX):e_z bs=some (b_V bs):=by
 have hMX:MX=1048576:=rfl;unfold e_z b_V
 have h:=c_9 (n:=bs.length) (σ:=Int) (ρ:=Int) (body:=(fun G=>(fun H=>bd (idx bs ((G:Nat):Int)) fun I=>some (.next (m_ H (byteI I)))))) (fun k=>(bs.take k).foldl c_s 0) (fun j hj=>by
  have hbd:=k_2 bs j (by omega);have h3:=e_U bs[j];have h4:=e_V bs[j]
  rw [ix_ hj,bd_some,d_M c_s 0 hj,ia_ (by omega) (by omega)]
  rfl)
 simp only [List.take_zero,List.foldl_nil] at h
 rw [h]
 have hbd:=k_2 bs bs.length<|Nat.le_refl _
 rw [List.take_of_length_le (Nat.le_refl _)] at hbd ⊢
 simp only [bd_some,el_inl]
 rw [i_X hbd.1]
theorem m_t (bs:List UInt8):f_n bs=some (b_V bs):=by
 have hMX:MX=1048576:=rfl;unfold f_n b_V
 have h:=c_9 (n:=bs.length) (σ:=Int) (ρ:=Int) (body:=(fun G=>(fun H=>bd (idx bs ((G:Nat):Int)) fun I=>some (.next (b_2 (m_ H (byteI I)) 256))))) (fun k=>(bs.take k).foldl c_s 0 % 256) (fun j hj=>by
  have hbd:=k_2 bs j (by omega);have h3:=e_U bs[j];have h4:=e_V bs[j]
  rw [ix_ hj,bd_some,d_M c_s 0 hj,ia_ (by omega) (by omega),i_X (by omega)]
  generalize (bs.take j).foldl c_s 0=z at *
  unfold c_s
  congr 2
  omega)
 simp only [List.take_zero,List.foldl_nil] at h
 rw [show ((0:Int) % 256)=0 from rfl] at h
 rw [h]
 rw [List.take_of_length_le (Nat.le_refl _)]
 rfl
def c_J (b:List UInt8)(t:UInt8):Nat->List UInt8->Nat->Option (List UInt8×Nat)
 | 0,_,_=>none
 | f+1,acc,p=>match b[p]? with
  | none=>none
  | some c=>if c=t then some (acc,p+1) else if c=92 then (match b[p+1]? with
    | none=>none
    | some c'=>c_J b t f (acc++[c']) (p+2)) else c_J b t f (acc++[c]) (p+1)
def i_K (o:Option (List UInt8×Nat)):Sum (List UInt8×Int) (List UInt8×Int×Bool)->Prop:=fun s=>match o with
 | some (c,q)=>s = .inr (c,(q:Int),true)
 | none=>∃x,s = .inl x
def c_t (b:List UInt8)(at_:Nat)(t:UInt8):Option (List UInt8×Nat):=c_J b t (b.length+1) [] at_
theorem beqB (a c:UInt8):(byteI a==byteI c)=decide (a=c):=by
 rw [Bool.eq_iff_iff];simp only [beq_iff_eq,dE_];exact g_K
theorem m_u (b:List UInt8)(t:UInt8)(hb:b.length<=MX)(step:List UInt8×Int->Option (Out (List UInt8×Int)<|List UInt8×Int×Bool))
  (hstep:∀acc (p:Nat),step (acc,(p:Int))=if decide ((p:Int)<(b.length:Int))=true then bd (idx b (p:Int)) fun I=>if ((byteI I)==(byteI t))=true then some (.ret (acc,m_ (p:Int) 1,true)) else bd (idx b (p:Int)) fun J=>bd (α:=Sum Int<|Out ((List UInt8)×Int)<|(List UInt8)×Int×Bool) (if ((byteI J)==(byteI (92:UInt8)))=true then if ((m_ (p:Int) 1)==(b.length:Int))=true then some (.inr<|.brk (acc,m_ (p:Int) 1)) else some (.inl<|m_ (p:Int) 1) else some (.inl (p:Int))) (el (fun H=>bd (idx b H) fun L=>bd (psh acc L) fun O=>some<|.next (O,m_ H 1)) some) else some (.brk (acc,(p:Int)))) :
  ∀f acc p,acc.length<=p->p<=b.length->b.length<p+f->∀n,f<=n->∃s,U_ step n (acc,(p:Int))=some s/\i_K (c_J b t f acc p) s:=by
 have hMX:MX=1048576:=rfl;have hLIM:LIM=4294967296:=rfl;intro f
 induction f with
 | zero=>intro acc p _ _ h;omega
 | succ f ih =>
  intro acc p hacc hp hf n hn;obtain ⟨m,rfl⟩:∃m,n=m+1:=⟨n - 1,by omega⟩;unfold U_ c_J
  rw [hstep]
  by_cases hlt:p<b.length
  ·rw [dT_ (show (p:Int)<(b.length:Int) by omega),ix_ hlt,gG_ hlt]
   simp only [fT_,bd_some,beqB]
   rw [ia_ (x:=(p:Int)) (by omega) (by omega)]
   by_cases ht:b[p]=t
   ·rw [dT_ ht,iP_ rfl,iP_ ht]
    exact ⟨_,rfl,by simp [i_K]⟩
   ·rw [dF_ ht,iN_ (by simp),iN_ ht]
    by_cases he:b[p]=92
    ·rw [dT_ he,iP_ rfl,iP_ he]
     by_cases hl:p+1<b.length
     ·have G:((p:Int)+1==(b.length:Int))=false:=by simp;omega
      rw [G,gG_ hl]
      simp only [bF_,fF_,bd_some,el_inl]
      rw [show (p:Int)+1=((p+1:Nat):Int) by omega,ix_ hl,bd_some,a_X (by omega),bd_some,ia_ (by omega) (by omega)]
      obtain ⟨s,h1,h2⟩:=ih (acc++[b[p+1]]) (p+2) (by simp;omega) (by omega) (by omega) m (by omega);refine ⟨s,?_,h2⟩
      rw [← h1]
      simp only
      congr 2
     ·have G:((p:Int)+1==(b.length:Int))=true:=by simp;omega
      rw [G,gN_ (by omega)]
      exact ⟨_,rfl,_,rfl⟩
    ·rw [dF_ he,iN_ (by simp),iN_ he]
     simp only [bd_some,el_inl]
     rw [ix_ hlt,bd_some,a_X (by omega),bd_some,ia_ (by omega) (by omega)]
     obtain ⟨s,h1,h2⟩:=ih (acc++[b[p]]) (p+1) (by simp;omega) (by omega) (by omega) m (by omega);refine ⟨s,?_,h2⟩
     rw [← h1]
     simp only
     congr 2
  ·rw [dF_ (show ¬(p:Int)<(b.length:Int) by omega),gN_ (by omega)]
   exact ⟨_,rfl,_,rfl⟩
def i_L (o:Option (List UInt8×Nat))(at_:Nat):List UInt8×Int×Bool:=match o with
 | some (c,q)=>(c,(q:Int),true)
 | none=>([],(at_:Int),false)
theorem p_U (n:Nat)(b:List UInt8)(at_:Nat)(t:UInt8)(hb:b.length<=MX)(ha:at_<=b.length)(hn:b.length+1<=n):h_e n b at_ t=some (i_L (c_t b at_ t) at_):=by
 unfold h_e c_t
 rw [dF_ (show ¬(at_:Int)<0 by omega),dF_ (show ¬(b.length:Int)<(at_:Int) by omega)]
 simp only [bF_,fF_,bd_some]
 obtain ⟨s,h1,h2⟩:=m_u b t hb (un2 fun H G=>if (decide<|G<(b.length:Int))=true then bd (idx b G) fun J=>if ((byteI J)==(byteI t))=true then some (.ret (H,m_ G 1,true)) else bd (idx b G) fun L=>bd (α:=Sum Int<|Out ((List UInt8)×Int)<|(List UInt8)×Int×Bool) (if ((byteI L)==(byteI (92:UInt8)))=true then if ((m_ G 1)==(b.length:Int))=true then some (.inr<|.brk (H,m_ G 1)) else some (.inl<|m_ G 1) else some (.inl G)) (el (fun I=>bd (idx b I) fun O=>bd (psh H O) fun V=>some<|.next (V,m_ I 1)) some) else some (.brk (H,G))) (fun acc p=>rfl) (b.length+1) [] at_ (by simp) ha (by omega) n hn
 rw [h1,bd_some]
 unfold i_K at h2
 unfold i_L
 cases ho:c_J b t (b.length+1) [] at_ with
 | none=>rw [ho] at h2;obtain ⟨x,rfl⟩:=h2;rfl
 | some x=>rw [ho] at h2;simp only at h2;subst h2;rfl
theorem p_V (n:Nat)(b:List UInt8)(at_:Nat)(t:UInt8)(hb:b.length<=MX)(ha:at_<=b.length)(hn:b.length+1<=n):h_1 n b at_ t=some (i_L (c_t b at_ t) at_):=by
 unfold h_1 c_t
 have hin:a_L (at_:Int) 0 (b.length:Int)=some true:=by
  rw [b_j,dT_ (show (0:Int)<=(at_:Int) by omega),dT_ (show (at_:Int)<=(b.length:Int) by omega)];rfl
 obtain ⟨s,h1,h2⟩:=m_u b t hb (un2 fun H G=>bd (α:=Bool) (bd (a_L (at_:Int) 0 (b.length:Int)) fun J=>if J=true then some (decide<|G<(b.length:Int)) else some false) (fun L=>if L=true then bd (idx b G) fun O=>if ((byteI O)==(byteI t))=true then some (.ret (H,m_ G 1,true)) else bd (idx b G) fun V=>bd (α:=Sum Int<|Out ((List UInt8)×Int)<|(List UInt8)×Int×Bool) (if ((byteI V)==(byteI (92:UInt8)))=true then if ((m_ G 1)==(b.length:Int))=true then some (.inr<|.brk (H,m_ G 1)) else some (.inl<|m_ G 1) else some (.inl G)) (el (fun I=>bd (idx b I) fun W=>bd (psh H W) fun Y=>some<|.next (Y,m_ I 1)) some) else some (.brk (H,G)))) (fun acc p=>by simp only [un2,hin,bd_some,fT_]) (b.length+1) [] at_ (by simp) ha (by omega) n hn
 rw [h1,bd_some]
 unfold i_K at h2
 unfold i_L
 cases ho:c_J b t (b.length+1) [] at_ with
 | none=>rw [ho] at h2;obtain ⟨x,rfl⟩:=h2;rfl
 | some x=>rw [ho] at h2;simp only at h2;subst h2;rfl
theorem i_M {b:List UInt8}{t:UInt8}:∀f acc p c q,c_J b t f acc p=some (c,q)->p<q/\q<=b.length
 | 0,_,_,_,_,h=>by cases h
 | f+1,acc,p,c,q,h=>by
  unfold c_J at h
  by_cases hlt:p<b.length
  ·rw [gG_ hlt] at h
   simp only at h
   split at h
   ·cases h;omega
   ·split at h
    ·by_cases hl:p+1<b.length
     ·rw [gG_ hl] at h
      have:=i_M f _ _ _ _ h
      omega
     ·rw [gN_ (by omega)] at h
      cases h
    ·have:=i_M f _ _ _ _ h
     omega
  ·rw [gN_ (by omega)] at h
   cases h
end Go.Vw
