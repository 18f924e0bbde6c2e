
import Derived.Test.YthlifogbkgdggaaGreatDoorVmB
namespace Go.Vw
open Go.RowKit Dat
def MX:Nat:=1048576
structure SmR (r:g_):Prop where
 name:r.name.b.length<=MX
 bytes:r.bytes.length<=MX
 names:r.names.length<=MX
 tags:r.tags.length<=MX
 kids:r.kids.length<=MX
 each:∀s∈r.names,s.b.length<=MX
structure SmD (d:d_):Prop where
 rules:d.rules.length<=MX
 each:∀r∈d.rules,SmR r
theorem m_b {α:Type}{c:Prop}[Decidable c](x y:α):(if c then some x else some y)=some (if c then x else y):=by split <;> rfl
theorem c_C {ρ:Type}{c:Bool}(x y:Out Unit ρ):(if c=true then some x else some y)=some (if c=true then x else y):=by split <;> rfl
def lowC (c:UInt8):Bool:=decide (byteI (97:UInt8)<=byteI c) && decide (byteI c<=byteI (122:UInt8))
def digC (c:UInt8):Bool:=decide (byteI (48:UInt8)<=byteI c) && decide (byteI c<=byteI (57:UInt8))
theorem j_H (c:UInt8):lowC c=(decide (97<=(c.toNat:Int)) && decide ((c.toNat:Int)<=122)):=rfl
theorem j_I (c:UInt8):digC c=(decide (48<=(c.toNat:Int)) && decide ((c.toNat:Int)<=57)):=rfl
theorem i_5 (k:Nat):((k:Int)==0)=(k==0):=by
 rw [Bool.eq_iff_iff];simp
def b_3 (s:Str)(k:Nat):Bool:=match s.b[k]? with
 | some c=>!lowC c && (!digC c || k==0)
 | none=>false
def a_X (s:Str):Bool:=!((List.range s.b.length).any (b_3 s)) && (decide (1<=s.b.length) && decide (s.b.length<=12))
theorem b_4 (x lo hi:Int):a_s x lo hi=some (decide (lo<=x) && decide (x<=hi)):=by
 unfold a_s;generalize decide (lo<=x)=a;generalize decide (x<=hi)=b
 cases a <;> rfl
theorem e_a (x lo hi:Int):b_p x lo hi=some (decide (lo<=x) && decide (x<=hi)):=by
 unfold b_p;generalize decide (lo<=x)=a;generalize decide (x<=hi)=b
 cases a <;> rfl
theorem j_J (s:Str):e_r s=some (a_X s):=by
 unfold e_r
 rw [d_b (b_3 s) false]
 ·unfold a_X
  cases (List.range s.b.length).any (b_3 s)
  ·have G:decide ((1:Int)<=s.b.length)=decide (1<=s.b.length):=decide_eq_decide.2 (by omega);have H:decide ((s.b.length:Int)<=12)=decide (s.b.length<=12):=decide_eq_decide.2 (by omega)
   simp only [bF_,fF_,bd_some,el_inl,b_4,G,H,Bool.not_false,Bool.true_and]
  ·rfl
 ·intro k hk _
  simp only [ix_ hk,bd_some,b_3,gG_ hk,lowC,digC,i_5]
  generalize decide (byteI (97:UInt8)<=byteI s.b[k])=a;generalize decide (byteI s.b[k]<=byteI (122:UInt8))=b;generalize decide (byteI (48:UInt8)<=byteI s.b[k])=c;generalize decide (byteI s.b[k]<=byteI (57:UInt8))=d;generalize (k==0)=e
  cases a <;> cases b <;> cases c <;> cases d <;> cases e <;> rfl
theorem j_K (n:Nat)(hn:14<=n)(s:Str):d_K n s=some (a_X s):=by
 unfold d_K
 by_cases h1:s.b.length<1
 ·have:a_X s=false:=by unfold a_X;simp [show ¬1<=s.b.length by omega]
  rw [this];simp [show ((s.b.length:Int)<1) by omega]
 by_cases h2:12<s.b.length
 ·have:a_X s=false:=by unfold a_X;simp [show ¬s.b.length<=12 by omega]
  rw [this];simp [show ¬((s.b.length:Int)<1) by omega,show ((12:Int)<s.b.length) by omega]
 have V:decide ((s.b.length:Int)<1)=false:=by simp;omega
 have W:decide ((12:Int)<(s.b.length:Int))=false:=by simp;omega
 rw [V,W]
 simp only [bF_,fF_,bd_some]
 have hstep:∀k,k<s.b.length->b_3 s k=false->∀{ρ:Type}(x:Nat->ρ),x (k+(dec s k).2)=x (k+1):=by
  intro k hk hb ρ x
  rw [k_r hk]
  have hb':b_3 s k=(!lowC s.b[k] && (!digC s.b[k] || k==0)):=by unfold b_3;rw [gG_ hk]
  rw [hb'] at hb
  rw [j_H,j_I] at hb
  simp only [Bool.and_eq_false_iff,Bool.not_eq_false',Bool.or_eq_false_iff,aE_,dE_] at hb
  omega
 have hgood:∀k (hk:k<s.b.length),b_3 s k=(bd (α:=Bool) (if (decide<|97<=((dec s k).1))=true then some (decide<|((dec s k).1)<=122) else some false) (fun H=>bd (α:=Bool) (if (decide<|48<=((dec s k).1))=true then some (decide<|((dec s k).1)<=57) else some false) (fun I=>bd (α:=Bool) (if (!H)=true then if (!I)=true then some true else some ((k:Int)==0) else some false) some))).getD false /\
   (bd (α:=Bool) (if (decide<|97<=((dec s k).1))=true then some (decide<|((dec s k).1)<=122) else some false) (fun H=>bd (α:=Bool) (if (decide<|48<=((dec s k).1))=true then some (decide<|((dec s k).1)<=57) else some false) (fun I=>bd (α:=Bool) (if (!H)=true then if (!I)=true then some true else some ((k:Int)==0) else some false) (fun J=>if J=true then some (.ret false) else some (.next<|k+(dec s k).2)))))=some (if b_3 s k=true then (.ret false:Out Nat Bool) else .next (k+(dec s k).2)):=by
  intro k hk;have hb':b_3 s k=(!lowC s.b[k] && (!digC s.b[k] || k==0)):=by unfold b_3;rw [gG_ hk]
  rw [hb']
  rw [j_H,j_I]
  rw [i_5]
  by_cases ha:s.b[k].toNat<128
  ·rw [k_r hk ha]
   simp only
   generalize (s.b[k].toNat:Int)=c;generalize decide (97<=c)=a;generalize decide (c<=122)=b;generalize decide (48<=c)=c';generalize decide (c<=57)=d;generalize (k==0)=e
   cases a <;> cases b <;> cases c' <;> cases d <;> cases e <;> exact ⟨rfl,rfl⟩
  ·have hd:=n_D hk (by omega);generalize (dec s k).1=c at hd
   generalize (dec s k).2=c2;have g1:97<=c:=by omega
   have O:¬c<=122:=by omega
   have Y:48<=c:=by omega
   have g4:¬c<=57:=by omega
   have k2:¬(s.b[k].toNat:Int)<=122:=by omega
   have k4:¬(s.b[k].toNat:Int)<=57:=by omega
   simp [g1,O,Y,g4,k2,k4]
 have hit:a_6 (σ:=Nat) (ρ:=Bool) (fun G=>if (decide<|G<s.b.length)=true then bd (α:=Bool) (if (decide<|97<=((dec s G).1))=true then some (decide<|((dec s G).1)<=122) else some false) (fun H=>bd (α:=Bool) (if (decide<|48<=((dec s G).1))=true then some (decide<|((dec s G).1)<=57) else some false) (fun I=>bd (α:=Bool) (if (!H)=true then if (!I)=true then some true else some ((G:Int)==0) else some false) (fun J=>if J=true then some (.ret false) else some (.next<|G+(dec s G).2)))) else some (.brk G)) n 0=some (if (List.range s.b.length).any (b_3 s)=true then .inr false else .inl s.b.length):=by
  cases hf:(List.range s.b.length).find? (b_3 s) with
  | none =>
   have hall:∀k,k<s.b.length->b_3 s k=false:=fun k hk=>by simpa using List.find?_eq_none.1 hf k (List.mem_range.2 hk)
   have hany:(List.range s.b.length).any (b_3 s)=false:=by rw [List.any_eq_false];exact fun x hx=>by simpa using List.find?_eq_none.1 hf x hx
   rw [hany]
   refine n_B (fun k=>k) (j0:=s.b.length) (by omega) (fun k hk=>?_) ?_
   ·simp only [hk,decide_true,fT_]
    rw [(hgood k hk).2,hall k hk]
    simp only [bF_,fF_]
    rw [hstep k hk (hall k hk) (fun x=>some<|Out.next x)]
   ·simp
  | some k =>
   have hany:(List.range s.b.length).any (b_3 s)=true:=List.any_eq_true.2 ⟨k,List.mem_of_find?_eq_some hf,List.find?_some hf⟩
   rw [hany]
   obtain ⟨hp,as,bs,hl,has⟩:=List.find?_eq_some_iff_append.1 hf;have hk:k<s.b.length:=List.mem_range.1<|List.mem_of_find?_eq_some hf
   have hbef:∀j,j<k->b_3 s j=false:=by
    intro j hj;have hlen:as.length<s.b.length:=by have:=congrArg List.length hl;simp at this;omega
    have hke:as.length=k:=by
     have h2:(List.range s.b.length)[as.length]? = some k:=by rw [hl];simp
     rw [List.getElem?_range hlen] at h2
     exact Option.some.inj h2
    have hj':j<as.length:=by omega
    have h2:(List.range s.b.length)[j]? = some (as[j]):=by rw [hl,List.getElem?_append_left hj'];simp
    rw [List.getElem?_range (by omega)] at h2
    have h3:=has as[j] (gE_ hj')
    rw [← Option.some.inj h2] at h3
    simpa using h3
   refine n_C (fun k=>k) (j0:=k) (by omega) (fun j hj=>?_) ?_
   ·have L:j<s.b.length:=by omega
    simp only [L,decide_true,fT_]
    rw [(hgood j L).2,hbef j hj]
    simp only [bF_,fF_]
    rw [hstep j L (hbef j hj) (fun x=>some<|Out.next x)]
   ·simp only [hk,decide_true,fT_]
    rw [(hgood k hk).2,hp]
    rfl
 rw [hit]
 unfold a_X;have g1:decide (1<=s.b.length)=true:=dT_ (by omega);have O:decide (s.b.length<=12)=true:=dT_ (by omega)
 rw [g1,O]
 cases (List.range s.b.length).any (b_3 s) <;> rfl
def plain (r:g_)(a b c d:Bool)(k:Int):Bool:=(a || r.size==0) && ((b || (r.bytes.length:Int)==0) && ((c || (r.names.length:Int)==0) && ((d || (r.tags.length:Int)==0) && (decide (k<0) || (r.kids.length:Int)==k))))
theorem i_6 (r:g_)(a b c d:Bool)(k:Int):b_J r a b c d k=some (plain r a b c d k):=by
 unfold b_J plain;generalize (r.size==0)=G;generalize ((r.bytes.length:Int)==0)=H;generalize ((r.names.length:Int)==0)=I;generalize ((r.tags.length:Int)==0)=J;generalize decide (k<0)=L;generalize ((r.kids.length:Int)==k)=O
 cases a <;> cases G <;> try rfl
 all_goals cases b <;> cases H <;> try rfl
 all_goals cases c <;> cases I <;> try rfl
 all_goals cases d <;> cases J <;> try rfl
 all_goals cases L <;> rfl
theorem m_c (r:g_)(a b c d:Bool)(k:Int):b_I r a b c d k=some (plain r a b c d k && (!r.little || r.kind==1)):=by
 unfold b_I plain;generalize (r.size==0)=G;generalize ((r.bytes.length:Int)==0)=H;generalize ((r.names.length:Int)==0)=I;generalize ((r.tags.length:Int)==0)=J;generalize decide (k<0)=L;generalize ((r.kids.length:Int)==k)=O;generalize (r.kind==1)=W;generalize r.little=V
 cases a <;> cases G <;> try rfl
 all_goals cases b <;> cases H <;> try rfl
 all_goals cases c <;> cases I <;> try rfl
 all_goals cases d <;> cases J <;> try rfl
 all_goals cases L <;> cases O <;> cases V <;> rfl
def lim (rs:List g_)(i:Int):Int:=match idx rs i with
 | some r=>if r.kind=1/\1<=r.size/\r.size<=4 then 256 ^ r.size.toNat - 1 else -1
 | none=>-1
theorem j_L {α:Type}{l:List α}{i:Int}(h:¬(0<=i/\i<l.length)):idx l i=none:=by
 unfold idx;split
 ·rw [gN_];omega
 ·rfl
theorem g_L {s:Int}(h1:1<=s)(h4:s<=4):G_ (b_8 .i64 1<|a_2 8 s) 1=256 ^ s.toNat - 1/\nn (a_2 8 s)=some ():=by
 have:s=1∨s=2∨s=3∨s=4:=by omega
 rcases this with rfl | rfl | rfl | rfl <;> exact ⟨by decide,by decide⟩
theorem j_M (d:d_)(i:Int):d_L d i=some (lim d.rules i):=by
 unfold d_L b_T lim
 by_cases h:0<=i/\i<d.rules.length
 ·obtain ⟨G,h1⟩:=h
  rw [dT_ G,dT_ h1,d_a G (by omega)]
  generalize d.rules[i.toNat]=r
  simp only [fT_,bd_some,e_a]
  by_cases hk:r.kind=1
  ·by_cases H:1<=r.size
   ·by_cases I:r.size<=4
    ·simp [hk,H,I,(g_L H I).1,(g_L H I).2]
    ·simp [hk,H,I]
   ·simp [hk,H]
  ·simp [hk]
 ·rw [j_L h]
  by_cases G:0<=i
  ·have h1:¬i<d.rules.length:=fun h1=>h ⟨G,h1⟩
   simp [G,h1]
  ·simp [G]
theorem j_N (d:d_)(i:Int)(hd:d.rules.length<=MX):d_G d i=some (lim d.rules i):=by
 unfold d_G lim
 rw [b_4]
 have hMX:MX=1048576:=rfl;have e:G_ (d.rules.length:Int) 1=(d.rules.length:Int) - 1:=a_y (by omega) (by omega)
 rw [e]
 by_cases h:0<=i/\i<d.rules.length
 ·obtain ⟨G,h1⟩:=h
  rw [dT_ G,dT_ (show i<=(d.rules.length:Int) - 1 by omega),d_a G (by omega)]
  generalize d.rules[i.toNat]=r
  simp only [bd_some,b_4,c_L]
  by_cases hk:r.kind=1
  ·by_cases H:1<=r.size
   ·by_cases I:r.size<=4
    ·simp [hk,H,I,(g_L H I).1,(g_L H I).2]
    ·simp [hk,H,I]
   ·simp [hk,H]
  ·simp [hk]
 ·rw [j_L h]
  by_cases G:0<=i
  ·have h1:¬i<=(d.rules.length:Int) - 1:=fun h1=>h ⟨G,by omega⟩
   simp [G,h1]
  ·simp [G]
def d_z (l:List Str)(s:Str):Bool:=l.any<|fun x=>x.b==s.b
theorem m_d (l:List Str)(s:Str):e_w l s=some (d_z l s):=by
 unfold e_w d_z
 rw [e_i (fun x=>x.b==s.b) true (fun k hk=>by simp only [ix_ hk,bd_some];exact c_C _ _)]
 cases l.any (fun x=>x.b==s.b) <;> rfl
theorem m_e (l:List Str)(s:Str):f_s l s=some (d_z l s):=by
 unfold f_s d_z
 rw [e_i (fun x=>x.b==s.b) true (fun k hk=>by simp only [ix_ hk,bd_some];exact c_C _ _)]
 cases l.any (fun x=>x.b==s.b) <;> rfl
def b_O (l:List Str)(k:Nat):Bool:=match l[k]? with
 | some s=>!a_X s || d_z (l.take k) s
 | none=>false
def b_Z (m:Int)(l:List Int)(k:Nat):Bool:=match l[k]? with
 | some t=>!(decide (0<=t) && decide (t<=m)) || (decide (0<(k:Int)) && decide (t<=l.getD (k - 1) 0))
 | none=>false
def b_u (n:Nat):Bool:=decide (1<=(n:Int)) && decide ((n:Int)<=8)
def C_ (r:g_):Int:=r.kids.getD 0 0
def a_8 (rs:List g_)(r:g_):Bool :=
 if r.kind==1 then plain r true false false false 0 && ((decide (1<=r.size) && decide (r.size<=4)) && (!r.little || decide (1<r.size)))
 else if r.kind==2 then plain r false true false false 0 && (decide (1<=(r.bytes.length:Int)) && decide ((r.bytes.length:Int)<=16))
 else if r.kind==3 then plain r true false false false 0 && (decide (1<=r.size) && decide (r.size<=64))
 else if r.kind==4 then plain r false false false false 1 && decide (0<lim rs (C_ r))
 else if r.kind==5 then plain r false false false false 2 && decide (0<lim rs (C_ r))
 else if r.kind==6 then plain r false false true false r.names.length && (!((List.range r.names.length).any (b_O r.names)) && b_u r.names.length)
 else if r.kind==7 then plain r false false false true ((r.tags.length:Int)+1) && (b_u r.tags.length && !((List.range r.tags.length).any (b_Z (lim rs<|C_ r) r.tags)))
 else if r.kind==8 then plain r false false false false 1
 else if r.kind==9 then plain r false false false false 1
 else if r.kind==10 then plain r false true false false 0 && ((r.bytes.length:Int)==1 && byteI (r.bytes.getD 0 0) != byteI (92:UInt8))
 else false
theorem c_0 {r:g_}{a b c d:Bool}{k:Int}(h:plain r a b c d k=true)(hk:0<=k):(r.kids.length:Int)=k:=by
 unfold plain at h
 simp only [aE_,Bool.or_eq_true,dE_,beq_iff_eq] at h
 omega
theorem j_O (r:g_)(a b c d:Bool)(k:Int):plain r a b c d k=(plain r a b c d (-1) && (decide (k<0) || (r.kids.length:Int)==k)):=by
 unfold plain;simp [Bool.and_assoc]
theorem i_7 {α:Type}{l:List α}{k:Nat}(h:k<=l.length):slc l 0 (k:Int)=some (l.take k):=by
 rw [h_3 (Int.le_refl 0) (by omega) (by omega)];simp
theorem j_P (rs:List g_)(i:Int):lim rs i = -1∨0<lim rs i:=by
 unfold lim
 cases idx rs i with
 | none=>exact .inl rfl
 | some r =>
  simp only
  by_cases h:r.kind=1/\1<=r.size/\r.size<=4
  ·rw [iP_ h]
   right
   obtain ⟨_,h1,h4⟩:=h;have:r.size=1∨r.size=2∨r.size=3∨r.size=4:=by omega
   rcases this with h | h | h | h <;> rw [h] <;> decide
  ·rw [iN_ h];exact .inl rfl
theorem a_m {α:Type}{l:List α}{k:Nat}{x:α}(h:k<l.length):l.getD k x=l[k]:=by simp [h]
theorem m_f (n:Nat)(hn:14<=n)(l:List Str):y_ (σ:=Unit) (ρ:=Bool) (fun G=>(fun (_:Unit)=>bd (idx l ((G:Nat):Int)) fun H=>bd (α:=Bool) (bd (d_K n H) fun I=>if (!I)=true then some true else bd (slc l 0 ((G:Nat):Int)) fun J=>bd (e_w J H) fun L=>some L) (fun O=>if O=true then some (.ret false) else some (.next ())))) l.length 0 ()=some (if (List.range l.length).any (b_O l)=true then .inr false else .inl ()):=by
 refine d_b (b_O l) false<|fun k hk _=>?_
 simp only [ix_ hk,bd_some,j_K n hn,i_7<|Nat.le_of_lt hk,m_d,b_O,gG_ hk]
 generalize a_X l[k]=a;generalize d_z (l.take k) l[k]=b
 cases a <;> cases b <;> rfl
theorem m_g (l:List Str):f_t l=some (!((List.range l.length).any (b_O l)) && b_u l.length):=by
 unfold f_t
 rw [d_b (b_O l) false]
 ·rw [b_4]
  unfold b_u
  cases (List.range l.length).any (b_O l) <;> rfl
 ·intro k hk _
  simp only [ix_ hk,bd_some,j_J,i_7<|Nat.le_of_lt hk,m_e,b_O,gG_ hk]
  generalize a_X l[k]=a;generalize d_z (l.take k) l[k]=b
  cases a <;> cases b <;> rfl
theorem m_h (n:Nat)(hn:14<=n)(r:g_):f_K n r=some (plain r false false true false r.names.length && (!((List.range r.names.length).any (b_O r.names)) && b_u r.names.length)):=by
 unfold f_K
 rw [m_f n hn,i_6,e_a,j_O r _ _ _ _ r.names.length]
 have I:decide ((r.names.length:Int)<0)=false:=dF_ (by omega)
 rw [I]
 unfold b_u;generalize (List.range r.names.length).any (b_O r.names)=a;generalize plain r false false true false (-1)=b
 by_cases h:(r.kids.length:Int)=r.names.length
 ·rw [h]
  have G:((r.names.length:Int)==(r.names.length:Int))=true:=by simp
  have H:((r.names.length:Int) != (r.names.length:Int))=false:=by simp
  rw [G,H]
  generalize (decide (1<=(r.names.length:Int)) && decide ((r.names.length:Int)<=8))=c
  cases a <;> cases b <;> cases c <;> rfl
 ·have G:((r.kids.length:Int)==(r.names.length:Int))=false:=by simpa using h
  have H:((r.kids.length:Int) != (r.names.length:Int))=true:=by simpa using h
  rw [G,H]
  cases a <;> cases b <;> rfl
theorem f_a {m:Int}{l:List Int}{k:Nat}(hk:k<l.length):b_Z m l k=(!(decide (0<=l[k]) && decide (l[k]<=m)) || (decide (0<(k:Int)) && decide (l[k]<=l.getD (k - 1) 0))):=by
 unfold b_Z;rw [gG_ hk]
theorem j_Q {l:List Int}{k:Nat}(hk:k<l.length)(G:0<k):idx l (G_ (k:Int) 1)=some (l.getD (k - 1) 0)∨¬l.length<=MX:=by
 by_cases hM:l.length<=MX
 ·left
  have hMX:MX=1048576:=rfl
  rw [a_y (by omega) (by omega),d_a (by omega) (by omega),a_m (by omega)]
  simp [show ((k:Int) - 1).toNat=k - 1 by omega]
 ·exact .inr hM
theorem m_i (m:Int)(l:List Int)(hl:l.length<=MX):y_ (σ:=Unit) (ρ:=Bool) (fun G=>(fun (_:Unit)=>bd (idx l ((G:Nat):Int)) fun I=>bd (α:=Bool) (bd (b_p I 0 m) fun J=>if (!J)=true then some true else if (decide<|0<((G:Nat):Int))=true then bd (idx l<|G_ ((G:Nat):Int) 1) fun L=>some (decide<|I<=L) else some false) (fun O=>if O=true then some (.ret false) else some (.next ())))) l.length 0 ()=some (if (List.range l.length).any (b_Z m l)=true then .inr false else .inl ()):=by
 refine d_b (b_Z m l) false<|fun k hk _=>?_
 simp only [ix_ hk,bd_some,e_a,f_a hk]
 by_cases V:0<k
 ·have e:=(j_Q hk V).resolve_right (fun h=>h hl);have H:decide (0<(k:Int))=true:=dT_ (by omega)
  rw [e,H]
  generalize decide (0<=l[k])=a;generalize decide (l[k]<=m)=b
  simp only [bd_some]
  generalize decide (l[k]<=l.getD (k - 1) 0)=c
  cases a <;> cases b <;> cases c <;> rfl
 ·have H:decide (0<(k:Int))=false:=dF_ (by omega)
  rw [H]
  generalize decide (0<=l[k])=a;generalize decide (l[k]<=m)=b
  cases a <;> cases b <;> rfl
theorem b_9 {r:g_}(h:0<r.kids.length):idx r.kids 0=some (C_ r):=by
 rw [b_o h,C_,a_m h]
theorem m_j (d:d_)(r:g_)(ht:r.tags.length<=MX):f_L d r=some (plain r false false false true ((r.tags.length:Int)+1) && (b_u r.tags.length && !((List.range r.tags.length).any (b_Z (lim d.rules<|C_ r) r.tags)))):=by
 have hMX:MX=1048576:=rfl;unfold f_L
 rw [i_6,e_a,ia_ (x:=(r.tags.length:Int)) (by omega) (by omega)]
 unfold b_u
 cases hp:plain r false false false true ((r.tags.length:Int)+1)
 ·rfl
 ·have hk:=c_0 hp (by omega)
  rw [b_9 (by omega)]
  simp only [bd_some,nT_,bF_,fF_,j_M,m_i _ _ ht]
  by_cases G:1<=(r.tags.length:Int)/\(r.tags.length:Int)<=8
  ·rw [dT_ G.1,dT_ G.2]
   cases ha:(List.range r.tags.length).any (b_Z (lim d.rules<|C_ r) r.tags)
   ·have hpos:0<lim d.rules (C_ r):=by
     rcases j_P d.rules (C_ r) with h | h
     ·exfalso
      have H:0<r.tags.length:=by omega
      have:=List.any_eq_false.1 ha 0<|List.mem_range.2 H
      rw [f_a H,h] at this
      simp only [Bool.or_eq_true,Bool.not_eq_true',Bool.and_eq_false_iff,decide_eq_false_iff_not] at this
      omega
     ·exact h
    rw [dT_ hpos]
    rfl
   ·rfl
  ·have:(decide (1<=(r.tags.length:Int)) && decide ((r.tags.length:Int)<=8))=false:=by
    rw [Bool.and_eq_false_iff]
    simp only [decide_eq_false_iff_not]
    omega
   rw [this]
   rfl
theorem m_k (d:d_)(r:g_)(hd:d.rules.length<=MX)(ht:r.tags.length<=MX):f_u d r=some (((r.kids.length:Int)==(r.tags.length:Int)+1) && (b_u r.tags.length && !((List.range r.tags.length).any (b_Z (lim d.rules<|C_ r) r.tags)))):=by
 have hMX:MX=1048576:=rfl;unfold f_u
 rw [ia_ (x:=(r.tags.length:Int)) (by omega) (by omega),b_4]
 unfold b_u
 by_cases hk:(r.kids.length:Int)=(r.tags.length:Int)+1
 ·have G:((r.kids.length:Int)==(r.tags.length:Int)+1)=true:=by simpa using hk
  have H:((r.kids.length:Int) != (r.tags.length:Int)+1)=false:=by simpa using hk
  rw [G,H]
  rw [d_b (b_Z (lim d.rules<|C_ r) r.tags) false]
  ·generalize (List.range r.tags.length).any (b_Z (lim d.rules<|C_ r) r.tags)=a;generalize (decide (1<=(r.tags.length:Int)) && decide ((r.tags.length:Int)<=8))=c
   cases a <;> cases c <;> rfl
  ·intro k hk' _
   simp only [ix_ hk',bd_some,b_9 (show 0<r.kids.length by omega),j_N d _ hd,b_4,f_a hk']
   by_cases J:0<k
   ·have e:=(j_Q hk' J).resolve_right (fun h=>h ht);have I:decide (0<(k:Int))=true:=dT_ (by omega)
    rw [e,I]
    generalize decide (0<=r.tags[k])=a;generalize decide (r.tags[k]<=lim d.rules (C_ r))=b
    simp only [bd_some]
    generalize decide (r.tags[k]<=r.tags.getD (k - 1) 0)=c
    cases a <;> cases b <;> cases c <;> rfl
   ·have I:decide (0<(k:Int))=false:=dF_ (by omega)
    rw [I]
    generalize decide (0<=r.tags[k])=a;generalize decide (r.tags[k]<=lim d.rules (C_ r))=b
    cases a <;> cases b <;> rfl
 ·have G:((r.kids.length:Int)==(r.tags.length:Int)+1)=false:=by simpa using hk
  have H:((r.kids.length:Int) != (r.tags.length:Int)+1)=true:=by simpa using hk
  rw [G,H]
  rfl
theorem m_l (n:Nat)(hn:14<=n)(d:d_)(r:g_)(ht:r.tags.length<=MX):f_M n d r=some (a_8 d.rules r):=by
 unfold f_M a_8
 rw [m_h n hn,m_j d r ht]
 simp only [i_6,e_a,j_M,bd_some]
 cases (r.kind==1) with
 | true =>
  generalize plain r true false false false 0=a;generalize (decide (1<=r.size) && decide (r.size<=4))=b;generalize decide (1<r.size)=c;generalize r.little=e
  cases a <;> cases b <;> cases c <;> cases e <;> rfl
 | false =>
 cases (r.kind==2) with
 | true =>
  generalize plain r false true false false 0=a
  cases a <;> rfl
 | false =>
 cases (r.kind==3) with
 | true =>
  generalize plain r true false false false 0=a
  cases a <;> rfl
 | false =>
 cases (r.kind==4) with
 | true =>
  cases hp:plain r false false false false 1
  ·rfl
  ·have hk:=c_0 hp (by omega)
   rw [b_9 (by omega)]
   rfl
 | false =>
 cases (r.kind==5) with
 | true =>
  cases hp:plain r false false false false 2
  ·rfl
  ·have hk:=c_0 hp (by omega)
   rw [b_9 (by omega)]
   rfl
 | false =>
 cases (r.kind==6) with
 | true=>rfl
 | false =>
 cases (r.kind==7) with
 | true=>rfl
 | false =>
 cases (r.kind==8) with
 | true=>rfl
 | false =>
 cases (r.kind==9) with
 | true=>rfl
 | false =>
 cases (r.kind==10) with
 | true =>
  generalize plain r false true false false 0=a
  by_cases hb:(r.bytes.length:Int)=1
  ·have e:((r.bytes.length:Int)==1)=true:=by simpa using hb
   rw [e,b_o (show 0<r.bytes.length by omega),a_m (show 0<r.bytes.length by omega)]
   cases a <;> rfl
  ·have e:((r.bytes.length:Int)==1)=false:=by simpa using hb
   rw [e]
   cases a <;> rfl
 | false=>rfl
theorem m_m (d:d_)(r:g_)(hd:d.rules.length<=MX)(ht:r.tags.length<=MX):f_v d r=some (a_8 d.rules r && (!r.little || r.kind==1)):=by
 unfold f_v a_8
 rw [m_k d r hd ht,m_g]
 simp only [m_c,b_4,j_N d _ hd,bd_some]
 have G:plain r false false false true ((r.tags.length:Int)+1)=(plain r false false false true (-1) && ((r.kids.length:Int)==(r.tags.length:Int)+1)):=by
  rw [j_O,dF_ (show ¬((r.tags.length:Int)+1<0) by omega)];rfl
 rw [G]
 cases (r.kind==1) with
 | true =>
  generalize plain r true false false false 0=a;generalize (decide (1<=r.size) && decide (r.size<=4))=b;generalize decide (1<r.size)=c;generalize r.little=e
  cases a <;> cases b <;> cases c <;> cases e <;> rfl
 | false =>
 generalize r.little=e
 cases (r.kind==2) with
 | true =>
  generalize plain r false true false false 0=a;generalize (decide (1<=(r.bytes.length:Int)) && decide ((r.bytes.length:Int)<=16))=b
  cases a <;> cases e <;> cases b <;> rfl
 | false =>
 cases (r.kind==3) with
 | true =>
  generalize plain r true false false false 0=a;generalize (decide (1<=r.size) && decide (r.size<=64))=b
  cases a <;> cases e <;> cases b <;> rfl
 | false =>
 cases (r.kind==4) with
 | true =>
  cases hp:plain r false false false false 1
  ·rfl
  ·have hk:=c_0 hp (by omega)
   rw [b_9 (by omega)]
   simp only [bd_some]
   generalize decide (0<lim d.rules (C_ r))=b
   cases e <;> cases b <;> rfl
 | false =>
 cases (r.kind==5) with
 | true =>
  cases hp:plain r false false false false 2
  ·rfl
  ·have hk:=c_0 hp (by omega)
   rw [b_9 (by omega)]
   simp only [bd_some]
   generalize decide (0<lim d.rules (C_ r))=b
   cases e <;> cases b <;> rfl
 | false =>
 cases (r.kind==6) with
 | true =>
  generalize plain r false false true false r.names.length=a;generalize (!((List.range r.names.length).any (b_O r.names)) && b_u r.names.length)=b
  cases a <;> cases e <;> cases b <;> rfl
 | false =>
 cases (r.kind==7) with
 | true =>
  generalize plain r false false false true (-1)=a;generalize ((r.kids.length:Int)==(r.tags.length:Int)+1)=b;generalize (b_u r.tags.length && !((List.range r.tags.length).any (b_Z (lim d.rules<|C_ r) r.tags)))=c
  cases a <;> cases e <;> cases b <;> cases c <;> rfl
 | false =>
 cases (r.kind==8) with
 | true =>
  generalize plain r false false false false 1=a
  cases a <;> cases e <;> rfl
 | false =>
 cases (r.kind==9) with
 | true =>
  generalize plain r false false false false 1=a
  cases a <;> cases e <;> rfl
 | false =>
 cases (r.kind==10) with
 | true =>
  generalize plain r false true false false 0=a
  by_cases hb:(r.bytes.length:Int)=1
  ·have e:((r.bytes.length:Int)==1)=true:=by simpa using hb
   rw [e,b_o (show 0<r.bytes.length by omega),a_m (show 0<r.bytes.length by omega)]
   simp only [bd_some]
   generalize (byteI r.bytes[0] != byteI (92:UInt8))=b
   rename_i e'
   cases a <;> cases e' <;> cases b <;> rfl
  ·have e:((r.bytes.length:Int)==1)=false:=by simpa using hb
   rw [e]
   rename_i e'
   cases a <;> cases e' <;> rfl
 | false=>cases e <;> rfl
def c_k (i:Nat)(k:Int):Bool:=decide (k<0) || decide ((i:Int)<=k)
def c_l (rs:List g_)(i:Nat):Bool:=match rs[i]? with
 | none=>false
 | some r=>(a_X r.name && !(r.little && r.kind != 1)) && (!((rs.take i).any (fun x=>x.name.b==r.name.b)) && (!(r.kids.any<|c_k i) && a_8 rs r))
def a_9 (d:d_):Bool:=(decide (1<=(d.rules.length:Int)) && decide ((d.rules.length:Int)<=24)) && !((List.range d.rules.length).any (fun i=>!c_l d.rules i))
theorem m_n (n:Nat)(hn:14<=n)(d:d_)(hd:SmD d){i:Nat}(hi:i<d.rules.length):f_N n d i=some (c_l d.rules i):=by
 unfold f_N b_T c_l;have hr:=hd.each d.rules[i] (gE_ hi)
 rw [dT_ (show (0:Int)<=(i:Int) by omega),dT_ (show (i:Int)<(d.rules.length:Int) by omega),gG_ hi,ix_ hi]
 simp only [fT_,bd_some,j_K n hn,i_7<|Nat.le_of_lt hi,m_l n hn d _ hr.tags]
 generalize d.rules[i]=r;have O:=e_i (body:=(fun H=>(fun (_:Unit)=>bd (idx (d.rules.take i) ((H:Nat):Int)) fun I=>if (I.name.b==r.name.b)=true then some (Out.ret false:Out Unit Bool) else some (.next ())))) (l:=d.rules.take i) (fun x=>x.name.b==r.name.b) false (fun k hk=>by simp only [ix_ hk,bd_some];exact c_C _ _)
 have V:=e_i (body:=(fun J=>(fun (_:Unit)=>bd (idx r.kids ((J:Nat):Int)) fun G=>bd (α:=Bool) (if (decide (G<0))=true then some true else some (decide ((i:Int)<=G))) (fun L=>if L=true then some (Out.ret false:Out Unit Bool) else some (.next ()))))) (l:=r.kids) (c_k i) false (fun k hk=>by
  simp only [ix_ hk,bd_some]
  rw [show c_k i r.kids[k]=(decide (r.kids[k]<0) || decide ((i:Int)<=r.kids[k])) from rfl]
  generalize decide (r.kids[k]<0)=a;generalize decide ((i:Int)<=r.kids[k])=b
  cases a <;> cases b <;> rfl)
 rw [O,V]
 generalize a_X r.name=a;generalize r.little=b;generalize (r.kind != 1)=c;generalize (d.rules.take i).any (fun x=>x.name.b==r.name.b)=x;generalize r.kids.any (c_k i)=y;generalize a_8 d.rules r=z
 cases a <;> cases b <;> cases c <;> cases x <;> cases y <;> rfl
theorem m_o (d:d_)(hd:SmD d){i:Nat}(hi:i<d.rules.length):f_w d i=some (c_l d.rules i):=by
 have hMX:MX=1048576:=rfl;have hdl:=hd.rules;unfold f_w c_l;have hr:=hd.each d.rules[i] (gE_ hi)
 rw [b_4,a_y (x:=(d.rules.length:Int)) (by omega) (by omega),a_y (x:=(i:Int)) (by omega) (by omega),dT_ (show (0:Int)<=(i:Int) by omega),dT_ (show (i:Int)<=(d.rules.length:Int) - 1 by omega),gG_ hi,ix_ hi]
 simp only [bd_some,j_J,m_m d _ hd.rules hr.tags]
 generalize d.rules[i]=r;have hl:((i:Int)).toNat=(d.rules.take i).length:=by simp;omega
 have V:y_ (σ:=Unit) (ρ:=Bool) (fun H=>(fun (_:Unit)=>bd (idx d.rules ((H:Nat):Int)) fun I=>if (I.name.b==r.name.b)=true then some (.ret false) else some (.next ()))) (i:Int).toNat 0 ()=some (if (d.rules.take i).any (fun x=>x.name.b==r.name.b)=true then .inr false else .inl ()):=by
  rw [hl]
  refine e_i (fun x:g_=>x.name.b==r.name.b) false<|fun k hk=>?_;have hk':k<d.rules.length:=by simp at hk;omega
  simp only [ix_ hk',bd_some,List.getElem_take]
  exact c_C _ _
 have W:y_ (σ:=Unit) (ρ:=Bool) (fun J=>(fun (_:Unit)=>bd (idx r.kids ((J:Nat):Int)) fun L=>bd (a_s L 0<|(i:Int) - 1) fun O=>if (!O)=true then some (.ret false) else some (.next ()))) r.kids.length 0 ()=some (if r.kids.any (c_k i)=true then .inr false else .inl ()):=by
  refine e_i (c_k i) false<|fun k hk=>?_
  simp only [ix_ hk,bd_some,b_4]
  rw [show c_k i r.kids[k] = !(decide (0<=r.kids[k]) && decide (r.kids[k]<=(i:Int) - 1)) from by
   unfold c_k
   by_cases G:r.kids[k]<0
   ·rw [dT_ G,dF_ (show ¬0<=r.kids[k] by omega)];rfl
   ·rw [dF_ G,dT_ (show 0<=r.kids[k] by omega)]
    by_cases h1:(i:Int)<=r.kids[k]
    ·rw [dT_ h1,dF_ (show ¬r.kids[k]<=(i:Int) - 1 by omega)];rfl
    ·rw [dF_ h1,dT_ (show r.kids[k]<=(i:Int) - 1 by omega)];rfl]
  exact c_C _ _
 rw [V,W]
 have Y:(!(r.little && r.kind != 1))=(!r.little || r.kind==1):=by
  simp only [bne]
  generalize (r.kind==1)=c
  cases r.little <;> cases c <;> rfl
 rw [Y]
 generalize a_X r.name=a;generalize (!r.little || r.kind==1)=b;generalize (d.rules.take i).any (fun x=>x.name.b==r.name.b)=x;generalize r.kids.any (c_k i)=y;generalize a_8 d.rules r=z
 cases a <;> cases b <;> cases x <;> cases y <;> cases z <;> rfl
theorem m_p (n:Nat)(hn:14<=n)(d:d_)(hd:SmD d):f_O n d=some (a_9 d):=by
 unfold f_O a_9
 rw [e_a,d_b (fun i=>!c_l d.rules i) false (fun k hk _=>by rw [m_n n hn d hd hk];simp only [bd_some];exact c_C _ _)]
 generalize (decide (1<=(d.rules.length:Int)) && decide ((d.rules.length:Int)<=24))=a;generalize (List.range d.rules.length).any (fun i=>!c_l d.rules i)=b
 cases a <;> cases b <;> rfl
theorem m_q (d:d_)(hd:SmD d):f_x d=some (a_9 d):=by
 unfold f_x a_9
 rw [b_4,d_b (fun i=>!c_l d.rules i) false (fun k hk _=>by rw [m_o d hd hk];simp only [bd_some];exact c_C _ _)]
 generalize (decide (1<=(d.rules.length:Int)) && decide ((d.rules.length:Int)<=24))=a;generalize (List.range d.rules.length).any (fun i=>!c_l d.rules i)=b
 cases a <;> cases b <;> rfl
def b_a (d:d_)(r:Int):Bool:=decide (0<=r) && decide (r<(d.rules.length:Int))
theorem i_8 (n:Nat)(hn:14<=n)(d:d_)(hd:SmD d)(r:Int):d_M n d r=some (a_9 d && b_a d r):=by
 unfold d_M b_T b_a
 rw [m_p n hn d hd]
 generalize a_9 d=a;generalize decide (0<=r)=b;generalize decide (r<(d.rules.length:Int))=c
 cases a <;> cases b <;> rfl
theorem m_r (d:d_)(hd:SmD d)(r:Int):f_H d r=some (a_9 d && b_a d r):=by
 have hMX:MX=1048576:=rfl;have hdl:=hd.rules;unfold f_H b_a
 rw [m_q d hd,b_4,a_y (x:=(d.rules.length:Int)) (by omega) (by omega),show decide (r<=(d.rules.length:Int) - 1)=decide (r<(d.rules.length:Int)) from decide_eq_decide.2 (by omega)]
 generalize a_9 d=a;generalize decide (0<=r)=b;generalize decide (r<(d.rules.length:Int))=c
 cases a <;> cases b <;> cases c <;> rfl
end Go.Vw
