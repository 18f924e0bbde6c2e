
import Derived.Test.YtelphaiofendpaaGreatDoorVmB
namespace Go.Vw
open Go.RowKit Dat
def MX:Nat:=1048576
structure SmR (r:g_):Prop where
 name:r.name.b.length<=MX
 bytes:r.bytes.length<=MX
 names:r.names.length<=MX
 tags:r.tags.length<=MX
 kids:r.kids.length<=MX
 each:∀s∈r.names,s.b.length<=MX
structure SmD (d:d_):Prop where
 rules:d.rules.length<=MX
 each:∀r∈d.rules,SmR r
theorem r_b {α:Type}{c:Prop}[Decidable c](x y:α):(if c then some x else some y)=some (if c then x else y):=by split <;> rfl
theorem d_p {ρ:Type}{c:Bool}(x y:Out Unit ρ):(if c then some x else some y)=some (if c then x else y):=by split <;> rfl
def e_Z (c:UInt8):Bool:=decide (byteI (97:UInt8)<=byteI c) && decide (byteI c<=byteI (122:UInt8))
def a_Q (c:UInt8):Bool:=decide (byteI (48:UInt8)<=byteI c) && decide (byteI c<=byteI (57:UInt8))
theorem m_Q (c:UInt8):e_Z c=(decide (97<=(c.toNat:Int)) && decide ((c.toNat:Int)<=122)):=rfl
theorem e_o (c:UInt8):a_Q c=(decide (48<=(c.toNat:Int)) && decide ((c.toNat:Int)<=57)):=rfl
theorem l_2 (k:Nat):((k:Int)==0)=(k==0):=by
 rw [Bool.eq_iff_iff];simp
def b_D (s:Str)(k:Nat):Bool:=match s.b[k]? with
 | some c=>!e_Z c && (!a_Q c || k==0)
 | none=>false
def b_7 (s:Str):Bool:=!((List.range s.b.length).any (b_D s)) && (decide (1<=s.b.length) && decide (s.b.length<=12))
theorem b_E (x lo hi:Int):a_Y x lo hi=some (decide (lo<=x) && decide (x<=hi)):=by
 unfold a_Y;generalize decide (lo<=x)=a;generalize decide (x<=hi)=b
 cases a <;> rfl
theorem c_6 (x lo hi:Int):c_s x lo hi=some (decide (lo<=x) && decide (x<=hi)):=by
 unfold c_s;generalize decide (lo<=x)=a;generalize decide (x<=hi)=b
 cases a <;> rfl
theorem l_3 (s:Str):f_8 s=some (b_7 s):=by
 unfold f_8
 rw [e_v (b_D s) false]
 .unfold b_7
  cases (List.range s.b.length).any (b_D s)
  .have G:decide ((1:Int)<=s.b.length)=decide (1<=s.b.length):=decide_eq_decide.2 (by omega);have H:decide ((s.b.length:Int)<=12)=decide (s.b.length<=12):=decide_eq_decide.2 (by omega)
   simp only [bF_,fF_,bd_some,el_inl,b_E,G,H,Bool.not_false,Bool.true_and]
  .rfl
 .intro k hk _
  simp only [ix_ hk,bd_some,b_D,gG_ hk,e_Z,a_Q,l_2]
  generalize decide (byteI (97:UInt8)<=byteI s.b[k])=a;generalize decide (byteI s.b[k]<=byteI (122:UInt8))=b;generalize decide (byteI (48:UInt8)<=byteI s.b[k])=c;generalize decide (byteI s.b[k]<=byteI (57:UInt8))=d;generalize (k==0)=e
  cases a <;> cases b <;> cases c <;> cases d <;> cases e <;> rfl
theorem l_4 (n:Nat)(hn:14<=n)(s:Str):e_x n s=some (b_7 s):=by
 unfold e_x
 by_cases h1:s.b.length<1
 .have:b_7 s=false:=by unfold b_7;simp [show ¬1<=s.b.length by omega]
  rw [this];simp [show ((s.b.length:Int)<1) by omega]
 by_cases h2:12<s.b.length
 .have:b_7 s=false:=by unfold b_7;simp [show ¬s.b.length<=12 by omega]
  rw [this];simp [show ¬((s.b.length:Int)<1) by omega,show ((12:Int)<s.b.length) by omega]
 have V:decide ((s.b.length:Int)<1)=false:=by simp;omega
 have W:decide ((12:Int)<(s.b.length:Int))=false:=by simp;omega
 rw [V,W]
 simp only [bF_,fF_,bd_some]
 have hstep:∀k,k<s.b.length->b_D s k=false->∀{ρ:Type}(x:Nat->ρ),x (k+(dec s k).2)=x (k+1):=by
  intro k hk hb ρ x
  rw [o_n hk]
  have hb':b_D s k=(!e_Z s.b[k] && (!a_Q s.b[k] || k==0)):=by unfold b_D;rw [gG_ hk]
  rw [hb'] at hb
  rw [m_Q,e_o] at hb
  simp only [Bool.and_eq_false_iff,Bool.not_eq_false',Bool.or_eq_false_iff,aE_,dE_] at hb
  omega
 have hgood:∀k (hk:k<s.b.length),b_D s k=(bd (α:=Bool) (if (decide<|97<=((dec s k).1)) then some (decide<|((dec s k).1)<=122) else some false) (λH=>bd (α:=Bool) (if (decide<|48<=((dec s k).1)) then some (decide<|((dec s k).1)<=57) else some false) (λI=>bd (α:=Bool) (if (!H) then if (!I) then some true else some ((k:Int)==0) else some false) some))).getD false /\
   (bd (α:=Bool) (if (decide<|97<=((dec s k).1)) then some (decide<|((dec s k).1)<=122) else some false) (λH=>bd (α:=Bool) (if (decide<|48<=((dec s k).1)) then some (decide<|((dec s k).1)<=57) else some false) (λI=>bd (α:=Bool) (if (!H) then if (!I) then some true else some ((k:Int)==0) else some false) (λJ=>if J then some (.ret false) else some (.next<|k+(dec s k).2)))))=some (if b_D s k then (.ret false:Out Nat Bool) else .next (k+(dec s k).2)):=by
  intro k hk;have hb':b_D s k=(!e_Z s.b[k] && (!a_Q s.b[k] || k==0)):=by unfold b_D;rw [gG_ hk]
  rw [hb']
  rw [m_Q,e_o]
  rw [l_2]
  by_cases ha:s.b[k].toNat<128
  .rw [o_n hk ha]
   simp only
   generalize (s.b[k].toNat:Int)=c;generalize decide (97<=c)=a;generalize decide (c<=122)=b;generalize decide (48<=c)=c';generalize decide (c<=57)=d;generalize (k==0)=e
   cases a <;> cases b <;> cases c' <;> cases d <;> cases e <;> exact ⟨rfl,rfl⟩
  .have hd:=s_T hk (by omega);generalize (dec s k).1=c at hd
   generalize (dec s k).2=c2;have g1:97<=c:=by omega
   have O:¬c<=122:=by omega
   have Y:48<=c:=by omega
   have g4:¬c<=57:=by omega
   have k2:¬(s.b[k].toNat:Int)<=122:=by omega
   have k4:¬(s.b[k].toNat:Int)<=57:=by omega
   simp [g1,O,Y,g4,k2,k4]
 have hit:a_5 (σ:=Nat) (ρ:=Bool) (λG=>if (decide<|G<s.b.length) then bd (α:=Bool) (if (decide<|97<=((dec s G).1)) then some (decide<|((dec s G).1)<=122) else some false) (λH=>bd (α:=Bool) (if (decide<|48<=((dec s G).1)) then some (decide<|((dec s G).1)<=57) else some false) (λI=>bd (α:=Bool) (if (!H) then if (!I) then some true else some ((G:Int)==0) else some false) (λJ=>if J then some (.ret false) else some (.next<|G+(dec s G).2)))) else some (.brk G)) n 0=some (if (List.range s.b.length).any (b_D s) then .inr false else .inl s.b.length):=by
  cases hf:(List.range s.b.length).find? (b_D s) with
  | none =>
   have hall:∀k,k<s.b.length->b_D s k=false:=λk hk=>by simpa using List.find?_eq_none.1 hf k (List.mem_range.2 hk)
   have hany:(List.range s.b.length).any (b_D s)=false:=by rw [List.any_eq_false];exact λx hx=>by simpa using List.find?_eq_none.1 hf x hx
   rw [hany]
   refine o_m (λk=>k) (j0:=s.b.length) (by omega) (λk hk=>?_) ?_
   .simp only [hk,decide_true,fT_]
    rw [(hgood k hk).2,hall k hk]
    simp only [bF_,fF_]
    rw [hstep k hk (hall k hk) (λx=>some<|Out.next x)]
   .simp
  | some k =>
   have hany:(List.range s.b.length).any (b_D s)=true:=List.any_eq_true.2 ⟨k,List.mem_of_find?_eq_some hf,List.find?_some hf⟩
   rw [hany]
   obtain ⟨hp,as,bs,hl,has⟩:=List.find?_eq_some_iff_append.1 hf;have hk:k<s.b.length:=List.mem_range.1<|List.mem_of_find?_eq_some hf
   have hbef:∀j,j<k->b_D s j=false:=by
    intro j hj;have hlen:as.length<s.b.length:=by have:=congrArg List.length hl;simp at this;omega
    have hke:as.length=k:=by
     have h2:(List.range s.b.length)[as.length]? = some k:=by rw [hl];simp
     rw [List.getElem?_range hlen] at h2
     exact Option.some.inj h2
    have hj':j<as.length:=by omega
    have h2:(List.range s.b.length)[j]? = some (as[j]):=by rw [hl,List.getElem?_append_left hj'];simp
    rw [List.getElem?_range (by omega)] at h2
    have h3:=has as[j] (gE_ hj')
    rw [← Option.some.inj h2] at h3
    simpa using h3
   refine l_K (λk=>k) (j0:=k) (by omega) (λj hj=>?_) ?_
   .have L:j<s.b.length:=by omega
    simp only [L,decide_true,fT_]
    rw [(hgood j L).2,hbef j hj]
    simp only [bF_,fF_]
    rw [hstep j L (hbef j hj) (λx=>some<|Out.next x)]
   .simp only [hk,decide_true,fT_]
    rw [(hgood k hk).2,hp]
    rfl
 rw [hit]
 unfold b_7;have g1:decide (1<=s.b.length)=true:=dT_ (by omega);have O:decide (s.b.length<=12)=true:=dT_ (by omega)
 rw [g1,O]
 cases (List.range s.b.length).any (b_D s) <;> rfl
def plain (r:g_)(a b c d:Bool)(k:Int):Bool:=(a || r.size==0) && ((b || (r.bytes.length:Int)==0) && ((c || (r.names.length:Int)==0) && ((d || (r.tags.length:Int)==0) && (decide (k<0) || (r.kids.length:Int)==k))))
theorem l_5 (r:g_)(a b c d:Bool)(k:Int):c_D r a b c d k=some (plain r a b c d k):=by
 unfold c_D plain;generalize (r.size==0)=G;generalize ((r.bytes.length:Int)==0)=H;generalize ((r.names.length:Int)==0)=I;generalize ((r.tags.length:Int)==0)=J;generalize decide (k<0)=L;generalize ((r.kids.length:Int)==k)=O
 cases a <;> cases G <;> try rfl
 all_goals cases b <;> cases H <;> try rfl
 all_goals cases c <;> cases I <;> try rfl
 all_goals cases d <;> cases J <;> try rfl
 all_goals cases L <;> rfl
theorem r_c (r:g_)(a b c d:Bool)(k:Int):c_B r a b c d k=some (plain r a b c d k && (!r.little || r.kind==1)):=by
 unfold c_B plain;generalize (r.size==0)=G;generalize ((r.bytes.length:Int)==0)=H;generalize ((r.names.length:Int)==0)=I;generalize ((r.tags.length:Int)==0)=J;generalize decide (k<0)=L;generalize ((r.kids.length:Int)==k)=O;generalize (r.kind==1)=W;generalize r.little=V
 cases a <;> cases G <;> try rfl
 all_goals cases b <;> cases H <;> try rfl
 all_goals cases c <;> cases I <;> try rfl
 all_goals cases d <;> cases J <;> try rfl
 all_goals cases L <;> cases O <;> cases V <;> rfl
def lim (rs:List g_)(i:Int):Int:=match idx rs i with
 | some r=>if r.kind=1/\1<=r.size/\r.size<=4 then 256 ^ r.size.toNat - 1 else -1
 | none=>-1
theorem m_R {α:Type}{l:List α}{i:Int}(h:¬(0<=i/\i<l.length)):idx l i=none:=by
 unfold idx;split
 .rw [gN_];omega
 .rfl
theorem h_8 {s:Int}(h1:1<=s)(h4:s<=4):Q_ (b_Q .i64 1<|a_f 8 s) 1=256 ^ s.toNat - 1/\nn (a_f 8 s)=some ():=by
 have:s=1∨s=2∨s=3∨s=4:=by omega
 rcases this with rfl | rfl | rfl | rfl <;> exact ⟨by decide,by decide⟩
theorem f_G (d:d_)(i:Int):d_b d i=some (lim d.rules i):=by
 unfold d_b e_y lim
 by_cases h:0<=i/\i<d.rules.length
 .obtain ⟨G,h1⟩:=h
  rw [dT_ G,dT_ h1,e_u G (by omega)]
  generalize d.rules[i.toNat]=r
  simp only [fT_,bd_some,c_6]
  by_cases hk:r.kind=1
  .by_cases H:1<=r.size
   .by_cases I:r.size<=4
    .simp [hk,H,I,(h_8 H I).1,(h_8 H I).2]
    .simp [hk,H,I]
   .simp [hk,H]
  .simp [hk]
 .rw [m_R h]
  by_cases G:0<=i
  .have h1:¬i<d.rules.length:=λh1=>h ⟨G,h1⟩
   simp [G,h1]
  .simp [G]
theorem f_H (d:d_)(i:Int)(hd:d.rules.length<=MX):e_3 d i=some (lim d.rules i):=by
 unfold e_3 lim
 rw [b_E]
 have hMX:MX=1048576:=rfl;have e:Q_ (d.rules.length:Int) 1=(d.rules.length:Int) - 1:=b_3 (by omega) (by omega)
 rw [e]
 by_cases h:0<=i/\i<d.rules.length
 .obtain ⟨G,h1⟩:=h
  rw [dT_ G,dT_ (show i<=(d.rules.length:Int) - 1 by omega),e_u G (by omega)]
  generalize d.rules[i.toNat]=r
  simp only [bd_some,b_E,d_a]
  by_cases hk:r.kind=1
  .by_cases H:1<=r.size
   .by_cases I:r.size<=4
    .simp [hk,H,I,(h_8 H I).1,(h_8 H I).2]
    .simp [hk,H,I]
   .simp [hk,H]
  .simp [hk]
 .rw [m_R h]
  by_cases G:0<=i
  .have h1:¬i<=(d.rules.length:Int) - 1:=λh1=>h ⟨G,by omega⟩
   simp [G,h1]
  .simp [G]
def c_X (l:List Str)(s:Str):Bool:=l.any<|λx=>x.b==s.b
theorem m_S (l:List Str)(s:Str):f_c l s=some (c_X l s):=by
 unfold f_c c_X
 rw [e_1 (λx=>x.b==s.b) true (λk hk=>by simp only [ix_ hk,bd_some];exact d_p _ _)]
 cases l.any (λx=>x.b==s.b) <;> rfl
theorem r_d (l:List Str)(s:Str):h_t l s=some (c_X l s):=by
 unfold h_t c_X
 rw [e_1 (λx=>x.b==s.b) true (λk hk=>by simp only [ix_ hk,bd_some];exact d_p _ _)]
 cases l.any (λx=>x.b==s.b) <;> rfl
def c_v (l:List Str)(k:Nat):Bool:=match l[k]? with
 | some s=>!b_7 s || c_X (l.take k) s
 | none=>false
def c_Y (m:Int)(l:List Int)(k:Nat):Bool:=match l[k]? with
 | some t=>!(decide (0<=t) && decide (t<=m)) || (decide (0<(k:Int)) && decide (t<=l.getD (k - 1) 0))
 | none=>false
def c_n (n:Nat):Bool:=decide (1<=(n:Int)) && decide ((n:Int)<=8)
def u_ (r:g_):Int:=r.kids.getD 0 0
def a_o (rs:List g_)(r:g_):Bool :=
 if r.kind==1 then plain r true false false false 0 && ((decide (1<=r.size) && decide (r.size<=4)) && (!r.little || decide (1<r.size)))
 else if r.kind==2 then plain r false true false false 0 && (decide (1<=(r.bytes.length:Int)) && decide ((r.bytes.length:Int)<=16))
 else if r.kind==3 then plain r true false false false 0 && (decide (1<=r.size) && decide (r.size<=64))
 else if r.kind==4 then plain r false false false false 1 && decide (0<lim rs (u_ r))
 else if r.kind==5 then plain r false false false false 2 && decide (0<lim rs (u_ r))
 else if r.kind==6 then plain r false false true false r.names.length && (!((List.range r.names.length).any (c_v r.names)) && c_n r.names.length)
 else if r.kind==7 then plain r false false false true ((r.tags.length:Int)+1) && (c_n r.tags.length && !((List.range r.tags.length).any (c_Y (lim rs<|u_ r) r.tags)))
 else if r.kind==8 then plain r false false false false 1
 else if r.kind==9 then plain r false false false false 1
 else if r.kind==10 then plain r false true false false 0 && ((r.bytes.length:Int)==1 && byteI (r.bytes.getD 0 0) != byteI (92:UInt8))
 else false
theorem c_Z {r:g_}{a b c d:Bool}{k:Int}(h:plain r a b c d k=true)(hk:0<=k):(r.kids.length:Int)=k:=by
 unfold plain at h
 simp only [aE_,Bool.or_eq_true,dE_,beq_iff_eq] at h
 omega
theorem m_T (r:g_)(a b c d:Bool)(k:Int):plain r a b c d k=(plain r a b c d (-1) && (decide (k<0) || (r.kids.length:Int)==k)):=by
 unfold plain;simp [Bool.and_assoc]
theorem l_6 {α:Type}{l:List α}{k:Nat}(h:k<=l.length):slc l 0 (k:Int)=some (l.take k):=by
 rw [h_m (Int.le_refl 0) (by omega) (by omega)];simp
theorem m_U (rs:List g_)(i:Int):lim rs i = -1∨0<lim rs i:=by
 unfold lim
 cases idx rs i with
 | none=>exact .inl rfl
 | some r =>
  simp only
  by_cases h:r.kind=1/\1<=r.size/\r.size<=4
  .rw [iP_ h]
   right
   obtain ⟨_,h1,h4⟩:=h;have:r.size=1∨r.size=2∨r.size=3∨r.size=4:=by omega
   rcases this with h | h | h | h <;> rw [h] <;> decide
  .rw [iN_ h];exact .inl rfl
theorem a_b {α:Type}{l:List α}{k:Nat}{x:α}(h:k<l.length):l.getD k x=l[k]:=by simp [h]
theorem r_e (n:Nat)(hn:14<=n)(l:List Str):x_ (σ:=Unit) (ρ:=Bool) (λG=>(λ(_:Unit)=>bd (idx l ((G:Nat):Int)) λH=>bd (α:=Bool) (bd (e_x n H) λI=>if (!I) then some true else bd (slc l 0 ((G:Nat):Int)) λJ=>bd (f_c J H) λL=>some L) (λO=>if O then some (.ret false) else some (.next ())))) l.length 0 ()=some (if (List.range l.length).any (c_v l) then .inr false else .inl ()):=by
 refine e_v (c_v l) false<|λk hk _=>?_
 simp only [ix_ hk,bd_some,l_4 n hn,l_6<|Nat.le_of_lt hk,m_S,c_v,gG_ hk]
 generalize b_7 l[k]=a;generalize c_X (l.take k) l[k]=b
 cases a <;> cases b <;> rfl
theorem r_f (l:List Str):h_u l=some (!((List.range l.length).any (c_v l)) && c_n l.length):=by
 unfold h_u
 rw [e_v (c_v l) false]
 .rw [b_E]
  unfold c_n
  cases (List.range l.length).any (c_v l) <;> rfl
 .intro k hk _
  simp only [ix_ hk,bd_some,l_3,l_6<|Nat.le_of_lt hk,r_d,c_v,gG_ hk]
  generalize b_7 l[k]=a;generalize c_X (l.take k) l[k]=b
  cases a <;> cases b <;> rfl
theorem r_g (n:Nat)(hn:14<=n)(r:g_):h_J n r=some (plain r false false true false r.names.length && (!((List.range r.names.length).any (c_v r.names)) && c_n r.names.length)):=by
 unfold h_J
 rw [r_e n hn,l_5,c_6,m_T r _ _ _ _ r.names.length]
 have I:decide ((r.names.length:Int)<0)=false:=dF_ (by omega)
 rw [I]
 unfold c_n;generalize (List.range r.names.length).any (c_v r.names)=a;generalize plain r false false true false (-1)=b
 by_cases h:(r.kids.length:Int)=r.names.length
 .rw [h]
  have G:((r.names.length:Int)==(r.names.length:Int))=true:=by simp
  have H:((r.names.length:Int) != (r.names.length:Int))=false:=by simp
  rw [G,H]
  generalize (decide (1<=(r.names.length:Int)) && decide ((r.names.length:Int)<=8))=c
  cases a <;> cases b <;> cases c <;> rfl
 .have G:((r.kids.length:Int)==(r.names.length:Int))=false:=by simpa using h
  have H:((r.kids.length:Int) != (r.names.length:Int))=true:=by simpa using h
  rw [G,H]
  cases a <;> cases b <;> rfl
theorem j_f {m:Int}{l:List Int}{k:Nat}(hk:k<l.length):c_Y m l k=(!(decide (0<=l[k]) && decide (l[k]<=m)) || (decide (0<(k:Int)) && decide (l[k]<=l.getD (k - 1) 0))):=by
 unfold c_Y;rw [gG_ hk]
theorem m_V {l:List Int}{k:Nat}(hk:k<l.length)(G:0<k):idx l (Q_ (k:Int) 1)=some (l.getD (k - 1) 0)∨¬l.length<=MX:=by
 by_cases hM:l.length<=MX
 .left
  have hMX:MX=1048576:=rfl
  rw [b_3 (by omega) (by omega),e_u (by omega) (by omega),a_b (by omega)]
  simp [show ((k:Int) - 1).toNat=k - 1 by omega]
 .exact .inr hM
theorem r_h (m:Int)(l:List Int)(hl:l.length<=MX):x_ (σ:=Unit) (ρ:=Bool) (λG=>(λ(_:Unit)=>bd (idx l ((G:Nat):Int)) λI=>bd (α:=Bool) (bd (c_s I 0 m) λJ=>if (!J) then some true else if (decide<|0<((G:Nat):Int)) then bd (idx l<|Q_ ((G:Nat):Int) 1) λL=>some (decide<|I<=L) else some false) (λO=>if O then some (.ret false) else some (.next ())))) l.length 0 ()=some (if (List.range l.length).any (c_Y m l) then .inr false else .inl ()):=by
 refine e_v (c_Y m l) false<|λk hk _=>?_
 simp only [ix_ hk,bd_some,c_6,j_f hk]
 by_cases V:0<k
 .have e:=(m_V hk V).resolve_right (λh=>h hl);have H:decide (0<(k:Int))=true:=dT_ (by omega)
  rw [e,H]
  generalize decide (0<=l[k])=a;generalize decide (l[k]<=m)=b
  simp only [bd_some]
  generalize decide (l[k]<=l.getD (k - 1) 0)=c
  cases a <;> cases b <;> cases c <;> rfl
 .have H:decide (0<(k:Int))=false:=dF_ (by omega)
  rw [H]
  generalize decide (0<=l[k])=a;generalize decide (l[k]<=m)=b
  cases a <;> cases b <;> rfl
theorem b_F {r:g_}(h:0<r.kids.length):idx r.kids 0=some (u_ r):=by
 rw [a_N h,u_,a_b h]
theorem r_i (d:d_)(r:g_)(ht:r.tags.length<=MX):h_K d r=some (plain r false false false true ((r.tags.length:Int)+1) && (c_n r.tags.length && !((List.range r.tags.length).any (c_Y (lim d.rules<|u_ r) r.tags)))):=by
 have hMX:MX=1048576:=rfl;unfold h_K
 rw [l_5,c_6,ia_ (x:=(r.tags.length:Int)) (by omega) (by omega)]
 unfold c_n
 cases hp:plain r false false false true ((r.tags.length:Int)+1)
 .rfl
 .have hk:=c_Z hp (by omega)
  rw [b_F (by omega)]
  simp only [bd_some,nT_,bF_,fF_,f_G,r_h _ _ ht]
  by_cases G:1<=(r.tags.length:Int)/\(r.tags.length:Int)<=8
  .rw [dT_ G.1,dT_ G.2]
   cases ha:(List.range r.tags.length).any (c_Y (lim d.rules<|u_ r) r.tags)
   .have hpos:0<lim d.rules (u_ r):=by
     rcases m_U d.rules (u_ r) with h | h
     .exfalso
      have H:0<r.tags.length:=by omega
      have:=List.any_eq_false.1 ha 0<|List.mem_range.2 H
      rw [j_f H,h] at this
      simp only [Bool.or_eq_true,Bool.not_eq_true',Bool.and_eq_false_iff,decide_eq_false_iff_not] at this
      omega
     .exact h
    rw [dT_ hpos]
    rfl
   .rfl
  .have:(decide (1<=(r.tags.length:Int)) && decide ((r.tags.length:Int)<=8))=false:=by
    rw [Bool.and_eq_false_iff]
    simp only [decide_eq_false_iff_not]
    omega
   rw [this]
   rfl
theorem r_j (d:d_)(r:g_)(hd:d.rules.length<=MX)(ht:r.tags.length<=MX):h_v d r=some (((r.kids.length:Int)==(r.tags.length:Int)+1) && (c_n r.tags.length && !((List.range r.tags.length).any (c_Y (lim d.rules<|u_ r) r.tags)))):=by
 have hMX:MX=1048576:=rfl;unfold h_v
 rw [ia_ (x:=(r.tags.length:Int)) (by omega) (by omega),b_E]
 unfold c_n
 by_cases hk:(r.kids.length:Int)=(r.tags.length:Int)+1
 .have G:((r.kids.length:Int)==(r.tags.length:Int)+1)=true:=by simpa using hk
  have H:((r.kids.length:Int) != (r.tags.length:Int)+1)=false:=by simpa using hk
  rw [G,H]
  rw [e_v (c_Y (lim d.rules<|u_ r) r.tags) false]
  .generalize (List.range r.tags.length).any (c_Y (lim d.rules<|u_ r) r.tags)=a;generalize (decide (1<=(r.tags.length:Int)) && decide ((r.tags.length:Int)<=8))=c
   cases a <;> cases c <;> rfl
  .intro k hk' _
   simp only [ix_ hk',bd_some,b_F (show 0<r.kids.length by omega),f_H d _ hd,b_E,j_f hk']
   by_cases J:0<k
   .have e:=(m_V hk' J).resolve_right (λh=>h ht);have I:decide (0<(k:Int))=true:=dT_ (by omega)
    rw [e,I]
    generalize decide (0<=r.tags[k])=a;generalize decide (r.tags[k]<=lim d.rules (u_ r))=b
    simp only [bd_some]
    generalize decide (r.tags[k]<=r.tags.getD (k - 1) 0)=c
    cases a <;> cases b <;> cases c <;> rfl
   .have I:decide (0<(k:Int))=false:=dF_ (by omega)
    rw [I]
    generalize decide (0<=r.tags[k])=a;generalize decide (r.tags[k]<=lim d.rules (u_ r))=b
    cases a <;> cases b <;> rfl
 .have G:((r.kids.length:Int)==(r.tags.length:Int)+1)=false:=by simpa using hk
  have H:((r.kids.length:Int) != (r.tags.length:Int)+1)=true:=by simpa using hk
  rw [G,H]
  rfl
theorem r_k (n:Nat)(hn:14<=n)(d:d_)(r:g_)(ht:r.tags.length<=MX):h_L n d r=some (a_o d.rules r):=by
 unfold h_L a_o
 rw [r_g n hn,r_i d r ht]
 simp only [l_5,c_6,f_G,bd_some]
 cases (r.kind==1) with
 | true =>
  generalize plain r true false false false 0=a;generalize (decide (1<=r.size) && decide (r.size<=4))=b;generalize decide (1<r.size)=c;generalize r.little=e
  cases a <;> cases b <;> cases c <;> cases e <;> rfl
 | false =>
 cases (r.kind==2) with
 | true =>
  generalize plain r false true false false 0=a
  cases a <;> rfl
 | false =>
 cases (r.kind==3) with
 | true =>
  generalize plain r true false false false 0=a
  cases a <;> rfl
 | false =>
 cases (r.kind==4) with
 | true =>
  cases hp:plain r false false false false 1
  .rfl
  .have hk:=c_Z hp (by omega)
   rw [b_F (by omega)]
   rfl
 | false =>
 cases (r.kind==5) with
 | true =>
  cases hp:plain r false false false false 2
  .rfl
  .have hk:=c_Z hp (by omega)
   rw [b_F (by omega)]
   rfl
 | false =>
 cases (r.kind==6) with
 | true=>rfl
 | false =>
 cases (r.kind==7) with
 | true=>rfl
 | false =>
 cases (r.kind==8) with
 | true=>rfl
 | false =>
 cases (r.kind==9) with
 | true=>rfl
 | false =>
 cases (r.kind==10) with
 | true =>
  generalize plain r false true false false 0=a
  by_cases hb:(r.bytes.length:Int)=1
  .have e:((r.bytes.length:Int)==1)=true:=by simpa using hb
   rw [e,a_N (show 0<r.bytes.length by omega),a_b (show 0<r.bytes.length by omega)]
   cases a <;> rfl
  .have e:((r.bytes.length:Int)==1)=false:=by simpa using hb
   rw [e]
   cases a <;> rfl
 | false=>rfl
theorem r_l (d:d_)(r:g_)(hd:d.rules.length<=MX)(ht:r.tags.length<=MX):h_w d r=some (a_o d.rules r && (!r.little || r.kind==1)):=by
 unfold h_w a_o
 rw [r_j d r hd ht,r_f]
 simp only [r_c,b_E,f_H d _ hd,bd_some]
 have G:plain r false false false true ((r.tags.length:Int)+1)=(plain r false false false true (-1) && ((r.kids.length:Int)==(r.tags.length:Int)+1)):=by
  rw [m_T,dF_ (show ¬((r.tags.length:Int)+1<0) by omega)];rfl
 rw [G]
 cases (r.kind==1) with
 | true =>
  generalize plain r true false false false 0=a;generalize (decide (1<=r.size) && decide (r.size<=4))=b;generalize decide (1<r.size)=c;generalize r.little=e
  cases a <;> cases b <;> cases c <;> cases e <;> rfl
 | false =>
 generalize r.little=e
 cases (r.kind==2) with
 | true =>
  generalize plain r false true false false 0=a;generalize (decide (1<=(r.bytes.length:Int)) && decide ((r.bytes.length:Int)<=16))=b
  cases a <;> cases e <;> cases b <;> rfl
 | false =>
 cases (r.kind==3) with
 | true =>
  generalize plain r true false false false 0=a;generalize (decide (1<=r.size) && decide (r.size<=64))=b
  cases a <;> cases e <;> cases b <;> rfl
 | false =>
 cases (r.kind==4) with
 | true =>
  cases hp:plain r false false false false 1
  .rfl
  .have hk:=c_Z hp (by omega)
   rw [b_F (by omega)]
   simp only [bd_some]
   generalize decide (0<lim d.rules (u_ r))=b
   cases e <;> cases b <;> rfl
 | false =>
 cases (r.kind==5) with
 | true =>
  cases hp:plain r false false false false 2
  .rfl
  .have hk:=c_Z hp (by omega)
   rw [b_F (by omega)]
   simp only [bd_some]
   generalize decide (0<lim d.rules (u_ r))=b
   cases e <;> cases b <;> rfl
 | false =>
 cases (r.kind==6) with
 | true =>
  generalize plain r false false true false r.names.length=a;generalize (!((List.range r.names.length).any (c_v r.names)) && c_n r.names.length)=b
  cases a <;> cases e <;> cases b <;> rfl
 | false =>
 cases (r.kind==7) with
 | true =>
  generalize plain r false false false true (-1)=a;generalize ((r.kids.length:Int)==(r.tags.length:Int)+1)=b;generalize (c_n r.tags.length && !((List.range r.tags.length).any (c_Y (lim d.rules<|u_ r) r.tags)))=c
  cases a <;> cases e <;> cases b <;> cases c <;> rfl
 | false =>
 cases (r.kind==8) with
 | true =>
  generalize plain r false false false false 1=a
  cases a <;> cases e <;> rfl
 | false =>
 cases (r.kind==9) with
 | true =>
  generalize plain r false false false false 1=a
  cases a <;> cases e <;> rfl
 | false =>
 cases (r.kind==10) with
 | true =>
  generalize plain r false true false false 0=a
  by_cases hb:(r.bytes.length:Int)=1
  .have e:((r.bytes.length:Int)==1)=true:=by simpa using hb
   rw [e,a_N (show 0<r.bytes.length by omega),a_b (show 0<r.bytes.length by omega)]
   simp only [bd_some]
   generalize (byteI r.bytes[0] != byteI (92:UInt8))=b
   rename_i e'
   cases a <;> cases e' <;> cases b <;> rfl
  .have e:((r.bytes.length:Int)==1)=false:=by simpa using hb
   rw [e]
   rename_i e'
   cases a <;> cases e' <;> rfl
 | false=>cases e <;> rfl
def d_q (i:Nat)(k:Int):Bool:=decide (k<0) || decide ((i:Int)<=k)
def d_r (rs:List g_)(i:Nat):Bool:=match rs[i]? with
 | none=>false
 | some r=>(b_7 r.name && !(r.little && r.kind != 1)) && (!((rs.take i).any (λx=>x.name.b==r.name.b)) && (!(r.kids.any<|d_q i) && a_o rs r))
def N_ (d:d_):Bool:=(decide (1<=(d.rules.length:Int)) && decide ((d.rules.length:Int)<=24)) && !((List.range d.rules.length).any (λi=>!d_r d.rules i))
theorem r_m (n:Nat)(hn:14<=n)(d:d_)(hd:SmD d){i:Nat}(hi:i<d.rules.length):h_M n d i=some (d_r d.rules i):=by
 unfold h_M e_y d_r;have hr:=hd.each d.rules[i] (gE_ hi)
 rw [dT_ (show (0:Int)<=(i:Int) by omega),dT_ (show (i:Int)<(d.rules.length:Int) by omega),gG_ hi,ix_ hi]
 simp only [fT_,bd_some,l_4 n hn,l_6<|Nat.le_of_lt hi,r_k n hn d _ hr.tags]
 generalize d.rules[i]=r;have O:=e_1 (body:=(λH=>(λ(_:Unit)=>bd (idx (d.rules.take i) ((H:Nat):Int)) λI=>if (I.name.b==r.name.b) then some (Out.ret false:Out Unit Bool) else some (.next ())))) (l:=d.rules.take i) (λx=>x.name.b==r.name.b) false (λk hk=>by simp only [ix_ hk,bd_some];exact d_p _ _)
 have V:=e_1 (body:=(λJ=>(λ(_:Unit)=>bd (idx r.kids ((J:Nat):Int)) λG=>bd (α:=Bool) (if (decide (G<0)) then some true else some (decide ((i:Int)<=G))) (λL=>if L then some (Out.ret false:Out Unit Bool) else some (.next ()))))) (l:=r.kids) (d_q i) false (λk hk=>by
  simp only [ix_ hk,bd_some]
  rw [show d_q i r.kids[k]=(decide (r.kids[k]<0) || decide ((i:Int)<=r.kids[k])) from rfl]
  generalize decide (r.kids[k]<0)=a;generalize decide ((i:Int)<=r.kids[k])=b
  cases a <;> cases b <;> rfl)
 rw [O,V]
 generalize b_7 r.name=a;generalize r.little=b;generalize (r.kind != 1)=c;generalize (d.rules.take i).any (λx=>x.name.b==r.name.b)=x;generalize r.kids.any (d_q i)=y;generalize a_o d.rules r=z
 cases a <;> cases b <;> cases c <;> cases x <;> cases y <;> rfl
theorem r_n (d:d_)(hd:SmD d){i:Nat}(hi:i<d.rules.length):h_x d i=some (d_r d.rules i):=by
 have hMX:MX=1048576:=rfl;have hdl:=hd.rules;unfold h_x d_r;have hr:=hd.each d.rules[i] (gE_ hi)
 rw [b_E,b_3 (x:=(d.rules.length:Int)) (by omega) (by omega),b_3 (x:=(i:Int)) (by omega) (by omega),dT_ (show (0:Int)<=(i:Int) by omega),dT_ (show (i:Int)<=(d.rules.length:Int) - 1 by omega),gG_ hi,ix_ hi]
 simp only [bd_some,l_3,r_l d _ hd.rules hr.tags]
 generalize d.rules[i]=r;have hl:((i:Int)).toNat=(d.rules.take i).length:=by simp;omega
 have V:x_ (σ:=Unit) (ρ:=Bool) (λH=>(λ(_:Unit)=>bd (idx d.rules ((H:Nat):Int)) λI=>if (I.name.b==r.name.b) then some (.ret false) else some (.next ()))) (i:Int).toNat 0 ()=some (if (d.rules.take i).any (λx=>x.name.b==r.name.b) then .inr false else .inl ()):=by
  rw [hl]
  refine e_1 (λx:g_=>x.name.b==r.name.b) false<|λk hk=>?_;have hk':k<d.rules.length:=by simp at hk;omega
  simp only [ix_ hk',bd_some,List.getElem_take]
  exact d_p _ _
 have W:x_ (σ:=Unit) (ρ:=Bool) (λJ=>(λ(_:Unit)=>bd (idx r.kids ((J:Nat):Int)) λL=>bd (a_Y L 0<|(i:Int) - 1) λO=>if (!O) then some (.ret false) else some (.next ()))) r.kids.length 0 ()=some (if r.kids.any (d_q i) then .inr false else .inl ()):=by
  refine e_1 (d_q i) false<|λk hk=>?_
  simp only [ix_ hk,bd_some,b_E]
  rw [show d_q i r.kids[k] = !(decide (0<=r.kids[k]) && decide (r.kids[k]<=(i:Int) - 1)) from by
   unfold d_q
   by_cases G:r.kids[k]<0
   .rw [dT_ G,dF_ (show ¬0<=r.kids[k] by omega)];rfl
   .rw [dF_ G,dT_ (show 0<=r.kids[k] by omega)]
    by_cases h1:(i:Int)<=r.kids[k]
    .rw [dT_ h1,dF_ (show ¬r.kids[k]<=(i:Int) - 1 by omega)];rfl
    .rw [dF_ h1,dT_ (show r.kids[k]<=(i:Int) - 1 by omega)];rfl]
  exact d_p _ _
 rw [V,W]
 have Y:(!(r.little && r.kind != 1))=(!r.little || r.kind==1):=by
  simp only [bne]
  generalize (r.kind==1)=c
  cases r.little <;> cases c <;> rfl
 rw [Y]
 generalize b_7 r.name=a;generalize (!r.little || r.kind==1)=b;generalize (d.rules.take i).any (λx=>x.name.b==r.name.b)=x;generalize r.kids.any (d_q i)=y;generalize a_o d.rules r=z
 cases a <;> cases b <;> cases x <;> cases y <;> cases z <;> rfl
theorem m_W (n:Nat)(hn:14<=n)(d:d_)(hd:SmD d):g_f n d=some (N_ d):=by
 unfold g_f N_
 rw [c_6,e_v (λi=>!d_r d.rules i) false (λk hk _=>by rw [r_m n hn d hd hk];simp only [bd_some];exact d_p _ _)]
 generalize (decide (1<=(d.rules.length:Int)) && decide ((d.rules.length:Int)<=24))=a;generalize (List.range d.rules.length).any (λi=>!d_r d.rules i)=b
 cases a <;> cases b <;> rfl
theorem l_7 (d:d_)(hd:SmD d):g_2 d=some (N_ d):=by
 unfold g_2 N_
 rw [b_E,e_v (λi=>!d_r d.rules i) false (λk hk _=>by rw [r_n d hd hk];simp only [bd_some];exact d_p _ _)]
 generalize (decide (1<=(d.rules.length:Int)) && decide ((d.rules.length:Int)<=24))=a;generalize (List.range d.rules.length).any (λi=>!d_r d.rules i)=b
 cases a <;> cases b <;> rfl
def b_c (d:d_)(r:Int):Bool:=decide (0<=r) && decide (r<(d.rules.length:Int))
theorem l_8 (n:Nat)(hn:14<=n)(d:d_)(hd:SmD d)(r:Int):f_d n d r=some (N_ d && b_c d r):=by
 unfold f_d e_y b_c
 rw [m_W n hn d hd]
 generalize N_ d=a;generalize decide (0<=r)=b;generalize decide (r<(d.rules.length:Int))=c
 cases a <;> cases b <;> rfl
theorem f_I (d:d_)(hd:SmD d)(r:Int):e_5 d r=some (N_ d && b_c d r):=by
 have hMX:MX=1048576:=rfl;have hdl:=hd.rules;unfold e_5 b_c
 rw [l_7 d hd,b_E,b_3 (x:=(d.rules.length:Int)) (by omega) (by omega),show decide (r<=(d.rules.length:Int) - 1)=decide (r<(d.rules.length:Int)) from decide_eq_decide.2 (by omega)]
 generalize N_ d=a;generalize decide (0<=r)=b;generalize decide (r<(d.rules.length:Int))=c
 cases a <;> cases b <;> cases c <;> rfl
end Go.Vw
