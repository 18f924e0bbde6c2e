
import Derived.Test.YteocmnebeeammaaGreatDoorVmB
namespace Go.Vw
open Go.RowKit Dat
def MX:Nat:=1048576
structure SmR (r:b_):Prop where
 name:r.name.b.length<=MX
 bytes:r.bytes.length<=MX
 names:r.names.length<=MX
 tags:r.tags.length<=MX
 kids:r.kids.length<=MX
 each:∀s∈r.names,s.b.length<=MX
structure SmD (d:d_):Prop where
 rules:d.rules.length<=MX
 each:∀r∈d.rules,SmR r
theorem q_T {α:Type}{c:Prop}[Decidable c](x y:α):(if c then some x else some y)=some (if c then x else y):=by split <;> rfl
theorem d_v {ρ:Type}{c:Bool}(x y:Out Unit ρ):(if c then some x else some y)=some (if c then x else y):=by split <;> rfl
def f_4 (c:UInt8):Bool:=decide (byteI (97:UInt8)<=byteI c) && decide (byteI c<=byteI (122:UInt8))
def a_G (c:UInt8):Bool:=decide (byteI (48:UInt8)<=byteI c) && decide (byteI c<=byteI (57:UInt8))
theorem m_R (c:UInt8):f_4 c=(decide (97<=(c.toNat:Int)) && decide ((c.toNat:Int)<=122)):=rfl
theorem e_s (c:UInt8):a_G c=(decide (48<=(c.toNat:Int)) && decide ((c.toNat:Int)<=57)):=rfl
theorem k_G (k:Nat):((k:Int)==0)=(k==0):=by
 rw [Bool.eq_iff_iff];simp
def b_y (s:Str)(k:Nat):Bool:=match s.b[k]? with
 | some c=>!f_4 c && (!a_G c || k==0)
 | none=>false
def b_4 (s:Str):Bool:=!((List.range s.b.length).any (b_y s)) && (decide (1<=s.b.length) && decide (s.b.length<=12))
theorem c_1 (x lo hi:Int):a_V x lo hi=some (decide (lo<=x) && decide (x<=hi)):=by
 unfold a_V;generalize decide (lo<=x)=a;generalize decide (x<=hi)=b
 cases a <;> rfl
theorem c_2 (x lo hi:Int):c_t x lo hi=some (decide (lo<=x) && decide (x<=hi)):=by
 unfold c_t;generalize decide (lo<=x)=a;generalize decide (x<=hi)=b
 cases a <;> rfl
theorem k_H (s:Str):f_e s=some (b_4 s):=by
 unfold f_e
 rw [e_B (b_y s) false]
 .unfold b_4
  cases (List.range s.b.length).any (b_y s)
  .have G:decide ((1:Int)<=s.b.length)=decide (1<=s.b.length):=decide_eq_decide.2 (by omega);have H:decide ((s.b.length:Int)<=12)=decide (s.b.length<=12):=decide_eq_decide.2 (by omega)
   simp only [bF_,fF_,bd_some,el_inl,c_1,G,H,Bool.not_false,Bool.true_and]
  .rfl
 .intro k hk _
  simp only [ix_ hk,bd_some,b_y,gG_ hk,f_4,a_G,k_G]
  generalize decide (byteI (97:UInt8)<=byteI s.b[k])=a;generalize decide (byteI s.b[k]<=byteI (122:UInt8))=b;generalize decide (byteI (48:UInt8)<=byteI s.b[k])=c;generalize decide (byteI s.b[k]<=byteI (57:UInt8))=d;generalize (k==0)=e
  cases a <;> cases b <;> cases c <;> cases d <;> cases e <;> rfl
theorem k_I (n:Nat)(hn:14<=n)(s:Str):e_J n s=some (b_4 s):=by
 unfold e_J
 by_cases h1:s.b.length<1
 .have:b_4 s=false:=by unfold b_4;simp [show ¬1<=s.b.length by omega]
  rw [this];simp [show ((s.b.length:Int)<1) by omega]
 by_cases h2:12<s.b.length
 .have:b_4 s=false:=by unfold b_4;simp [show ¬s.b.length<=12 by omega]
  rw [this];simp [show ¬((s.b.length:Int)<1) by omega,show ((12:Int)<s.b.length) by omega]
 have V:decide ((s.b.length:Int)<1)=false:=by simp;omega
 have W:decide ((12:Int)<(s.b.length:Int))=false:=by simp;omega
 rw [V,W]
 simp only [bF_,fF_,bd_some]
 have hstep:∀k,k<s.b.length->b_y s k=false->∀{ρ:Type}(x:Nat->ρ),x (k+(dec s k).2)=x (k+1):=by
  intro k hk hb ρ x
  rw [o_G hk]
  have hb':b_y s k=(!f_4 s.b[k] && (!a_G s.b[k] || k==0)):=by unfold b_y;rw [gG_ hk]
  rw [hb'] at hb
  rw [m_R,e_s] at hb
  simp only [Bool.and_eq_false_iff,Bool.not_eq_false',Bool.or_eq_false_iff,aE_,dE_] at hb
  omega
 have hgood:∀k (hk:k<s.b.length),b_y s k=(bd (α:=Bool) (if (decide<|97<=((dec s k).1)) then some (decide<|((dec s k).1)<=122) else some false) (λH=>bd (α:=Bool) (if (decide<|48<=((dec s k).1)) then some (decide<|((dec s k).1)<=57) else some false) (λI=>bd (α:=Bool) (if (!H) then if (!I) then some true else some ((k:Int)==0) else some false) some))).getD false /\
   (bd (α:=Bool) (if (decide<|97<=((dec s k).1)) then some (decide<|((dec s k).1)<=122) else some false) (λH=>bd (α:=Bool) (if (decide<|48<=((dec s k).1)) then some (decide<|((dec s k).1)<=57) else some false) (λI=>bd (α:=Bool) (if (!H) then if (!I) then some true else some ((k:Int)==0) else some false) (λJ=>if J then some (.ret false) else some (.next<|k+(dec s k).2)))))=some (if b_y s k then (.ret false:Out Nat Bool) else .next (k+(dec s k).2)):=by
  intro k hk;have hb':b_y s k=(!f_4 s.b[k] && (!a_G s.b[k] || k==0)):=by unfold b_y;rw [gG_ hk]
  rw [hb']
  rw [m_R,e_s]
  rw [k_G]
  by_cases ha:s.b[k].toNat<128
  .rw [o_G hk ha]
   simp only
   generalize (s.b[k].toNat:Int)=c;generalize decide (97<=c)=a;generalize decide (c<=122)=b;generalize decide (48<=c)=c';generalize decide (c<=57)=d;generalize (k==0)=e
   cases a <;> cases b <;> cases c' <;> cases d <;> cases e <;> exact ⟨rfl,rfl⟩
  .have hd:=s_R hk (by omega);generalize (dec s k).1=c at hd
   generalize (dec s k).2=c2;have g1:97<=c:=by omega
   have O:¬c<=122:=by omega
   have Y:48<=c:=by omega
   have g4:¬c<=57:=by omega
   have k2:¬(s.b[k].toNat:Int)<=122:=by omega
   have k4:¬(s.b[k].toNat:Int)<=57:=by omega
   simp [g1,O,Y,g4,k2,k4]
 have hit:a_1 (σ:=Nat) (ρ:=Bool) (λG=>if (decide<|G<s.b.length) then bd (α:=Bool) (if (decide<|97<=((dec s G).1)) then some (decide<|((dec s G).1)<=122) else some false) (λH=>bd (α:=Bool) (if (decide<|48<=((dec s G).1)) then some (decide<|((dec s G).1)<=57) else some false) (λI=>bd (α:=Bool) (if (!H) then if (!I) then some true else some ((G:Int)==0) else some false) (λJ=>if J then some (.ret false) else some (.next<|G+(dec s G).2)))) else some (.brk G)) n 0=some (if (List.range s.b.length).any (b_y s) then .inr false else .inl s.b.length):=by
  cases hf:(List.range s.b.length).find? (b_y s) with
  | none =>
   have hall:∀k,k<s.b.length->b_y s k=false:=λk hk=>by simpa using List.find?_eq_none.1 hf k (List.mem_range.2 hk)
   have hany:(List.range s.b.length).any (b_y s)=false:=by rw [List.any_eq_false];exact λx hx=>by simpa using List.find?_eq_none.1 hf x hx
   rw [hany]
   refine j_G (λk=>k) (j0:=s.b.length) (by omega) (λk hk=>?_) ?_
   .simp only [hk,decide_true,fT_]
    rw [(hgood k hk).2,hall k hk]
    simp only [bF_,fF_]
    rw [hstep k hk (hall k hk) (λx=>some<|Out.next x)]
   .simp
  | some k =>
   have hany:(List.range s.b.length).any (b_y s)=true:=List.any_eq_true.2 ⟨k,List.mem_of_find?_eq_some hf,List.find?_some hf⟩
   rw [hany]
   obtain ⟨hp,as,bs,hl,has⟩:=List.find?_eq_some_iff_append.1 hf;have hk:k<s.b.length:=List.mem_range.1<|List.mem_of_find?_eq_some hf
   have hbef:∀j,j<k->b_y s j=false:=by
    intro j hj;have hlen:as.length<s.b.length:=by have:=congrArg List.length hl;simp at this;omega
    have hke:as.length=k:=by
     have h2:(List.range s.b.length)[as.length]? = some k:=by rw [hl];simp
     rw [List.getElem?_range hlen] at h2
     exact Option.some.inj h2
    have hj':j<as.length:=by omega
    have h2:(List.range s.b.length)[j]? = some (as[j]):=by rw [hl,List.getElem?_append_left hj'];simp
    rw [List.getElem?_range (by omega)] at h2
    have h3:=has as[j] (gE_ hj')
    rw [← Option.some.inj h2] at h3
    simpa using h3
   refine o_F (λk=>k) (j0:=k) (by omega) (λj hj=>?_) ?_
   .have L:j<s.b.length:=by omega
    simp only [L,decide_true,fT_]
    rw [(hgood j L).2,hbef j hj]
    simp only [bF_,fF_]
    rw [hstep j L (hbef j hj) (λx=>some<|Out.next x)]
   .simp only [hk,decide_true,fT_]
    rw [(hgood k hk).2,hp]
    rfl
 rw [hit]
 unfold b_4;have g1:decide (1<=s.b.length)=true:=dT_ (by omega);have O:decide (s.b.length<=12)=true:=dT_ (by omega)
 rw [g1,O]
 cases (List.range s.b.length).any (b_y s) <;> rfl
def plain (r:b_)(a b c d:Bool)(k:Int):Bool:=(a || r.size==0) && ((b || (r.bytes.length:Int)==0) && ((c || (r.names.length:Int)==0) && ((d || (r.tags.length:Int)==0) && (decide (k<0) || (r.kids.length:Int)==k))))
theorem k_J (r:b_)(a b c d:Bool)(k:Int):c_J r a b c d k=some (plain r a b c d k):=by
 unfold c_J plain;generalize (r.size==0)=G;generalize ((r.bytes.length:Int)==0)=H;generalize ((r.names.length:Int)==0)=I;generalize ((r.tags.length:Int)==0)=J;generalize decide (k<0)=L;generalize ((r.kids.length:Int)==k)=O
 cases a <;> cases G <;> try rfl
 all_goals cases b <;> cases H <;> try rfl
 all_goals cases c <;> cases I <;> try rfl
 all_goals cases d <;> cases J <;> try rfl
 all_goals cases L <;> rfl
theorem q_U (r:b_)(a b c d:Bool)(k:Int):c_H r a b c d k=some (plain r a b c d k && (!r.little || r.kind==1)):=by
 unfold c_H plain;generalize (r.size==0)=G;generalize ((r.bytes.length:Int)==0)=H;generalize ((r.names.length:Int)==0)=I;generalize ((r.tags.length:Int)==0)=J;generalize decide (k<0)=L;generalize ((r.kids.length:Int)==k)=O;generalize (r.kind==1)=W;generalize r.little=V
 cases a <;> cases G <;> try rfl
 all_goals cases b <;> cases H <;> try rfl
 all_goals cases c <;> cases I <;> try rfl
 all_goals cases d <;> cases J <;> try rfl
 all_goals cases L <;> cases O <;> cases V <;> rfl
def lim (rs:List b_)(i:Int):Int:=match idx rs i with
 | some r=>if r.kind=1/\1<=r.size/\r.size<=4 then 256 ^ r.size.toNat - 1 else -1
 | none=>-1
theorem m_S {α:Type}{l:List α}{i:Int}(h:¬(0<=i/\i<l.length)):idx l i=none:=by
 unfold idx;split
 .rw [gN_];omega
 .rfl
theorem g_U {s:Int}(h1:1<=s)(h4:s<=4):K_ (b_Z .i64 1<|b_r 8 s) 1=256 ^ s.toNat - 1/\nn (b_r 8 s)=some ():=by
 have:s=1∨s=2∨s=3∨s=4:=by omega
 rcases this with rfl | rfl | rfl | rfl <;> exact ⟨by decide,by decide⟩
theorem f_P (d:d_)(i:Int):d_h d i=some (lim d.rules i):=by
 unfold d_h e_L lim
 by_cases h:0<=i/\i<d.rules.length
 .obtain ⟨G,h1⟩:=h
  rw [dT_ G,dT_ h1,j_C G (by omega)]
  generalize d.rules[i.toNat]=r
  simp only [fT_,bd_some,c_2]
  by_cases hk:r.kind=1
  .by_cases H:1<=r.size
   .by_cases I:r.size<=4
    .simp [hk,H,I,(g_U H I).1,(g_U H I).2]
    .simp [hk,H,I]
   .simp [hk,H]
  .simp [hk]
 .rw [m_S h]
  by_cases G:0<=i
  .have h1:¬i<d.rules.length:=λh1=>h ⟨G,h1⟩
   simp [G,h1]
  .simp [G]
theorem j_8 (d:d_)(i:Int)(hd:d.rules.length<=MX):e_7 d i=some (lim d.rules i):=by
 unfold e_7 lim
 rw [c_1]
 have hMX:MX=1048576:=rfl;have e:K_ (d.rules.length:Int) 1=(d.rules.length:Int) - 1:=b_n (by omega) (by omega)
 rw [e]
 by_cases h:0<=i/\i<d.rules.length
 .obtain ⟨G,h1⟩:=h
  rw [dT_ G,dT_ (show i<=(d.rules.length:Int) - 1 by omega),j_C G (by omega)]
  generalize d.rules[i.toNat]=r
  simp only [bd_some,c_1,e_E]
  by_cases hk:r.kind=1
  .by_cases H:1<=r.size
   .by_cases I:r.size<=4
    .simp [hk,H,I,(g_U H I).1,(g_U H I).2]
    .simp [hk,H,I]
   .simp [hk,H]
  .simp [hk]
 .rw [m_S h]
  by_cases G:0<=i
  .have h1:¬i<=(d.rules.length:Int) - 1:=λh1=>h ⟨G,by omega⟩
   simp [G,h1]
  .simp [G]
def d_7 (l:List Str)(s:Str):Bool:=l.any<|λx=>x.b==s.b
theorem m_T (l:List Str)(s:Str):f_i l s=some (d_7 l s):=by
 unfold f_i d_7
 rw [g_6 (λx=>x.b==s.b) true (λk hk=>by simp only [ix_ hk,bd_some];exact d_v _ _)]
 cases l.any (λx=>x.b==s.b) <;> rfl
theorem q_V (l:List Str)(s:Str):h_i l s=some (d_7 l s):=by
 unfold h_i d_7
 rw [g_6 (λx=>x.b==s.b) true (λk hk=>by simp only [ix_ hk,bd_some];exact d_v _ _)]
 cases l.any (λx=>x.b==s.b) <;> rfl
def c_x (l:List Str)(k:Nat):Bool:=match l[k]? with
 | some s=>!b_4 s || d_7 (l.take k) s
 | none=>false
def d_8 (m:Int)(l:List Int)(k:Nat):Bool:=match l[k]? with
 | some t=>!(decide (0<=t) && decide (t<=m)) || (decide (0<(k:Int)) && decide (t<=l.getD (k - 1) 0))
 | none=>false
def c_m (n:Nat):Bool:=decide (1<=(n:Int)) && decide ((n:Int)<=8)
def q_ (r:b_):Int:=r.kids.getD 0 0
def a_k (rs:List b_)(r:b_):Bool :=
 if r.kind==1 then plain r true false false false 0 && ((decide (1<=r.size) && decide (r.size<=4)) && (!r.little || decide (1<r.size)))
 else if r.kind==2 then plain r false true false false 0 && (decide (1<=(r.bytes.length:Int)) && decide ((r.bytes.length:Int)<=16))
 else if r.kind==3 then plain r true false false false 0 && (decide (1<=r.size) && decide (r.size<=64))
 else if r.kind==4 then plain r false false false false 1 && decide (0<lim rs (q_ r))
 else if r.kind==5 then plain r false false false false 2 && decide (0<lim rs (q_ r))
 else if r.kind==6 then plain r false false true false r.names.length && (!((List.range r.names.length).any (c_x r.names)) && c_m r.names.length)
 else if r.kind==7 then plain r false false false true ((r.tags.length:Int)+1) && (c_m r.tags.length && !((List.range r.tags.length).any (d_8 (lim rs<|q_ r) r.tags)))
 else if r.kind==8 then plain r false false false false 1
 else if r.kind==9 then plain r false false false false 1
 else if r.kind==10 then plain r false true false false 0 && ((r.bytes.length:Int)==1 && byteI (r.bytes.getD 0 0) != byteI (92:UInt8))
 else false
theorem d_a {r:b_}{a b c d:Bool}{k:Int}(h:plain r a b c d k=true)(hk:0<=k):(r.kids.length:Int)=k:=by
 unfold plain at h
 simp only [aE_,Bool.or_eq_true,dE_,beq_iff_eq] at h
 omega
theorem m_U (r:b_)(a b c d:Bool)(k:Int):plain r a b c d k=(plain r a b c d (-1) && (decide (k<0) || (r.kids.length:Int)==k)):=by
 unfold plain;simp [Bool.and_assoc]
theorem k_K {α:Type}{l:List α}{k:Nat}(h:k<=l.length):slc l 0 (k:Int)=some (l.take k):=by
 rw [e_A (Int.le_refl 0) (by omega) (by omega)];simp
theorem m_V (rs:List b_)(i:Int):lim rs i = -1∨0<lim rs i:=by
 unfold lim
 cases idx rs i with
 | none=>exact .inl rfl
 | some r =>
  simp only
  by_cases h:r.kind=1/\1<=r.size/\r.size<=4
  .rw [iP_ h]
   right
   obtain ⟨_,h1,h4⟩:=h;have:r.size=1∨r.size=2∨r.size=3∨r.size=4:=by omega
   rcases this with h | h | h | h <;> rw [h] <;> decide
  .rw [iN_ h];exact .inl rfl
theorem Z_ {α:Type}{l:List α}{k:Nat}{x:α}(h:k<l.length):l.getD k x=l[k]:=by simp [h]
theorem q_W (n:Nat)(hn:14<=n)(l:List Str):r_ (σ:=Unit) (ρ:=Bool) (λG=>(λ(_:Unit)=>bd (idx l ((G:Nat):Int)) λH=>bd (α:=Bool) (bd (e_J n H) λI=>if (!I) then some true else bd (slc l 0 ((G:Nat):Int)) λJ=>bd (f_i J H) λL=>some L) (λO=>if O then some (.ret false) else some (.next ())))) l.length 0 ()=some (if (List.range l.length).any (c_x l) then .inr false else .inl ()):=by
 refine e_B (c_x l) false<|λk hk _=>?_
 simp only [ix_ hk,bd_some,k_I n hn,k_K<|Nat.le_of_lt hk,m_T,c_x,gG_ hk]
 generalize b_4 l[k]=a;generalize d_7 (l.take k) l[k]=b
 cases a <;> cases b <;> rfl
theorem q_X (l:List Str):h_j l=some (!((List.range l.length).any (c_x l)) && c_m l.length):=by
 unfold h_j
 rw [e_B (c_x l) false]
 .rw [c_1]
  unfold c_m
  cases (List.range l.length).any (c_x l) <;> rfl
 .intro k hk _
  simp only [ix_ hk,bd_some,k_H,k_K<|Nat.le_of_lt hk,q_V,c_x,gG_ hk]
  generalize b_4 l[k]=a;generalize d_7 (l.take k) l[k]=b
  cases a <;> cases b <;> rfl
theorem q_Y (n:Nat)(hn:14<=n)(r:b_):h_z n r=some (plain r false false true false r.names.length && (!((List.range r.names.length).any (c_x r.names)) && c_m r.names.length)):=by
 unfold h_z
 rw [q_W n hn,k_J,c_2,m_U r _ _ _ _ r.names.length]
 have I:decide ((r.names.length:Int)<0)=false:=dF_ (by omega)
 rw [I]
 unfold c_m;generalize (List.range r.names.length).any (c_x r.names)=a;generalize plain r false false true false (-1)=b
 by_cases h:(r.kids.length:Int)=r.names.length
 .rw [h]
  have G:((r.names.length:Int)==(r.names.length:Int))=true:=by simp
  have H:((r.names.length:Int) != (r.names.length:Int))=false:=by simp
  rw [G,H]
  generalize (decide (1<=(r.names.length:Int)) && decide ((r.names.length:Int)<=8))=c
  cases a <;> cases b <;> cases c <;> rfl
 .have G:((r.kids.length:Int)==(r.names.length:Int))=false:=by simpa using h
  have H:((r.kids.length:Int) != (r.names.length:Int))=true:=by simpa using h
  rw [G,H]
  cases a <;> cases b <;> rfl
theorem j_9 {m:Int}{l:List Int}{k:Nat}(hk:k<l.length):d_8 m l k=(!(decide (0<=l[k]) && decide (l[k]<=m)) || (decide (0<(k:Int)) && decide (l[k]<=l.getD (k - 1) 0))):=by
 unfold d_8;rw [gG_ hk]
theorem m_W {l:List Int}{k:Nat}(hk:k<l.length)(G:0<k):idx l (K_ (k:Int) 1)=some (l.getD (k - 1) 0)∨¬l.length<=MX:=by
 by_cases hM:l.length<=MX
 .left
  have hMX:MX=1048576:=rfl
  rw [b_n (by omega) (by omega),j_C (by omega) (by omega),Z_ (by omega)]
  simp [show ((k:Int) - 1).toNat=k - 1 by omega]
 .exact .inr hM
theorem q_Z (m:Int)(l:List Int)(hl:l.length<=MX):r_ (σ:=Unit) (ρ:=Bool) (λG=>(λ(_:Unit)=>bd (idx l ((G:Nat):Int)) λI=>bd (α:=Bool) (bd (c_t I 0 m) λJ=>if (!J) then some true else if (decide<|0<((G:Nat):Int)) then bd (idx l<|K_ ((G:Nat):Int) 1) λL=>some (decide<|I<=L) else some false) (λO=>if O then some (.ret false) else some (.next ())))) l.length 0 ()=some (if (List.range l.length).any (d_8 m l) then .inr false else .inl ()):=by
 refine e_B (d_8 m l) false<|λk hk _=>?_
 simp only [ix_ hk,bd_some,c_2,j_9 hk]
 by_cases V:0<k
 .have e:=(m_W hk V).resolve_right (λh=>h hl);have H:decide (0<(k:Int))=true:=dT_ (by omega)
  rw [e,H]
  generalize decide (0<=l[k])=a;generalize decide (l[k]<=m)=b
  simp only [bd_some]
  generalize decide (l[k]<=l.getD (k - 1) 0)=c
  cases a <;> cases b <;> cases c <;> rfl
 .have H:decide (0<(k:Int))=false:=dF_ (by omega)
  rw [H]
  generalize decide (0<=l[k])=a;generalize decide (l[k]<=m)=b
  cases a <;> cases b <;> rfl
theorem b_s {r:b_}(h:0<r.kids.length):idx r.kids 0=some (q_ r):=by
 rw [a_Z h,q_,Z_ h]
theorem r_0 (d:d_)(r:b_)(ht:r.tags.length<=MX):h_A d r=some (plain r false false false true ((r.tags.length:Int)+1) && (c_m r.tags.length && !((List.range r.tags.length).any (d_8 (lim d.rules<|q_ r) r.tags)))):=by
 have hMX:MX=1048576:=rfl;unfold h_A
 rw [k_J,c_2,ia_ (x:=(r.tags.length:Int)) (by omega) (by omega)]
 unfold c_m
 cases hp:plain r false false false true ((r.tags.length:Int)+1)
 .rfl
 .have hk:=d_a hp (by omega)
  rw [b_s (by omega)]
  simp only [bd_some,nT_,bF_,fF_,f_P,q_Z _ _ ht]
  by_cases G:1<=(r.tags.length:Int)/\(r.tags.length:Int)<=8
  .rw [dT_ G.1,dT_ G.2]
   cases ha:(List.range r.tags.length).any (d_8 (lim d.rules<|q_ r) r.tags)
   .have hpos:0<lim d.rules (q_ r):=by
     rcases m_V d.rules (q_ r) with h | h
     .exfalso
      have H:0<r.tags.length:=by omega
      have:=List.any_eq_false.1 ha 0<|List.mem_range.2 H
      rw [j_9 H,h] at this
      simp only [Bool.or_eq_true,Bool.not_eq_true',Bool.and_eq_false_iff,decide_eq_false_iff_not] at this
      omega
     .exact h
    rw [dT_ hpos]
    rfl
   .rfl
  .have:(decide (1<=(r.tags.length:Int)) && decide ((r.tags.length:Int)<=8))=false:=by
    rw [Bool.and_eq_false_iff]
    simp only [decide_eq_false_iff_not]
    omega
   rw [this]
   rfl
theorem r_1 (d:d_)(r:b_)(hd:d.rules.length<=MX)(ht:r.tags.length<=MX):h_k d r=some (((r.kids.length:Int)==(r.tags.length:Int)+1) && (c_m r.tags.length && !((List.range r.tags.length).any (d_8 (lim d.rules<|q_ r) r.tags)))):=by
 have hMX:MX=1048576:=rfl;unfold h_k
 rw [ia_ (x:=(r.tags.length:Int)) (by omega) (by omega),c_1]
 unfold c_m
 by_cases hk:(r.kids.length:Int)=(r.tags.length:Int)+1
 .have G:((r.kids.length:Int)==(r.tags.length:Int)+1)=true:=by simpa using hk
  have H:((r.kids.length:Int) != (r.tags.length:Int)+1)=false:=by simpa using hk
  rw [G,H]
  rw [e_B (d_8 (lim d.rules<|q_ r) r.tags) false]
  .generalize (List.range r.tags.length).any (d_8 (lim d.rules<|q_ r) r.tags)=a;generalize (decide (1<=(r.tags.length:Int)) && decide ((r.tags.length:Int)<=8))=c
   cases a <;> cases c <;> rfl
  .intro k hk' _
   simp only [ix_ hk',bd_some,b_s (show 0<r.kids.length by omega),j_8 d _ hd,c_1,j_9 hk']
   by_cases J:0<k
   .have e:=(m_W hk' J).resolve_right (λh=>h ht);have I:decide (0<(k:Int))=true:=dT_ (by omega)
    rw [e,I]
    generalize decide (0<=r.tags[k])=a;generalize decide (r.tags[k]<=lim d.rules (q_ r))=b
    simp only [bd_some]
    generalize decide (r.tags[k]<=r.tags.getD (k - 1) 0)=c
    cases a <;> cases b <;> cases c <;> rfl
   .have I:decide (0<(k:Int))=false:=dF_ (by omega)
    rw [I]
    generalize decide (0<=r.tags[k])=a;generalize decide (r.tags[k]<=lim d.rules (q_ r))=b
    cases a <;> cases b <;> rfl
 .have G:((r.kids.length:Int)==(r.tags.length:Int)+1)=false:=by simpa using hk
  have H:((r.kids.length:Int) != (r.tags.length:Int)+1)=true:=by simpa using hk
  rw [G,H]
  rfl
theorem r_2 (n:Nat)(hn:14<=n)(d:d_)(r:b_)(ht:r.tags.length<=MX):h_B n d r=some (a_k d.rules r):=by
 unfold h_B a_k
 rw [q_Y n hn,r_0 d r ht]
 simp only [k_J,c_2,f_P,bd_some]
 cases (r.kind==1) with
 | true =>
  generalize plain r true false false false 0=a;generalize (decide (1<=r.size) && decide (r.size<=4))=b;generalize decide (1<r.size)=c;generalize r.little=e
  cases a <;> cases b <;> cases c <;> cases e <;> rfl
 | false =>
 cases (r.kind==2) with
 | true =>
  generalize plain r false true false false 0=a
  cases a <;> rfl
 | false =>
 cases (r.kind==3) with
 | true =>
  generalize plain r true false false false 0=a
  cases a <;> rfl
 | false =>
 cases (r.kind==4) with
 | true =>
  cases hp:plain r false false false false 1
  .rfl
  .have hk:=d_a hp (by omega)
   rw [b_s (by omega)]
   rfl
 | false =>
 cases (r.kind==5) with
 | true =>
  cases hp:plain r false false false false 2
  .rfl
  .have hk:=d_a hp (by omega)
   rw [b_s (by omega)]
   rfl
 | false =>
 cases (r.kind==6) with
 | true=>rfl
 | false =>
 cases (r.kind==7) with
 | true=>rfl
 | false =>
 cases (r.kind==8) with
 | true=>rfl
 | false =>
 cases (r.kind==9) with
 | true=>rfl
 | false =>
 cases (r.kind==10) with
 | true =>
  generalize plain r false true false false 0=a
  by_cases hb:(r.bytes.length:Int)=1
  .have e:((r.bytes.length:Int)==1)=true:=by simpa using hb
   rw [e,a_Z (show 0<r.bytes.length by omega),Z_ (show 0<r.bytes.length by omega)]
   cases a <;> rfl
  .have e:((r.bytes.length:Int)==1)=false:=by simpa using hb
   rw [e]
   cases a <;> rfl
 | false=>rfl
theorem r_3 (d:d_)(r:b_)(hd:d.rules.length<=MX)(ht:r.tags.length<=MX):h_l d r=some (a_k d.rules r && (!r.little || r.kind==1)):=by
 unfold h_l a_k
 rw [r_1 d r hd ht,q_X]
 simp only [q_U,c_1,j_8 d _ hd,bd_some]
 have G:plain r false false false true ((r.tags.length:Int)+1)=(plain r false false false true (-1) && ((r.kids.length:Int)==(r.tags.length:Int)+1)):=by
  rw [m_U,dF_ (show ¬((r.tags.length:Int)+1<0) by omega)];rfl
 rw [G]
 cases (r.kind==1) with
 | true =>
  generalize plain r true false false false 0=a;generalize (decide (1<=r.size) && decide (r.size<=4))=b;generalize decide (1<r.size)=c;generalize r.little=e
  cases a <;> cases b <;> cases c <;> cases e <;> rfl
 | false =>
 generalize r.little=e
 cases (r.kind==2) with
 | true =>
  generalize plain r false true false false 0=a;generalize (decide (1<=(r.bytes.length:Int)) && decide ((r.bytes.length:Int)<=16))=b
  cases a <;> cases e <;> cases b <;> rfl
 | false =>
 cases (r.kind==3) with
 | true =>
  generalize plain r true false false false 0=a;generalize (decide (1<=r.size) && decide (r.size<=64))=b
  cases a <;> cases e <;> cases b <;> rfl
 | false =>
 cases (r.kind==4) with
 | true =>
  cases hp:plain r false false false false 1
  .rfl
  .have hk:=d_a hp (by omega)
   rw [b_s (by omega)]
   simp only [bd_some]
   generalize decide (0<lim d.rules (q_ r))=b
   cases e <;> cases b <;> rfl
 | false =>
 cases (r.kind==5) with
 | true =>
  cases hp:plain r false false false false 2
  .rfl
  .have hk:=d_a hp (by omega)
   rw [b_s (by omega)]
   simp only [bd_some]
   generalize decide (0<lim d.rules (q_ r))=b
   cases e <;> cases b <;> rfl
 | false =>
 cases (r.kind==6) with
 | true =>
  generalize plain r false false true false r.names.length=a;generalize (!((List.range r.names.length).any (c_x r.names)) && c_m r.names.length)=b
  cases a <;> cases e <;> cases b <;> rfl
 | false =>
 cases (r.kind==7) with
 | true =>
  generalize plain r false false false true (-1)=a;generalize ((r.kids.length:Int)==(r.tags.length:Int)+1)=b;generalize (c_m r.tags.length && !((List.range r.tags.length).any (d_8 (lim d.rules<|q_ r) r.tags)))=c
  cases a <;> cases e <;> cases b <;> cases c <;> rfl
 | false =>
 cases (r.kind==8) with
 | true =>
  generalize plain r false false false false 1=a
  cases a <;> cases e <;> rfl
 | false =>
 cases (r.kind==9) with
 | true =>
  generalize plain r false false false false 1=a
  cases a <;> cases e <;> rfl
 | false =>
 cases (r.kind==10) with
 | true =>
  generalize plain r false true false false 0=a
  by_cases hb:(r.bytes.length:Int)=1
  .have e:((r.bytes.length:Int)==1)=true:=by simpa using hb
   rw [e,a_Z (show 0<r.bytes.length by omega),Z_ (show 0<r.bytes.length by omega)]
   simp only [bd_some]
   generalize (byteI r.bytes[0] != byteI (92:UInt8))=b
   rename_i e'
   cases a <;> cases e' <;> cases b <;> rfl
  .have e:((r.bytes.length:Int)==1)=false:=by simpa using hb
   rw [e]
   rename_i e'
   cases a <;> cases e' <;> rfl
 | false=>cases e <;> rfl
def d_w (i:Nat)(k:Int):Bool:=decide (k<0) || decide ((i:Int)<=k)
def d_x (rs:List b_)(i:Nat):Bool:=match rs[i]? with
 | none=>false
 | some r=>(b_4 r.name && !(r.little && r.kind != 1)) && (!((rs.take i).any (λx=>x.name.b==r.name.b)) && (!(r.kids.any<|d_w i) && a_k rs r))
def G_ (d:d_):Bool:=(decide (1<=(d.rules.length:Int)) && decide ((d.rules.length:Int)<=24)) && !((List.range d.rules.length).any (λi=>!d_x d.rules i))
theorem r_4 (n:Nat)(hn:14<=n)(d:d_)(hd:SmD d){i:Nat}(hi:i<d.rules.length):h_C n d i=some (d_x d.rules i):=by
 unfold h_C e_L d_x;have hr:=hd.each d.rules[i] (gE_ hi)
 rw [dT_ (show (0:Int)<=(i:Int) by omega),dT_ (show (i:Int)<(d.rules.length:Int) by omega),gG_ hi,ix_ hi]
 simp only [fT_,bd_some,k_I n hn,k_K<|Nat.le_of_lt hi,r_2 n hn d _ hr.tags]
 generalize d.rules[i]=r;have O:=g_6 (body:=(λH=>(λ(_:Unit)=>bd (idx (d.rules.take i) ((H:Nat):Int)) λI=>if (I.name.b==r.name.b) then some (Out.ret false:Out Unit Bool) else some (.next ())))) (l:=d.rules.take i) (λx=>x.name.b==r.name.b) false (λk hk=>by simp only [ix_ hk,bd_some];exact d_v _ _)
 have V:=g_6 (body:=(λJ=>(λ(_:Unit)=>bd (idx r.kids ((J:Nat):Int)) λG=>bd (α:=Bool) (if (decide (G<0)) then some true else some (decide ((i:Int)<=G))) (λL=>if L then some (Out.ret false:Out Unit Bool) else some (.next ()))))) (l:=r.kids) (d_w i) false (λk hk=>by
  simp only [ix_ hk,bd_some]
  rw [show d_w i r.kids[k]=(decide (r.kids[k]<0) || decide ((i:Int)<=r.kids[k])) from rfl]
  generalize decide (r.kids[k]<0)=a;generalize decide ((i:Int)<=r.kids[k])=b
  cases a <;> cases b <;> rfl)
 rw [O,V]
 generalize b_4 r.name=a;generalize r.little=b;generalize (r.kind != 1)=c;generalize (d.rules.take i).any (λx=>x.name.b==r.name.b)=x;generalize r.kids.any (d_w i)=y;generalize a_k d.rules r=z
 cases a <;> cases b <;> cases c <;> cases x <;> cases y <;> rfl
theorem r_5 (d:d_)(hd:SmD d){i:Nat}(hi:i<d.rules.length):h_m d i=some (d_x d.rules i):=by
 have hMX:MX=1048576:=rfl;have hdl:=hd.rules;unfold h_m d_x;have hr:=hd.each d.rules[i] (gE_ hi)
 rw [c_1,b_n (x:=(d.rules.length:Int)) (by omega) (by omega),b_n (x:=(i:Int)) (by omega) (by omega),dT_ (show (0:Int)<=(i:Int) by omega),dT_ (show (i:Int)<=(d.rules.length:Int) - 1 by omega),gG_ hi,ix_ hi]
 simp only [bd_some,k_H,r_3 d _ hd.rules hr.tags]
 generalize d.rules[i]=r;have hl:((i:Int)).toNat=(d.rules.take i).length:=by simp;omega
 have V:r_ (σ:=Unit) (ρ:=Bool) (λH=>(λ(_:Unit)=>bd (idx d.rules ((H:Nat):Int)) λI=>if (I.name.b==r.name.b) then some (.ret false) else some (.next ()))) (i:Int).toNat 0 ()=some (if (d.rules.take i).any (λx=>x.name.b==r.name.b) then .inr false else .inl ()):=by
  rw [hl]
  refine g_6 (λx:b_=>x.name.b==r.name.b) false<|λk hk=>?_;have hk':k<d.rules.length:=by simp at hk;omega
  simp only [ix_ hk',bd_some,List.getElem_take]
  exact d_v _ _
 have W:r_ (σ:=Unit) (ρ:=Bool) (λJ=>(λ(_:Unit)=>bd (idx r.kids ((J:Nat):Int)) λL=>bd (a_V L 0<|(i:Int) - 1) λO=>if (!O) then some (.ret false) else some (.next ()))) r.kids.length 0 ()=some (if r.kids.any (d_w i) then .inr false else .inl ()):=by
  refine g_6 (d_w i) false<|λk hk=>?_
  simp only [ix_ hk,bd_some,c_1]
  rw [show d_w i r.kids[k] = !(decide (0<=r.kids[k]) && decide (r.kids[k]<=(i:Int) - 1)) from by
   unfold d_w
   by_cases G:r.kids[k]<0
   .rw [dT_ G,dF_ (show ¬0<=r.kids[k] by omega)];rfl
   .rw [dF_ G,dT_ (show 0<=r.kids[k] by omega)]
    by_cases h1:(i:Int)<=r.kids[k]
    .rw [dT_ h1,dF_ (show ¬r.kids[k]<=(i:Int) - 1 by omega)];rfl
    .rw [dF_ h1,dT_ (show r.kids[k]<=(i:Int) - 1 by omega)];rfl]
  exact d_v _ _
 rw [V,W]
 have Y:(!(r.little && r.kind != 1))=(!r.little || r.kind==1):=by
  simp only [bne]
  generalize (r.kind==1)=c
  cases r.little <;> cases c <;> rfl
 rw [Y]
 generalize b_4 r.name=a;generalize (!r.little || r.kind==1)=b;generalize (d.rules.take i).any (λx=>x.name.b==r.name.b)=x;generalize r.kids.any (d_w i)=y;generalize a_k d.rules r=z
 cases a <;> cases b <;> cases x <;> cases y <;> cases z <;> rfl
theorem m_X (n:Nat)(hn:14<=n)(d:d_)(hd:SmD d):g_l n d=some (G_ d):=by
 unfold g_l G_
 rw [c_2,e_B (λi=>!d_x d.rules i) false (λk hk _=>by rw [r_4 n hn d hd hk];simp only [bd_some];exact d_v _ _)]
 generalize (decide (1<=(d.rules.length:Int)) && decide ((d.rules.length:Int)<=24))=a;generalize (List.range d.rules.length).any (λi=>!d_x d.rules i)=b
 cases a <;> cases b <;> rfl
theorem k_L (d:d_)(hd:SmD d):g_g d=some (G_ d):=by
 unfold g_g G_
 rw [c_1,e_B (λi=>!d_x d.rules i) false (λk hk _=>by rw [r_5 d hd hk];simp only [bd_some];exact d_v _ _)]
 generalize (decide (1<=(d.rules.length:Int)) && decide ((d.rules.length:Int)<=24))=a;generalize (List.range d.rules.length).any (λi=>!d_x d.rules i)=b
 cases a <;> cases b <;> rfl
def b_a (d:d_)(r:Int):Bool:=decide (0<=r) && decide (r<(d.rules.length:Int))
theorem j_a (n:Nat)(hn:14<=n)(d:d_)(hd:SmD d)(r:Int):e_M n d r=some (G_ d && b_a d r):=by
 unfold e_M e_L b_a
 rw [m_X n hn d hd]
 generalize G_ d=a;generalize decide (0<=r)=b;generalize decide (r<(d.rules.length:Int))=c
 cases a <;> cases b <;> rfl
theorem m_Y (d:d_)(hd:SmD d)(r:Int):g_j d r=some (G_ d && b_a d r):=by
 have hMX:MX=1048576:=rfl;have hdl:=hd.rules;unfold g_j b_a
 rw [k_L d hd,c_1,b_n (x:=(d.rules.length:Int)) (by omega) (by omega),show decide (r<=(d.rules.length:Int) - 1)=decide (r<(d.rules.length:Int)) from decide_eq_decide.2 (by omega)]
 generalize G_ d=a;generalize decide (0<=r)=b;generalize decide (r<(d.rules.length:Int))=c
 cases a <;> cases b <;> cases c <;> rfl
end Go.Vw
