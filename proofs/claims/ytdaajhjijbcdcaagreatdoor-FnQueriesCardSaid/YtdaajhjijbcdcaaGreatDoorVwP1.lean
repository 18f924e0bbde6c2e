
import Derived.Test.YtdaajhjijbcdcaaGreatDoorVmB
namespace Go.Vw
open Go.RowKit Dat
def MX:Nat:=1048576
structure SmR (r:d_):Prop where
 name:r.name.b.length<=MX
 bytes:r.bytes.length<=MX
 names:r.names.length<=MX
 tags:r.tags.length<=MX
 kids:r.kids.length<=MX
 each:∀s∈r.names,s.b.length<=MX
structure SmD (d:g_):Prop where
 rules:d.rules.length<=MX
 each:∀r∈d.rules,SmR r
theorem o_V {α:Type}{c:Prop}[Decidable c](x y:α):(if c then some x else some y)=some (if c then x else y):=by split <;> rfl
theorem d_r {ρ:Type}{c:Bool}(x y:Out Unit ρ):(if c then some x else some y)=some (if c then x else y):=by split <;> rfl
def e_O (c:UInt8):Bool:=decide (byteI (97:UInt8)<=byteI c) && decide (byteI c<=byteI (122:UInt8))
def a_U (c:UInt8):Bool:=decide (byteI (48:UInt8)<=byteI c) && decide (byteI c<=byteI (57:UInt8))
theorem l_K (c:UInt8):e_O c=(decide (97<=(c.toNat:Int)) && decide ((c.toNat:Int)<=122)):=rfl
theorem e_k (c:UInt8):a_U c=(decide (48<=(c.toNat:Int)) && decide ((c.toNat:Int)<=57)):=rfl
theorem j_S (k:Nat):((k:Int)==0)=(k==0):=by
 rw [Bool.eq_iff_iff];simp
def b_A (s:Str)(k:Nat):Bool:=match s.b[k]? with
 | some c=>!e_O c && (!a_U c || k==0)
 | none=>false
def b_i (s:Str):Bool:=!((List.range s.b.length).any (b_A s)) && (decide (1<=s.b.length) && decide (s.b.length<=12))
theorem b_Q (x lo hi:Int):b_a x lo hi=some (decide (lo<=x) && decide (x<=hi)):=by
 unfold b_a;generalize decide (lo<=x)=a;generalize decide (x<=hi)=b
 cases a <;> rfl
theorem f_F (x lo hi:Int):c_D x lo hi=some (decide (lo<=x) && decide (x<=hi)):=by
 unfold c_D;generalize decide (lo<=x)=a;generalize decide (x<=hi)=b
 cases a <;> rfl
theorem j_T (s:Str):f_0 s=some (b_i s):=by
 unfold f_0
 rw [e_q (b_A s) false]
 .unfold b_i
  cases (List.range s.b.length).any (b_A s)
  .have G:decide ((1:Int)<=s.b.length)=decide (1<=s.b.length):=decide_eq_decide.2 (by omega);have H:decide ((s.b.length:Int)<=12)=decide (s.b.length<=12):=decide_eq_decide.2 (by omega)
   simp only [bF_,fF_,bd_some,el_inl,b_Q,G,H,Bool.not_false,Bool.true_and]
  .rfl
 .intro k hk _
  simp only [ix_ hk,bd_some,b_A,gG_ hk,e_O,a_U,j_S]
  generalize decide (byteI (97:UInt8)<=byteI s.b[k])=a;generalize decide (byteI s.b[k]<=byteI (122:UInt8))=b;generalize decide (byteI (48:UInt8)<=byteI s.b[k])=c;generalize decide (byteI s.b[k]<=byteI (57:UInt8))=d;generalize (k==0)=e
  cases a <;> cases b <;> cases c <;> cases d <;> cases e <;> rfl
theorem j_U (n:Nat)(hn:14<=n)(s:Str):e_u n s=some (b_i s):=by
 unfold e_u
 by_cases h1:s.b.length<1
 .have:b_i s=false:=by unfold b_i;simp [show ¬1<=s.b.length by omega]
  rw [this];simp [show ((s.b.length:Int)<1) by omega]
 by_cases h2:12<s.b.length
 .have:b_i s=false:=by unfold b_i;simp [show ¬s.b.length<=12 by omega]
  rw [this];simp [show ¬((s.b.length:Int)<1) by omega,show ((12:Int)<s.b.length) by omega]
 have V:decide ((s.b.length:Int)<1)=false:=by simp;omega
 have W:decide ((12:Int)<(s.b.length:Int))=false:=by simp;omega
 rw [V,W]
 simp only [bF_,fF_,bd_some]
 have hstep:∀k,k<s.b.length->b_A s k=false->∀{ρ:Type}(x:Nat->ρ),x (k+(dec s k).2)=x (k+1):=by
  intro k hk hb ρ x
  rw [n_0 hk]
  have hb':b_A s k=(!e_O s.b[k] && (!a_U s.b[k] || k==0)):=by unfold b_A;rw [gG_ hk]
  rw [hb'] at hb
  rw [l_K,e_k] at hb
  simp only [Bool.and_eq_false_iff,Bool.not_eq_false',Bool.or_eq_false_iff,aE_,dE_] at hb
  omega
 have hgood:∀k (hk:k<s.b.length),b_A s k=(bd (α:=Bool) (if (decide<|97<=((dec s k).1)) then some (decide<|((dec s k).1)<=122) else some false) (λH=>bd (α:=Bool) (if (decide<|48<=((dec s k).1)) then some (decide<|((dec s k).1)<=57) else some false) (λI=>bd (α:=Bool) (if (!H) then if (!I) then some true else some ((k:Int)==0) else some false) some))).getD false /\
   (bd (α:=Bool) (if (decide<|97<=((dec s k).1)) then some (decide<|((dec s k).1)<=122) else some false) (λH=>bd (α:=Bool) (if (decide<|48<=((dec s k).1)) then some (decide<|((dec s k).1)<=57) else some false) (λI=>bd (α:=Bool) (if (!H) then if (!I) then some true else some ((k:Int)==0) else some false) (λJ=>if J then some (.ret false) else some (.next<|k+(dec s k).2)))))=some (if b_A s k then (.ret false:Out Nat Bool) else .next (k+(dec s k).2)):=by
  intro k hk;have hb':b_A s k=(!e_O s.b[k] && (!a_U s.b[k] || k==0)):=by unfold b_A;rw [gG_ hk]
  rw [hb']
  rw [l_K,e_k]
  rw [j_S]
  by_cases ha:s.b[k].toNat<128
  .rw [n_0 hk ha]
   simp only
   generalize (s.b[k].toNat:Int)=c;generalize decide (97<=c)=a;generalize decide (c<=122)=b;generalize decide (48<=c)=c';generalize decide (c<=57)=d;generalize (k==0)=e
   cases a <;> cases b <;> cases c' <;> cases d <;> cases e <;> exact ⟨rfl,rfl⟩
  .have hd:=q_H hk (by omega);generalize (dec s k).1=c at hd
   generalize (dec s k).2=c2;have g1:97<=c:=by omega
   have O:¬c<=122:=by omega
   have Y:48<=c:=by omega
   have g4:¬c<=57:=by omega
   have k2:¬(s.b[k].toNat:Int)<=122:=by omega
   have k4:¬(s.b[k].toNat:Int)<=57:=by omega
   simp [g1,O,Y,g4,k2,k4]
 have hit:a_8 (σ:=Nat) (ρ:=Bool) (λG=>if (decide<|G<s.b.length) then bd (α:=Bool) (if (decide<|97<=((dec s G).1)) then some (decide<|((dec s G).1)<=122) else some false) (λH=>bd (α:=Bool) (if (decide<|48<=((dec s G).1)) then some (decide<|((dec s G).1)<=57) else some false) (λI=>bd (α:=Bool) (if (!H) then if (!I) then some true else some ((G:Int)==0) else some false) (λJ=>if J then some (.ret false) else some (.next<|G+(dec s G).2)))) else some (.brk G)) n 0=some (if (List.range s.b.length).any (b_A s) then .inr false else .inl s.b.length):=by
  cases hf:(List.range s.b.length).find? (b_A s) with
  | none =>
   have hall:∀k,k<s.b.length->b_A s k=false:=λk hk=>by simpa using List.find?_eq_none.1 hf k (List.mem_range.2 hk)
   have hany:(List.range s.b.length).any (b_A s)=false:=by rw [List.any_eq_false];exact λx hx=>by simpa using List.find?_eq_none.1 hf x hx
   rw [hany]
   refine k_u (λk=>k) (j0:=s.b.length) (by omega) (λk hk=>?_) ?_
   .simp only [hk,decide_true,fT_]
    rw [(hgood k hk).2,hall k hk]
    simp only [bF_,fF_]
    rw [hstep k hk (hall k hk) (λx=>some<|Out.next x)]
   .simp
  | some k =>
   have hany:(List.range s.b.length).any (b_A s)=true:=List.any_eq_true.2 ⟨k,List.mem_of_find?_eq_some hf,List.find?_some hf⟩
   rw [hany]
   obtain ⟨hp,as,bs,hl,has⟩:=List.find?_eq_some_iff_append.1 hf;have hk:k<s.b.length:=List.mem_range.1<|List.mem_of_find?_eq_some hf
   have hbef:∀j,j<k->b_A s j=false:=by
    intro j hj;have hlen:as.length<s.b.length:=by have:=congrArg List.length hl;simp at this;omega
    have hke:as.length=k:=by
     have h2:(List.range s.b.length)[as.length]? = some k:=by rw [hl];simp
     rw [List.getElem?_range hlen] at h2
     exact Option.some.inj h2
    have hj':j<as.length:=by omega
    have h2:(List.range s.b.length)[j]? = some (as[j]):=by rw [hl,List.getElem?_append_left hj'];simp
    rw [List.getElem?_range (by omega)] at h2
    have h3:=has as[j] (gE_ hj')
    rw [← Option.some.inj h2] at h3
    simpa using h3
   refine m_Z (λk=>k) (j0:=k) (by omega) (λj hj=>?_) ?_
   .have L:j<s.b.length:=by omega
    simp only [L,decide_true,fT_]
    rw [(hgood j L).2,hbef j hj]
    simp only [bF_,fF_]
    rw [hstep j L (hbef j hj) (λx=>some<|Out.next x)]
   .simp only [hk,decide_true,fT_]
    rw [(hgood k hk).2,hp]
    rfl
 rw [hit]
 unfold b_i;have g1:decide (1<=s.b.length)=true:=dT_ (by omega);have O:decide (s.b.length<=12)=true:=dT_ (by omega)
 rw [g1,O]
 cases (List.range s.b.length).any (b_A s) <;> rfl
def plain (r:d_)(a b c d:Bool)(k:Int):Bool:=(a || r.size==0) && ((b || (r.bytes.length:Int)==0) && ((c || (r.names.length:Int)==0) && ((d || (r.tags.length:Int)==0) && (decide (k<0) || (r.kids.length:Int)==k))))
theorem j_V (r:d_)(a b c d:Bool)(k:Int):c_E r a b c d k=some (plain r a b c d k):=by
 unfold c_E plain;generalize (r.size==0)=G;generalize ((r.bytes.length:Int)==0)=H;generalize ((r.names.length:Int)==0)=I;generalize ((r.tags.length:Int)==0)=J;generalize decide (k<0)=L;generalize ((r.kids.length:Int)==k)=O
 cases a <;> cases G <;> try rfl
 all_goals cases b <;> cases H <;> try rfl
 all_goals cases c <;> cases I <;> try rfl
 all_goals cases d <;> cases J <;> try rfl
 all_goals cases L <;> rfl
theorem o_W (r:d_)(a b c d:Bool)(k:Int):c_B r a b c d k=some (plain r a b c d k && (!r.little || r.kind==1)):=by
 unfold c_B plain;generalize (r.size==0)=G;generalize ((r.bytes.length:Int)==0)=H;generalize ((r.names.length:Int)==0)=I;generalize ((r.tags.length:Int)==0)=J;generalize decide (k<0)=L;generalize ((r.kids.length:Int)==k)=O;generalize (r.kind==1)=W;generalize r.little=V
 cases a <;> cases G <;> try rfl
 all_goals cases b <;> cases H <;> try rfl
 all_goals cases c <;> cases I <;> try rfl
 all_goals cases d <;> cases J <;> try rfl
 all_goals cases L <;> cases O <;> cases V <;> rfl
def lim (rs:List d_)(i:Int):Int:=match idx rs i with
 | some r=>if r.kind=1/\1<=r.size/\r.size<=4 then 256 ^ r.size.toNat - 1 else -1
 | none=>-1
theorem l_L {α:Type}{l:List α}{i:Int}(h:¬(0<=i/\i<l.length)):idx l i=none:=by
 unfold idx;split
 .rw [gN_];omega
 .rfl
theorem i_D {s:Int}(h1:1<=s)(h4:s<=4):I_ (b_O .i64 1<|a_j 8 s) 1=256 ^ s.toNat - 1/\nn (a_j 8 s)=some ():=by
 have:s=1∨s=2∨s=3∨s=4:=by omega
 rcases this with rfl | rfl | rfl | rfl <;> exact ⟨by decide,by decide⟩
theorem l_M (d:g_)(i:Int):f_6 d i=some (lim d.rules i):=by
 unfold f_6 e_w lim
 by_cases h:0<=i/\i<d.rules.length
 .obtain ⟨G,h1⟩:=h
  rw [dT_ G,dT_ h1,d_X G (by omega)]
  generalize d.rules[i.toNat]=r
  simp only [fT_,bd_some,f_F]
  by_cases hk:r.kind=1
  .by_cases H:1<=r.size
   .by_cases I:r.size<=4
    .simp [hk,H,I,(i_D H I).1,(i_D H I).2]
    .simp [hk,H,I]
   .simp [hk,H]
  .simp [hk]
 .rw [l_L h]
  by_cases G:0<=i
  .have h1:¬i<d.rules.length:=λh1=>h ⟨G,h1⟩
   simp [G,h1]
  .simp [G]
theorem l_N (d:g_)(i:Int)(hd:d.rules.length<=MX):f_2 d i=some (lim d.rules i):=by
 unfold f_2 lim
 rw [b_Q]
 have hMX:MX=1048576:=rfl;have e:I_ (d.rules.length:Int) 1=(d.rules.length:Int) - 1:=b_9 (by omega) (by omega)
 rw [e]
 by_cases h:0<=i/\i<d.rules.length
 .obtain ⟨G,h1⟩:=h
  rw [dT_ G,dT_ (show i<=(d.rules.length:Int) - 1 by omega),d_X G (by omega)]
  generalize d.rules[i.toNat]=r
  simp only [bd_some,b_Q,e_1]
  by_cases hk:r.kind=1
  .by_cases H:1<=r.size
   .by_cases I:r.size<=4
    .simp [hk,H,I,(i_D H I).1,(i_D H I).2]
    .simp [hk,H,I]
   .simp [hk,H]
  .simp [hk]
 .rw [l_L h]
  by_cases G:0<=i
  .have h1:¬i<=(d.rules.length:Int) - 1:=λh1=>h ⟨G,by omega⟩
   simp [G,h1]
  .simp [G]
def d_O (l:List Str)(s:Str):Bool:=l.any<|λx=>x.b==s.b
theorem o_X (l:List Str)(s:Str):f_X l s=some (d_O l s):=by
 unfold f_X d_O
 rw [f_N (λx=>x.b==s.b) true (λk hk=>by simp only [ix_ hk,bd_some];exact d_r _ _)]
 cases l.any (λx=>x.b==s.b) <;> rfl
theorem o_Y (l:List Str)(s:Str):h_1 l s=some (d_O l s):=by
 unfold h_1 d_O
 rw [f_N (λx=>x.b==s.b) true (λk hk=>by simp only [ix_ hk,bd_some];exact d_r _ _)]
 cases l.any (λx=>x.b==s.b) <;> rfl
def c_t (l:List Str)(k:Nat):Bool:=match l[k]? with
 | some s=>!b_i s || d_O (l.take k) s
 | none=>false
def d_2 (m:Int)(l:List Int)(k:Nat):Bool:=match l[k]? with
 | some t=>!(decide (0<=t) && decide (t<=m)) || (decide (0<(k:Int)) && decide (t<=l.getD (k - 1) 0))
 | none=>false
def c_n (n:Nat):Bool:=decide (1<=(n:Int)) && decide ((n:Int)<=8)
def H_ (r:d_):Int:=r.kids.getD 0 0
def a_x (rs:List d_)(r:d_):Bool :=
 if r.kind==1 then plain r true false false false 0 && ((decide (1<=r.size) && decide (r.size<=4)) && (!r.little || decide (1<r.size)))
 else if r.kind==2 then plain r false true false false 0 && (decide (1<=(r.bytes.length:Int)) && decide ((r.bytes.length:Int)<=16))
 else if r.kind==3 then plain r true false false false 0 && (decide (1<=r.size) && decide (r.size<=64))
 else if r.kind==4 then plain r false false false false 1 && decide (0<lim rs (H_ r))
 else if r.kind==5 then plain r false false false false 2 && decide (0<lim rs (H_ r))
 else if r.kind==6 then plain r false false true false r.names.length && (!((List.range r.names.length).any (c_t r.names)) && c_n r.names.length)
 else if r.kind==7 then plain r false false false true ((r.tags.length:Int)+1) && (c_n r.tags.length && !((List.range r.tags.length).any (d_2 (lim rs<|H_ r) r.tags)))
 else if r.kind==8 then plain r false false false false 1
 else if r.kind==9 then plain r false false false false 1
 else if r.kind==10 then plain r false true false false 0 && ((r.bytes.length:Int)==1 && byteI (r.bytes.getD 0 0) != byteI (92:UInt8))
 else false
theorem d_4 {r:d_}{a b c d:Bool}{k:Int}(h:plain r a b c d k=true)(hk:0<=k):(r.kids.length:Int)=k:=by
 unfold plain at h
 simp only [aE_,Bool.or_eq_true,dE_,beq_iff_eq] at h
 omega
theorem l_O (r:d_)(a b c d:Bool)(k:Int):plain r a b c d k=(plain r a b c d (-1) && (decide (k<0) || (r.kids.length:Int)==k)):=by
 unfold plain;simp [Bool.and_assoc]
theorem j_W {α:Type}{l:List α}{k:Nat}(h:k<=l.length):slc l 0 (k:Int)=some (l.take k):=by
 rw [d_Y (Int.le_refl 0) (by omega) (by omega)];simp
theorem l_P (rs:List d_)(i:Int):lim rs i = -1∨0<lim rs i:=by
 unfold lim
 cases idx rs i with
 | none=>exact .inl rfl
 | some r =>
  simp only
  by_cases h:r.kind=1/\1<=r.size/\r.size<=4
  .rw [iP_ h]
   right
   obtain ⟨_,h1,h4⟩:=h;have:r.size=1∨r.size=2∨r.size=3∨r.size=4:=by omega
   rcases this with h | h | h | h <;> rw [h] <;> decide
  .rw [iN_ h];exact .inl rfl
theorem a_L {α:Type}{l:List α}{k:Nat}{x:α}(h:k<l.length):l.getD k x=l[k]:=by simp [h]
theorem o_Z (n:Nat)(hn:14<=n)(l:List Str):C_ (σ:=Unit) (ρ:=Bool) (λG=>(λ(_:Unit)=>bd (idx l ((G:Nat):Int)) λH=>bd (α:=Bool) (bd (e_u n H) λI=>if (!I) then some true else bd (slc l 0 ((G:Nat):Int)) λJ=>bd (f_X J H) λL=>some L) (λO=>if O then some (.ret false) else some (.next ())))) l.length 0 ()=some (if (List.range l.length).any (c_t l) then .inr false else .inl ()):=by
 refine e_q (c_t l) false<|λk hk _=>?_
 simp only [ix_ hk,bd_some,j_U n hn,j_W<|Nat.le_of_lt hk,o_X,c_t,gG_ hk]
 generalize b_i l[k]=a;generalize d_O (l.take k) l[k]=b
 cases a <;> cases b <;> rfl
theorem p_0 (l:List Str):h_2 l=some (!((List.range l.length).any (c_t l)) && c_n l.length):=by
 unfold h_2
 rw [e_q (c_t l) false]
 .rw [b_Q]
  unfold c_n
  cases (List.range l.length).any (c_t l) <;> rfl
 .intro k hk _
  simp only [ix_ hk,bd_some,j_T,j_W<|Nat.le_of_lt hk,o_Y,c_t,gG_ hk]
  generalize b_i l[k]=a;generalize d_O (l.take k) l[k]=b
  cases a <;> cases b <;> rfl
theorem p_1 (n:Nat)(hn:14<=n)(r:d_):h_k n r=some (plain r false false true false r.names.length && (!((List.range r.names.length).any (c_t r.names)) && c_n r.names.length)):=by
 unfold h_k
 rw [o_Z n hn,j_V,f_F,l_O r _ _ _ _ r.names.length]
 have I:decide ((r.names.length:Int)<0)=false:=dF_ (by omega)
 rw [I]
 unfold c_n;generalize (List.range r.names.length).any (c_t r.names)=a;generalize plain r false false true false (-1)=b
 by_cases h:(r.kids.length:Int)=r.names.length
 .rw [h]
  have G:((r.names.length:Int)==(r.names.length:Int))=true:=by simp
  have H:((r.names.length:Int) != (r.names.length:Int))=false:=by simp
  rw [G,H]
  generalize (decide (1<=(r.names.length:Int)) && decide ((r.names.length:Int)<=8))=c
  cases a <;> cases b <;> cases c <;> rfl
 .have G:((r.kids.length:Int)==(r.names.length:Int))=false:=by simpa using h
  have H:((r.kids.length:Int) != (r.names.length:Int))=true:=by simpa using h
  rw [G,H]
  cases a <;> cases b <;> rfl
theorem i_E {m:Int}{l:List Int}{k:Nat}(hk:k<l.length):d_2 m l k=(!(decide (0<=l[k]) && decide (l[k]<=m)) || (decide (0<(k:Int)) && decide (l[k]<=l.getD (k - 1) 0))):=by
 unfold d_2;rw [gG_ hk]
theorem l_Q {l:List Int}{k:Nat}(hk:k<l.length)(G:0<k):idx l (I_ (k:Int) 1)=some (l.getD (k - 1) 0)∨¬l.length<=MX:=by
 by_cases hM:l.length<=MX
 .left
  have hMX:MX=1048576:=rfl
  rw [b_9 (by omega) (by omega),d_X (by omega) (by omega),a_L (by omega)]
  simp [show ((k:Int) - 1).toNat=k - 1 by omega]
 .exact .inr hM
theorem p_2 (m:Int)(l:List Int)(hl:l.length<=MX):C_ (σ:=Unit) (ρ:=Bool) (λG=>(λ(_:Unit)=>bd (idx l ((G:Nat):Int)) λI=>bd (α:=Bool) (bd (c_D I 0 m) λJ=>if (!J) then some true else if (decide<|0<((G:Nat):Int)) then bd (idx l<|I_ ((G:Nat):Int) 1) λL=>some (decide<|I<=L) else some false) (λO=>if O then some (.ret false) else some (.next ())))) l.length 0 ()=some (if (List.range l.length).any (d_2 m l) then .inr false else .inl ()):=by
 refine e_q (d_2 m l) false<|λk hk _=>?_
 simp only [ix_ hk,bd_some,f_F,i_E hk]
 by_cases V:0<k
 .have e:=(l_Q hk V).resolve_right (λh=>h hl);have H:decide (0<(k:Int))=true:=dT_ (by omega)
  rw [e,H]
  generalize decide (0<=l[k])=a;generalize decide (l[k]<=m)=b
  simp only [bd_some]
  generalize decide (l[k]<=l.getD (k - 1) 0)=c
  cases a <;> cases b <;> cases c <;> rfl
 .have H:decide (0<(k:Int))=false:=dF_ (by omega)
  rw [H]
  generalize decide (0<=l[k])=a;generalize decide (l[k]<=m)=b
  cases a <;> cases b <;> rfl
theorem b_R {r:d_}(h:0<r.kids.length):idx r.kids 0=some (H_ r):=by
 rw [b_d h,H_,a_L h]
theorem p_3 (d:g_)(r:d_)(ht:r.tags.length<=MX):h_l d r=some (plain r false false false true ((r.tags.length:Int)+1) && (c_n r.tags.length && !((List.range r.tags.length).any (d_2 (lim d.rules<|H_ r) r.tags)))):=by
 have hMX:MX=1048576:=rfl;unfold h_l
 rw [j_V,f_F,ia_ (x:=(r.tags.length:Int)) (by omega) (by omega)]
 unfold c_n
 cases hp:plain r false false false true ((r.tags.length:Int)+1)
 .rfl
 .have hk:=d_4 hp (by omega)
  rw [b_R (by omega)]
  simp only [bd_some,nT_,bF_,fF_,l_M,p_2 _ _ ht]
  by_cases G:1<=(r.tags.length:Int)/\(r.tags.length:Int)<=8
  .rw [dT_ G.1,dT_ G.2]
   cases ha:(List.range r.tags.length).any (d_2 (lim d.rules<|H_ r) r.tags)
   .have hpos:0<lim d.rules (H_ r):=by
     rcases l_P d.rules (H_ r) with h | h
     .exfalso
      have H:0<r.tags.length:=by omega
      have:=List.any_eq_false.1 ha 0<|List.mem_range.2 H
      rw [i_E H,h] at this
      simp only [Bool.or_eq_true,Bool.not_eq_true',Bool.and_eq_false_iff,decide_eq_false_iff_not] at this
      omega
     .exact h
    rw [dT_ hpos]
    rfl
   .rfl
  .have:(decide (1<=(r.tags.length:Int)) && decide ((r.tags.length:Int)<=8))=false:=by
    rw [Bool.and_eq_false_iff]
    simp only [decide_eq_false_iff_not]
    omega
   rw [this]
   rfl
theorem p_4 (d:g_)(r:d_)(hd:d.rules.length<=MX)(ht:r.tags.length<=MX):h_3 d r=some (((r.kids.length:Int)==(r.tags.length:Int)+1) && (c_n r.tags.length && !((List.range r.tags.length).any (d_2 (lim d.rules<|H_ r) r.tags)))):=by
 have hMX:MX=1048576:=rfl;unfold h_3
 rw [ia_ (x:=(r.tags.length:Int)) (by omega) (by omega),b_Q]
 unfold c_n
 by_cases hk:(r.kids.length:Int)=(r.tags.length:Int)+1
 .have G:((r.kids.length:Int)==(r.tags.length:Int)+1)=true:=by simpa using hk
  have H:((r.kids.length:Int) != (r.tags.length:Int)+1)=false:=by simpa using hk
  rw [G,H]
  rw [e_q (d_2 (lim d.rules<|H_ r) r.tags) false]
  .generalize (List.range r.tags.length).any (d_2 (lim d.rules<|H_ r) r.tags)=a;generalize (decide (1<=(r.tags.length:Int)) && decide ((r.tags.length:Int)<=8))=c
   cases a <;> cases c <;> rfl
  .intro k hk' _
   simp only [ix_ hk',bd_some,b_R (show 0<r.kids.length by omega),l_N d _ hd,b_Q,i_E hk']
   by_cases J:0<k
   .have e:=(l_Q hk' J).resolve_right (λh=>h ht);have I:decide (0<(k:Int))=true:=dT_ (by omega)
    rw [e,I]
    generalize decide (0<=r.tags[k])=a;generalize decide (r.tags[k]<=lim d.rules (H_ r))=b
    simp only [bd_some]
    generalize decide (r.tags[k]<=r.tags.getD (k - 1) 0)=c
    cases a <;> cases b <;> cases c <;> rfl
   .have I:decide (0<(k:Int))=false:=dF_ (by omega)
    rw [I]
    generalize decide (0<=r.tags[k])=a;generalize decide (r.tags[k]<=lim d.rules (H_ r))=b
    cases a <;> cases b <;> rfl
 .have G:((r.kids.length:Int)==(r.tags.length:Int)+1)=false:=by simpa using hk
  have H:((r.kids.length:Int) != (r.tags.length:Int)+1)=true:=by simpa using hk
  rw [G,H]
  rfl
theorem p_5 (n:Nat)(hn:14<=n)(d:g_)(r:d_)(ht:r.tags.length<=MX):h_m n d r=some (a_x d.rules r):=by
 unfold h_m a_x
 rw [p_1 n hn,p_3 d r ht]
 simp only [j_V,f_F,l_M,bd_some]
 cases (r.kind==1) with
 | true =>
  generalize plain r true false false false 0=a;generalize (decide (1<=r.size) && decide (r.size<=4))=b;generalize decide (1<r.size)=c;generalize r.little=e
  cases a <;> cases b <;> cases c <;> cases e <;> rfl
 | false =>
 cases (r.kind==2) with
 | true =>
  generalize plain r false true false false 0=a
  cases a <;> rfl
 | false =>
 cases (r.kind==3) with
 | true =>
  generalize plain r true false false false 0=a
  cases a <;> rfl
 | false =>
 cases (r.kind==4) with
 | true =>
  cases hp:plain r false false false false 1
  .rfl
  .have hk:=d_4 hp (by omega)
   rw [b_R (by omega)]
   rfl
 | false =>
 cases (r.kind==5) with
 | true =>
  cases hp:plain r false false false false 2
  .rfl
  .have hk:=d_4 hp (by omega)
   rw [b_R (by omega)]
   rfl
 | false =>
 cases (r.kind==6) with
 | true=>rfl
 | false =>
 cases (r.kind==7) with
 | true=>rfl
 | false =>
 cases (r.kind==8) with
 | true=>rfl
 | false =>
 cases (r.kind==9) with
 | true=>rfl
 | false =>
 cases (r.kind==10) with
 | true =>
  generalize plain r false true false false 0=a
  by_cases hb:(r.bytes.length:Int)=1
  .have e:((r.bytes.length:Int)==1)=true:=by simpa using hb
   rw [e,b_d (show 0<r.bytes.length by omega),a_L (show 0<r.bytes.length by omega)]
   cases a <;> rfl
  .have e:((r.bytes.length:Int)==1)=false:=by simpa using hb
   rw [e]
   cases a <;> rfl
 | false=>rfl
theorem p_6 (d:g_)(r:d_)(hd:d.rules.length<=MX)(ht:r.tags.length<=MX):h_4 d r=some (a_x d.rules r && (!r.little || r.kind==1)):=by
 unfold h_4 a_x
 rw [p_4 d r hd ht,p_0]
 simp only [o_W,b_Q,l_N d _ hd,bd_some]
 have G:plain r false false false true ((r.tags.length:Int)+1)=(plain r false false false true (-1) && ((r.kids.length:Int)==(r.tags.length:Int)+1)):=by
  rw [l_O,dF_ (show ¬((r.tags.length:Int)+1<0) by omega)];rfl
 rw [G]
 cases (r.kind==1) with
 | true =>
  generalize plain r true false false false 0=a;generalize (decide (1<=r.size) && decide (r.size<=4))=b;generalize decide (1<r.size)=c;generalize r.little=e
  cases a <;> cases b <;> cases c <;> cases e <;> rfl
 | false =>
 generalize r.little=e
 cases (r.kind==2) with
 | true =>
  generalize plain r false true false false 0=a;generalize (decide (1<=(r.bytes.length:Int)) && decide ((r.bytes.length:Int)<=16))=b
  cases a <;> cases e <;> cases b <;> rfl
 | false =>
 cases (r.kind==3) with
 | true =>
  generalize plain r true false false false 0=a;generalize (decide (1<=r.size) && decide (r.size<=64))=b
  cases a <;> cases e <;> cases b <;> rfl
 | false =>
 cases (r.kind==4) with
 | true =>
  cases hp:plain r false false false false 1
  .rfl
  .have hk:=d_4 hp (by omega)
   rw [b_R (by omega)]
   simp only [bd_some]
   generalize decide (0<lim d.rules (H_ r))=b
   cases e <;> cases b <;> rfl
 | false =>
 cases (r.kind==5) with
 | true =>
  cases hp:plain r false false false false 2
  .rfl
  .have hk:=d_4 hp (by omega)
   rw [b_R (by omega)]
   simp only [bd_some]
   generalize decide (0<lim d.rules (H_ r))=b
   cases e <;> cases b <;> rfl
 | false =>
 cases (r.kind==6) with
 | true =>
  generalize plain r false false true false r.names.length=a;generalize (!((List.range r.names.length).any (c_t r.names)) && c_n r.names.length)=b
  cases a <;> cases e <;> cases b <;> rfl
 | false =>
 cases (r.kind==7) with
 | true =>
  generalize plain r false false false true (-1)=a;generalize ((r.kids.length:Int)==(r.tags.length:Int)+1)=b;generalize (c_n r.tags.length && !((List.range r.tags.length).any (d_2 (lim d.rules<|H_ r) r.tags)))=c
  cases a <;> cases e <;> cases b <;> cases c <;> rfl
 | false =>
 cases (r.kind==8) with
 | true =>
  generalize plain r false false false false 1=a
  cases a <;> cases e <;> rfl
 | false =>
 cases (r.kind==9) with
 | true =>
  generalize plain r false false false false 1=a
  cases a <;> cases e <;> rfl
 | false =>
 cases (r.kind==10) with
 | true =>
  generalize plain r false true false false 0=a
  by_cases hb:(r.bytes.length:Int)=1
  .have e:((r.bytes.length:Int)==1)=true:=by simpa using hb
   rw [e,b_d (show 0<r.bytes.length by omega),a_L (show 0<r.bytes.length by omega)]
   simp only [bd_some]
   generalize (byteI r.bytes[0] != byteI (92:UInt8))=b
   rename_i e'
   cases a <;> cases e' <;> cases b <;> rfl
  .have e:((r.bytes.length:Int)==1)=false:=by simpa using hb
   rw [e]
   rename_i e'
   cases a <;> cases e' <;> rfl
 | false=>cases e <;> rfl
def d_s (i:Nat)(k:Int):Bool:=decide (k<0) || decide ((i:Int)<=k)
def d_t (rs:List d_)(i:Nat):Bool:=match rs[i]? with
 | none=>false
 | some r=>(b_i r.name && !(r.little && r.kind != 1)) && (!((rs.take i).any (λx=>x.name.b==r.name.b)) && (!(r.kids.any<|d_s i) && a_x rs r))
def a_c (d:g_):Bool:=(decide (1<=(d.rules.length:Int)) && decide ((d.rules.length:Int)<=24)) && !((List.range d.rules.length).any (λi=>!d_t d.rules i))
theorem p_7 (n:Nat)(hn:14<=n)(d:g_)(hd:SmD d){i:Nat}(hi:i<d.rules.length):h_n n d i=some (d_t d.rules i):=by
 unfold h_n e_w d_t;have hr:=hd.each d.rules[i] (gE_ hi)
 rw [dT_ (show (0:Int)<=(i:Int) by omega),dT_ (show (i:Int)<(d.rules.length:Int) by omega),gG_ hi,ix_ hi]
 simp only [fT_,bd_some,j_U n hn,j_W<|Nat.le_of_lt hi,p_5 n hn d _ hr.tags]
 generalize d.rules[i]=r;have O:=f_N (body:=(λH=>(λ(_:Unit)=>bd (idx (d.rules.take i) ((H:Nat):Int)) λI=>if (I.name.b==r.name.b) then some (Out.ret false:Out Unit Bool) else some (.next ())))) (l:=d.rules.take i) (λx=>x.name.b==r.name.b) false (λk hk=>by simp only [ix_ hk,bd_some];exact d_r _ _)
 have V:=f_N (body:=(λJ=>(λ(_:Unit)=>bd (idx r.kids ((J:Nat):Int)) λG=>bd (α:=Bool) (if (decide (G<0)) then some true else some (decide ((i:Int)<=G))) (λL=>if L then some (Out.ret false:Out Unit Bool) else some (.next ()))))) (l:=r.kids) (d_s i) false (λk hk=>by
  simp only [ix_ hk,bd_some]
  rw [show d_s i r.kids[k]=(decide (r.kids[k]<0) || decide ((i:Int)<=r.kids[k])) from rfl]
  generalize decide (r.kids[k]<0)=a;generalize decide ((i:Int)<=r.kids[k])=b
  cases a <;> cases b <;> rfl)
 rw [O,V]
 generalize b_i r.name=a;generalize r.little=b;generalize (r.kind != 1)=c;generalize (d.rules.take i).any (λx=>x.name.b==r.name.b)=x;generalize r.kids.any (d_s i)=y;generalize a_x d.rules r=z
 cases a <;> cases b <;> cases c <;> cases x <;> cases y <;> rfl
theorem p_8 (d:g_)(hd:SmD d){i:Nat}(hi:i<d.rules.length):h_5 d i=some (d_t d.rules i):=by
 have hMX:MX=1048576:=rfl;have hdl:=hd.rules;unfold h_5 d_t;have hr:=hd.each d.rules[i] (gE_ hi)
 rw [b_Q,b_9 (x:=(d.rules.length:Int)) (by omega) (by omega),b_9 (x:=(i:Int)) (by omega) (by omega),dT_ (show (0:Int)<=(i:Int) by omega),dT_ (show (i:Int)<=(d.rules.length:Int) - 1 by omega),gG_ hi,ix_ hi]
 simp only [bd_some,j_T,p_6 d _ hd.rules hr.tags]
 generalize d.rules[i]=r;have hl:((i:Int)).toNat=(d.rules.take i).length:=by simp;omega
 have V:C_ (σ:=Unit) (ρ:=Bool) (λH=>(λ(_:Unit)=>bd (idx d.rules ((H:Nat):Int)) λI=>if (I.name.b==r.name.b) then some (.ret false) else some (.next ()))) (i:Int).toNat 0 ()=some (if (d.rules.take i).any (λx=>x.name.b==r.name.b) then .inr false else .inl ()):=by
  rw [hl]
  refine f_N (λx:d_=>x.name.b==r.name.b) false<|λk hk=>?_;have hk':k<d.rules.length:=by simp at hk;omega
  simp only [ix_ hk',bd_some,List.getElem_take]
  exact d_r _ _
 have W:C_ (σ:=Unit) (ρ:=Bool) (λJ=>(λ(_:Unit)=>bd (idx r.kids ((J:Nat):Int)) λL=>bd (b_a L 0<|(i:Int) - 1) λO=>if (!O) then some (.ret false) else some (.next ()))) r.kids.length 0 ()=some (if r.kids.any (d_s i) then .inr false else .inl ()):=by
  refine f_N (d_s i) false<|λk hk=>?_
  simp only [ix_ hk,bd_some,b_Q]
  rw [show d_s i r.kids[k] = !(decide (0<=r.kids[k]) && decide (r.kids[k]<=(i:Int) - 1)) from by
   unfold d_s
   by_cases G:r.kids[k]<0
   .rw [dT_ G,dF_ (show ¬0<=r.kids[k] by omega)];rfl
   .rw [dF_ G,dT_ (show 0<=r.kids[k] by omega)]
    by_cases h1:(i:Int)<=r.kids[k]
    .rw [dT_ h1,dF_ (show ¬r.kids[k]<=(i:Int) - 1 by omega)];rfl
    .rw [dF_ h1,dT_ (show r.kids[k]<=(i:Int) - 1 by omega)];rfl]
  exact d_r _ _
 rw [V,W]
 have Y:(!(r.little && r.kind != 1))=(!r.little || r.kind==1):=by
  simp only [bne]
  generalize (r.kind==1)=c
  cases r.little <;> cases c <;> rfl
 rw [Y]
 generalize b_i r.name=a;generalize (!r.little || r.kind==1)=b;generalize (d.rules.take i).any (λx=>x.name.b==r.name.b)=x;generalize r.kids.any (d_s i)=y;generalize a_x d.rules r=z
 cases a <;> cases b <;> cases x <;> cases y <;> cases z <;> rfl
theorem p_9 (n:Nat)(hn:14<=n)(d:g_)(hd:SmD d):h_o n d=some (a_c d):=by
 unfold h_o a_c
 rw [f_F,e_q (λi=>!d_t d.rules i) false (λk hk _=>by rw [p_7 n hn d hd hk];simp only [bd_some];exact d_r _ _)]
 generalize (decide (1<=(d.rules.length:Int)) && decide ((d.rules.length:Int)<=24))=a;generalize (List.range d.rules.length).any (λi=>!d_t d.rules i)=b
 cases a <;> cases b <;> rfl
theorem l_R (d:g_)(hd:SmD d):f_S d=some (a_c d):=by
 unfold f_S a_c
 rw [b_Q,e_q (λi=>!d_t d.rules i) false (λk hk _=>by rw [p_8 d hd hk];simp only [bd_some];exact d_r _ _)]
 generalize (decide (1<=(d.rules.length:Int)) && decide ((d.rules.length:Int)<=24))=a;generalize (List.range d.rules.length).any (λi=>!d_t d.rules i)=b
 cases a <;> cases b <;> rfl
def b_B (d:g_)(r:Int):Bool:=decide (0<=r) && decide (r<(d.rules.length:Int))
theorem j_X (n:Nat)(hn:14<=n)(d:g_)(hd:SmD d)(r:Int):f_7 n d r=some (a_c d && b_B d r):=by
 unfold f_7 e_w b_B
 rw [p_9 n hn d hd]
 generalize a_c d=a;generalize decide (0<=r)=b;generalize decide (r<(d.rules.length:Int))=c
 cases a <;> cases b <;> rfl
theorem p_a (d:g_)(hd:SmD d)(r:Int):h_f d r=some (a_c d && b_B d r):=by
 have hMX:MX=1048576:=rfl;have hdl:=hd.rules;unfold h_f b_B
 rw [l_R d hd,b_Q,b_9 (x:=(d.rules.length:Int)) (by omega) (by omega),show decide (r<=(d.rules.length:Int) - 1)=decide (r<(d.rules.length:Int)) from decide_eq_decide.2 (by omega)]
 generalize a_c d=a;generalize decide (0<=r)=b;generalize decide (r<(d.rules.length:Int))=c
 cases a <;> cases b <;> cases c <;> rfl
end Go.Vw
