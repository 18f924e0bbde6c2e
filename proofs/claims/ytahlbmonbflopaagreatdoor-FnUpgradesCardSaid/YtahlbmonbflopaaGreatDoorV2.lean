import Derived.Test.YtahlbmonbflopaaGreatDoorV1
namespace Go.Vw
open Go.RowKit Dat
def MX:Nat:=1048576
structure SmR (r:b_):Prop where
 name:r.name.b.length<=MX
 bytes:r.bytes.length<=MX
 names:r.names.length<=MX
 tags:r.tags.length<=MX
 kids:r.kids.length<=MX
 each:∀s∈r.names,s.b.length<=MX
structure SmD (d:c_):Prop where
 rules:d.rules.length<=MX
 each:∀r∈d.rules,SmR r
theorem p_t {α:Type}{c:Prop}[Decidable c](x y:α):(if c then some x else some y)=some (if c then x else y):=by split <;> rfl
theorem d_X {ρ:Type}{c:Bool}(x y:Out Unit ρ):(if c then some x else some y)=some (if c then x else y):=by split <;> rfl
def h_0 (c:UInt8):Bool:=decide (byteI (97:UInt8)<=byteI c) && decide (byteI c<=byteI (122:UInt8))
def h_1 (c:UInt8):Bool:=decide (byteI (48:UInt8)<=byteI c) && decide (byteI c<=byteI (57:UInt8))
theorem m_m (c:UInt8):h_0 c=(decide (97<=(c.toNat:Int)) && decide ((c.toNat:Int)<=122)):=rfl
theorem m_n (c:UInt8):h_1 c=(decide (48<=(c.toNat:Int)) && decide ((c.toNat:Int)<=57)):=rfl
theorem m_o (k:Nat):((k:Int)==0)=(k==0):=by
 rw [Bool.eq_iff_iff];simp
def b_K (s:Str)(k:Nat):Bool:=match s.b[k]? with
 | some c=>!h_0 c && (!h_1 c || k==0)
 | none=>false
def b_L (s:Str):Bool:=!((List.range s.b.length).any (b_K s)) && (decide (1<=s.b.length) && decide (s.b.length<=12))
theorem b_u (x lo hi:Int):b_6 x lo hi=some (decide (lo<=x) && decide (x<=hi)):=by
 unfold b_6;generalize decide (lo<=x)=a;generalize decide (x<=hi)=b
 cases a <;> rfl
theorem b_4 (x lo hi:Int):c_c x lo hi=some (decide (lo<=x) && decide (x<=hi)):=by
 unfold c_c;generalize decide (lo<=x)=a;generalize decide (x<=hi)=b
 cases a <;> rfl
theorem m_p (s:Str):h_m s=some (b_L s):=by
 unfold h_m
 rw [f_3 (b_K s) false]
 .unfold b_L
  cases (List.range s.b.length).any (b_K s)
  .have G:decide ((1:Int)<=s.b.length)=decide (1<=s.b.length):=decide_eq_decide.2 (by omega);have H:decide ((s.b.length:Int)<=12)=decide (s.b.length<=12):=decide_eq_decide.2 (by omega)
   simp only [bF_,fF_,bd_some,el_inl,b_u,G,H,Bool.not_false,Bool.true_and]
  .rfl
 .intro k hk _
  simp only [ix_ hk,bd_some,b_K,gG_ hk,h_0,h_1,m_o]
  generalize decide (byteI (97:UInt8)<=byteI s.b[k])=a;generalize decide (byteI s.b[k]<=byteI (122:UInt8))=b;generalize decide (byteI (48:UInt8)<=byteI s.b[k])=c;generalize decide (byteI s.b[k]<=byteI (57:UInt8))=d;generalize (k==0)=e
  cases a <;> cases b <;> cases c <;> cases d <;> cases e <;> rfl
theorem m_q (n:Nat)(hn:14<=n)(s:Str):g_o n s=some (b_L s):=by
 unfold g_o
 by_cases h1:s.b.length<1
 .have:b_L s=false:=by unfold b_L;simp [show ¬1<=s.b.length by omega]
  rw [this];simp [show ((s.b.length:Int)<1) by omega]
 by_cases h2:12<s.b.length
 .have:b_L s=false:=by unfold b_L;simp [show ¬s.b.length<=12 by omega]
  rw [this];simp [show ¬((s.b.length:Int)<1) by omega,show ((12:Int)<s.b.length) by omega]
 have V:decide ((s.b.length:Int)<1)=false:=by simp;omega
 have W:decide ((12:Int)<(s.b.length:Int))=false:=by simp;omega
 rw [V,W]
 simp only [bF_,fF_,bd_some]
 have hstep:∀k,k<s.b.length->b_K s k=false->∀{ρ:Type}(x:Nat->ρ),x (k+(dec s k).2)=x (k+1):=by
  intro k hk hb ρ x
  rw [n_I hk]
  have hb':b_K s k=(!h_0 s.b[k] && (!h_1 s.b[k] || k==0)):=by unfold b_K;rw [gG_ hk]
  rw [hb'] at hb
  rw [m_m,m_n] at hb
  simp only [Bool.and_eq_false_iff,Bool.not_eq_false',Bool.or_eq_false_iff,aE_,dE_] at hb
  omega
 have hgood:∀k (hk:k<s.b.length),b_K s k=(bd (α:=Bool) (if (decide<|97<=((dec s k).1)) then some (decide<|((dec s k).1)<=122) else some false) (λH=>bd (α:=Bool) (if (decide<|48<=((dec s k).1)) then some (decide<|((dec s k).1)<=57) else some false) (λI=>bd (α:=Bool) (if (!H) then if (!I) then some true else some ((k:Int)==0) else some false) some))).getD false /\
   (bd (α:=Bool) (if (decide<|97<=((dec s k).1)) then some (decide<|((dec s k).1)<=122) else some false) (λH=>bd (α:=Bool) (if (decide<|48<=((dec s k).1)) then some (decide<|((dec s k).1)<=57) else some false) (λI=>bd (α:=Bool) (if (!H) then if (!I) then some true else some ((k:Int)==0) else some false) (λJ=>if J then some (.ret false) else some (.next<|k+(dec s k).2)))))=some (if b_K s k then (.ret false:Out Nat Bool) else .next (k+(dec s k).2)):=by
  intro k hk;have hb':b_K s k=(!h_0 s.b[k] && (!h_1 s.b[k] || k==0)):=by unfold b_K;rw [gG_ hk]
  rw [hb']
  rw [m_m,m_n]
  rw [m_o]
  by_cases ha:s.b[k].toNat<128
  .rw [n_I hk ha]
   simp only
   generalize (s.b[k].toNat:Int)=c;generalize decide (97<=c)=a;generalize decide (c<=122)=b;generalize decide (48<=c)=c';generalize decide (c<=57)=d;generalize (k==0)=e
   cases a <;> cases b <;> cases c' <;> cases d <;> cases e <;> exact ⟨rfl,rfl⟩
  .have hd:=r_x hk (by omega);generalize (dec s k).1=c at hd
   generalize (dec s k).2=c2;have g1:97<=c:=by omega
   have O:¬c<=122:=by omega
   have Y:48<=c:=by omega
   have g4:¬c<=57:=by omega
   have k2:¬(s.b[k].toNat:Int)<=122:=by omega
   have k4:¬(s.b[k].toNat:Int)<=57:=by omega
   simp [g1,O,Y,g4,k2,k4]
 have hit:M_ (σ:=Nat) (ρ:=Bool) (λG=>if (decide<|G<s.b.length) then bd (α:=Bool) (if (decide<|97<=((dec s G).1)) then some (decide<|((dec s G).1)<=122) else some false) (λH=>bd (α:=Bool) (if (decide<|48<=((dec s G).1)) then some (decide<|((dec s G).1)<=57) else some false) (λI=>bd (α:=Bool) (if (!H) then if (!I) then some true else some ((G:Int)==0) else some false) (λJ=>if J then some (.ret false) else some (.next<|G+(dec s G).2)))) else some (.brk G)) n 0=some (if (List.range s.b.length).any (b_K s) then .inr false else .inl s.b.length):=by
  cases hf:(List.range s.b.length).find? (b_K s) with
  | none =>
   have hall:∀k,k<s.b.length->b_K s k=false:=λk hk=>by simpa using List.find?_eq_none.1 hf k (List.mem_range.2 hk)
   have hany:(List.range s.b.length).any (b_K s)=false:=by rw [List.any_eq_false];exact λx hx=>by simpa using List.find?_eq_none.1 hf x hx
   rw [hany]
   refine r_v (λk=>k) (j0:=s.b.length) (by omega) (λk hk=>?_) ?_
   .simp only [hk,decide_true,fT_]
    rw [(hgood k hk).2,hall k hk]
    simp only [bF_,fF_]
    rw [hstep k hk (hall k hk) (λx=>some<|Out.next x)]
   .simp
  | some k =>
   have hany:(List.range s.b.length).any (b_K s)=true:=List.any_eq_true.2 ⟨k,List.mem_of_find?_eq_some hf,List.find?_some hf⟩
   rw [hany]
   obtain ⟨hp,as,bs,hl,has⟩:=List.find?_eq_some_iff_append.1 hf;have hk:k<s.b.length:=List.mem_range.1<|List.mem_of_find?_eq_some hf
   have hbef:∀j,j<k->b_K s j=false:=by
    intro j hj;have hlen:as.length<s.b.length:=by have:=congrArg List.length hl;simp at this;omega
    have hke:as.length=k:=by
     have h2:(List.range s.b.length)[as.length]? = some k:=by rw [hl];simp
     rw [List.getElem?_range hlen] at h2
     exact Option.some.inj h2
    have hj':j<as.length:=by omega
    have h2:(List.range s.b.length)[j]? = some (as[j]):=by rw [hl,List.getElem?_append_left hj'];simp
    rw [List.getElem?_range (by omega)] at h2
    have h3:=has as[j] (gE_ hj')
    rw [← Option.some.inj h2] at h3
    simpa using h3
   refine r_w (λk=>k) (j0:=k) (by omega) (λj hj=>?_) ?_
   .have L:j<s.b.length:=by omega
    simp only [L,decide_true,fT_]
    rw [(hgood j L).2,hbef j hj]
    simp only [bF_,fF_]
    rw [hstep j L (hbef j hj) (λx=>some<|Out.next x)]
   .simp only [hk,decide_true,fT_]
    rw [(hgood k hk).2,hp]
    rfl
 rw [hit]
 unfold b_L;have g1:decide (1<=s.b.length)=true:=dT_ (by omega);have O:decide (s.b.length<=12)=true:=dT_ (by omega)
 rw [g1,O]
 cases (List.range s.b.length).any (b_K s) <;> rfl
def plain (r:b_)(a b c d:Bool)(k:Int):Bool:=(a || r.size==0) && ((b || (r.bytes.length:Int)==0) && ((c || (r.names.length:Int)==0) && ((d || (r.tags.length:Int)==0) && (decide (k<0) || (r.kids.length:Int)==k))))
theorem k_C (r:b_)(a b c d:Bool)(k:Int):c_A r a b c d k=some (plain r a b c d k):=by
 unfold c_A plain;generalize (r.size==0)=G;generalize ((r.bytes.length:Int)==0)=H;generalize ((r.names.length:Int)==0)=I;generalize ((r.tags.length:Int)==0)=J;generalize decide (k<0)=L;generalize ((r.kids.length:Int)==k)=O
 cases a <;> cases G <;> try rfl
 all_goals cases b <;> cases H <;> try rfl
 all_goals cases c <;> cases I <;> try rfl
 all_goals cases d <;> cases J <;> try rfl
 all_goals cases L <;> rfl
theorem p_u (r:b_)(a b c d:Bool)(k:Int):c_z r a b c d k=some (plain r a b c d k && (!r.little || r.kind==1)):=by
 unfold c_z plain;generalize (r.size==0)=G;generalize ((r.bytes.length:Int)==0)=H;generalize ((r.names.length:Int)==0)=I;generalize ((r.tags.length:Int)==0)=J;generalize decide (k<0)=L;generalize ((r.kids.length:Int)==k)=O;generalize (r.kind==1)=W;generalize r.little=V
 cases a <;> cases G <;> try rfl
 all_goals cases b <;> cases H <;> try rfl
 all_goals cases c <;> cases I <;> try rfl
 all_goals cases d <;> cases J <;> try rfl
 all_goals cases L <;> cases O <;> cases V <;> rfl
def lim (rs:List b_)(i:Int):Int:=match idx rs i with
 | some r=>if r.kind=1/\1<=r.size/\r.size<=4 then 256 ^ r.size.toNat - 1 else -1
 | none=>-1
theorem m_r {α:Type}{l:List α}{i:Int}(h:¬(0<=i/\i<l.length)):idx l i=none:=by
 unfold idx;split
 .rw [gN_];omega
 .rfl
theorem h_2 {s:Int}(h1:1<=s)(h4:s<=4):j_ (b_w .i64 1<|a_5 8 s) 1=256 ^ s.toNat - 1/\nn (a_5 8 s)=some ():=by
 have:s=1∨s=2∨s=3∨s=4:=by omega
 rcases this with rfl | rfl | rfl | rfl <;> exact ⟨by decide,by decide⟩
theorem c_Z (d:c_)(i:Int):c_M d i=some (lim d.rules i):=by
 unfold c_M f_9 lim
 by_cases h:0<=i/\i<d.rules.length
 .obtain ⟨G,h1⟩:=h
  rw [dT_ G,dT_ h1,f_2 G (by omega)]
  generalize d.rules[i.toNat]=r
  simp only [fT_,bd_some,b_4]
  by_cases hk:r.kind=1
  .by_cases H:1<=r.size
   .by_cases I:r.size<=4
    .simp [hk,H,I,(h_2 H I).1,(h_2 H I).2]
    .simp [hk,H,I]
   .simp [hk,H]
  .simp [hk]
 .rw [m_r h]
  by_cases G:0<=i
  .have h1:¬i<d.rules.length:=λh1=>h ⟨G,h1⟩
   simp [G,h1]
  .simp [G]
theorem h_3 (d:c_)(i:Int)(hd:d.rules.length<=MX):e_7 d i=some (lim d.rules i):=by
 unfold e_7 lim
 rw [b_u]
 have hMX:MX=1048576:=rfl;have e:j_ (d.rules.length:Int) 1=(d.rules.length:Int) - 1:=a_C (by omega) (by omega)
 rw [e]
 by_cases h:0<=i/\i<d.rules.length
 .obtain ⟨G,h1⟩:=h
  rw [dT_ G,dT_ (show i<=(d.rules.length:Int) - 1 by omega),f_2 G (by omega)]
  generalize d.rules[i.toNat]=r
  simp only [bd_some,b_u,d_a]
  by_cases hk:r.kind=1
  .by_cases H:1<=r.size
   .by_cases I:r.size<=4
    .simp [hk,H,I,(h_2 H I).1,(h_2 H I).2]
    .simp [hk,H,I]
   .simp [hk,H]
  .simp [hk]
 .rw [m_r h]
  by_cases G:0<=i
  .have h1:¬i<=(d.rules.length:Int) - 1:=λh1=>h ⟨G,by omega⟩
   simp [G,h1]
  .simp [G]
def d_j (l:List Str)(s:Str):Bool:=l.any<|λx=>x.b==s.b
theorem p_v (l:List Str)(s:Str):h_r l s=some (d_j l s):=by
 unfold h_r d_j
 rw [f_4 (λx=>x.b==s.b) true (λk hk=>by simp only [ix_ hk,bd_some];exact d_X _ _)]
 cases l.any (λx=>x.b==s.b) <;> rfl
theorem p_w (l:List Str)(s:Str):i_u l s=some (d_j l s):=by
 unfold i_u d_j
 rw [f_4 (λx=>x.b==s.b) true (λk hk=>by simp only [ix_ hk,bd_some];exact d_X _ _)]
 cases l.any (λx=>x.b==s.b) <;> rfl
def b_M (l:List Str)(k:Nat):Bool:=match l[k]? with
 | some s=>!b_L s || d_j (l.take k) s
 | none=>false
def c_t (m:Int)(l:List Int)(k:Nat):Bool:=match l[k]? with
 | some t=>!(decide (0<=t) && decide (t<=m)) || (decide (0<(k:Int)) && decide (t<=l.getD (k - 1) 0))
 | none=>false
def b_W (n:Nat):Bool:=decide (1<=(n:Int)) && decide ((n:Int)<=8)
def o_ (r:b_):Int:=r.kids.getD 0 0
def a_2 (rs:List b_)(r:b_):Bool :=
 if r.kind==1 then plain r true false false false 0 && ((decide (1<=r.size) && decide (r.size<=4)) && (!r.little || decide (1<r.size)))
 else if r.kind==2 then plain r false true false false 0 && (decide (1<=(r.bytes.length:Int)) && decide ((r.bytes.length:Int)<=16))
 else if r.kind==3 then plain r true false false false 0 && (decide (1<=r.size) && decide (r.size<=64))
 else if r.kind==4 then plain r false false false false 1 && decide (0<lim rs (o_ r))
 else if r.kind==5 then plain r false false false false 2 && decide (0<lim rs (o_ r))
 else if r.kind==6 then plain r false false true false r.names.length && (!((List.range r.names.length).any (b_M r.names)) && b_W r.names.length)
 else if r.kind==7 then plain r false false false true ((r.tags.length:Int)+1) && (b_W r.tags.length && !((List.range r.tags.length).any (c_t (lim rs<|o_ r) r.tags)))
 else if r.kind==8 then plain r false false false false 1
 else if r.kind==9 then plain r false false false false 1
 else if r.kind==10 then plain r false true false false 0 && ((r.bytes.length:Int)==1 && byteI (r.bytes.getD 0 0) != byteI (92:UInt8))
 else false
theorem d_0 {r:b_}{a b c d:Bool}{k:Int}(h:plain r a b c d k=true)(hk:0<=k):(r.kids.length:Int)=k:=by
 unfold plain at h
 simp only [aE_,Bool.or_eq_true,dE_,beq_iff_eq] at h
 omega
theorem m_s (r:b_)(a b c d:Bool)(k:Int):plain r a b c d k=(plain r a b c d (-1) && (decide (k<0) || (r.kids.length:Int)==k)):=by
 unfold plain;simp [Bool.and_assoc]
theorem j_r {α:Type}{l:List α}{k:Nat}(h:k<=l.length):slc l 0 (k:Int)=some (l.take k):=by
 rw [g_f (Int.le_refl 0) (by omega) (by omega)];simp
theorem m_t (rs:List b_)(i:Int):lim rs i = -1∨0<lim rs i:=by
 unfold lim
 cases idx rs i with
 | none=>exact .inl rfl
 | some r =>
  simp only
  by_cases h:r.kind=1/\1<=r.size/\r.size<=4
  .rw [iP_ h]
   right
   obtain ⟨_,h1,h4⟩:=h;have:r.size=1∨r.size=2∨r.size=3∨r.size=4:=by omega
   rcases this with h | h | h | h <;> rw [h] <;> decide
  .rw [iN_ h];exact .inl rfl
theorem a_8 {α:Type}{l:List α}{k:Nat}{x:α}(h:k<l.length):l.getD k x=l[k]:=by simp [h]
theorem p_x (n:Nat)(hn:14<=n)(l:List Str):y_ (σ:=Unit) (ρ:=Bool) (λG=>(λ(_:Unit)=>bd (idx l ((G:Nat):Int)) λH=>bd (α:=Bool) (bd (g_o n H) λI=>if (!I) then some true else bd (slc l 0 ((G:Nat):Int)) λJ=>bd (h_r J H) λL=>some L) (λO=>if O then some (.ret false) else some (.next ())))) l.length 0 ()=some (if (List.range l.length).any (b_M l) then .inr false else .inl ()):=by
 refine f_3 (b_M l) false<|λk hk _=>?_
 simp only [ix_ hk,bd_some,m_q n hn,j_r<|Nat.le_of_lt hk,p_v,b_M,gG_ hk]
 generalize b_L l[k]=a;generalize d_j (l.take k) l[k]=b
 cases a <;> cases b <;> rfl
theorem p_y (l:List Str):i_v l=some (!((List.range l.length).any (b_M l)) && b_W l.length):=by
 unfold i_v
 rw [f_3 (b_M l) false]
 .rw [b_u]
  unfold b_W
  cases (List.range l.length).any (b_M l) <;> rfl
 .intro k hk _
  simp only [ix_ hk,bd_some,m_p,j_r<|Nat.le_of_lt hk,p_w,b_M,gG_ hk]
  generalize b_L l[k]=a;generalize d_j (l.take k) l[k]=b
  cases a <;> cases b <;> rfl
theorem p_z (n:Nat)(hn:14<=n)(r:b_):i_I n r=some (plain r false false true false r.names.length && (!((List.range r.names.length).any (b_M r.names)) && b_W r.names.length)):=by
 unfold i_I
 rw [p_x n hn,k_C,b_4,m_s r _ _ _ _ r.names.length]
 have I:decide ((r.names.length:Int)<0)=false:=dF_ (by omega)
 rw [I]
 unfold b_W;generalize (List.range r.names.length).any (b_M r.names)=a;generalize plain r false false true false (-1)=b
 by_cases h:(r.kids.length:Int)=r.names.length
 .rw [h]
  have G:((r.names.length:Int)==(r.names.length:Int))=true:=by simp
  have H:((r.names.length:Int) != (r.names.length:Int))=false:=by simp
  rw [G,H]
  generalize (decide (1<=(r.names.length:Int)) && decide ((r.names.length:Int)<=8))=c
  cases a <;> cases b <;> cases c <;> rfl
 .have G:((r.kids.length:Int)==(r.names.length:Int))=false:=by simpa using h
  have H:((r.kids.length:Int) != (r.names.length:Int))=true:=by simpa using h
  rw [G,H]
  cases a <;> cases b <;> rfl
theorem i_d {m:Int}{l:List Int}{k:Nat}(hk:k<l.length):c_t m l k=(!(decide (0<=l[k]) && decide (l[k]<=m)) || (decide (0<(k:Int)) && decide (l[k]<=l.getD (k - 1) 0))):=by
 unfold c_t;rw [gG_ hk]
theorem m_u {l:List Int}{k:Nat}(hk:k<l.length)(G:0<k):idx l (j_ (k:Int) 1)=some (l.getD (k - 1) 0)∨¬l.length<=MX:=by
 by_cases hM:l.length<=MX
 .left
  have hMX:MX=1048576:=rfl
  rw [a_C (by omega) (by omega),f_2 (by omega) (by omega),a_8 (by omega)]
  simp [show ((k:Int) - 1).toNat=k - 1 by omega]
 .exact .inr hM
theorem p_A (m:Int)(l:List Int)(hl:l.length<=MX):y_ (σ:=Unit) (ρ:=Bool) (λG=>(λ(_:Unit)=>bd (idx l ((G:Nat):Int)) λI=>bd (α:=Bool) (bd (c_c I 0 m) λJ=>if (!J) then some true else if (decide<|0<((G:Nat):Int)) then bd (idx l<|j_ ((G:Nat):Int) 1) λL=>some (decide<|I<=L) else some false) (λO=>if O then some (.ret false) else some (.next ())))) l.length 0 ()=some (if (List.range l.length).any (c_t m l) then .inr false else .inl ()):=by
 refine f_3 (c_t m l) false<|λk hk _=>?_
 simp only [ix_ hk,bd_some,b_4,i_d hk]
 by_cases V:0<k
 .have e:=(m_u hk V).resolve_right (λh=>h hl);have H:decide (0<(k:Int))=true:=dT_ (by omega)
  rw [e,H]
  generalize decide (0<=l[k])=a;generalize decide (l[k]<=m)=b
  simp only [bd_some]
  generalize decide (l[k]<=l.getD (k - 1) 0)=c
  cases a <;> cases b <;> cases c <;> rfl
 .have H:decide (0<(k:Int))=false:=dF_ (by omega)
  rw [H]
  generalize decide (0<=l[k])=a;generalize decide (l[k]<=m)=b
  cases a <;> cases b <;> rfl
theorem d_1 {r:b_}(h:0<r.kids.length):idx r.kids 0=some (o_ r):=by
 rw [a_h h,o_,a_8 h]
theorem p_B (d:c_)(r:b_)(ht:r.tags.length<=MX):i_J d r=some (plain r false false false true ((r.tags.length:Int)+1) && (b_W r.tags.length && !((List.range r.tags.length).any (c_t (lim d.rules<|o_ r) r.tags)))):=by
 have hMX:MX=1048576:=rfl;unfold i_J
 rw [k_C,b_4,ia_ (x:=(r.tags.length:Int)) (by omega) (by omega)]
 unfold b_W
 cases hp:plain r false false false true ((r.tags.length:Int)+1)
 .rfl
 .have hk:=d_0 hp (by omega)
  rw [d_1 (by omega)]
  simp only [bd_some,nT_,bF_,fF_,c_Z,p_A _ _ ht]
  by_cases G:1<=(r.tags.length:Int)/\(r.tags.length:Int)<=8
  .rw [dT_ G.1,dT_ G.2]
   cases ha:(List.range r.tags.length).any (c_t (lim d.rules<|o_ r) r.tags)
   .have hpos:0<lim d.rules (o_ r):=by
     rcases m_t d.rules (o_ r) with h | h
     .exfalso
      have H:0<r.tags.length:=by omega
      have:=List.any_eq_false.1 ha 0<|List.mem_range.2 H
      rw [i_d H,h] at this
      simp only [Bool.or_eq_true,Bool.not_eq_true',Bool.and_eq_false_iff,decide_eq_false_iff_not] at this
      omega
     .exact h
    rw [dT_ hpos]
    rfl
   .rfl
  .have:(decide (1<=(r.tags.length:Int)) && decide ((r.tags.length:Int)<=8))=false:=by
    rw [Bool.and_eq_false_iff]
    simp only [decide_eq_false_iff_not]
    omega
   rw [this]
   rfl
theorem p_C (d:c_)(r:b_)(hd:d.rules.length<=MX)(ht:r.tags.length<=MX):i_w d r=some (((r.kids.length:Int)==(r.tags.length:Int)+1) && (b_W r.tags.length && !((List.range r.tags.length).any (c_t (lim d.rules<|o_ r) r.tags)))):=by
 have hMX:MX=1048576:=rfl;unfold i_w
 rw [ia_ (x:=(r.tags.length:Int)) (by omega) (by omega),b_u]
 unfold b_W
 by_cases hk:(r.kids.length:Int)=(r.tags.length:Int)+1
 .have G:((r.kids.length:Int)==(r.tags.length:Int)+1)=true:=by simpa using hk
  have H:((r.kids.length:Int) != (r.tags.length:Int)+1)=false:=by simpa using hk
  rw [G,H]
  rw [f_3 (c_t (lim d.rules<|o_ r) r.tags) false]
  .generalize (List.range r.tags.length).any (c_t (lim d.rules<|o_ r) r.tags)=a;generalize (decide (1<=(r.tags.length:Int)) && decide ((r.tags.length:Int)<=8))=c
   cases a <;> cases c <;> rfl
  .intro k hk' _
   simp only [ix_ hk',bd_some,d_1 (show 0<r.kids.length by omega),h_3 d _ hd,b_u,i_d hk']
   by_cases J:0<k
   .have e:=(m_u hk' J).resolve_right (λh=>h ht);have I:decide (0<(k:Int))=true:=dT_ (by omega)
    rw [e,I]
    generalize decide (0<=r.tags[k])=a;generalize decide (r.tags[k]<=lim d.rules (o_ r))=b
    simp only [bd_some]
    generalize decide (r.tags[k]<=r.tags.getD (k - 1) 0)=c
    cases a <;> cases b <;> cases c <;> rfl
   .have I:decide (0<(k:Int))=false:=dF_ (by omega)
    rw [I]
    generalize decide (0<=r.tags[k])=a;generalize decide (r.tags[k]<=lim d.rules (o_ r))=b
    cases a <;> cases b <;> rfl
 .have G:((r.kids.length:Int)==(r.tags.length:Int)+1)=false:=by simpa using hk
  have H:((r.kids.length:Int) != (r.tags.length:Int)+1)=true:=by simpa using hk
  rw [G,H]
  rfl
theorem p_D (n:Nat)(hn:14<=n)(d:c_)(r:b_)(ht:r.tags.length<=MX):i_K n d r=some (a_2 d.rules r):=by
 unfold i_K a_2
 rw [p_z n hn,p_B d r ht]
 simp only [k_C,b_4,c_Z,bd_some]
 cases (r.kind==1) with
 | true =>
  generalize plain r true false false false 0=a;generalize (decide (1<=r.size) && decide (r.size<=4))=b;generalize decide (1<r.size)=c;generalize r.little=e
  cases a <;> cases b <;> cases c <;> cases e <;> rfl
 | false =>
 cases (r.kind==2) with
 | true =>
  generalize plain r false true false false 0=a
  cases a <;> rfl
 | false =>
 cases (r.kind==3) with
 | true =>
  generalize plain r true false false false 0=a
  cases a <;> rfl
 | false =>
 cases (r.kind==4) with
 | true =>
  cases hp:plain r false false false false 1
  .rfl
  .have hk:=d_0 hp (by omega)
   rw [d_1 (by omega)]
   rfl
 | false =>
 cases (r.kind==5) with
 | true =>
  cases hp:plain r false false false false 2
  .rfl
  .have hk:=d_0 hp (by omega)
   rw [d_1 (by omega)]
   rfl
 | false =>
 cases (r.kind==6) with
 | true=>rfl
 | false =>
 cases (r.kind==7) with
 | true=>rfl
 | false =>
 cases (r.kind==8) with
 | true=>rfl
 | false =>
 cases (r.kind==9) with
 | true=>rfl
 | false =>
 cases (r.kind==10) with
 | true =>
  generalize plain r false true false false 0=a
  by_cases hb:(r.bytes.length:Int)=1
  .have e:((r.bytes.length:Int)==1)=true:=by simpa using hb
   rw [e,a_h (show 0<r.bytes.length by omega),a_8 (show 0<r.bytes.length by omega)]
   cases a <;> rfl
  .have e:((r.bytes.length:Int)==1)=false:=by simpa using hb
   rw [e]
   cases a <;> rfl
 | false=>rfl
theorem p_E (d:c_)(r:b_)(hd:d.rules.length<=MX)(ht:r.tags.length<=MX):i_x d r=some (a_2 d.rules r && (!r.little || r.kind==1)):=by
 unfold i_x a_2
 rw [p_C d r hd ht,p_y]
 simp only [p_u,b_u,h_3 d _ hd,bd_some]
 have G:plain r false false false true ((r.tags.length:Int)+1)=(plain r false false false true (-1) && ((r.kids.length:Int)==(r.tags.length:Int)+1)):=by
  rw [m_s,dF_ (show ¬((r.tags.length:Int)+1<0) by omega)];rfl
 rw [G]
 cases (r.kind==1) with
 | true =>
  generalize plain r true false false false 0=a;generalize (decide (1<=r.size) && decide (r.size<=4))=b;generalize decide (1<r.size)=c;generalize r.little=e
  cases a <;> cases b <;> cases c <;> cases e <;> rfl
 | false =>
 generalize r.little=e
 cases (r.kind==2) with
 | true =>
  generalize plain r false true false false 0=a;generalize (decide (1<=(r.bytes.length:Int)) && decide ((r.bytes.length:Int)<=16))=b
  cases a <;> cases e <;> cases b <;> rfl
 | false =>
 cases (r.kind==3) with
 | true =>
  generalize plain r true false false false 0=a;generalize (decide (1<=r.size) && decide (r.size<=64))=b
  cases a <;> cases e <;> cases b <;> rfl
 | false =>
 cases (r.kind==4) with
 | true =>
  cases hp:plain r false false false false 1
  .rfl
  .have hk:=d_0 hp (by omega)
   rw [d_1 (by omega)]
   simp only [bd_some]
   generalize decide (0<lim d.rules (o_ r))=b
   cases e <;> cases b <;> rfl
 | false =>
 cases (r.kind==5) with
 | true =>
  cases hp:plain r false false false false 2
  .rfl
  .have hk:=d_0 hp (by omega)
   rw [d_1 (by omega)]
   simp only [bd_some]
   generalize decide (0<lim d.rules (o_ r))=b
   cases e <;> cases b <;> rfl
 | false =>
 cases (r.kind==6) with
 | true =>
  generalize plain r false false true false r.names.length=a;generalize (!((List.range r.names.length).any (b_M r.names)) && b_W r.names.length)=b
  cases a <;> cases e <;> cases b <;> rfl
 | false =>
 cases (r.kind==7) with
 | true =>
  generalize plain r false false false true (-1)=a;generalize ((r.kids.length:Int)==(r.tags.length:Int)+1)=b;generalize (b_W r.tags.length && !((List.range r.tags.length).any (c_t (lim d.rules<|o_ r) r.tags)))=c
  cases a <;> cases e <;> cases b <;> cases c <;> rfl
 | false =>
 cases (r.kind==8) with
 | true =>
  generalize plain r false false false false 1=a
  cases a <;> cases e <;> rfl
 | false =>
 cases (r.kind==9) with
 | true =>
  generalize plain r false false false false 1=a
  cases a <;> cases e <;> rfl
 | false =>
 cases (r.kind==10) with
 | true =>
  generalize plain r false true false false 0=a
  by_cases hb:(r.bytes.length:Int)=1
  .have e:((r.bytes.length:Int)==1)=true:=by simpa using hb
   rw [e,a_h (show 0<r.bytes.length by omega),a_8 (show 0<r.bytes.length by omega)]
   simp only [bd_some]
   generalize (byteI r.bytes[0] != byteI (92:UInt8))=b
   rename_i e'
   cases a <;> cases e' <;> cases b <;> rfl
  .have e:((r.bytes.length:Int)==1)=false:=by simpa using hb
   rw [e]
   rename_i e'
   cases a <;> cases e' <;> rfl
 | false=>cases e <;> rfl
def c_H (i:Nat)(k:Int):Bool:=decide (k<0) || decide ((i:Int)<=k)
def d_2 (rs:List b_)(i:Nat):Bool:=match rs[i]? with
 | none=>false
 | some r=>(b_L r.name && !(r.little && r.kind != 1)) && (!((rs.take i).any (λx=>x.name.b==r.name.b)) && (!(r.kids.any<|c_H i) && a_2 rs r))
def R_ (d:c_):Bool:=(decide (1<=(d.rules.length:Int)) && decide ((d.rules.length:Int)<=24)) && !((List.range d.rules.length).any (λi=>!d_2 d.rules i))
theorem p_F (n:Nat)(hn:14<=n)(d:c_)(hd:SmD d){i:Nat}(hi:i<d.rules.length):i_L n d i=some (d_2 d.rules i):=by
 unfold i_L f_9 d_2;have hr:=hd.each d.rules[i] (gE_ hi)
 rw [dT_ (show (0:Int)<=(i:Int) by omega),dT_ (show (i:Int)<(d.rules.length:Int) by omega),gG_ hi,ix_ hi]
 simp only [fT_,bd_some,m_q n hn,j_r<|Nat.le_of_lt hi,p_D n hn d _ hr.tags]
 generalize d.rules[i]=r;have O:=f_4 (body:=(λH=>(λ(_:Unit)=>bd (idx (d.rules.take i) ((H:Nat):Int)) λI=>if (I.name.b==r.name.b) then some (Out.ret false:Out Unit Bool) else some (.next ())))) (l:=d.rules.take i) (λx=>x.name.b==r.name.b) false (λk hk=>by simp only [ix_ hk,bd_some];exact d_X _ _)
 have V:=f_4 (body:=(λJ=>(λ(_:Unit)=>bd (idx r.kids ((J:Nat):Int)) λG=>bd (α:=Bool) (if (decide (G<0)) then some true else some (decide ((i:Int)<=G))) (λL=>if L then some (Out.ret false:Out Unit Bool) else some (.next ()))))) (l:=r.kids) (c_H i) false (λk hk=>by
  simp only [ix_ hk,bd_some]
  rw [show c_H i r.kids[k]=(decide (r.kids[k]<0) || decide ((i:Int)<=r.kids[k])) from rfl]
  generalize decide (r.kids[k]<0)=a;generalize decide ((i:Int)<=r.kids[k])=b
  cases a <;> cases b <;> rfl)
 rw [O,V]
 generalize b_L r.name=a;generalize r.little=b;generalize (r.kind != 1)=c;generalize (d.rules.take i).any (λx=>x.name.b==r.name.b)=x;generalize r.kids.any (c_H i)=y;generalize a_2 d.rules r=z
 cases a <;> cases b <;> cases c <;> cases x <;> cases y <;> rfl
theorem p_G (d:c_)(hd:SmD d){i:Nat}(hi:i<d.rules.length):i_y d i=some (d_2 d.rules i):=by
 have hMX:MX=1048576:=rfl;have hdl:=hd.rules;unfold i_y d_2;have hr:=hd.each d.rules[i] (gE_ hi)
 rw [b_u,a_C (x:=(d.rules.length:Int)) (by omega) (by omega),a_C (x:=(i:Int)) (by omega) (by omega),dT_ (show (0:Int)<=(i:Int) by omega),dT_ (show (i:Int)<=(d.rules.length:Int) - 1 by omega),gG_ hi,ix_ hi]
 simp only [bd_some,m_p,p_E d _ hd.rules hr.tags]
 generalize d.rules[i]=r;have hl:((i:Int)).toNat=(d.rules.take i).length:=by simp;omega
 have V:y_ (σ:=Unit) (ρ:=Bool) (λH=>(λ(_:Unit)=>bd (idx d.rules ((H:Nat):Int)) λI=>if (I.name.b==r.name.b) then some (.ret false) else some (.next ()))) (i:Int).toNat 0 ()=some (if (d.rules.take i).any (λx=>x.name.b==r.name.b) then .inr false else .inl ()):=by
  rw [hl]
  refine f_4 (λx:b_=>x.name.b==r.name.b) false<|λk hk=>?_;have hk':k<d.rules.length:=by simp at hk;omega
  simp only [ix_ hk',bd_some,List.getElem_take]
  exact d_X _ _
 have W:y_ (σ:=Unit) (ρ:=Bool) (λJ=>(λ(_:Unit)=>bd (idx r.kids ((J:Nat):Int)) λL=>bd (b_6 L 0<|(i:Int) - 1) λO=>if (!O) then some (.ret false) else some (.next ()))) r.kids.length 0 ()=some (if r.kids.any (c_H i) then .inr false else .inl ()):=by
  refine f_4 (c_H i) false<|λk hk=>?_
  simp only [ix_ hk,bd_some,b_u]
  rw [show c_H i r.kids[k] = !(decide (0<=r.kids[k]) && decide (r.kids[k]<=(i:Int) - 1)) from by
   unfold c_H
   by_cases G:r.kids[k]<0
   .rw [dT_ G,dF_ (show ¬0<=r.kids[k] by omega)];rfl
   .rw [dF_ G,dT_ (show 0<=r.kids[k] by omega)]
    by_cases h1:(i:Int)<=r.kids[k]
    .rw [dT_ h1,dF_ (show ¬r.kids[k]<=(i:Int) - 1 by omega)];rfl
    .rw [dF_ h1,dT_ (show r.kids[k]<=(i:Int) - 1 by omega)];rfl]
  exact d_X _ _
 rw [V,W]
 have Y:(!(r.little && r.kind != 1))=(!r.little || r.kind==1):=by
  simp only [bne]
  generalize (r.kind==1)=c
  cases r.little <;> cases c <;> rfl
 rw [Y]
 generalize b_L r.name=a;generalize (!r.little || r.kind==1)=b;generalize (d.rules.take i).any (λx=>x.name.b==r.name.b)=x;generalize r.kids.any (c_H i)=y;generalize a_2 d.rules r=z
 cases a <;> cases b <;> cases x <;> cases y <;> cases z <;> rfl
theorem m_v (n:Nat)(hn:14<=n)(d:c_)(hd:SmD d):h_s n d=some (R_ d):=by
 unfold h_s R_
 rw [b_4,f_3 (λi=>!d_2 d.rules i) false (λk hk _=>by rw [p_F n hn d hd hk];simp only [bd_some];exact d_X _ _)]
 generalize (decide (1<=(d.rules.length:Int)) && decide ((d.rules.length:Int)<=24))=a;generalize (List.range d.rules.length).any (λi=>!d_2 d.rules i)=b
 cases a <;> cases b <;> rfl
theorem k_D (d:c_)(hd:SmD d):f_6 d=some (R_ d):=by
 unfold f_6 R_
 rw [b_u,f_3 (λi=>!d_2 d.rules i) false (λk hk _=>by rw [p_G d hd hk];simp only [bd_some];exact d_X _ _)]
 generalize (decide (1<=(d.rules.length:Int)) && decide ((d.rules.length:Int)<=24))=a;generalize (List.range d.rules.length).any (λi=>!d_2 d.rules i)=b
 cases a <;> cases b <;> rfl
def b_j (d:c_)(r:Int):Bool:=decide (0<=r) && decide (r<(d.rules.length:Int))
theorem i_e (n:Nat)(hn:14<=n)(d:c_)(hd:SmD d)(r:Int):g_p n d r=some (R_ d && b_j d r):=by
 unfold g_p f_9 b_j
 rw [m_v n hn d hd]
 generalize R_ d=a;generalize decide (0<=r)=b;generalize decide (r<(d.rules.length:Int))=c
 cases a <;> cases b <;> rfl
theorem h_4 (d:c_)(hd:SmD d)(r:Int):f_8 d r=some (R_ d && b_j d r):=by
 have hMX:MX=1048576:=rfl;have hdl:=hd.rules;unfold f_8 b_j
 rw [k_D d hd,b_u,a_C (x:=(d.rules.length:Int)) (by omega) (by omega),show decide (r<=(d.rules.length:Int) - 1)=decide (r<(d.rules.length:Int)) from decide_eq_decide.2 (by omega)]
 generalize R_ d=a;generalize decide (0<=r)=b;generalize decide (r<(d.rules.length:Int))=c
 cases a <;> cases b <;> cases c <;> rfl
end Go.Vw
namespace Go.Vw
open Go.RowKit Dat
def b_n (n:Int)(c:UInt8):Int:=n * 256+byteI c
def d_o (bs:Bt)(little:Bool):Int:=(if little then bs.reverse else bs).foldl b_n 0
theorem h_b {α β:Type}(f:β->α->β)(a:β){l:List α}{k:Nat}(h:k<l.length):(l.take<|k+1).foldl f a=f ((l.take k).foldl f a) l[k]:=by
 rw [List.take_add_one,gG_ h,Option.toList_some,List.foldl_append];rfl
theorem m_T (l:Bt):0<=l.foldl b_n 0/\l.foldl b_n 0<256 ^ l.length:=by
 have:∀k,k<=l.length->0<=(l.take k).foldl b_n 0/\(l.take k).foldl b_n 0<256 ^ k:=by
  intro k
  induction k with
  | zero=>intro _;simp
  | succ k ih =>
   intro hk;obtain ⟨h1,h2⟩:=ih (by omega)
   rw [h_b b_n 0 (show k<l.length by omega)]
   have h3:=g_Q l[k];have h4:=g_R l[k];generalize (l.take k).foldl b_n 0=z at *
   unfold b_n
   rw [Int.pow_succ]
   omega
 have h:=this l.length<|Nat.le_refl _
 simpa using h
theorem j_B (l:Bt)(h:l.length<=4):0<=l.foldl b_n 0/\l.foldl b_n 0<4294967296:=by
 obtain ⟨h1,h2⟩:=m_T l;refine ⟨h1,?_⟩;have:l.length=0∨l.length=1∨l.length=2∨l.length=3∨l.length=4:=by omega
 rcases this with h | h | h | h | h <;> rw [h] at h2 <;> omega
theorem q_t (bs:Bt)(e:Bool)(h:bs.length<=4):0<=d_o bs e/\d_o bs e<4294967296:=by
 unfold d_o
 cases e
 .exact j_B bs h
 .exact j_B bs.reverse (by simpa using h)
theorem m_U {bs:Bt}{k:Nat}(hk:k<bs.length)(hb:bs.length<=4)(e:Bool):idx bs (if e then j_ (j_ (bs.length:Int) 1) (k:Int) else (k:Int))=some ((if e then bs.reverse else bs)[k]'(by cases e <;> simpa using hk)):=by
 cases e
 .exact ix_ hk
 .rw [iP_ rfl,a_C (x:=(bs.length:Int)) (by omega) (by omega),a_C (by omega) (by omega),f_2 (by omega) (by omega)]
  simp only [fT_]
  rw [List.getElem_reverse]
  congr 2
  omega
theorem q_u (bs:Bt)(e:Bool)(hb:bs.length<=4):i_z bs e=some (d_o bs e):=by
 unfold i_z
 rw [dF_ (show ¬(4:Int)<(bs.length:Int) by omega)]
 have hl:(if e then bs.reverse else bs).length=bs.length:=by cases e <;> simp
 have h:=d_w (n:=bs.length) (σ:=Int) (ρ:=Int) (body:=(λG=>(λI=>bd (α:=Int) (if e then some (j_ (j_ (bs.length:Int) 1) ((G:Nat):Int)) else some ((G:Nat):Int))<|λJ=>bd (idx bs J) λH=>some<|.next<|h_ (a_5 I 256)<|byteI H)))
  (λk=>((if e then bs.reverse else bs).take k).foldl b_n 0) (λj hj=>by
   have L:=j_B ((if e then bs.reverse else bs).take j) (by simp;omega)
   rw [p_t,bd_some,m_U hj hb e,bd_some,h_b b_n 0 (by rw [hl];exact hj)]
   generalize (if e then bs.reverse else bs)[j]'(by rw [hl];exact hj)=c at *
   have h3:=g_Q c;have h4:=g_R c
   rw [e_3 (by omega) (by omega),ia_ (by omega) (by omega)]
   rfl)
 simp only [List.take_zero,List.foldl_nil] at h
 rw [h]
 simp only [bF_,fF_,bd_some,el_inl]
 unfold d_o
 rw [List.take_of_length_le (by omega)]
theorem m_V {n:Int}{c:UInt8}(G:0<=n)(h1:n<4294967296):a_O .i64 (· ||| ·) (b_w .i64 n 8) (byteI c)=b_n n c:=by
 have e:b_w .i64 n 8=n * 256:=by
  unfold b_w
  rw [show (min (8:Int).toNat IntKind.i64.bits)=8 from rfl,IntKind.wrap_i64]
  omega
 rw [e]
 unfold a_O b_n;obtain ⟨m,rfl⟩:=Int.eq_ofNat_of_zero_le G;have hc:=c.toNat_lt;have hm:m<4294967296:=by omega
 have H:BitVec.ofInt IntKind.i64.bits ((m:Int) * 256)=BitVec.ofNat 64 (m * 256):=by
  rw [show ((m:Int) * 256)=((m * 256:Nat):Int) by omega];exact BitVec.ofInt_natCast 64 _
 have I:BitVec.ofInt IntKind.i64.bits (byteI c)=BitVec.ofNat 64 c.toNat:=by
  unfold byteI;exact BitVec.ofInt_natCast 64 _
 show IntKind.i64.wrap ((BitVec.ofInt IntKind.i64.bits ((m:Int) * 256) ||| BitVec.ofInt IntKind.i64.bits (byteI c)).toNat:Int)=_
 rw [H,I]
 have J:(BitVec.ofNat 64 (m * 256) ||| BitVec.ofNat 64 c.toNat).toNat=m * 256+c.toNat:=by
  rw [BitVec.toNat_or,BitVec.toNat_ofNat,BitVec.toNat_ofNat,Nat.mod_eq_of_lt (by omega),Nat.mod_eq_of_lt (by omega)]
  have:=Nat.shiftLeft_add_eq_or_of_lt (i:=8) (b:=c.toNat) (by omega) m
  rw [Nat.shiftLeft_eq] at this
  exact this.symm
 have L:((BitVec.ofNat 64 (m * 256) ||| BitVec.ofNat 64 c.toNat:BitVec IntKind.i64.bits).toNat:Int)=(m:Int) * 256+(c.toNat:Int):=by
  rw [show (BitVec.ofNat 64 (m * 256) ||| BitVec.ofNat 64 c.toNat:BitVec IntKind.i64.bits).toNat=m * 256+c.toNat from J];omega
 refine (congrArg IntKind.i64.wrap L).trans ?_
 rw [IntKind.wrap_i64]
 unfold byteI
 omega
theorem q_v (bs:Bt)(e:Bool)(hb:bs.length<=4):i_M bs e=some (d_o bs e):=by
 unfold i_M
 rw [dF_ (show ¬(4:Int)<(bs.length:Int) by omega)]
 have hl:(if e then bs.reverse else bs).length=bs.length:=by cases e <;> simp
 have h:=d_w (n:=bs.length) (σ:=Int) (ρ:=Int) (body:=(λH=>(λI=>bd (α:=Int) (if e then bd (idx bs<|j_ (j_ (bs.length:Int) 1) ((H:Nat):Int)) λJ=>some (a_O .i64 (· ||| ·) (b_w .i64 I 8)<|byteI J) else bd (idx bs ((H:Nat):Int)) λL=>some<|a_O .i64 (· ||| ·) (b_w .i64 I 8)<|byteI L)<|λO=>some<|.next O)))
  (λk=>((if e then bs.reverse else bs).take k).foldl b_n 0) (λj hj=>by
   have G:=j_B ((if e then bs.reverse else bs).take j) (by simp;omega);have hbt:=m_U hj hb e
   rw [h_b b_n 0 (by rw [hl];exact hj)]
   cases e
   .simp only [bF_,fF_] at hbt G ⊢
    rw [hbt,bd_some,bd_some,m_V G.1 G.2]
   .simp only [fT_] at hbt G ⊢
    rw [hbt,bd_some,bd_some,m_V G.1 G.2])
 simp only [List.take_zero,List.foldl_nil] at h
 rw [h]
 simp only [bF_,fF_,bd_some,el_inl]
 unfold d_o
 rw [List.take_of_length_le (by omega)]
def c_I (n:Int)(c:UInt8):Int:=n+byteI c
def b_E (bs:Bt):Int:=bs.foldl c_I 0 % 256
theorem k_O (bs:Bt)(k:Nat)(hk:k<=bs.length):0<=(bs.take k).foldl c_I 0/\(bs.take k).foldl c_I 0<=256 * k:=by
 induction k with
 | zero=>simp
 | succ k ih =>
  obtain ⟨h1,h2⟩:=ih (by omega)
  rw [h_b c_I 0 (show k<bs.length by omega)]
  have h3:=g_Q bs[k];have h4:=g_R bs[k];generalize (bs.take k).foldl c_I 0=z at *
  unfold c_I
  omega
theorem m_W (bs:Bt)(hb:bs.length<=MX):g_q bs=some (b_E bs):=by
 have hMX:MX=1048576:=rfl;unfold g_q b_E
 have h:=d_w (n:=bs.length) (σ:=Int) (ρ:=Int) (body:=(λG=>(λH=>bd (idx bs ((G:Nat):Int)) λI=>some (.next (h_ H (byteI I)))))) (λk=>(bs.take k).foldl c_I 0) (λj hj=>by
  have hbd:=k_O bs j (by omega);have h3:=g_Q bs[j];have h4:=g_R bs[j]
  rw [ix_ hj,bd_some,h_b c_I 0 hj,ia_ (by omega) (by omega)]
  rfl)
 simp only [List.take_zero,List.foldl_nil] at h
 rw [h]
 have hbd:=k_O bs bs.length<|Nat.le_refl _
 rw [List.take_of_length_le (Nat.le_refl _)] at hbd ⊢
 simp only [bd_some,el_inl]
 rw [j_V hbd.1]
theorem k_P (bs:Bt):h_o bs=some (b_E bs):=by
 have hMX:MX=1048576:=rfl;unfold h_o b_E
 have h:=d_w (n:=bs.length) (σ:=Int) (ρ:=Int) (body:=(λG=>(λH=>bd (idx bs ((G:Nat):Int)) λI=>some (.next (b_q (h_ H (byteI I)) 256))))) (λk=>(bs.take k).foldl c_I 0 % 256) (λj hj=>by
  have hbd:=k_O bs j (by omega);have h3:=g_Q bs[j];have h4:=g_R bs[j]
  rw [ix_ hj,bd_some,h_b c_I 0 hj,ia_ (by omega) (by omega),j_V (by omega)]
  generalize (bs.take j).foldl c_I 0=z at *
  unfold c_I
  congr 2
  omega)
 simp only [List.take_zero,List.foldl_nil] at h
 rw [show ((0:Int) % 256)=0 from rfl] at h
 rw [h]
 rw [List.take_of_length_le (Nat.le_refl _)]
 rfl
def c_m (b:Bt)(t:UInt8):Nat->Bt->Nat->Option (Bt×Nat)
 | 0,_,_=>none
 | f+1,acc,p=>match b[p]? with
  | none=>none
  | some c=>if c=t then some (acc,p+1) else if c=92 then (match b[p+1]? with
    | none=>none
    | some c'=>c_m b t f (acc++[c']) (p+2)) else c_m b t f (acc++[c]) (p+1)
def j_C (o:Option (Bt×Nat)):Sum (Bt×Int) (Bt×Int×Bool)->Prop:=λs=>match o with
 | some (c,q)=>s = .inr (c,(q:Int),true)
 | none=>∃x,s = .inl x
def c_w (b:Bt)(at_:Nat)(t:UInt8):Option (Bt×Nat):=c_m b t (b.length+1) [] at_
theorem beqB (a c:UInt8):(byteI a==byteI c)=decide (a=c):=by
 rw [Bool.eq_iff_iff];simp only [beq_iff_eq,dE_];exact r_t
theorem m_X (b:Bt)(t:UInt8)(hb:b.length<=MX)(step:Bt×Int->Option (Out (Bt×Int)<|Bt×Int×Bool))
  (hstep:∀acc (p:Nat),step (acc,(p:Int))=if decide ((p:Int)<(b.length:Int)) then bd (idx b (p:Int)) λI=>if ((byteI I)==(byteI t)) then some (.ret (acc,h_ (p:Int) 1,true)) else bd (idx b (p:Int)) λJ=>bd (α:=Sum Int<|Out (Bt×Int)<|Bt×Int×Bool) (if ((byteI J)==(byteI (92:UInt8))) then if ((h_ (p:Int) 1)==(b.length:Int)) then some (.inr<|.brk (acc,h_ (p:Int) 1)) else some (.inl<|h_ (p:Int) 1) else some (.inl (p:Int))) (el (λH=>bd (idx b H) λL=>bd (psh acc L) λO=>some<|.next (O,h_ H 1)) some) else some (.brk (acc,(p:Int)))) :
  ∀f acc p,acc.length<=p->p<=b.length->b.length<p+f->∀n,f<=n->∃s,M_ step n (acc,(p:Int))=some s/\j_C (c_m b t f acc p) s:=by
 have hMX:MX=1048576:=rfl;have hLIM:LIM=4294967296:=rfl;intro f
 induction f with
 | zero=>intro acc p _ _ h;omega
 | succ f ih =>
  intro acc p hacc hp hf n hn;obtain ⟨m,rfl⟩:∃m,n=m+1:=⟨n - 1,by omega⟩;unfold M_ c_m
  rw [hstep]
  by_cases hlt:p<b.length
  .rw [dT_ (show (p:Int)<(b.length:Int) by omega),ix_ hlt,gG_ hlt]
   simp only [fT_,bd_some,beqB]
   rw [ia_ (x:=(p:Int)) (by omega) (by omega)]
   by_cases ht:b[p]=t
   .rw [dT_ ht,iP_ rfl,iP_ ht]
    exact ⟨_,rfl,by simp [j_C]⟩
   .rw [dF_ ht,iN_ (by simp),iN_ ht]
    by_cases he:b[p]=92
    .rw [dT_ he,iP_ rfl,iP_ he]
     by_cases hl:p+1<b.length
     .have G:((p:Int)+1==(b.length:Int))=false:=by simp;omega
      rw [G,gG_ hl]
      simp only [bF_,fF_,bd_some,el_inl]
      rw [show (p:Int)+1=((p+1:Nat):Int) by omega,ix_ hl,bd_some,Y_ (by omega),bd_some,ia_ (by omega) (by omega)]
      obtain ⟨s,h1,h2⟩:=ih (acc++[b[p+1]]) (p+2) (by simp;omega) (by omega) (by omega) m (by omega);refine ⟨s,?_,h2⟩
      rw [← h1]
      simp only
      congr 2
     .have G:((p:Int)+1==(b.length:Int))=true:=by simp;omega
      rw [G,gN_ (by omega)]
      exact ⟨_,rfl,_,rfl⟩
    .rw [dF_ he,iN_ (by simp),iN_ he]
     simp only [bd_some,el_inl]
     rw [ix_ hlt,bd_some,Y_ (by omega),bd_some,ia_ (by omega) (by omega)]
     obtain ⟨s,h1,h2⟩:=ih (acc++[b[p]]) (p+1) (by simp;omega) (by omega) (by omega) m (by omega);refine ⟨s,?_,h2⟩
     rw [← h1]
     simp only
     congr 2
  .rw [dF_ (show ¬(p:Int)<(b.length:Int) by omega),gN_ (by omega)]
   exact ⟨_,rfl,_,rfl⟩
def j_D (o:Option (Bt×Nat))(at_:Nat):Bt×Int×Bool:=match o with
 | some (c,q)=>(c,(q:Int),true)
 | none=>([],(at_:Int),false)
theorem q_w (n:Nat)(b:Bt)(at_:Nat)(t:UInt8)(hb:b.length<=MX)(ha:at_<=b.length)(hn:b.length+1<=n):i_N n b at_ t=some (j_D (c_w b at_ t) at_):=by
 unfold i_N c_w
 rw [dF_ (show ¬(at_:Int)<0 by omega),dF_ (show ¬(b.length:Int)<(at_:Int) by omega)]
 simp only [bF_,fF_,bd_some]
 obtain ⟨s,h1,h2⟩:=m_X b t hb (un2 λH G=>if (decide<|G<(b.length:Int)) then bd (idx b G) λJ=>if ((byteI J)==(byteI t)) then some (.ret (H,h_ G 1,true)) else bd (idx b G) λL=>bd (α:=Sum Int<|Out (Bt×Int)<|Bt×Int×Bool) (if ((byteI L)==(byteI (92:UInt8))) then if ((h_ G 1)==(b.length:Int)) then some (.inr<|.brk (H,h_ G 1)) else some (.inl<|h_ G 1) else some (.inl G)) (el (λI=>bd (idx b I) λO=>bd (psh H O) λV=>some<|.next (V,h_ I 1)) some) else some (.brk (H,G))) (λacc p=>rfl) (b.length+1) [] at_ (by simp) ha (by omega) n hn
 rw [h1,bd_some]
 unfold j_C at h2
 unfold j_D
 cases ho:c_m b t (b.length+1) [] at_ with
 | none=>rw [ho] at h2;obtain ⟨x,rfl⟩:=h2;rfl
 | some x=>rw [ho] at h2;simp only at h2;subst h2;rfl
theorem q_x (n:Nat)(b:Bt)(at_:Nat)(t:UInt8)(hb:b.length<=MX)(ha:at_<=b.length)(hn:b.length+1<=n):i_B n b at_ t=some (j_D (c_w b at_ t) at_):=by
 unfold i_B c_w
 have hin:b_6 (at_:Int) 0 (b.length:Int)=some true:=by
  rw [b_u,dT_ (show (0:Int)<=(at_:Int) by omega),dT_ (show (at_:Int)<=(b.length:Int) by omega)];rfl
 obtain ⟨s,h1,h2⟩:=m_X b t hb (un2 λH G=>bd (α:=Bool) (bd (b_6 (at_:Int) 0 (b.length:Int)) λJ=>if J then some (decide<|G<(b.length:Int)) else some false) (λL=>if L then bd (idx b G) λO=>if ((byteI O)==(byteI t)) then some (.ret (H,h_ G 1,true)) else bd (idx b G) λV=>bd (α:=Sum Int<|Out (Bt×Int)<|Bt×Int×Bool) (if ((byteI V)==(byteI (92:UInt8))) then if ((h_ G 1)==(b.length:Int)) then some (.inr<|.brk (H,h_ G 1)) else some (.inl<|h_ G 1) else some (.inl G)) (el (λI=>bd (idx b I) λW=>bd (psh H W) λY=>some<|.next (Y,h_ I 1)) some) else some (.brk (H,G)))) (λacc p=>by simp only [un2,hin,bd_some,fT_]) (b.length+1) [] at_ (by simp) ha (by omega) n hn
 rw [h1,bd_some]
 unfold j_C at h2
 unfold j_D
 cases ho:c_m b t (b.length+1) [] at_ with
 | none=>rw [ho] at h2;obtain ⟨x,rfl⟩:=h2;rfl
 | some x=>rw [ho] at h2;simp only at h2;subst h2;rfl
theorem j_E {b:Bt}{t:UInt8}:∀f acc p c q,c_m b t f acc p=some (c,q)->p<q/\q<=b.length
 | 0,_,_,_,_,h=>by cases h
 | f+1,acc,p,c,q,h=>by
  unfold c_m at h
  by_cases hlt:p<b.length
  .rw [gG_ hlt] at h
   simp only at h
   split at h
   .cases h;omega
   .split at h
    .by_cases hl:p+1<b.length
     .rw [gG_ hl] at h
      have:=j_E f _ _ _ _ h
      omega
     .rw [gN_ (by omega)] at h
      cases h
    .have:=j_E f _ _ _ _ h
     omega
  .rw [gN_ (by omega)] at h
   cases h
end Go.Vw
