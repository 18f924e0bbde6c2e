import Derived.Test.YtpjplgfnhbjjjaaGreatDoorV1
namespace Go.Vw
open Go.RowKit Dat
def MX:Nat:=1048576
structure SmR (r:d_):Prop where
 name:r.name.b.length<=MX
 bytes:r.bytes.length<=MX
 names:r.names.length<=MX
 tags:r.tags.length<=MX
 kids:r.kids.length<=MX
 each:∀s∈r.names,s.b.length<=MX
structure SmD (d:c_):Prop where
 rules:d.rules.length<=MX
 each:∀r∈d.rules,SmR r
theorem r_f {α:Type}{c:Prop}[Decidable c](x y:α):(if c then some x else some y)=some (if c then x else y):=by split <;> rfl
theorem e_y {ρ:Type}{c:Bool}(x y:Out Unit ρ):(if c then some x else some y)=some (if c then x else y):=by split <;> rfl
def g_r (c:UInt8):Bool:=decide (byteI (97:UInt8)<=byteI c) && decide (byteI c<=byteI (122:UInt8))
def a_N (c:UInt8):Bool:=decide (byteI (48:UInt8)<=byteI c) && decide (byteI c<=byteI (57:UInt8))
theorem n_P (c:UInt8):g_r c=(decide (97<=(c.toNat:Int)) && decide ((c.toNat:Int)<=122)):=rfl
theorem f_q (c:UInt8):a_N c=(decide (48<=(c.toNat:Int)) && decide ((c.toNat:Int)<=57)):=rfl
theorem l_c (k:Nat):((k:Int)==0)=(k==0):=by
 rw [Bool.eq_iff_iff];simp
def b_K (s:Str)(k:Nat):Bool:=match s.b[k]? with
 | some c=>!g_r c && (!a_N c || k==0)
 | none=>false
def b_b (s:Str):Bool:=!((List.range s.b.length).any (b_K s)) && (decide (1<=s.b.length) && decide (s.b.length<=12))
theorem b_L (x lo hi:Int):a_W x lo hi=some (decide (lo<=x) && decide (x<=hi)):=by
 unfold a_W;generalize decide (lo<=x)=a;generalize decide (x<=hi)=b
 cases a <;> rfl
theorem a_Y (x lo hi:Int):c_B x lo hi=some (decide (lo<=x) && decide (x<=hi)):=by
 unfold c_B;generalize decide (lo<=x)=a;generalize decide (x<=hi)=b
 cases a <;> rfl
theorem l_d (s:Str):g_M s=some (b_b s):=by
 unfold g_M
 rw [e_b (b_K s) false]
 .unfold b_b
  cases (List.range s.b.length).any (b_K s)
  .have G:decide ((1:Int)<=s.b.length)=decide (1<=s.b.length):=decide_eq_decide.2 (by omega);have H:decide ((s.b.length:Int)<=12)=decide (s.b.length<=12):=decide_eq_decide.2 (by omega)
   simp only [bF_,fF_,bd_some,el_inl,b_L,G,H,Bool.not_false,Bool.true_and]
  .rfl
 .intro k hk _
  simp only [ix_ hk,bd_some,b_K,gG_ hk,g_r,a_N,l_c]
  generalize decide (byteI (97:UInt8)<=byteI s.b[k])=a;generalize decide (byteI s.b[k]<=byteI (122:UInt8))=b;generalize decide (byteI (48:UInt8)<=byteI s.b[k])=c;generalize decide (byteI s.b[k]<=byteI (57:UInt8))=d;generalize (k==0)=e
  cases a <;> cases b <;> cases c <;> cases d <;> cases e <;> rfl
theorem l_e (n:Nat)(hn:14<=n)(s:Str):f_F n s=some (b_b s):=by
 unfold f_F
 by_cases h1:s.b.length<1
 .have:b_b s=false:=by unfold b_b;simp [show ¬1<=s.b.length by omega]
  rw [this];simp [show ((s.b.length:Int)<1) by omega]
 by_cases h2:12<s.b.length
 .have:b_b s=false:=by unfold b_b;simp [show ¬s.b.length<=12 by omega]
  rw [this];simp [show ¬((s.b.length:Int)<1) by omega,show ((12:Int)<s.b.length) by omega]
 have V:decide ((s.b.length:Int)<1)=false:=by simp;omega
 have W:decide ((12:Int)<(s.b.length:Int))=false:=by simp;omega
 rw [V,W]
 simp only [bF_,fF_,bd_some]
 have hstep:∀k,k<s.b.length->b_K s k=false->∀{ρ:Type}(x:Nat->ρ),x (k+(dec s k).2)=x (k+1):=by
  intro k hk hb ρ x
  rw [p_9 hk]
  have hb':b_K s k=(!g_r s.b[k] && (!a_N s.b[k] || k==0)):=by unfold b_K;rw [gG_ hk]
  rw [hb'] at hb
  rw [n_P,f_q] at hb
  simp only [Bool.and_eq_false_iff,Bool.not_eq_false',Bool.or_eq_false_iff,aE_,dE_] at hb
  omega
 have hgood:∀k (hk:k<s.b.length),b_K s k=(bd (α:=Bool) (if (decide<|97<=((dec s k).1)) then some (decide<|((dec s k).1)<=122) else some false) (λH=>bd (α:=Bool) (if (decide<|48<=((dec s k).1)) then some (decide<|((dec s k).1)<=57) else some false) (λI=>bd (α:=Bool) (if (!H) then if (!I) then some true else some ((k:Int)==0) else some false) some))).getD false /\
   (bd (α:=Bool) (if (decide<|97<=((dec s k).1)) then some (decide<|((dec s k).1)<=122) else some false) (λH=>bd (α:=Bool) (if (decide<|48<=((dec s k).1)) then some (decide<|((dec s k).1)<=57) else some false) (λI=>bd (α:=Bool) (if (!H) then if (!I) then some true else some ((k:Int)==0) else some false) (λJ=>if J then some (.ret false) else some (.next<|k+(dec s k).2)))))=some (if b_K s k then (.ret false:Out Nat Bool) else .next (k+(dec s k).2)):=by
  intro k hk;have hb':b_K s k=(!g_r s.b[k] && (!a_N s.b[k] || k==0)):=by unfold b_K;rw [gG_ hk]
  rw [hb']
  rw [n_P,f_q]
  rw [l_c]
  by_cases ha:s.b[k].toNat<128
  .rw [p_9 hk ha]
   simp only
   generalize (s.b[k].toNat:Int)=c;generalize decide (97<=c)=a;generalize decide (c<=122)=b;generalize decide (48<=c)=c';generalize decide (c<=57)=d;generalize (k==0)=e
   cases a <;> cases b <;> cases c' <;> cases d <;> cases e <;> exact ⟨rfl,rfl⟩
  .have hd:=t_g hk (by omega);generalize (dec s k).1=c at hd
   generalize (dec s k).2=c2;have g1:97<=c:=by omega
   have O:¬c<=122:=by omega
   have Y:48<=c:=by omega
   have g4:¬c<=57:=by omega
   have k2:¬(s.b[k].toNat:Int)<=122:=by omega
   have k4:¬(s.b[k].toNat:Int)<=57:=by omega
   simp [g1,O,Y,g4,k2,k4]
 have hit:L_ (σ:=Nat) (ρ:=Bool) (λG=>if (decide<|G<s.b.length) then bd (α:=Bool) (if (decide<|97<=((dec s G).1)) then some (decide<|((dec s G).1)<=122) else some false) (λH=>bd (α:=Bool) (if (decide<|48<=((dec s G).1)) then some (decide<|((dec s G).1)<=57) else some false) (λI=>bd (α:=Bool) (if (!H) then if (!I) then some true else some ((G:Int)==0) else some false) (λJ=>if J then some (.ret false) else some (.next<|G+(dec s G).2)))) else some (.brk G)) n 0=some (if (List.range s.b.length).any (b_K s) then .inr false else .inl s.b.length):=by
  cases hf:(List.range s.b.length).find? (b_K s) with
  | none =>
   have hall:∀k,k<s.b.length->b_K s k=false:=λk hk=>by simpa using List.find?_eq_none.1 hf k (List.mem_range.2 hk)
   have hany:(List.range s.b.length).any (b_K s)=false:=by rw [List.any_eq_false];exact λx hx=>by simpa using List.find?_eq_none.1 hf x hx
   rw [hany]
   refine p_8 (λk=>k) (j0:=s.b.length) (by omega) (λk hk=>?_) ?_
   .simp only [hk,decide_true,fT_]
    rw [(hgood k hk).2,hall k hk]
    simp only [bF_,fF_]
    rw [hstep k hk (hall k hk) (λx=>some<|Out.next x)]
   .simp
  | some k =>
   have hany:(List.range s.b.length).any (b_K s)=true:=List.any_eq_true.2 ⟨k,List.mem_of_find?_eq_some hf,List.find?_some hf⟩
   rw [hany]
   obtain ⟨hp,as,bs,hl,has⟩:=List.find?_eq_some_iff_append.1 hf;have hk:k<s.b.length:=List.mem_range.1<|List.mem_of_find?_eq_some hf
   have hbef:∀j,j<k->b_K s j=false:=by
    intro j hj;have hlen:as.length<s.b.length:=by have:=congrArg List.length hl;simp at this;omega
    have hke:as.length=k:=by
     have h2:(List.range s.b.length)[as.length]? = some k:=by rw [hl];simp
     rw [List.getElem?_range hlen] at h2
     exact Option.some.inj h2
    have hj':j<as.length:=by omega
    have h2:(List.range s.b.length)[j]? = some (as[j]):=by rw [hl,List.getElem?_append_left hj'];simp
    rw [List.getElem?_range (by omega)] at h2
    have h3:=has as[j] (gE_ hj')
    rw [← Option.some.inj h2] at h3
    simpa using h3
   refine m_0 (λk=>k) (j0:=k) (by omega) (λj hj=>?_) ?_
   .have L:j<s.b.length:=by omega
    simp only [L,decide_true,fT_]
    rw [(hgood j L).2,hbef j hj]
    simp only [bF_,fF_]
    rw [hstep j L (hbef j hj) (λx=>some<|Out.next x)]
   .simp only [hk,decide_true,fT_]
    rw [(hgood k hk).2,hp]
    rfl
 rw [hit]
 unfold b_b;have g1:decide (1<=s.b.length)=true:=dT_ (by omega);have O:decide (s.b.length<=12)=true:=dT_ (by omega)
 rw [g1,O]
 cases (List.range s.b.length).any (b_K s) <;> rfl
def plain (r:d_)(a b c d:Bool)(k:Int):Bool:=(a || r.size==0) && ((b || (r.bytes.length:Int)==0) && ((c || (r.names.length:Int)==0) && ((d || (r.tags.length:Int)==0) && (decide (k<0) || (r.kids.length:Int)==k))))
theorem l_f (r:d_)(a b c d:Bool)(k:Int):d_1 r a b c d k=some (plain r a b c d k):=by
 unfold d_1 plain;generalize (r.size==0)=G;generalize ((r.bytes.length:Int)==0)=H;generalize ((r.names.length:Int)==0)=I;generalize ((r.tags.length:Int)==0)=J;generalize decide (k<0)=L;generalize ((r.kids.length:Int)==k)=O
 cases a <;> cases G <;> try rfl
 all_goals cases b <;> cases H <;> try rfl
 all_goals cases c <;> cases I <;> try rfl
 all_goals cases d <;> cases J <;> try rfl
 all_goals cases L <;> rfl
theorem r_g (r:d_)(a b c d:Bool)(k:Int):d_0 r a b c d k=some (plain r a b c d k && (!r.little || r.kind==1)):=by
 unfold d_0 plain;generalize (r.size==0)=G;generalize ((r.bytes.length:Int)==0)=H;generalize ((r.names.length:Int)==0)=I;generalize ((r.tags.length:Int)==0)=J;generalize decide (k<0)=L;generalize ((r.kids.length:Int)==k)=O;generalize (r.kind==1)=W;generalize r.little=V
 cases a <;> cases G <;> try rfl
 all_goals cases b <;> cases H <;> try rfl
 all_goals cases c <;> cases I <;> try rfl
 all_goals cases d <;> cases J <;> try rfl
 all_goals cases L <;> cases O <;> cases V <;> rfl
def lim (rs:List d_)(i:Int):Int:=match idx rs i with
 | some r=>if r.kind=1/\1<=r.size/\r.size<=4 then 256 ^ r.size.toNat - 1 else -1
 | none=>-1
theorem n_Q {α:Type}{l:List α}{i:Int}(h:¬(0<=i/\i<l.length)):idx l i=none:=by
 unfold idx;split
 .rw [gN_];omega
 .rfl
theorem h_q {s:Int}(h1:1<=s)(h4:s<=4):l_ (b_I .i64 1<|W_ 8 s) 1=256 ^ s.toNat - 1/\nn (W_ 8 s)=some ():=by
 have:s=1∨s=2∨s=3∨s=4:=by omega
 rcases this with rfl | rfl | rfl | rfl <;> exact ⟨by decide,by decide⟩
theorem e_3 (d:c_)(i:Int):d_S d i=some (lim d.rules i):=by
 unfold d_S f_H lim
 by_cases h:0<=i/\i<d.rules.length
 .obtain ⟨G,h1⟩:=h
  rw [dT_ G,dT_ h1,e_N G (by omega)]
  generalize d.rules[i.toNat]=r
  simp only [fT_,bd_some,a_Y]
  by_cases hk:r.kind=1
  .by_cases H:1<=r.size
   .by_cases I:r.size<=4
    .simp [hk,H,I,(h_q H I).1,(h_q H I).2]
    .simp [hk,H,I]
   .simp [hk,H]
  .simp [hk]
 .rw [n_Q h]
  by_cases G:0<=i
  .have h1:¬i<d.rules.length:=λh1=>h ⟨G,h1⟩
   simp [G,h1]
  .simp [G]
theorem h_r (d:c_)(i:Int)(hd:d.rules.length<=MX):e_Y d i=some (lim d.rules i):=by
 unfold e_Y lim
 rw [b_L]
 have hMX:MX=1048576:=rfl;have e:l_ (d.rules.length:Int) 1=(d.rules.length:Int) - 1:=b_i (by omega) (by omega)
 rw [e]
 by_cases h:0<=i/\i<d.rules.length
 .obtain ⟨G,h1⟩:=h
  rw [dT_ G,dT_ (show i<=(d.rules.length:Int) - 1 by omega),e_N G (by omega)]
  generalize d.rules[i.toNat]=r
  simp only [bd_some,b_L,d_Q]
  by_cases hk:r.kind=1
  .by_cases H:1<=r.size
   .by_cases I:r.size<=4
    .simp [hk,H,I,(h_q H I).1,(h_q H I).2]
    .simp [hk,H,I]
   .simp [hk,H]
  .simp [hk]
 .rw [n_Q h]
  by_cases G:0<=i
  .have h1:¬i<=(d.rules.length:Int) - 1:=λh1=>h ⟨G,by omega⟩
   simp [G,h1]
  .simp [G]
def e_z (l:List Str)(s:Str):Bool:=l.any<|λx=>x.b==s.b
theorem r_h (l:List Str)(s:Str):h_Z l s=some (e_z l s):=by
 unfold h_Z e_z
 rw [e_P (λx=>x.b==s.b) true (λk hk=>by simp only [ix_ hk,bd_some];exact e_y _ _)]
 cases l.any (λx=>x.b==s.b) <;> rfl
theorem r_i (l:List Str)(s:Str):j_3 l s=some (e_z l s):=by
 unfold j_3 e_z
 rw [e_P (λx=>x.b==s.b) true (λk hk=>by simp only [ix_ hk,bd_some];exact e_y _ _)]
 cases l.any (λx=>x.b==s.b) <;> rfl
def c_T (l:List Str)(k:Nat):Bool:=match l[k]? with
 | some s=>!b_b s || e_z (l.take k) s
 | none=>false
def d_B (m:Int)(l:List Int)(k:Nat):Bool:=match l[k]? with
 | some t=>!(decide (0<=t) && decide (t<=m)) || (decide (0<(k:Int)) && decide (t<=l.getD (k - 1) 0))
 | none=>false
def c_K (n:Nat):Bool:=decide (1<=(n:Int)) && decide ((n:Int)<=8)
def k_ (r:d_):Int:=r.kids.getD 0 0
def a_i (rs:List d_)(r:d_):Bool :=
 if r.kind==1 then plain r true false false false 0 && ((decide (1<=r.size) && decide (r.size<=4)) && (!r.little || decide (1<r.size)))
 else if r.kind==2 then plain r false true false false 0 && (decide (1<=(r.bytes.length:Int)) && decide ((r.bytes.length:Int)<=16))
 else if r.kind==3 then plain r true false false false 0 && (decide (1<=r.size) && decide (r.size<=64))
 else if r.kind==4 then plain r false false false false 1 && decide (0<lim rs (k_ r))
 else if r.kind==5 then plain r false false false false 2 && decide (0<lim rs (k_ r))
 else if r.kind==6 then plain r false false true false r.names.length && (!((List.range r.names.length).any (c_T r.names)) && c_K r.names.length)
 else if r.kind==7 then plain r false false false true ((r.tags.length:Int)+1) && (c_K r.tags.length && !((List.range r.tags.length).any (d_B (lim rs<|k_ r) r.tags)))
 else if r.kind==8 then plain r false false false false 1
 else if r.kind==9 then plain r false false false false 1
 else if r.kind==10 then plain r false true false false 0 && ((r.bytes.length:Int)==1 && byteI (r.bytes.getD 0 0) != byteI (92:UInt8))
 else false
theorem d_C {r:d_}{a b c d:Bool}{k:Int}(h:plain r a b c d k=true)(hk:0<=k):(r.kids.length:Int)=k:=by
 unfold plain at h
 simp only [aE_,Bool.or_eq_true,dE_,beq_iff_eq] at h
 omega
theorem n_R (r:d_)(a b c d:Bool)(k:Int):plain r a b c d k=(plain r a b c d (-1) && (decide (k<0) || (r.kids.length:Int)==k)):=by
 unfold plain;simp [Bool.and_assoc]
theorem l_g {α:Type}{l:List α}{k:Nat}(h:k<=l.length):slc l 0 (k:Int)=some (l.take k):=by
 rw [f_A (Int.le_refl 0) (by omega) (by omega)];simp
theorem n_S (rs:List d_)(i:Int):lim rs i = -1∨0<lim rs i:=by
 unfold lim
 cases idx rs i with
 | none=>exact .inl rfl
 | some r =>
  simp only
  by_cases h:r.kind=1/\1<=r.size/\r.size<=4
  .rw [iP_ h]
   right
   obtain ⟨_,h1,h4⟩:=h;have:r.size=1∨r.size=2∨r.size=3∨r.size=4:=by omega
   rcases this with h | h | h | h <;> rw [h] <;> decide
  .rw [iN_ h];exact .inl rfl
theorem N_ {α:Type}{l:List α}{k:Nat}{x:α}(h:k<l.length):l.getD k x=l[k]:=by simp [h]
theorem r_j (n:Nat)(hn:14<=n)(l:List Str):n_ (σ:=Unit) (ρ:=Bool) (λG=>(λ(_:Unit)=>bd (idx l ((G:Nat):Int)) λH=>bd (α:=Bool) (bd (f_F n H) λI=>if (!I) then some true else bd (slc l 0 ((G:Nat):Int)) λJ=>bd (h_Z J H) λL=>some L) (λO=>if O then some (.ret false) else some (.next ())))) l.length 0 ()=some (if (List.range l.length).any (c_T l) then .inr false else .inl ()):=by
 refine e_b (c_T l) false<|λk hk _=>?_
 simp only [ix_ hk,bd_some,l_e n hn,l_g<|Nat.le_of_lt hk,r_h,c_T,gG_ hk]
 generalize b_b l[k]=a;generalize e_z (l.take k) l[k]=b
 cases a <;> cases b <;> rfl
theorem r_k (l:List Str):j_4 l=some (!((List.range l.length).any (c_T l)) && c_K l.length):=by
 unfold j_4
 rw [e_b (c_T l) false]
 .rw [b_L]
  unfold c_K
  cases (List.range l.length).any (c_T l) <;> rfl
 .intro k hk _
  simp only [ix_ hk,bd_some,l_d,l_g<|Nat.le_of_lt hk,r_i,c_T,gG_ hk]
  generalize b_b l[k]=a;generalize e_z (l.take k) l[k]=b
  cases a <;> cases b <;> rfl
theorem r_l (n:Nat)(hn:14<=n)(r:d_):j_j n r=some (plain r false false true false r.names.length && (!((List.range r.names.length).any (c_T r.names)) && c_K r.names.length)):=by
 unfold j_j
 rw [r_j n hn,l_f,a_Y,n_R r _ _ _ _ r.names.length]
 have I:decide ((r.names.length:Int)<0)=false:=dF_ (by omega)
 rw [I]
 unfold c_K;generalize (List.range r.names.length).any (c_T r.names)=a;generalize plain r false false true false (-1)=b
 by_cases h:(r.kids.length:Int)=r.names.length
 .rw [h]
  have G:((r.names.length:Int)==(r.names.length:Int))=true:=by simp
  have H:((r.names.length:Int) != (r.names.length:Int))=false:=by simp
  rw [G,H]
  generalize (decide (1<=(r.names.length:Int)) && decide ((r.names.length:Int)<=8))=c
  cases a <;> cases b <;> cases c <;> rfl
 .have G:((r.kids.length:Int)==(r.names.length:Int))=false:=by simpa using h
  have H:((r.kids.length:Int) != (r.names.length:Int))=true:=by simpa using h
  rw [G,H]
  cases a <;> cases b <;> rfl
theorem i_t {m:Int}{l:List Int}{k:Nat}(hk:k<l.length):d_B m l k=(!(decide (0<=l[k]) && decide (l[k]<=m)) || (decide (0<(k:Int)) && decide (l[k]<=l.getD (k - 1) 0))):=by
 unfold d_B;rw [gG_ hk]
theorem n_T {l:List Int}{k:Nat}(hk:k<l.length)(G:0<k):idx l (l_ (k:Int) 1)=some (l.getD (k - 1) 0)∨¬l.length<=MX:=by
 by_cases hM:l.length<=MX
 .left
  have hMX:MX=1048576:=rfl
  rw [b_i (by omega) (by omega),e_N (by omega) (by omega),N_ (by omega)]
  simp [show ((k:Int) - 1).toNat=k - 1 by omega]
 .exact .inr hM
theorem r_m (m:Int)(l:List Int)(hl:l.length<=MX):n_ (σ:=Unit) (ρ:=Bool) (λG=>(λ(_:Unit)=>bd (idx l ((G:Nat):Int)) λI=>bd (α:=Bool) (bd (c_B I 0 m) λJ=>if (!J) then some true else if (decide<|0<((G:Nat):Int)) then bd (idx l<|l_ ((G:Nat):Int) 1) λL=>some (decide<|I<=L) else some false) (λO=>if O then some (.ret false) else some (.next ())))) l.length 0 ()=some (if (List.range l.length).any (d_B m l) then .inr false else .inl ()):=by
 refine e_b (d_B m l) false<|λk hk _=>?_
 simp only [ix_ hk,bd_some,a_Y,i_t hk]
 by_cases V:0<k
 .have e:=(n_T hk V).resolve_right (λh=>h hl);have H:decide (0<(k:Int))=true:=dT_ (by omega)
  rw [e,H]
  generalize decide (0<=l[k])=a;generalize decide (l[k]<=m)=b
  simp only [bd_some]
  generalize decide (l[k]<=l.getD (k - 1) 0)=c
  cases a <;> cases b <;> cases c <;> rfl
 .have H:decide (0<(k:Int))=false:=dF_ (by omega)
  rw [H]
  generalize decide (0<=l[k])=a;generalize decide (l[k]<=m)=b
  cases a <;> cases b <;> rfl
theorem d_e {r:d_}(h:0<r.kids.length):idx r.kids 0=some (k_ r):=by
 rw [a_S h,k_,N_ h]
theorem r_n (d:c_)(r:d_)(ht:r.tags.length<=MX):j_k d r=some (plain r false false false true ((r.tags.length:Int)+1) && (c_K r.tags.length && !((List.range r.tags.length).any (d_B (lim d.rules<|k_ r) r.tags)))):=by
 have hMX:MX=1048576:=rfl;unfold j_k
 rw [l_f,a_Y,ia_ (x:=(r.tags.length:Int)) (by omega) (by omega)]
 unfold c_K
 cases hp:plain r false false false true ((r.tags.length:Int)+1)
 .rfl
 .have hk:=d_C hp (by omega)
  rw [d_e (by omega)]
  simp only [bd_some,nT_,bF_,fF_,e_3,r_m _ _ ht]
  by_cases G:1<=(r.tags.length:Int)/\(r.tags.length:Int)<=8
  .rw [dT_ G.1,dT_ G.2]
   cases ha:(List.range r.tags.length).any (d_B (lim d.rules<|k_ r) r.tags)
   .have hpos:0<lim d.rules (k_ r):=by
     rcases n_S d.rules (k_ r) with h | h
     .exfalso
      have H:0<r.tags.length:=by omega
      have:=List.any_eq_false.1 ha 0<|List.mem_range.2 H
      rw [i_t H,h] at this
      simp only [Bool.or_eq_true,Bool.not_eq_true',Bool.and_eq_false_iff,decide_eq_false_iff_not] at this
      omega
     .exact h
    rw [dT_ hpos]
    rfl
   .rfl
  .have:(decide (1<=(r.tags.length:Int)) && decide ((r.tags.length:Int)<=8))=false:=by
    rw [Bool.and_eq_false_iff]
    simp only [decide_eq_false_iff_not]
    omega
   rw [this]
   rfl
theorem r_o (d:c_)(r:d_)(hd:d.rules.length<=MX)(ht:r.tags.length<=MX):j_5 d r=some (((r.kids.length:Int)==(r.tags.length:Int)+1) && (c_K r.tags.length && !((List.range r.tags.length).any (d_B (lim d.rules<|k_ r) r.tags)))):=by
 have hMX:MX=1048576:=rfl;unfold j_5
 rw [ia_ (x:=(r.tags.length:Int)) (by omega) (by omega),b_L]
 unfold c_K
 by_cases hk:(r.kids.length:Int)=(r.tags.length:Int)+1
 .have G:((r.kids.length:Int)==(r.tags.length:Int)+1)=true:=by simpa using hk
  have H:((r.kids.length:Int) != (r.tags.length:Int)+1)=false:=by simpa using hk
  rw [G,H]
  rw [e_b (d_B (lim d.rules<|k_ r) r.tags) false]
  .generalize (List.range r.tags.length).any (d_B (lim d.rules<|k_ r) r.tags)=a;generalize (decide (1<=(r.tags.length:Int)) && decide ((r.tags.length:Int)<=8))=c
   cases a <;> cases c <;> rfl
  .intro k hk' _
   simp only [ix_ hk',bd_some,d_e (show 0<r.kids.length by omega),h_r d _ hd,b_L,i_t hk']
   by_cases J:0<k
   .have e:=(n_T hk' J).resolve_right (λh=>h ht);have I:decide (0<(k:Int))=true:=dT_ (by omega)
    rw [e,I]
    generalize decide (0<=r.tags[k])=a;generalize decide (r.tags[k]<=lim d.rules (k_ r))=b
    simp only [bd_some]
    generalize decide (r.tags[k]<=r.tags.getD (k - 1) 0)=c
    cases a <;> cases b <;> cases c <;> rfl
   .have I:decide (0<(k:Int))=false:=dF_ (by omega)
    rw [I]
    generalize decide (0<=r.tags[k])=a;generalize decide (r.tags[k]<=lim d.rules (k_ r))=b
    cases a <;> cases b <;> rfl
 .have G:((r.kids.length:Int)==(r.tags.length:Int)+1)=false:=by simpa using hk
  have H:((r.kids.length:Int) != (r.tags.length:Int)+1)=true:=by simpa using hk
  rw [G,H]
  rfl
theorem r_p (n:Nat)(hn:14<=n)(d:c_)(r:d_)(ht:r.tags.length<=MX):j_l n d r=some (a_i d.rules r):=by
 unfold j_l a_i
 rw [r_l n hn,r_n d r ht]
 simp only [l_f,a_Y,e_3,bd_some]
 cases (r.kind==1) with
 | true =>
  generalize plain r true false false false 0=a;generalize (decide (1<=r.size) && decide (r.size<=4))=b;generalize decide (1<r.size)=c;generalize r.little=e
  cases a <;> cases b <;> cases c <;> cases e <;> rfl
 | false =>
 cases (r.kind==2) with
 | true =>
  generalize plain r false true false false 0=a
  cases a <;> rfl
 | false =>
 cases (r.kind==3) with
 | true =>
  generalize plain r true false false false 0=a
  cases a <;> rfl
 | false =>
 cases (r.kind==4) with
 | true =>
  cases hp:plain r false false false false 1
  .rfl
  .have hk:=d_C hp (by omega)
   rw [d_e (by omega)]
   rfl
 | false =>
 cases (r.kind==5) with
 | true =>
  cases hp:plain r false false false false 2
  .rfl
  .have hk:=d_C hp (by omega)
   rw [d_e (by omega)]
   rfl
 | false =>
 cases (r.kind==6) with
 | true=>rfl
 | false =>
 cases (r.kind==7) with
 | true=>rfl
 | false =>
 cases (r.kind==8) with
 | true=>rfl
 | false =>
 cases (r.kind==9) with
 | true=>rfl
 | false =>
 cases (r.kind==10) with
 | true =>
  generalize plain r false true false false 0=a
  by_cases hb:(r.bytes.length:Int)=1
  .have e:((r.bytes.length:Int)==1)=true:=by simpa using hb
   rw [e,a_S (show 0<r.bytes.length by omega),N_ (show 0<r.bytes.length by omega)]
   cases a <;> rfl
  .have e:((r.bytes.length:Int)==1)=false:=by simpa using hb
   rw [e]
   cases a <;> rfl
 | false=>rfl
theorem r_q (d:c_)(r:d_)(hd:d.rules.length<=MX)(ht:r.tags.length<=MX):j_6 d r=some (a_i d.rules r && (!r.little || r.kind==1)):=by
 unfold j_6 a_i
 rw [r_o d r hd ht,r_k]
 simp only [r_g,b_L,h_r d _ hd,bd_some]
 have G:plain r false false false true ((r.tags.length:Int)+1)=(plain r false false false true (-1) && ((r.kids.length:Int)==(r.tags.length:Int)+1)):=by
  rw [n_R,dF_ (show ¬((r.tags.length:Int)+1<0) by omega)];rfl
 rw [G]
 cases (r.kind==1) with
 | true =>
  generalize plain r true false false false 0=a;generalize (decide (1<=r.size) && decide (r.size<=4))=b;generalize decide (1<r.size)=c;generalize r.little=e
  cases a <;> cases b <;> cases c <;> cases e <;> rfl
 | false =>
 generalize r.little=e
 cases (r.kind==2) with
 | true =>
  generalize plain r false true false false 0=a;generalize (decide (1<=(r.bytes.length:Int)) && decide ((r.bytes.length:Int)<=16))=b
  cases a <;> cases e <;> cases b <;> rfl
 | false =>
 cases (r.kind==3) with
 | true =>
  generalize plain r true false false false 0=a;generalize (decide (1<=r.size) && decide (r.size<=64))=b
  cases a <;> cases e <;> cases b <;> rfl
 | false =>
 cases (r.kind==4) with
 | true =>
  cases hp:plain r false false false false 1
  .rfl
  .have hk:=d_C hp (by omega)
   rw [d_e (by omega)]
   simp only [bd_some]
   generalize decide (0<lim d.rules (k_ r))=b
   cases e <;> cases b <;> rfl
 | false =>
 cases (r.kind==5) with
 | true =>
  cases hp:plain r false false false false 2
  .rfl
  .have hk:=d_C hp (by omega)
   rw [d_e (by omega)]
   simp only [bd_some]
   generalize decide (0<lim d.rules (k_ r))=b
   cases e <;> cases b <;> rfl
 | false =>
 cases (r.kind==6) with
 | true =>
  generalize plain r false false true false r.names.length=a;generalize (!((List.range r.names.length).any (c_T r.names)) && c_K r.names.length)=b
  cases a <;> cases e <;> cases b <;> rfl
 | false =>
 cases (r.kind==7) with
 | true =>
  generalize plain r false false false true (-1)=a;generalize ((r.kids.length:Int)==(r.tags.length:Int)+1)=b;generalize (c_K r.tags.length && !((List.range r.tags.length).any (d_B (lim d.rules<|k_ r) r.tags)))=c
  cases a <;> cases e <;> cases b <;> cases c <;> rfl
 | false =>
 cases (r.kind==8) with
 | true =>
  generalize plain r false false false false 1=a
  cases a <;> cases e <;> rfl
 | false =>
 cases (r.kind==9) with
 | true =>
  generalize plain r false false false false 1=a
  cases a <;> cases e <;> rfl
 | false =>
 cases (r.kind==10) with
 | true =>
  generalize plain r false true false false 0=a
  by_cases hb:(r.bytes.length:Int)=1
  .have e:((r.bytes.length:Int)==1)=true:=by simpa using hb
   rw [e,a_S (show 0<r.bytes.length by omega),N_ (show 0<r.bytes.length by omega)]
   simp only [bd_some]
   generalize (byteI r.bytes[0] != byteI (92:UInt8))=b
   rename_i e'
   cases a <;> cases e' <;> cases b <;> rfl
  .have e:((r.bytes.length:Int)==1)=false:=by simpa using hb
   rw [e]
   rename_i e'
   cases a <;> cases e' <;> rfl
 | false=>cases e <;> rfl
def e_4 (i:Nat)(k:Int):Bool:=decide (k<0) || decide ((i:Int)<=k)
def e_5 (rs:List d_)(i:Nat):Bool:=match rs[i]? with
 | none=>false
 | some r=>(b_b r.name && !(r.little && r.kind != 1)) && (!((rs.take i).any (λx=>x.name.b==r.name.b)) && (!(r.kids.any<|e_4 i) && a_i rs r))
def O_ (d:c_):Bool:=(decide (1<=(d.rules.length:Int)) && decide ((d.rules.length:Int)<=24)) && !((List.range d.rules.length).any (λi=>!e_5 d.rules i))
theorem r_r (n:Nat)(hn:14<=n)(d:c_)(hd:SmD d){i:Nat}(hi:i<d.rules.length):j_m n d i=some (e_5 d.rules i):=by
 unfold j_m f_H e_5;have hr:=hd.each d.rules[i] (gE_ hi)
 rw [dT_ (show (0:Int)<=(i:Int) by omega),dT_ (show (i:Int)<(d.rules.length:Int) by omega),gG_ hi,ix_ hi]
 simp only [fT_,bd_some,l_e n hn,l_g<|Nat.le_of_lt hi,r_p n hn d _ hr.tags]
 generalize d.rules[i]=r;have O:=e_P (body:=(λH=>(λ(_:Unit)=>bd (idx (d.rules.take i) ((H:Nat):Int)) λI=>if (I.name.b==r.name.b) then some (Out.ret false:Out Unit Bool) else some (.next ())))) (l:=d.rules.take i) (λx=>x.name.b==r.name.b) false (λk hk=>by simp only [ix_ hk,bd_some];exact e_y _ _)
 have V:=e_P (body:=(λJ=>(λ(_:Unit)=>bd (idx r.kids ((J:Nat):Int)) λG=>bd (α:=Bool) (if (decide (G<0)) then some true else some (decide ((i:Int)<=G))) (λL=>if L then some (Out.ret false:Out Unit Bool) else some (.next ()))))) (l:=r.kids) (e_4 i) false (λk hk=>by
  simp only [ix_ hk,bd_some]
  rw [show e_4 i r.kids[k]=(decide (r.kids[k]<0) || decide ((i:Int)<=r.kids[k])) from rfl]
  generalize decide (r.kids[k]<0)=a;generalize decide ((i:Int)<=r.kids[k])=b
  cases a <;> cases b <;> rfl)
 rw [O,V]
 generalize b_b r.name=a;generalize r.little=b;generalize (r.kind != 1)=c;generalize (d.rules.take i).any (λx=>x.name.b==r.name.b)=x;generalize r.kids.any (e_4 i)=y;generalize a_i d.rules r=z
 cases a <;> cases b <;> cases c <;> cases x <;> cases y <;> rfl
theorem r_s (d:c_)(hd:SmD d){i:Nat}(hi:i<d.rules.length):j_7 d i=some (e_5 d.rules i):=by
 have hMX:MX=1048576:=rfl;have hdl:=hd.rules;unfold j_7 e_5;have hr:=hd.each d.rules[i] (gE_ hi)
 rw [b_L,b_i (x:=(d.rules.length:Int)) (by omega) (by omega),b_i (x:=(i:Int)) (by omega) (by omega),dT_ (show (0:Int)<=(i:Int) by omega),dT_ (show (i:Int)<=(d.rules.length:Int) - 1 by omega),gG_ hi,ix_ hi]
 simp only [bd_some,l_d,r_q d _ hd.rules hr.tags]
 generalize d.rules[i]=r;have hl:((i:Int)).toNat=(d.rules.take i).length:=by simp;omega
 have V:n_ (σ:=Unit) (ρ:=Bool) (λH=>(λ(_:Unit)=>bd (idx d.rules ((H:Nat):Int)) λI=>if (I.name.b==r.name.b) then some (.ret false) else some (.next ()))) (i:Int).toNat 0 ()=some (if (d.rules.take i).any (λx=>x.name.b==r.name.b) then .inr false else .inl ()):=by
  rw [hl]
  refine e_P (λx:d_=>x.name.b==r.name.b) false<|λk hk=>?_;have hk':k<d.rules.length:=by simp at hk;omega
  simp only [ix_ hk',bd_some,List.getElem_take]
  exact e_y _ _
 have W:n_ (σ:=Unit) (ρ:=Bool) (λJ=>(λ(_:Unit)=>bd (idx r.kids ((J:Nat):Int)) λL=>bd (a_W L 0<|(i:Int) - 1) λO=>if (!O) then some (.ret false) else some (.next ()))) r.kids.length 0 ()=some (if r.kids.any (e_4 i) then .inr false else .inl ()):=by
  refine e_P (e_4 i) false<|λk hk=>?_
  simp only [ix_ hk,bd_some,b_L]
  rw [show e_4 i r.kids[k] = !(decide (0<=r.kids[k]) && decide (r.kids[k]<=(i:Int) - 1)) from by
   unfold e_4
   by_cases G:r.kids[k]<0
   .rw [dT_ G,dF_ (show ¬0<=r.kids[k] by omega)];rfl
   .rw [dF_ G,dT_ (show 0<=r.kids[k] by omega)]
    by_cases h1:(i:Int)<=r.kids[k]
    .rw [dT_ h1,dF_ (show ¬r.kids[k]<=(i:Int) - 1 by omega)];rfl
    .rw [dF_ h1,dT_ (show r.kids[k]<=(i:Int) - 1 by omega)];rfl]
  exact e_y _ _
 rw [V,W]
 have Y:(!(r.little && r.kind != 1))=(!r.little || r.kind==1):=by
  simp only [bne]
  generalize (r.kind==1)=c
  cases r.little <;> cases c <;> rfl
 rw [Y]
 generalize b_b r.name=a;generalize (!r.little || r.kind==1)=b;generalize (d.rules.take i).any (λx=>x.name.b==r.name.b)=x;generalize r.kids.any (e_4 i)=y;generalize a_i d.rules r=z
 cases a <;> cases b <;> cases x <;> cases y <;> cases z <;> rfl
theorem r_t (n:Nat)(hn:14<=n)(d:c_)(hd:SmD d):j_n n d=some (O_ d):=by
 unfold j_n O_
 rw [a_Y,e_b (λi=>!e_5 d.rules i) false (λk hk _=>by rw [r_r n hn d hd hk];simp only [bd_some];exact e_y _ _)]
 generalize (decide (1<=(d.rules.length:Int)) && decide ((d.rules.length:Int)<=24))=a;generalize (List.range d.rules.length).any (λi=>!e_5 d.rules i)=b
 cases a <;> cases b <;> rfl
theorem r_u (d:c_)(hd:SmD d):j_8 d=some (O_ d):=by
 unfold j_8 O_
 rw [b_L,e_b (λi=>!e_5 d.rules i) false (λk hk _=>by rw [r_s d hd hk];simp only [bd_some];exact e_y _ _)]
 generalize (decide (1<=(d.rules.length:Int)) && decide ((d.rules.length:Int)<=24))=a;generalize (List.range d.rules.length).any (λi=>!e_5 d.rules i)=b
 cases a <;> cases b <;> rfl
def a_V (d:c_)(r:Int):Bool:=decide (0<=r) && decide (r<(d.rules.length:Int))
theorem g_s (n:Nat)(hn:14<=n)(d:c_)(hd:SmD d)(r:Int):f_I n d r=some (O_ d && a_V d r):=by
 unfold f_I f_H a_V
 rw [r_t n hn d hd]
 generalize O_ d=a;generalize decide (0<=r)=b;generalize decide (r<(d.rules.length:Int))=c
 cases a <;> cases b <;> rfl
theorem h_s (d:c_)(hd:SmD d)(r:Int):d_q d r=some (O_ d && a_V d r):=by
 have hMX:MX=1048576:=rfl;have hdl:=hd.rules;unfold d_q a_V
 rw [r_u d hd,b_L,b_i (x:=(d.rules.length:Int)) (by omega) (by omega),show decide (r<=(d.rules.length:Int) - 1)=decide (r<(d.rules.length:Int)) from decide_eq_decide.2 (by omega)]
 generalize O_ d=a;generalize decide (0<=r)=b;generalize decide (r<(d.rules.length:Int))=c
 cases a <;> cases b <;> cases c <;> rfl
end Go.Vw
namespace Go.Vw
open Go.RowKit Dat
def b_W (n:Int)(c:UInt8):Int:=n * 256+byteI c
def e_D (bs:Bt)(little:Bool):Int:=(if little then bs.reverse else bs).foldl b_W 0
theorem f_u {α β:Type}(f:β->α->β)(a:β){l:List α}{k:Nat}(h:k<l.length):(l.take<|k+1).foldl f a=f ((l.take k).foldl f a) l[k]:=by
 rw [List.take_add_one,gG_ h,Option.toList_some,List.foldl_append];rfl
theorem o_t (l:Bt):0<=l.foldl b_W 0/\l.foldl b_W 0<256 ^ l.length:=by
 have:∀k,k<=l.length->0<=(l.take k).foldl b_W 0/\(l.take k).foldl b_W 0<256 ^ k:=by
  intro k
  induction k with
  | zero=>intro _;simp
  | succ k ih =>
   intro hk;obtain ⟨h1,h2⟩:=ih (by omega)
   rw [f_u b_W 0 (show k<l.length by omega)]
   have h3:=h_a l[k];have h4:=h_b l[k];generalize (l.take k).foldl b_W 0=z at *
   unfold b_W
   rw [Int.pow_succ]
   omega
 have h:=this l.length<|Nat.le_refl _
 simpa using h
theorem k_b (l:Bt)(h:l.length<=4):0<=l.foldl b_W 0/\l.foldl b_W 0<4294967296:=by
 obtain ⟨h1,h2⟩:=o_t l;refine ⟨h1,?_⟩;have:l.length=0∨l.length=1∨l.length=2∨l.length=3∨l.length=4:=by omega
 rcases this with h | h | h | h | h <;> rw [h] at h2 <;> omega
theorem s_7 (bs:Bt)(e:Bool)(h:bs.length<=4):0<=e_D bs e/\e_D bs e<4294967296:=by
 unfold e_D
 cases e
 .exact k_b bs h
 .exact k_b bs.reverse (by simpa using h)
theorem o_u {bs:Bt}{k:Nat}(hk:k<bs.length)(hb:bs.length<=4)(e:Bool):idx bs (if e then l_ (l_ (bs.length:Int) 1) (k:Int) else (k:Int))=some ((if e then bs.reverse else bs)[k]'(by cases e <;> simpa using hk)):=by
 cases e
 .exact ix_ hk
 .rw [iP_ rfl,b_i (x:=(bs.length:Int)) (by omega) (by omega),b_i (by omega) (by omega),e_N (by omega) (by omega)]
  simp only [fT_]
  rw [List.getElem_reverse]
  congr 2
  omega
theorem s_8 (bs:Bt)(e:Bool)(hb:bs.length<=4):j_9 bs e=some (e_D bs e):=by
 unfold j_9
 rw [dF_ (show ¬(4:Int)<(bs.length:Int) by omega)]
 have hl:(if e then bs.reverse else bs).length=bs.length:=by cases e <;> simp
 have h:=e_O (n:=bs.length) (σ:=Int) (ρ:=Int) (body:=(λG=>(λI=>bd (α:=Int) (if e then some (l_ (l_ (bs.length:Int) 1) ((G:Nat):Int)) else some ((G:Nat):Int))<|λJ=>bd (idx bs J) λH=>some<|.next<|i_ (W_ I 256)<|byteI H)))
  (λk=>((if e then bs.reverse else bs).take k).foldl b_W 0) (λj hj=>by
   have L:=k_b ((if e then bs.reverse else bs).take j) (by simp;omega)
   rw [r_f,bd_some,o_u hj hb e,bd_some,f_u b_W 0 (by rw [hl];exact hj)]
   generalize (if e then bs.reverse else bs)[j]'(by rw [hl];exact hj)=c at *
   have h3:=h_a c;have h4:=h_b c
   rw [e_a (by omega) (by omega),ia_ (by omega) (by omega)]
   rfl)
 simp only [List.take_zero,List.foldl_nil] at h
 rw [h]
 simp only [bF_,fF_,bd_some,el_inl]
 unfold e_D
 rw [List.take_of_length_le (by omega)]
theorem o_v {n:Int}{c:UInt8}(G:0<=n)(h1:n<4294967296):a_C .i64 (· ||| ·) (b_I .i64 n 8) (byteI c)=b_W n c:=by
 have e:b_I .i64 n 8=n * 256:=by
  unfold b_I
  rw [show (min (8:Int).toNat IntKind.i64.bits)=8 from rfl,IntKind.wrap_i64]
  omega
 rw [e]
 unfold a_C b_W;obtain ⟨m,rfl⟩:=Int.eq_ofNat_of_zero_le G;have hc:=c.toNat_lt;have hm:m<4294967296:=by omega
 have H:BitVec.ofInt IntKind.i64.bits ((m:Int) * 256)=BitVec.ofNat 64 (m * 256):=by
  rw [show ((m:Int) * 256)=((m * 256:Nat):Int) by omega];exact BitVec.ofInt_natCast 64 _
 have I:BitVec.ofInt IntKind.i64.bits (byteI c)=BitVec.ofNat 64 c.toNat:=by
  unfold byteI;exact BitVec.ofInt_natCast 64 _
 show IntKind.i64.wrap ((BitVec.ofInt IntKind.i64.bits ((m:Int) * 256) ||| BitVec.ofInt IntKind.i64.bits (byteI c)).toNat:Int)=_
 rw [H,I]
 have J:(BitVec.ofNat 64 (m * 256) ||| BitVec.ofNat 64 c.toNat).toNat=m * 256+c.toNat:=by
  rw [BitVec.toNat_or,BitVec.toNat_ofNat,BitVec.toNat_ofNat,Nat.mod_eq_of_lt (by omega),Nat.mod_eq_of_lt (by omega)]
  have:=Nat.shiftLeft_add_eq_or_of_lt (i:=8) (b:=c.toNat) (by omega) m
  rw [Nat.shiftLeft_eq] at this
  exact this.symm
 have L:((BitVec.ofNat 64 (m * 256) ||| BitVec.ofNat 64 c.toNat:BitVec IntKind.i64.bits).toNat:Int)=(m:Int) * 256+(c.toNat:Int):=by
  rw [show (BitVec.ofNat 64 (m * 256) ||| BitVec.ofNat 64 c.toNat:BitVec IntKind.i64.bits).toNat=m * 256+c.toNat from J];omega
 refine (congrArg IntKind.i64.wrap L).trans ?_
 rw [IntKind.wrap_i64]
 unfold byteI
 omega
theorem s_9 (bs:Bt)(e:Bool)(hb:bs.length<=4):j_o bs e=some (e_D bs e):=by
 unfold j_o
 rw [dF_ (show ¬(4:Int)<(bs.length:Int) by omega)]
 have hl:(if e then bs.reverse else bs).length=bs.length:=by cases e <;> simp
 have h:=e_O (n:=bs.length) (σ:=Int) (ρ:=Int) (body:=(λH=>(λI=>bd (α:=Int) (if e then bd (idx bs<|l_ (l_ (bs.length:Int) 1) ((H:Nat):Int)) λJ=>some (a_C .i64 (· ||| ·) (b_I .i64 I 8)<|byteI J) else bd (idx bs ((H:Nat):Int)) λL=>some<|a_C .i64 (· ||| ·) (b_I .i64 I 8)<|byteI L)<|λO=>some<|.next O)))
  (λk=>((if e then bs.reverse else bs).take k).foldl b_W 0) (λj hj=>by
   have G:=k_b ((if e then bs.reverse else bs).take j) (by simp;omega);have hbt:=o_u hj hb e
   rw [f_u b_W 0 (by rw [hl];exact hj)]
   cases e
   .simp only [bF_,fF_] at hbt G ⊢
    rw [hbt,bd_some,bd_some,o_v G.1 G.2]
   .simp only [fT_] at hbt G ⊢
    rw [hbt,bd_some,bd_some,o_v G.1 G.2])
 simp only [List.take_zero,List.foldl_nil] at h
 rw [h]
 simp only [bF_,fF_,bd_some,el_inl]
 unfold e_D
 rw [List.take_of_length_le (by omega)]
def d_j (n:Int)(c:UInt8):Int:=n+byteI c
def c_f (bs:Bt):Int:=bs.foldl d_j 0 % 256
theorem l_y (bs:Bt)(k:Nat)(hk:k<=bs.length):0<=(bs.take k).foldl d_j 0/\(bs.take k).foldl d_j 0<=256 * k:=by
 induction k with
 | zero=>simp
 | succ k ih =>
  obtain ⟨h1,h2⟩:=ih (by omega)
  rw [f_u d_j 0 (show k<bs.length by omega)]
  have h3:=h_a bs[k];have h4:=h_b bs[k];generalize (bs.take k).foldl d_j 0=z at *
  unfold d_j
  omega
theorem o_w (bs:Bt)(hb:bs.length<=MX):g_Q bs=some (c_f bs):=by
 have hMX:MX=1048576:=rfl;unfold g_Q c_f
 have h:=e_O (n:=bs.length) (σ:=Int) (ρ:=Int) (body:=(λG=>(λH=>bd (idx bs ((G:Nat):Int)) λI=>some (.next (i_ H (byteI I)))))) (λk=>(bs.take k).foldl d_j 0) (λj hj=>by
  have hbd:=l_y bs j (by omega);have h3:=h_a bs[j];have h4:=h_b bs[j]
  rw [ix_ hj,bd_some,f_u d_j 0 hj,ia_ (by omega) (by omega)]
  rfl)
 simp only [List.take_zero,List.foldl_nil] at h
 rw [h]
 have hbd:=l_y bs bs.length<|Nat.le_refl _
 rw [List.take_of_length_le (Nat.le_refl _)] at hbd ⊢
 simp only [bd_some,el_inl]
 rw [k_y hbd.1]
theorem o_x (bs:Bt):h_U bs=some (c_f bs):=by
 have hMX:MX=1048576:=rfl;unfold h_U c_f
 have h:=e_O (n:=bs.length) (σ:=Int) (ρ:=Int) (body:=(λG=>(λH=>bd (idx bs ((G:Nat):Int)) λI=>some (.next (b_3 (i_ H (byteI I)) 256))))) (λk=>(bs.take k).foldl d_j 0 % 256) (λj hj=>by
  have hbd:=l_y bs j (by omega);have h3:=h_a bs[j];have h4:=h_b bs[j]
  rw [ix_ hj,bd_some,f_u d_j 0 hj,ia_ (by omega) (by omega),k_y (by omega)]
  generalize (bs.take j).foldl d_j 0=z at *
  unfold d_j
  congr 2
  omega)
 simp only [List.take_zero,List.foldl_nil] at h
 rw [show ((0:Int) % 256)=0 from rfl] at h
 rw [h]
 rw [List.take_of_length_le (Nat.le_refl _)]
 rfl
def d_G (b:Bt)(t:UInt8):Nat->Bt->Nat->Option (Bt×Nat)
 | 0,_,_=>none
 | f+1,acc,p=>match b[p]? with
  | none=>none
  | some c=>if c=t then some (acc,p+1) else if c=92 then (match b[p+1]? with
    | none=>none
    | some c'=>d_G b t f (acc++[c']) (p+2)) else d_G b t f (acc++[c]) (p+1)
def k_c (o:Option (Bt×Nat)):Sum (Bt×Int) (Bt×Int×Bool)->Prop:=λs=>match o with
 | some (c,q)=>s = .inr (c,(q:Int),true)
 | none=>∃x,s = .inl x
def d_k (b:Bt)(at_:Nat)(t:UInt8):Option (Bt×Nat):=d_G b t (b.length+1) [] at_
theorem beqB (a c:UInt8):(byteI a==byteI c)=decide (a=c):=by
 rw [Bool.eq_iff_iff];simp only [beq_iff_eq,dE_];exact t_c
theorem o_y (b:Bt)(t:UInt8)(hb:b.length<=MX)(step:Bt×Int->Option (Out (Bt×Int)<|Bt×Int×Bool))
  (hstep:∀acc (p:Nat),step (acc,(p:Int))=if decide ((p:Int)<(b.length:Int)) then bd (idx b (p:Int)) λI=>if ((byteI I)==(byteI t)) then some (.ret (acc,i_ (p:Int) 1,true)) else bd (idx b (p:Int)) λJ=>bd (α:=Sum Int<|Out (Bt×Int)<|Bt×Int×Bool) (if ((byteI J)==(byteI (92:UInt8))) then if ((i_ (p:Int) 1)==(b.length:Int)) then some (.inr<|.brk (acc,i_ (p:Int) 1)) else some (.inl<|i_ (p:Int) 1) else some (.inl (p:Int))) (el (λH=>bd (idx b H) λL=>bd (psh acc L) λO=>some<|.next (O,i_ H 1)) some) else some (.brk (acc,(p:Int)))) :
  ∀f acc p,acc.length<=p->p<=b.length->b.length<p+f->∀n,f<=n->∃s,L_ step n (acc,(p:Int))=some s/\k_c (d_G b t f acc p) s:=by
 have hMX:MX=1048576:=rfl;have hLIM:LIM=4294967296:=rfl;intro f
 induction f with
 | zero=>intro acc p _ _ h;omega
 | succ f ih =>
  intro acc p hacc hp hf n hn;obtain ⟨m,rfl⟩:∃m,n=m+1:=⟨n - 1,by omega⟩;unfold L_ d_G
  rw [hstep]
  by_cases hlt:p<b.length
  .rw [dT_ (show (p:Int)<(b.length:Int) by omega),ix_ hlt,gG_ hlt]
   simp only [fT_,bd_some,beqB]
   rw [ia_ (x:=(p:Int)) (by omega) (by omega)]
   by_cases ht:b[p]=t
   .rw [dT_ ht,iP_ rfl,iP_ ht]
    exact ⟨_,rfl,by simp [k_c]⟩
   .rw [dF_ ht,iN_ (by simp),iN_ ht]
    by_cases he:b[p]=92
    .rw [dT_ he,iP_ rfl,iP_ he]
     by_cases hl:p+1<b.length
     .have G:((p:Int)+1==(b.length:Int))=false:=by simp;omega
      rw [G,gG_ hl]
      simp only [bF_,fF_,bd_some,el_inl]
      rw [show (p:Int)+1=((p+1:Nat):Int) by omega,ix_ hl,bd_some,a_a (by omega),bd_some,ia_ (by omega) (by omega)]
      obtain ⟨s,h1,h2⟩:=ih (acc++[b[p+1]]) (p+2) (by simp;omega) (by omega) (by omega) m (by omega);refine ⟨s,?_,h2⟩
      rw [← h1]
      simp only
      congr 2
     .have G:((p:Int)+1==(b.length:Int))=true:=by simp;omega
      rw [G,gN_ (by omega)]
      exact ⟨_,rfl,_,rfl⟩
    .rw [dF_ he,iN_ (by simp),iN_ he]
     simp only [bd_some,el_inl]
     rw [ix_ hlt,bd_some,a_a (by omega),bd_some,ia_ (by omega) (by omega)]
     obtain ⟨s,h1,h2⟩:=ih (acc++[b[p]]) (p+1) (by simp;omega) (by omega) (by omega) m (by omega);refine ⟨s,?_,h2⟩
     rw [← h1]
     simp only
     congr 2
  .rw [dF_ (show ¬(p:Int)<(b.length:Int) by omega),gN_ (by omega)]
   exact ⟨_,rfl,_,rfl⟩
def k_d (o:Option (Bt×Nat))(at_:Nat):Bt×Int×Bool:=match o with
 | some (c,q)=>(c,(q:Int),true)
 | none=>([],(at_:Int),false)
theorem s_a (n:Nat)(b:Bt)(at_:Nat)(t:UInt8)(hb:b.length<=MX)(ha:at_<=b.length)(hn:b.length+1<=n):j_p n b at_ t=some (k_d (d_k b at_ t) at_):=by
 unfold j_p d_k
 rw [dF_ (show ¬(at_:Int)<0 by omega),dF_ (show ¬(b.length:Int)<(at_:Int) by omega)]
 simp only [bF_,fF_,bd_some]
 obtain ⟨s,h1,h2⟩:=o_y b t hb (un2 λH G=>if (decide<|G<(b.length:Int)) then bd (idx b G) λJ=>if ((byteI J)==(byteI t)) then some (.ret (H,i_ G 1,true)) else bd (idx b G) λL=>bd (α:=Sum Int<|Out (Bt×Int)<|Bt×Int×Bool) (if ((byteI L)==(byteI (92:UInt8))) then if ((i_ G 1)==(b.length:Int)) then some (.inr<|.brk (H,i_ G 1)) else some (.inl<|i_ G 1) else some (.inl G)) (el (λI=>bd (idx b I) λO=>bd (psh H O) λV=>some<|.next (V,i_ I 1)) some) else some (.brk (H,G))) (λacc p=>rfl) (b.length+1) [] at_ (by simp) ha (by omega) n hn
 rw [h1,bd_some]
 unfold k_c at h2
 unfold k_d
 cases ho:d_G b t (b.length+1) [] at_ with
 | none=>rw [ho] at h2;obtain ⟨x,rfl⟩:=h2;rfl
 | some x=>rw [ho] at h2;simp only at h2;subst h2;rfl
theorem s_b (n:Nat)(b:Bt)(at_:Nat)(t:UInt8)(hb:b.length<=MX)(ha:at_<=b.length)(hn:b.length+1<=n):j_b n b at_ t=some (k_d (d_k b at_ t) at_):=by
 unfold j_b d_k
 have hin:a_W (at_:Int) 0 (b.length:Int)=some true:=by
  rw [b_L,dT_ (show (0:Int)<=(at_:Int) by omega),dT_ (show (at_:Int)<=(b.length:Int) by omega)];rfl
 obtain ⟨s,h1,h2⟩:=o_y b t hb (un2 λH G=>bd (α:=Bool) (bd (a_W (at_:Int) 0 (b.length:Int)) λJ=>if J then some (decide<|G<(b.length:Int)) else some false) (λL=>if L then bd (idx b G) λO=>if ((byteI O)==(byteI t)) then some (.ret (H,i_ G 1,true)) else bd (idx b G) λV=>bd (α:=Sum Int<|Out (Bt×Int)<|Bt×Int×Bool) (if ((byteI V)==(byteI (92:UInt8))) then if ((i_ G 1)==(b.length:Int)) then some (.inr<|.brk (H,i_ G 1)) else some (.inl<|i_ G 1) else some (.inl G)) (el (λI=>bd (idx b I) λW=>bd (psh H W) λY=>some<|.next (Y,i_ I 1)) some) else some (.brk (H,G)))) (λacc p=>by simp only [un2,hin,bd_some,fT_]) (b.length+1) [] at_ (by simp) ha (by omega) n hn
 rw [h1,bd_some]
 unfold k_c at h2
 unfold k_d
 cases ho:d_G b t (b.length+1) [] at_ with
 | none=>rw [ho] at h2;obtain ⟨x,rfl⟩:=h2;rfl
 | some x=>rw [ho] at h2;simp only at h2;subst h2;rfl
theorem k_e {b:Bt}{t:UInt8}:∀f acc p c q,d_G b t f acc p=some (c,q)->p<q/\q<=b.length
 | 0,_,_,_,_,h=>by cases h
 | f+1,acc,p,c,q,h=>by
  unfold d_G at h
  by_cases hlt:p<b.length
  .rw [gG_ hlt] at h
   simp only at h
   split at h
   .cases h;omega
   .split at h
    .by_cases hl:p+1<b.length
     .rw [gG_ hl] at h
      have:=k_e f _ _ _ _ h
      omega
     .rw [gN_ (by omega)] at h
      cases h
    .have:=k_e f _ _ _ _ h
     omega
  .rw [gN_ (by omega)] at h
   cases h
end Go.Vw
