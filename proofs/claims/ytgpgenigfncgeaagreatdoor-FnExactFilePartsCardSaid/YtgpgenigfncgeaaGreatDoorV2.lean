import Derived.Test.YtgpgenigfncgeaaGreatDoorV1
namespace Go.Vw
open Go.RowKit Dat
def MX:Nat:=1048576
structure SmR (r:d_):Prop where
 name:r.name.b.length<=MX
 bytes:r.bytes.length<=MX
 names:r.names.length<=MX
 tags:r.tags.length<=MX
 kids:r.kids.length<=MX
 each:∀s∈r.names,s.b.length<=MX
structure SmD (d:f_):Prop where
 rules:d.rules.length<=MX
 each:∀r∈d.rules,SmR r
theorem t_b {α:Type}{c:Prop}[Decidable c](x y:α):(if c then some x else some y)=some (if c then x else y):=by split <;> rfl
theorem d_1 {ρ:Type}{c:Bool}(x y:Out Unit ρ):(if c then some x else some y)=some (if c then x else y):=by split <;> rfl
def lowC (c:UInt8):Bool:=decide (byteI (97:UInt8)<=byteI c) && decide (byteI c<=byteI (122:UInt8))
def a_Y (c:UInt8):Bool:=decide (byteI (48:UInt8)<=byteI c) && decide (byteI c<=byteI (57:UInt8))
theorem o_m (c:UInt8):lowC c=(decide (97<=(c.toNat:Int)) && decide ((c.toNat:Int)<=122)):=rfl
theorem f_v (c:UInt8):a_Y c=(decide (48<=(c.toNat:Int)) && decide ((c.toNat:Int)<=57)):=rfl
theorem m_s (k:Nat):((k:Int)==0)=(k==0):=by
 rw [Bool.eq_iff_iff];simp
def b_R (s:Str)(k:Nat):Bool:=match s.b[k]? with
 | some c=>!lowC c && (!a_Y c || k==0)
 | none=>false
def b_8 (s:Str):Bool:=!((List.range s.b.length).any (b_R s)) && (decide (1<=s.b.length) && decide (s.b.length<=12))
theorem b_u (x lo hi:Int):a_I x lo hi=some (decide (lo<=x) && decide (x<=hi)):=by
 unfold a_I;generalize decide (lo<=x)=a;generalize decide (x<=hi)=b
 cases a <;> rfl
theorem e_R (x lo hi:Int):c_o x lo hi=some (decide (lo<=x) && decide (x<=hi)):=by
 unfold c_o;generalize decide (lo<=x)=a;generalize decide (x<=hi)=b
 cases a <;> rfl
theorem k_y (s:Str):f_7 s=some (b_8 s):=by
 unfold f_7
 rw [e_y (b_R s) false]
 .unfold b_8
  cases (List.range s.b.length).any (b_R s)
  .have h:decide ((1:Int)<=s.b.length)=decide (1<=s.b.length):=decide_eq_decide.2 (by omega);have G:decide ((s.b.length:Int)<=12)=decide (s.b.length<=12):=decide_eq_decide.2 (by omega)
   simp only [bF_,fF_,bd_some,el_inl,b_u,h,G,Bool.not_false,Bool.true_and]
  .rfl
 .intro k hk _
  simp only [ix_ hk,bd_some,b_R,gG_ hk,lowC,a_Y,m_s]
  generalize decide (byteI (97:UInt8)<=byteI s.b[k])=a;generalize decide (byteI s.b[k]<=byteI (122:UInt8))=b;generalize decide (byteI (48:UInt8)<=byteI s.b[k])=c;generalize decide (byteI s.b[k]<=byteI (57:UInt8))=d;generalize (k==0)=e
  cases a <;> cases b <;> cases c <;> cases d <;> cases e <;> rfl
theorem k_z (n:Nat)(hn:14<=n)(s:Str):e_A n s=some (b_8 s):=by
 unfold e_A
 by_cases h1:s.b.length<1
 .have:b_8 s=false:=by unfold b_8;simp [show ¬1<=s.b.length by omega]
  rw [this];simp [show ((s.b.length:Int)<1) by omega]
 by_cases h2:12<s.b.length
 .have:b_8 s=false:=by unfold b_8;simp [show ¬s.b.length<=12 by omega]
  rw [this];simp [show ¬((s.b.length:Int)<1) by omega,show ((12:Int)<s.b.length) by omega]
 have O:decide ((s.b.length:Int)<1)=false:=by simp;omega
 have V:decide ((12:Int)<(s.b.length:Int))=false:=by simp;omega
 rw [O,V]
 simp only [bF_,fF_,bd_some]
 have hstep:∀k,k<s.b.length->b_R s k=false->∀{ρ:Type}(x:Nat->ρ),x (k+(dec s k).2)=x (k+1):=by
  intro k hk hb ρ x
  rw [q_w hk]
  have hb':b_R s k=(!lowC s.b[k] && (!a_Y s.b[k] || k==0)):=by unfold b_R;rw [gG_ hk]
  rw [hb'] at hb
  rw [o_m,f_v] at hb
  simp only [Bool.and_eq_false_iff,Bool.not_eq_false',Bool.or_eq_false_iff,aE_,dE_] at hb
  omega
 have hgood:∀k (hk:k<s.b.length),b_R s k=(bd (α:=Bool) (if (decide<|97<=((dec s k).1)) then some (decide<|((dec s k).1)<=122) else some false) (λG=>bd (α:=Bool) (if (decide<|48<=((dec s k).1)) then some (decide<|((dec s k).1)<=57) else some false) (λH=>bd (α:=Bool) (if (!G) then if (!H) then some true else some ((k:Int)==0) else some false) some))).getD false /\
   (bd (α:=Bool) (if (decide<|97<=((dec s k).1)) then some (decide<|((dec s k).1)<=122) else some false) (λG=>bd (α:=Bool) (if (decide<|48<=((dec s k).1)) then some (decide<|((dec s k).1)<=57) else some false) (λH=>bd (α:=Bool) (if (!G) then if (!H) then some true else some ((k:Int)==0) else some false) (λI=>if I then some (.ret false) else some (.next<|k+(dec s k).2)))))=some (if b_R s k then (.ret false:Out Nat Bool) else .next (k+(dec s k).2)):=by
  intro k hk;have hb':b_R s k=(!lowC s.b[k] && (!a_Y s.b[k] || k==0)):=by unfold b_R;rw [gG_ hk]
  rw [hb']
  rw [o_m,f_v]
  rw [m_s]
  by_cases ha:s.b[k].toNat<128
  .rw [q_w hk ha]
   simp only
   generalize (s.b[k].toNat:Int)=c;generalize decide (97<=c)=a;generalize decide (c<=122)=b;generalize decide (48<=c)=c';generalize decide (c<=57)=d;generalize (k==0)=e
   cases a <;> cases b <;> cases c' <;> cases d <;> cases e <;> exact ⟨rfl,rfl⟩
  .have hd:=v_N hk (by omega);generalize (dec s k).1=c at hd
   generalize (dec s k).2=c2;have g1:97<=c:=by omega
   have L:¬c<=122:=by omega
   have W:48<=c:=by omega
   have Y:¬c<=57:=by omega
   have k2:¬(s.b[k].toNat:Int)<=122:=by omega
   have k4:¬(s.b[k].toNat:Int)<=57:=by omega
   simp [g1,L,W,Y,k2,k4]
 have hit:I_ (σ:=Nat) (ρ:=Bool) (λh=>if (decide<|h<s.b.length) then bd (α:=Bool) (if (decide<|97<=((dec s h).1)) then some (decide<|((dec s h).1)<=122) else some false) (λG=>bd (α:=Bool) (if (decide<|48<=((dec s h).1)) then some (decide<|((dec s h).1)<=57) else some false) (λH=>bd (α:=Bool) (if (!G) then if (!H) then some true else some ((h:Int)==0) else some false) (λI=>if I then some (.ret false) else some (.next<|h+(dec s h).2)))) else some (.brk h)) n 0=some (if (List.range s.b.length).any (b_R s) then .inr false else .inl s.b.length):=by
  cases hf:(List.range s.b.length).find? (b_R s) with
  | none =>
   have hall:∀k,k<s.b.length->b_R s k=false:=λk hk=>by simpa using List.find?_eq_none.1 hf k (List.mem_range.2 hk)
   have hany:(List.range s.b.length).any (b_R s)=false:=by rw [List.any_eq_false];exact λx hx=>by simpa using List.find?_eq_none.1 hf x hx
   rw [hany]
   refine f_4 (λk=>k) (j0:=s.b.length) (by omega) (λk hk=>?_) ?_
   .simp only [hk,decide_true,fT_]
    rw [(hgood k hk).2,hall k hk]
    simp only [bF_,fF_]
    rw [hstep k hk (hall k hk) (λx=>some<|Out.next x)]
   .simp
  | some k =>
   have hany:(List.range s.b.length).any (b_R s)=true:=List.any_eq_true.2 ⟨k,List.mem_of_find?_eq_some hf,List.find?_some hf⟩
   rw [hany]
   obtain ⟨hp,as,bs,hl,has⟩:=List.find?_eq_some_iff_append.1 hf;have hk:k<s.b.length:=List.mem_range.1<|List.mem_of_find?_eq_some hf
   have hbef:∀j,j<k->b_R s j=false:=by
    intro j hj;have hlen:as.length<s.b.length:=by have:=congrArg List.length hl;simp at this;omega
    have hke:as.length=k:=by
     have h2:(List.range s.b.length)[as.length]? = some k:=by rw [hl];simp
     rw [List.getElem?_range hlen] at h2
     exact Option.some.inj h2
    have hj':j<as.length:=by omega
    have h2:(List.range s.b.length)[j]? = some (as[j]):=by rw [hl,List.getElem?_append_left hj'];simp
    rw [List.getElem?_range (by omega)] at h2
    have h3:=has as[j] (gE_ hj')
    rw [← Option.some.inj h2] at h3
    simpa using h3
   refine q_v (λk=>k) (j0:=k) (by omega) (λj hj=>?_) ?_
   .have J:j<s.b.length:=by omega
    simp only [J,decide_true,fT_]
    rw [(hgood j J).2,hbef j hj]
    simp only [bF_,fF_]
    rw [hstep j J (hbef j hj) (λx=>some<|Out.next x)]
   .simp only [hk,decide_true,fT_]
    rw [(hgood k hk).2,hp]
    rfl
 rw [hit]
 unfold b_8;have g1:decide (1<=s.b.length)=true:=dT_ (by omega);have L:decide (s.b.length<=12)=true:=dT_ (by omega)
 rw [g1,L]
 cases (List.range s.b.length).any (b_R s) <;> rfl
def plain (r:d_)(a b c d:Bool)(k:Int):Bool:=(a || r.size==0) && ((b || (r.bytes.length:Int)==0) && ((c || (r.names.length:Int)==0) && ((d || (r.tags.length:Int)==0) && (decide (k<0) || (r.kids.length:Int)==k))))
theorem m_t (r:d_)(a b c d:Bool)(k:Int):c_M r a b c d k=some (plain r a b c d k):=by
 unfold c_M plain;generalize (r.size==0)=h;generalize ((r.bytes.length:Int)==0)=G;generalize ((r.names.length:Int)==0)=H;generalize ((r.tags.length:Int)==0)=I;generalize decide (k<0)=J;generalize ((r.kids.length:Int)==k)=L
 cases a <;> cases h <;> try rfl
 all_goals cases b <;> cases G <;> try rfl
 all_goals cases c <;> cases H <;> try rfl
 all_goals cases d <;> cases I <;> try rfl
 all_goals cases J <;> rfl
theorem t_c (r:d_)(a b c d:Bool)(k:Int):c_L r a b c d k=some (plain r a b c d k && (!r.little || r.kind==1)):=by
 unfold c_L plain;generalize (r.size==0)=h;generalize ((r.bytes.length:Int)==0)=G;generalize ((r.names.length:Int)==0)=H;generalize ((r.tags.length:Int)==0)=I;generalize decide (k<0)=J;generalize ((r.kids.length:Int)==k)=L;generalize (r.kind==1)=V;generalize r.little=O
 cases a <;> cases h <;> try rfl
 all_goals cases b <;> cases G <;> try rfl
 all_goals cases c <;> cases H <;> try rfl
 all_goals cases d <;> cases I <;> try rfl
 all_goals cases J <;> cases L <;> cases O <;> rfl
def lim (rs:List d_)(i:Int):Int:=match idx rs i with
 | some r=>if r.kind=1/\1<=r.size/\r.size<=4 then 256 ^ r.size.toNat - 1 else -1
 | none=>-1
theorem o_n {α:Type}{l:List α}{i:Int}(h:¬(0<=i/\i<l.length)):idx l i=none:=by
 unfold idx;split
 .rw [gN_];omega
 .rfl
theorem k_A {s:Int}(h1:1<=s)(h4:s<=4):w_ (b_y .i64 1<|b_e 8 s) 1=256 ^ s.toNat - 1/\nn (b_e 8 s)=some ():=by
 have:s=1∨s=2∨s=3∨s=4:=by omega
 rcases this with rfl | rfl | rfl | rfl <;> exact ⟨by decide,by decide⟩
theorem o_o (d:f_)(i:Int):f_M d i=some (lim d.rules i):=by
 unfold f_M f_a lim
 by_cases h:0<=i/\i<d.rules.length
 .obtain ⟨G,h1⟩:=h
  rw [dT_ G,dT_ h1,f_F G (by omega)]
  generalize d.rules[i.toNat]=r
  simp only [fT_,bd_some,e_R]
  by_cases hk:r.kind=1
  .by_cases H:1<=r.size
   .by_cases I:r.size<=4
    .simp [hk,H,I,(k_A H I).1,(k_A H I).2]
    .simp [hk,H,I]
   .simp [hk,H]
  .simp [hk]
 .rw [o_n h]
  by_cases G:0<=i
  .have h1:¬i<d.rules.length:=λh1=>h ⟨G,h1⟩
   simp [G,h1]
  .simp [G]
theorem o_p (d:f_)(i:Int)(hd:d.rules.length<=MX):f_K d i=some (lim d.rules i):=by
 unfold f_K lim
 rw [b_u]
 have hMX:MX=1048576:=rfl;have e:w_ (d.rules.length:Int) 1=(d.rules.length:Int) - 1:=a_y (by omega) (by omega)
 rw [e]
 by_cases h:0<=i/\i<d.rules.length
 .obtain ⟨G,h1⟩:=h
  rw [dT_ G,dT_ (show i<=(d.rules.length:Int) - 1 by omega),f_F G (by omega)]
  generalize d.rules[i.toNat]=r
  simp only [bd_some,b_u,f_J]
  by_cases hk:r.kind=1
  .by_cases H:1<=r.size
   .by_cases I:r.size<=4
    .simp [hk,H,I,(k_A H I).1,(k_A H I).2]
    .simp [hk,H,I]
   .simp [hk,H]
  .simp [hk]
 .rw [o_n h]
  by_cases G:0<=i
  .have h1:¬i<=(d.rules.length:Int) - 1:=λh1=>h ⟨G,by omega⟩
   simp [G,h1]
  .simp [G]
def f_w (l:List Str)(s:Str):Bool:=l.any<|λx=>x.b==s.b
theorem t_d (l:List Str)(s:Str):g_X l s=some (f_w l s):=by
 unfold g_X f_w
 rw [e_8 (λx=>x.b==s.b) true (λk hk=>by simp only [ix_ hk,bd_some];exact d_1 _ _)]
 cases l.any (λx=>x.b==s.b) <;> rfl
theorem t_e (l:List Str)(s:Str):i_d l s=some (f_w l s):=by
 unfold i_d f_w
 rw [e_8 (λx=>x.b==s.b) true (λk hk=>by simp only [ix_ hk,bd_some];exact d_1 _ _)]
 cases l.any (λx=>x.b==s.b) <;> rfl
def d_2 (l:List Str)(k:Nat):Bool:=match l[k]? with
 | some s=>!b_8 s || f_w (l.take k) s
 | none=>false
def d_r (m:Int)(l:List Int)(k:Nat):Bool:=match l[k]? with
 | some t=>!(decide (0<=t) && decide (t<=m)) || (decide (0<(k:Int)) && decide (t<=l.getD (k - 1) 0))
 | none=>false
def c_v (n:Nat):Bool:=decide (1<=(n:Int)) && decide ((n:Int)<=8)
def A_ (r:d_):Int:=r.kids.getD 0 0
def a_C (rs:List d_)(r:d_):Bool :=
 if r.kind==1 then plain r true false false false 0 && ((decide (1<=r.size) && decide (r.size<=4)) && (!r.little || decide (1<r.size)))
 else if r.kind==2 then plain r false true false false 0 && (decide (1<=(r.bytes.length:Int)) && decide ((r.bytes.length:Int)<=16))
 else if r.kind==3 then plain r true false false false 0 && (decide (1<=r.size) && decide (r.size<=64))
 else if r.kind==4 then plain r false false false false 1 && decide (0<lim rs (A_ r))
 else if r.kind==5 then plain r false false false false 2 && decide (0<lim rs (A_ r))
 else if r.kind==6 then plain r false false true false r.names.length && (!((List.range r.names.length).any (d_2 r.names)) && c_v r.names.length)
 else if r.kind==7 then plain r false false false true ((r.tags.length:Int)+1) && (c_v r.tags.length && !((List.range r.tags.length).any (d_r (lim rs<|A_ r) r.tags)))
 else if r.kind==8 then plain r false false false false 1
 else if r.kind==9 then plain r false false false false 1
 else if r.kind==10 then plain r false true false false 0 && ((r.bytes.length:Int)==1 && byteI (r.bytes.getD 0 0) != byteI (92:UInt8))
 else false
theorem d_s {r:d_}{a b c d:Bool}{k:Int}(h:plain r a b c d k=true)(hk:0<=k):(r.kids.length:Int)=k:=by
 unfold plain at h
 simp only [aE_,Bool.or_eq_true,dE_,beq_iff_eq] at h
 omega
theorem o_q (r:d_)(a b c d:Bool)(k:Int):plain r a b c d k=(plain r a b c d (-1) && (decide (k<0) || (r.kids.length:Int)==k)):=by
 unfold plain;simp [Bool.and_assoc]
theorem m_u {α:Type}{l:List α}{k:Nat}(h:k<=l.length):slc l 0 (k:Int)=some (l.take k):=by
 rw [d_e (Int.le_refl 0) (by omega) (by omega)];simp
theorem o_r (rs:List d_)(i:Int):lim rs i = -1∨0<lim rs i:=by
 unfold lim
 cases idx rs i with
 | none=>exact .inl rfl
 | some r =>
  simp only
  by_cases h:r.kind=1/\1<=r.size/\r.size<=4
  .rw [iP_ h]
   right
   obtain ⟨_,h1,h4⟩:=h;have:r.size=1∨r.size=2∨r.size=3∨r.size=4:=by omega
   rcases this with h | h | h | h <;> rw [h] <;> decide
  .rw [iN_ h];exact .inl rfl
theorem a_H {α:Type}{l:List α}{k:Nat}{x:α}(h:k<l.length):l.getD k x=l[k]:=by simp [h]
theorem t_f (n:Nat)(hn:14<=n)(l:List Str):u_ (σ:=Unit) (ρ:=Bool) (λh=>(λ(_:Unit)=>bd (idx l ((h:Nat):Int)) λG=>bd (α:=Bool) (bd (e_A n G) λH=>if (!H) then some true else bd (slc l 0 ((h:Nat):Int)) λI=>bd (g_X I G) λJ=>some J) (λL=>if L then some (.ret false) else some (.next ())))) l.length 0 ()=some (if (List.range l.length).any (d_2 l) then .inr false else .inl ()):=by
 refine e_y (d_2 l) false<|λk hk _=>?_
 simp only [ix_ hk,bd_some,k_z n hn,m_u<|Nat.le_of_lt hk,t_d,d_2,gG_ hk]
 generalize b_8 l[k]=a;generalize f_w (l.take k) l[k]=b
 cases a <;> cases b <;> rfl
theorem t_g (l:List Str):i_e l=some (!((List.range l.length).any (d_2 l)) && c_v l.length):=by
 unfold i_e
 rw [e_y (d_2 l) false]
 .rw [b_u]
  unfold c_v
  cases (List.range l.length).any (d_2 l) <;> rfl
 .intro k hk _
  simp only [ix_ hk,bd_some,k_y,m_u<|Nat.le_of_lt hk,t_e,d_2,gG_ hk]
  generalize b_8 l[k]=a;generalize f_w (l.take k) l[k]=b
  cases a <;> cases b <;> rfl
theorem t_h (n:Nat)(hn:14<=n)(r:d_):i_u n r=some (plain r false false true false r.names.length && (!((List.range r.names.length).any (d_2 r.names)) && c_v r.names.length)):=by
 unfold i_u
 rw [t_f n hn,m_t,e_R,o_q r _ _ _ _ r.names.length]
 have I:decide ((r.names.length:Int)<0)=false:=dF_ (by omega)
 rw [I]
 unfold c_v;generalize (List.range r.names.length).any (d_2 r.names)=a;generalize plain r false false true false (-1)=b
 by_cases h:(r.kids.length:Int)=r.names.length
 .rw [h]
  have G:((r.names.length:Int)==(r.names.length:Int))=true:=by simp
  have H:((r.names.length:Int) != (r.names.length:Int))=false:=by simp
  rw [G,H]
  generalize (decide (1<=(r.names.length:Int)) && decide ((r.names.length:Int)<=8))=c
  cases a <;> cases b <;> cases c <;> rfl
 .have G:((r.kids.length:Int)==(r.names.length:Int))=false:=by simpa using h
  have H:((r.kids.length:Int) != (r.names.length:Int))=true:=by simpa using h
  rw [G,H]
  cases a <;> cases b <;> rfl
theorem k_B {m:Int}{l:List Int}{k:Nat}(hk:k<l.length):d_r m l k=(!(decide (0<=l[k]) && decide (l[k]<=m)) || (decide (0<(k:Int)) && decide (l[k]<=l.getD (k - 1) 0))):=by
 unfold d_r;rw [gG_ hk]
theorem o_s {l:List Int}{k:Nat}(hk:k<l.length)(h:0<k):idx l (w_ (k:Int) 1)=some (l.getD (k - 1) 0)∨¬l.length<=MX:=by
 by_cases hM:l.length<=MX
 .left
  have hMX:MX=1048576:=rfl
  rw [a_y (by omega) (by omega),f_F (by omega) (by omega),a_H (by omega)]
  simp [show ((k:Int) - 1).toNat=k - 1 by omega]
 .exact .inr hM
theorem t_i (m:Int)(l:List Int)(hl:l.length<=MX):u_ (σ:=Unit) (ρ:=Bool) (λG=>(λ(_:Unit)=>bd (idx l ((G:Nat):Int)) λI=>bd (α:=Bool) (bd (c_o I 0 m) λJ=>if (!J) then some true else if (decide<|0<((G:Nat):Int)) then bd (idx l<|w_ ((G:Nat):Int) 1) λL=>some (decide<|I<=L) else some false) (λO=>if O then some (.ret false) else some (.next ())))) l.length 0 ()=some (if (List.range l.length).any (d_r m l) then .inr false else .inl ()):=by
 refine e_y (d_r m l) false<|λk hk _=>?_
 simp only [ix_ hk,bd_some,e_R,k_B hk]
 by_cases V:0<k
 .have e:=(o_s hk V).resolve_right (λh=>h hl);have H:decide (0<(k:Int))=true:=dT_ (by omega)
  rw [e,H]
  generalize decide (0<=l[k])=a;generalize decide (l[k]<=m)=b
  simp only [bd_some]
  generalize decide (l[k]<=l.getD (k - 1) 0)=c
  cases a <;> cases b <;> cases c <;> rfl
 .have H:decide (0<(k:Int))=false:=dF_ (by omega)
  rw [H]
  generalize decide (0<=l[k])=a;generalize decide (l[k]<=m)=b
  cases a <;> cases b <;> rfl
theorem c_8 {r:d_}(h:0<r.kids.length):idx r.kids 0=some (A_ r):=by
 rw [b_W h,A_,a_H h]
theorem t_j (d:f_)(r:d_)(ht:r.tags.length<=MX):i_v d r=some (plain r false false false true ((r.tags.length:Int)+1) && (c_v r.tags.length && !((List.range r.tags.length).any (d_r (lim d.rules<|A_ r) r.tags)))):=by
 have hMX:MX=1048576:=rfl;unfold i_v
 rw [m_t,e_R,ia_ (x:=(r.tags.length:Int)) (by omega) (by omega)]
 unfold c_v
 cases hp:plain r false false false true ((r.tags.length:Int)+1)
 .rfl
 .have hk:=d_s hp (by omega)
  rw [c_8 (by omega)]
  simp only [bd_some,nT_,bF_,fF_,o_o,t_i _ _ ht]
  by_cases G:1<=(r.tags.length:Int)/\(r.tags.length:Int)<=8
  .rw [dT_ G.1,dT_ G.2]
   cases ha:(List.range r.tags.length).any (d_r (lim d.rules<|A_ r) r.tags)
   .have hpos:0<lim d.rules (A_ r):=by
     rcases o_r d.rules (A_ r) with h | h
     .exfalso
      have H:0<r.tags.length:=by omega
      have:=List.any_eq_false.1 ha 0<|List.mem_range.2 H
      rw [k_B H,h] at this
      simp only [Bool.or_eq_true,Bool.not_eq_true',Bool.and_eq_false_iff,decide_eq_false_iff_not] at this
      omega
     .exact h
    rw [dT_ hpos]
    rfl
   .rfl
  .have:(decide (1<=(r.tags.length:Int)) && decide ((r.tags.length:Int)<=8))=false:=by
    rw [Bool.and_eq_false_iff]
    simp only [decide_eq_false_iff_not]
    omega
   rw [this]
   rfl
theorem t_k (d:f_)(r:d_)(hd:d.rules.length<=MX)(ht:r.tags.length<=MX):i_f d r=some (((r.kids.length:Int)==(r.tags.length:Int)+1) && (c_v r.tags.length && !((List.range r.tags.length).any (d_r (lim d.rules<|A_ r) r.tags)))):=by
 have hMX:MX=1048576:=rfl;unfold i_f
 rw [ia_ (x:=(r.tags.length:Int)) (by omega) (by omega),b_u]
 unfold c_v
 by_cases hk:(r.kids.length:Int)=(r.tags.length:Int)+1
 .have G:((r.kids.length:Int)==(r.tags.length:Int)+1)=true:=by simpa using hk
  have H:((r.kids.length:Int) != (r.tags.length:Int)+1)=false:=by simpa using hk
  rw [G,H]
  rw [e_y (d_r (lim d.rules<|A_ r) r.tags) false]
  .generalize (List.range r.tags.length).any (d_r (lim d.rules<|A_ r) r.tags)=a;generalize (decide (1<=(r.tags.length:Int)) && decide ((r.tags.length:Int)<=8))=c
   cases a <;> cases c <;> rfl
  .intro k hk' _
   simp only [ix_ hk',bd_some,c_8 (show 0<r.kids.length by omega),o_p d _ hd,b_u,k_B hk']
   by_cases J:0<k
   .have e:=(o_s hk' J).resolve_right (λh=>h ht);have I:decide (0<(k:Int))=true:=dT_ (by omega)
    rw [e,I]
    generalize decide (0<=r.tags[k])=a;generalize decide (r.tags[k]<=lim d.rules (A_ r))=b
    simp only [bd_some]
    generalize decide (r.tags[k]<=r.tags.getD (k - 1) 0)=c
    cases a <;> cases b <;> cases c <;> rfl
   .have I:decide (0<(k:Int))=false:=dF_ (by omega)
    rw [I]
    generalize decide (0<=r.tags[k])=a;generalize decide (r.tags[k]<=lim d.rules (A_ r))=b
    cases a <;> cases b <;> rfl
 .have G:((r.kids.length:Int)==(r.tags.length:Int)+1)=false:=by simpa using hk
  have H:((r.kids.length:Int) != (r.tags.length:Int)+1)=true:=by simpa using hk
  rw [G,H]
  rfl
theorem t_l (n:Nat)(hn:14<=n)(d:f_)(r:d_)(ht:r.tags.length<=MX):i_w n d r=some (a_C d.rules r):=by
 unfold i_w a_C
 rw [t_h n hn,t_j d r ht]
 simp only [m_t,e_R,o_o,bd_some]
 cases (r.kind==1) with
 | true =>
  generalize plain r true false false false 0=a;generalize (decide (1<=r.size) && decide (r.size<=4))=b;generalize decide (1<r.size)=c;generalize r.little=e
  cases a <;> cases b <;> cases c <;> cases e <;> rfl
 | false =>
 cases (r.kind==2) with
 | true =>
  generalize plain r false true false false 0=a
  cases a <;> rfl
 | false =>
 cases (r.kind==3) with
 | true =>
  generalize plain r true false false false 0=a
  cases a <;> rfl
 | false =>
 cases (r.kind==4) with
 | true =>
  cases hp:plain r false false false false 1
  .rfl
  .have hk:=d_s hp (by omega)
   rw [c_8 (by omega)]
   rfl
 | false =>
 cases (r.kind==5) with
 | true =>
  cases hp:plain r false false false false 2
  .rfl
  .have hk:=d_s hp (by omega)
   rw [c_8 (by omega)]
   rfl
 | false =>
 cases (r.kind==6) with
 | true=>rfl
 | false =>
 cases (r.kind==7) with
 | true=>rfl
 | false =>
 cases (r.kind==8) with
 | true=>rfl
 | false =>
 cases (r.kind==9) with
 | true=>rfl
 | false =>
 cases (r.kind==10) with
 | true =>
  generalize plain r false true false false 0=a
  by_cases hb:(r.bytes.length:Int)=1
  .have e:((r.bytes.length:Int)==1)=true:=by simpa using hb
   rw [e,b_W (show 0<r.bytes.length by omega),a_H (show 0<r.bytes.length by omega)]
   cases a <;> rfl
  .have e:((r.bytes.length:Int)==1)=false:=by simpa using hb
   rw [e]
   cases a <;> rfl
 | false=>rfl
theorem t_m (d:f_)(r:d_)(hd:d.rules.length<=MX)(ht:r.tags.length<=MX):i_g d r=some (a_C d.rules r && (!r.little || r.kind==1)):=by
 unfold i_g a_C
 rw [t_k d r hd ht,t_g]
 simp only [t_c,b_u,o_p d _ hd,bd_some]
 have h:plain r false false false true ((r.tags.length:Int)+1)=(plain r false false false true (-1) && ((r.kids.length:Int)==(r.tags.length:Int)+1)):=by
  rw [o_q,dF_ (show ¬((r.tags.length:Int)+1<0) by omega)];rfl
 rw [h]
 cases (r.kind==1) with
 | true =>
  generalize plain r true false false false 0=a;generalize (decide (1<=r.size) && decide (r.size<=4))=b;generalize decide (1<r.size)=c;generalize r.little=e
  cases a <;> cases b <;> cases c <;> cases e <;> rfl
 | false =>
 generalize r.little=e
 cases (r.kind==2) with
 | true =>
  generalize plain r false true false false 0=a;generalize (decide (1<=(r.bytes.length:Int)) && decide ((r.bytes.length:Int)<=16))=b
  cases a <;> cases e <;> cases b <;> rfl
 | false =>
 cases (r.kind==3) with
 | true =>
  generalize plain r true false false false 0=a;generalize (decide (1<=r.size) && decide (r.size<=64))=b
  cases a <;> cases e <;> cases b <;> rfl
 | false =>
 cases (r.kind==4) with
 | true =>
  cases hp:plain r false false false false 1
  .rfl
  .have hk:=d_s hp (by omega)
   rw [c_8 (by omega)]
   simp only [bd_some]
   generalize decide (0<lim d.rules (A_ r))=b
   cases e <;> cases b <;> rfl
 | false =>
 cases (r.kind==5) with
 | true =>
  cases hp:plain r false false false false 2
  .rfl
  .have hk:=d_s hp (by omega)
   rw [c_8 (by omega)]
   simp only [bd_some]
   generalize decide (0<lim d.rules (A_ r))=b
   cases e <;> cases b <;> rfl
 | false =>
 cases (r.kind==6) with
 | true =>
  generalize plain r false false true false r.names.length=a;generalize (!((List.range r.names.length).any (d_2 r.names)) && c_v r.names.length)=b
  cases a <;> cases e <;> cases b <;> rfl
 | false =>
 cases (r.kind==7) with
 | true =>
  generalize plain r false false false true (-1)=a;generalize ((r.kids.length:Int)==(r.tags.length:Int)+1)=b;generalize (c_v r.tags.length && !((List.range r.tags.length).any (d_r (lim d.rules<|A_ r) r.tags)))=c
  cases a <;> cases e <;> cases b <;> cases c <;> rfl
 | false =>
 cases (r.kind==8) with
 | true =>
  generalize plain r false false false false 1=a
  cases a <;> cases e <;> rfl
 | false =>
 cases (r.kind==9) with
 | true =>
  generalize plain r false false false false 1=a
  cases a <;> cases e <;> rfl
 | false =>
 cases (r.kind==10) with
 | true =>
  generalize plain r false true false false 0=a
  by_cases hb:(r.bytes.length:Int)=1
  .have e:((r.bytes.length:Int)==1)=true:=by simpa using hb
   rw [e,b_W (show 0<r.bytes.length by omega),a_H (show 0<r.bytes.length by omega)]
   simp only [bd_some]
   generalize (byteI r.bytes[0] != byteI (92:UInt8))=b
   rename_i e'
   cases a <;> cases e' <;> cases b <;> rfl
  .have e:((r.bytes.length:Int)==1)=false:=by simpa using hb
   rw [e]
   rename_i e'
   cases a <;> cases e' <;> rfl
 | false=>cases e <;> rfl
def d_X (i:Nat)(k:Int):Bool:=decide (k<0) || decide ((i:Int)<=k)
def d_Y (rs:List d_)(i:Nat):Bool:=match rs[i]? with
 | none=>false
 | some r=>(b_8 r.name && !(r.little && r.kind != 1)) && (!((rs.take i).any (λx=>x.name.b==r.name.b)) && (!(r.kids.any<|d_X i) && a_C rs r))
def a_9 (d:f_):Bool:=(decide (1<=(d.rules.length:Int)) && decide ((d.rules.length:Int)<=24)) && !((List.range d.rules.length).any (λi=>!d_Y d.rules i))
theorem t_n (n:Nat)(hn:14<=n)(d:f_)(hd:SmD d){i:Nat}(hi:i<d.rules.length):i_x n d i=some (d_Y d.rules i):=by
 unfold i_x f_a d_Y;have hr:=hd.each d.rules[i] (gE_ hi)
 rw [dT_ (show (0:Int)<=(i:Int) by omega),dT_ (show (i:Int)<(d.rules.length:Int) by omega),gG_ hi,ix_ hi]
 simp only [fT_,bd_some,k_z n hn,m_u<|Nat.le_of_lt hi,t_l n hn d _ hr.tags]
 generalize d.rules[i]=r;have L:=e_8 (body:=(λG=>(λ(_:Unit)=>bd (idx (d.rules.take i) ((G:Nat):Int)) λH=>if (H.name.b==r.name.b) then some (Out.ret false:Out Unit Bool) else some (.next ())))) (l:=d.rules.take i) (λx=>x.name.b==r.name.b) false (λk hk=>by simp only [ix_ hk,bd_some];exact d_1 _ _)
 have O:=e_8 (body:=(λI=>(λ(_:Unit)=>bd (idx r.kids ((I:Nat):Int)) λh=>bd (α:=Bool) (if (decide (h<0)) then some true else some (decide ((i:Int)<=h))) (λJ=>if J then some (Out.ret false:Out Unit Bool) else some (.next ()))))) (l:=r.kids) (d_X i) false (λk hk=>by
  simp only [ix_ hk,bd_some]
  rw [show d_X i r.kids[k]=(decide (r.kids[k]<0) || decide ((i:Int)<=r.kids[k])) from rfl]
  generalize decide (r.kids[k]<0)=a;generalize decide ((i:Int)<=r.kids[k])=b
  cases a <;> cases b <;> rfl)
 rw [L,O]
 generalize b_8 r.name=a;generalize r.little=b;generalize (r.kind != 1)=c;generalize (d.rules.take i).any (λx=>x.name.b==r.name.b)=x;generalize r.kids.any (d_X i)=y;generalize a_C d.rules r=z
 cases a <;> cases b <;> cases c <;> cases x <;> cases y <;> rfl
theorem t_o (d:f_)(hd:SmD d){i:Nat}(hi:i<d.rules.length):i_h d i=some (d_Y d.rules i):=by
 have hMX:MX=1048576:=rfl;have hdl:=hd.rules;unfold i_h d_Y;have hr:=hd.each d.rules[i] (gE_ hi)
 rw [b_u,a_y (x:=(d.rules.length:Int)) (by omega) (by omega),a_y (x:=(i:Int)) (by omega) (by omega),dT_ (show (0:Int)<=(i:Int) by omega),dT_ (show (i:Int)<=(d.rules.length:Int) - 1 by omega),gG_ hi,ix_ hi]
 simp only [bd_some,k_y,t_m d _ hd.rules hr.tags]
 generalize d.rules[i]=r;have hl:((i:Int)).toNat=(d.rules.take i).length:=by simp;omega
 have O:u_ (σ:=Unit) (ρ:=Bool) (λG=>(λ(_:Unit)=>bd (idx d.rules ((G:Nat):Int)) λH=>if (H.name.b==r.name.b) then some (.ret false) else some (.next ()))) (i:Int).toNat 0 ()=some (if (d.rules.take i).any (λx=>x.name.b==r.name.b) then .inr false else .inl ()):=by
  rw [hl]
  refine e_8 (λx:d_=>x.name.b==r.name.b) false<|λk hk=>?_;have hk':k<d.rules.length:=by simp at hk;omega
  simp only [ix_ hk',bd_some,List.getElem_take]
  exact d_1 _ _
 have V:u_ (σ:=Unit) (ρ:=Bool) (λI=>(λ(_:Unit)=>bd (idx r.kids ((I:Nat):Int)) λJ=>bd (a_I J 0<|(i:Int) - 1) λL=>if (!L) then some (.ret false) else some (.next ()))) r.kids.length 0 ()=some (if r.kids.any (d_X i) then .inr false else .inl ()):=by
  refine e_8 (d_X i) false<|λk hk=>?_
  simp only [ix_ hk,bd_some,b_u]
  rw [show d_X i r.kids[k] = !(decide (0<=r.kids[k]) && decide (r.kids[k]<=(i:Int) - 1)) from by
   unfold d_X
   by_cases h:r.kids[k]<0
   .rw [dT_ h,dF_ (show ¬0<=r.kids[k] by omega)];rfl
   .rw [dF_ h,dT_ (show 0<=r.kids[k] by omega)]
    by_cases h1:(i:Int)<=r.kids[k]
    .rw [dT_ h1,dF_ (show ¬r.kids[k]<=(i:Int) - 1 by omega)];rfl
    .rw [dF_ h1,dT_ (show r.kids[k]<=(i:Int) - 1 by omega)];rfl]
  exact d_1 _ _
 rw [O,V]
 have W:(!(r.little && r.kind != 1))=(!r.little || r.kind==1):=by
  simp only [bne]
  generalize (r.kind==1)=c
  cases r.little <;> cases c <;> rfl
 rw [W]
 generalize b_8 r.name=a;generalize (!r.little || r.kind==1)=b;generalize (d.rules.take i).any (λx=>x.name.b==r.name.b)=x;generalize r.kids.any (d_X i)=y;generalize a_C d.rules r=z
 cases a <;> cases b <;> cases x <;> cases y <;> cases z <;> rfl
theorem o_t (n:Nat)(hn:14<=n)(d:f_)(hd:SmD d):g_Y n d=some (a_9 d):=by
 unfold g_Y a_9
 rw [e_R,e_y (λi=>!d_Y d.rules i) false (λk hk _=>by rw [t_n n hn d hd hk];simp only [bd_some];exact d_1 _ _)]
 generalize (decide (1<=(d.rules.length:Int)) && decide ((d.rules.length:Int)<=24))=a;generalize (List.range d.rules.length).any (λi=>!d_Y d.rules i)=b
 cases a <;> cases b <;> rfl
theorem o_u (d:f_)(hd:SmD d):g_O d=some (a_9 d):=by
 unfold g_O a_9
 rw [b_u,e_y (λi=>!d_Y d.rules i) false (λk hk _=>by rw [t_o d hd hk];simp only [bd_some];exact d_1 _ _)]
 generalize (decide (1<=(d.rules.length:Int)) && decide ((d.rules.length:Int)<=24))=a;generalize (List.range d.rules.length).any (λi=>!d_Y d.rules i)=b
 cases a <;> cases b <;> rfl
def b_S (d:f_)(r:Int):Bool:=decide (0<=r) && decide (r<(d.rules.length:Int))
theorem m_v (n:Nat)(hn:14<=n)(d:f_)(hd:SmD d)(r:Int):f_N n d r=some (a_9 d && b_S d r):=by
 unfold f_N f_a b_S
 rw [o_t n hn d hd]
 generalize a_9 d=a;generalize decide (0<=r)=b;generalize decide (r<(d.rules.length:Int))=c
 cases a <;> cases b <;> rfl
theorem t_p (d:f_)(hd:SmD d)(r:Int):i_q d r=some (a_9 d && b_S d r):=by
 have hMX:MX=1048576:=rfl;have hdl:=hd.rules;unfold i_q b_S
 rw [o_u d hd,b_u,a_y (x:=(d.rules.length:Int)) (by omega) (by omega),show decide (r<=(d.rules.length:Int) - 1)=decide (r<(d.rules.length:Int)) from decide_eq_decide.2 (by omega)]
 generalize a_9 d=a;generalize decide (0<=r)=b;generalize decide (r<(d.rules.length:Int))=c
 cases a <;> cases b <;> cases c <;> rfl
end Go.Vw
namespace Go.Vw
open Go.RowKit Dat
def b_T (n:Int)(c:UInt8):Int:=n * 256+byteI c
def e_2 (bs:Bt)(little:Bool):Int:=(if little then bs.reverse else bs).foldl b_T 0
theorem e_S {α β:Type}(f:β->α->β)(a:β){l:List α}{k:Nat}(h:k<l.length):(l.take<|k+1).foldl f a=f ((l.take k).foldl f a) l[k]:=by
 rw [List.take_add_one,gG_ h,Option.toList_some,List.foldl_append];rfl
theorem t_O (l:Bt):0<=l.foldl b_T 0/\l.foldl b_T 0<256 ^ l.length:=by
 have:∀k,k<=l.length->0<=(l.take k).foldl b_T 0/\(l.take k).foldl b_T 0<256 ^ k:=by
  intro k
  induction k with
  | zero=>intro _;simp
  | succ k ih =>
   intro hk;obtain ⟨h1,h2⟩:=ih (by omega)
   rw [e_S b_T 0 (show k<l.length by omega)]
   have h3:=f_o l[k];have h4:=f_p l[k];generalize (l.take k).foldl b_T 0=z at *
   unfold b_T
   rw [Int.pow_succ]
   omega
 have h:=this l.length<|Nat.le_refl _
 simpa using h
theorem k_E (l:Bt)(h:l.length<=4):0<=l.foldl b_T 0/\l.foldl b_T 0<4294967296:=by
 obtain ⟨h1,h2⟩:=t_O l;refine ⟨h1,?_⟩;have:l.length=0∨l.length=1∨l.length=2∨l.length=3∨l.length=4:=by omega
 rcases this with h | h | h | h | h <;> rw [h] at h2 <;> omega
theorem t_P (bs:Bt)(e:Bool)(h:bs.length<=4):0<=e_2 bs e/\e_2 bs e<4294967296:=by
 unfold e_2
 cases e
 .exact k_E bs h
 .exact k_E bs.reverse (by simpa using h)
theorem o_U {bs:Bt}{k:Nat}(hk:k<bs.length)(hb:bs.length<=4)(e:Bool):idx bs (if e then w_ (w_ (bs.length:Int) 1) (k:Int) else (k:Int))=some ((if e then bs.reverse else bs)[k]'(by cases e <;> simpa using hk)):=by
 cases e
 .exact ix_ hk
 .rw [iP_ rfl,a_y (x:=(bs.length:Int)) (by omega) (by omega),a_y (by omega) (by omega),f_F (by omega) (by omega)]
  simp only [fT_]
  rw [List.getElem_reverse]
  congr 2
  omega
theorem o_V (bs:Bt)(e:Bool)(hb:bs.length<=4):g_Q bs e=some (e_2 bs e):=by
 unfold g_Q
 rw [dF_ (show ¬(4:Int)<(bs.length:Int) by omega)]
 have hl:(if e then bs.reverse else bs).length=bs.length:=by cases e <;> simp
 have h:=b_M (n:=bs.length) (σ:=Int) (ρ:=Int) (body:=(λG=>(λI=>bd (α:=Int) (if e then some (w_ (w_ (bs.length:Int) 1) ((G:Nat):Int)) else some ((G:Nat):Int))<|λJ=>bd (idx bs J) λH=>some<|.next<|b_ (b_e I 256)<|byteI H)))
  (λk=>((if e then bs.reverse else bs).take k).foldl b_T 0) (λj hj=>by
   have L:=k_E ((if e then bs.reverse else bs).take j) (by simp;omega)
   rw [t_b,bd_some,o_U hj hb e,bd_some,e_S b_T 0 (by rw [hl];exact hj)]
   generalize (if e then bs.reverse else bs)[j]'(by rw [hl];exact hj)=c at *
   have h3:=f_o c;have h4:=f_p c
   rw [i_2 (by omega) (by omega),ia_ (by omega) (by omega)]
   rfl)
 simp only [List.take_zero,List.foldl_nil] at h
 rw [h]
 simp only [bF_,fF_,bd_some,el_inl]
 unfold e_2
 rw [List.take_of_length_le (by omega)]
theorem m_B {n:Int}{c:UInt8}(h:0<=n)(h1:n<4294967296):c_1 .i64 (· ||| ·) (b_y .i64 n 8) (byteI c)=b_T n c:=by
 have e:b_y .i64 n 8=n * 256:=by
  unfold b_y
  rw [show (min (8:Int).toNat IntKind.i64.bits)=8 from rfl,IntKind.wrap_i64]
  omega
 rw [e]
 unfold c_1 b_T;obtain ⟨m,rfl⟩:=Int.eq_ofNat_of_zero_le h;have hc:=c.toNat_lt;have hm:m<4294967296:=by omega
 have G:BitVec.ofInt IntKind.i64.bits ((m:Int) * 256)=BitVec.ofNat 64 (m * 256):=by
  rw [show ((m:Int) * 256)=((m * 256:Nat):Int) by omega];exact BitVec.ofInt_natCast 64 _
 have H:BitVec.ofInt IntKind.i64.bits (byteI c)=BitVec.ofNat 64 c.toNat:=by
  unfold byteI;exact BitVec.ofInt_natCast 64 _
 show IntKind.i64.wrap ((BitVec.ofInt IntKind.i64.bits ((m:Int) * 256) ||| BitVec.ofInt IntKind.i64.bits (byteI c)).toNat:Int)=_
 rw [G,H]
 have I:(BitVec.ofNat 64 (m * 256) ||| BitVec.ofNat 64 c.toNat).toNat=m * 256+c.toNat:=by
  rw [BitVec.toNat_or,BitVec.toNat_ofNat,BitVec.toNat_ofNat,Nat.mod_eq_of_lt (by omega),Nat.mod_eq_of_lt (by omega)]
  have:=Nat.shiftLeft_add_eq_or_of_lt (i:=8) (b:=c.toNat) (by omega) m
  rw [Nat.shiftLeft_eq] at this
  exact this.symm
 have J:((BitVec.ofNat 64 (m * 256) ||| BitVec.ofNat 64 c.toNat:BitVec IntKind.i64.bits).toNat:Int)=(m:Int) * 256+(c.toNat:Int):=by
  rw [show (BitVec.ofNat 64 (m * 256) ||| BitVec.ofNat 64 c.toNat:BitVec IntKind.i64.bits).toNat=m * 256+c.toNat from I];omega
 refine (congrArg IntKind.i64.wrap J).trans ?_
 rw [IntKind.wrap_i64]
 unfold byteI
 omega
theorem o_W (bs:Bt)(e:Bool)(hb:bs.length<=4):h_0 bs e=some (e_2 bs e):=by
 unfold h_0
 rw [dF_ (show ¬(4:Int)<(bs.length:Int) by omega)]
 have hl:(if e then bs.reverse else bs).length=bs.length:=by cases e <;> simp
 have h:=b_M (n:=bs.length) (σ:=Int) (ρ:=Int) (body:=(λH=>(λI=>bd (α:=Int) (if e then bd (idx bs<|w_ (w_ (bs.length:Int) 1) ((H:Nat):Int)) λJ=>some (c_1 .i64 (· ||| ·) (b_y .i64 I 8)<|byteI J) else bd (idx bs ((H:Nat):Int)) λL=>some<|c_1 .i64 (· ||| ·) (b_y .i64 I 8)<|byteI L)<|λO=>some<|.next O)))
  (λk=>((if e then bs.reverse else bs).take k).foldl b_T 0) (λj hj=>by
   have G:=k_E ((if e then bs.reverse else bs).take j) (by simp;omega);have hbt:=o_U hj hb e
   rw [e_S b_T 0 (by rw [hl];exact hj)]
   cases e
   .simp only [bF_,fF_] at hbt G ⊢
    rw [hbt,bd_some,bd_some,m_B G.1 G.2]
   .simp only [fT_] at hbt G ⊢
    rw [hbt,bd_some,bd_some,m_B G.1 G.2])
 simp only [List.take_zero,List.foldl_nil] at h
 rw [h]
 simp only [bF_,fF_,bd_some,el_inl]
 unfold e_2
 rw [List.take_of_length_le (by omega)]
def d_6 (n:Int)(c:UInt8):Int:=n+byteI c
def c_9 (bs:Bt):Int:=bs.foldl d_6 0 % 256
theorem m_C (bs:Bt)(k:Nat)(hk:k<=bs.length):0<=(bs.take k).foldl d_6 0/\(bs.take k).foldl d_6 0<=256 * k:=by
 induction k with
 | zero=>simp
 | succ k ih =>
  obtain ⟨h1,h2⟩:=ih (by omega)
  rw [e_S d_6 0 (show k<bs.length by omega)]
  have h3:=f_o bs[k];have h4:=f_p bs[k];generalize (bs.take k).foldl d_6 0=z at *
  unfold d_6
  omega
theorem m_D (bs:Bt)(hb:bs.length<=MX):f_O bs=some (c_9 bs):=by
 have hMX:MX=1048576:=rfl;unfold f_O c_9
 have h:=b_M (n:=bs.length) (σ:=Int) (ρ:=Int) (body:=(λG=>(λH=>bd (idx bs ((G:Nat):Int)) λI=>some (.next (b_ H (byteI I)))))) (λk=>(bs.take k).foldl d_6 0) (λj hj=>by
  have hbd:=m_C bs j (by omega);have h3:=f_o bs[j];have h4:=f_p bs[j]
  rw [ix_ hj,bd_some,e_S d_6 0 hj,ia_ (by omega) (by omega)]
  rfl)
 simp only [List.take_zero,List.foldl_nil] at h
 rw [h]
 have hbd:=m_C bs bs.length<|Nat.le_refl _
 rw [List.take_of_length_le (Nat.le_refl _)] at hbd ⊢
 simp only [bd_some,el_inl]
 rw [l_4 hbd.1]
theorem o_X (bs:Bt):g_T bs=some (c_9 bs):=by
 have hMX:MX=1048576:=rfl;unfold g_T c_9
 have h:=b_M (n:=bs.length) (σ:=Int) (ρ:=Int) (body:=(λG=>(λH=>bd (idx bs ((G:Nat):Int)) λI=>some (.next (b_f (b_ H (byteI I)) 256))))) (λk=>(bs.take k).foldl d_6 0 % 256) (λj hj=>by
  have hbd:=m_C bs j (by omega);have h3:=f_o bs[j];have h4:=f_p bs[j]
  rw [ix_ hj,bd_some,e_S d_6 0 hj,ia_ (by omega) (by omega),l_4 (by omega)]
  generalize (bs.take j).foldl d_6 0=z at *
  unfold d_6
  congr 2
  omega)
 simp only [List.take_zero,List.foldl_nil] at h
 rw [show ((0:Int) % 256)=0 from rfl] at h
 rw [h]
 rw [List.take_of_length_le (Nat.le_refl _)]
 rfl
def e_u (b:Bt)(t:UInt8):Nat->Bt->Nat->Option (Bt×Nat)
 | 0,_,_=>none
 | f+1,acc,p=>match b[p]? with
  | none=>none
  | some c=>if c=t then some (acc,p+1) else if c=92 then (match b[p+1]? with
    | none=>none
    | some c'=>e_u b t f (acc++[c']) (p+2)) else e_u b t f (acc++[c]) (p+1)
def k_F (o:Option (Bt×Nat)):Sum (Bt×Int) (Bt×Int×Bool)->Prop:=λs=>match o with
 | some (c,q)=>s = .inr (c,(q:Int),true)
 | none=>∃x,s = .inl x
def d_w (b:Bt)(at_:Nat)(t:UInt8):Option (Bt×Nat):=e_u b t (b.length+1) [] at_
theorem g_t (a c:UInt8):(byteI a==byteI c)=decide (a=c):=by
 rw [Bool.eq_iff_iff];simp only [beq_iff_eq,dE_];exact g_E
theorem o_Y (b:Bt)(t:UInt8)(hb:b.length<=MX)(step:Bt×Int->Option (Out (Bt×Int)<|Bt×Int×Bool))
  (hstep:∀acc (p:Nat),step (acc,(p:Int))=if decide ((p:Int)<(b.length:Int)) then bd (idx b (p:Int)) λI=>if ((byteI I)==(byteI t)) then some (.ret (acc,b_ (p:Int) 1,true)) else bd (idx b (p:Int)) λJ=>bd (α:=Sum Int<|Out (Bt×Int)<|Bt×Int×Bool) (if ((byteI J)==(byteI (92:UInt8))) then if ((b_ (p:Int) 1)==(b.length:Int)) then some (.inr<|.brk (acc,b_ (p:Int) 1)) else some (.inl<|b_ (p:Int) 1) else some (.inl (p:Int))) (el (λH=>bd (idx b H) λL=>bd (psh acc L) λO=>some<|.next (O,b_ H 1)) some) else some (.brk (acc,(p:Int)))) :
  ∀f acc p,acc.length<=p->p<=b.length->b.length<p+f->∀n,f<=n->∃s,I_ step n (acc,(p:Int))=some s/\k_F (e_u b t f acc p) s:=by
 have hMX:MX=1048576:=rfl;have hLIM:LIM=4294967296:=rfl;intro f
 induction f with
 | zero=>intro acc p _ _ h;omega
 | succ f ih =>
  intro acc p hacc hp hf n hn;obtain ⟨m,rfl⟩:∃m,n=m+1:=⟨n - 1,by omega⟩;unfold I_ e_u
  rw [hstep]
  by_cases hlt:p<b.length
  .rw [dT_ (show (p:Int)<(b.length:Int) by omega),ix_ hlt,gG_ hlt]
   simp only [fT_,bd_some,g_t]
   rw [ia_ (x:=(p:Int)) (by omega) (by omega)]
   by_cases ht:b[p]=t
   .rw [dT_ ht,iP_ rfl,iP_ ht]
    exact ⟨_,rfl,by simp [k_F]⟩
   .rw [dF_ ht,iN_ (by simp),iN_ ht]
    by_cases he:b[p]=92
    .rw [dT_ he,iP_ rfl,iP_ he]
     by_cases hl:p+1<b.length
     .have G:((p:Int)+1==(b.length:Int))=false:=by simp;omega
      rw [G,gG_ hl]
      simp only [bF_,fF_,bd_some,el_inl]
      rw [show (p:Int)+1=((p+1:Nat):Int) by omega,ix_ hl,bd_some,b_o (by omega),bd_some,ia_ (by omega) (by omega)]
      obtain ⟨s,h1,h2⟩:=ih (acc++[b[p+1]]) (p+2) (by simp;omega) (by omega) (by omega) m (by omega);refine ⟨s,?_,h2⟩
      rw [← h1]
      simp only
      congr 2
     .have G:((p:Int)+1==(b.length:Int))=true:=by simp;omega
      rw [G,gN_ (by omega)]
      exact ⟨_,rfl,_,rfl⟩
    .rw [dF_ he,iN_ (by simp),iN_ he]
     simp only [bd_some,el_inl]
     rw [ix_ hlt,bd_some,b_o (by omega),bd_some,ia_ (by omega) (by omega)]
     obtain ⟨s,h1,h2⟩:=ih (acc++[b[p]]) (p+1) (by simp;omega) (by omega) (by omega) m (by omega);refine ⟨s,?_,h2⟩
     rw [← h1]
     simp only
     congr 2
  .rw [dF_ (show ¬(p:Int)<(b.length:Int) by omega),gN_ (by omega)]
   exact ⟨_,rfl,_,rfl⟩
def k_G (o:Option (Bt×Nat))(at_:Nat):Bt×Int×Bool:=match o with
 | some (c,q)=>(c,(q:Int),true)
 | none=>([],(at_:Int),false)
theorem o_Z (n:Nat)(b:Bt)(at_:Nat)(t:UInt8)(hb:b.length<=MX)(ha:at_<=b.length)(hn:b.length+1<=n):h_1 n b at_ t=some (k_G (d_w b at_ t) at_):=by
 unfold h_1 d_w
 rw [dF_ (show ¬(at_:Int)<0 by omega),dF_ (show ¬(b.length:Int)<(at_:Int) by omega)]
 simp only [bF_,fF_,bd_some]
 obtain ⟨s,h1,h2⟩:=o_Y b t hb (un2 λG h=>if (decide<|h<(b.length:Int)) then bd (idx b h) λI=>if ((byteI I)==(byteI t)) then some (.ret (G,b_ h 1,true)) else bd (idx b h) λJ=>bd (α:=Sum Int<|Out (Bt×Int)<|Bt×Int×Bool) (if ((byteI J)==(byteI (92:UInt8))) then if ((b_ h 1)==(b.length:Int)) then some (.inr<|.brk (G,b_ h 1)) else some (.inl<|b_ h 1) else some (.inl h)) (el (λH=>bd (idx b H) λL=>bd (psh G L) λO=>some<|.next (O,b_ H 1)) some) else some (.brk (G,h))) (λacc p=>rfl) (b.length+1) [] at_ (by simp) ha (by omega) n hn
 rw [h1,bd_some]
 unfold k_F at h2
 unfold k_G
 cases ho:e_u b t (b.length+1) [] at_ with
 | none=>rw [ho] at h2;obtain ⟨x,rfl⟩:=h2;rfl
 | some x=>rw [ho] at h2;simp only at h2;subst h2;rfl
theorem t_Q (n:Nat)(b:Bt)(at_:Nat)(t:UInt8)(hb:b.length<=MX)(ha:at_<=b.length)(hn:b.length+1<=n):i_j n b at_ t=some (k_G (d_w b at_ t) at_):=by
 unfold i_j d_w
 have hin:a_I (at_:Int) 0 (b.length:Int)=some true:=by
  rw [b_u,dT_ (show (0:Int)<=(at_:Int) by omega),dT_ (show (at_:Int)<=(b.length:Int) by omega)];rfl
 obtain ⟨s,h1,h2⟩:=o_Y b t hb (un2 λG h=>bd (α:=Bool) (bd (a_I (at_:Int) 0 (b.length:Int)) λI=>if I then some (decide<|h<(b.length:Int)) else some false) (λJ=>if J then bd (idx b h) λL=>if ((byteI L)==(byteI t)) then some (.ret (G,b_ h 1,true)) else bd (idx b h) λO=>bd (α:=Sum Int<|Out (Bt×Int)<|Bt×Int×Bool) (if ((byteI O)==(byteI (92:UInt8))) then if ((b_ h 1)==(b.length:Int)) then some (.inr<|.brk (G,b_ h 1)) else some (.inl<|b_ h 1) else some (.inl h)) (el (λH=>bd (idx b H) λV=>bd (psh G V) λW=>some<|.next (W,b_ H 1)) some) else some (.brk (G,h)))) (λacc p=>by simp only [un2,hin,bd_some,fT_]) (b.length+1) [] at_ (by simp) ha (by omega) n hn
 rw [h1,bd_some]
 unfold k_F at h2
 unfold k_G
 cases ho:e_u b t (b.length+1) [] at_ with
 | none=>rw [ho] at h2;obtain ⟨x,rfl⟩:=h2;rfl
 | some x=>rw [ho] at h2;simp only at h2;subst h2;rfl
theorem k_H {b:Bt}{t:UInt8}:∀f acc p c q,e_u b t f acc p=some (c,q)->p<q/\q<=b.length
 | 0,_,_,_,_,h=>by cases h
 | f+1,acc,p,c,q,h=>by
  unfold e_u at h
  by_cases hlt:p<b.length
  .rw [gG_ hlt] at h
   simp only at h
   split at h
   .cases h;omega
   .split at h
    .by_cases hl:p+1<b.length
     .rw [gG_ hl] at h
      have:=k_H f _ _ _ _ h
      omega
     .rw [gN_ (by omega)] at h
      cases h
    .have:=k_H f _ _ _ _ h
     omega
  .rw [gN_ (by omega)] at h
   cases h
end Go.Vw
