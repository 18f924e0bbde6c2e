
import Derived.Test.YtgieiijmhcgmcaaGreatDoorVmB
namespace Go.Vw
open Go.RowKit Dat
def MX:Nat:=1048576
structure SmR (r:a_):Prop where
 name:r.name.b.length<=MX
 bytes:r.bytes.length<=MX
 names:r.names.length<=MX
 tags:r.tags.length<=MX
 kids:r.kids.length<=MX
 each:∀s∈r.names,s.b.length<=MX
structure SmD (d:g_):Prop where
 rules:d.rules.length<=MX
 each:∀r∈d.rules,SmR r
theorem o_5 {α:Type}{c:Prop}[Decidable c](x y:α):(if c then some x else some y)=some (if c then x else y):=by split <;> rfl
theorem c_m {ρ:Type}{c:Bool}(x y:Out Unit ρ):(if c=true then some x else some y)=some (if c=true then x else y):=by split <;> rfl
def d_J (c:UInt8):Bool:=decide (byteI (97:UInt8)<=byteI c) && decide (byteI c<=byteI (122:UInt8))
def a_F (c:UInt8):Bool:=decide (byteI (48:UInt8)<=byteI c) && decide (byteI c<=byteI (57:UInt8))
theorem k_j (c:UInt8):d_J c=(decide (97<=(c.toNat:Int)) && decide ((c.toNat:Int)<=122)):=rfl
theorem d_K (c:UInt8):a_F c=(decide (48<=(c.toNat:Int)) && decide ((c.toNat:Int)<=57)):=rfl
theorem k_k (k:Nat):((k:Int)==0)=(k==0):=by
 rw [Bool.eq_iff_iff];simp
def a_Z (s:Str)(k:Nat):Bool:=match s.b[k]? with
 | some c=>!d_J c && (!a_F c || k==0)
 | none=>false
def a_J (s:Str):Bool:=!((List.range s.b.length).any (a_Z s)) && (decide (1<=s.b.length) && decide (s.b.length<=12))
theorem b_F (x lo hi:Int):a_R x lo hi=some (decide (lo<=x) && decide (x<=hi)):=by
 unfold a_R;generalize decide (lo<=x)=a;generalize decide (x<=hi)=b
 cases a <;> rfl
theorem e_j (x lo hi:Int):b_M x lo hi=some (decide (lo<=x) && decide (x<=hi)):=by
 unfold b_M;generalize decide (lo<=x)=a;generalize decide (x<=hi)=b
 cases a <;> rfl
theorem k_l (s:Str):e_w s=some (a_J s):=by
 unfold e_w
 rw [d_n (a_Z s) false]
 ·unfold a_J
  cases (List.range s.b.length).any (a_Z s)
  ·have h:decide ((1:Int)<=s.b.length)=decide (1<=s.b.length):=decide_eq_decide.2 (by omega);have G:decide ((s.b.length:Int)<=12)=decide (s.b.length<=12):=decide_eq_decide.2 (by omega)
   simp only [bF_,fF_,bd_some,el_inl,b_F,h,G,Bool.not_false,Bool.true_and]
  ·rfl
 ·intro k hk _
  simp only [ix_ hk,bd_some,a_Z,gG_ hk,d_J,a_F,k_k]
  generalize decide (byteI (97:UInt8)<=byteI s.b[k])=a;generalize decide (byteI s.b[k]<=byteI (122:UInt8))=b;generalize decide (byteI (48:UInt8)<=byteI s.b[k])=c;generalize decide (byteI s.b[k]<=byteI (57:UInt8))=d;generalize (k==0)=e
  cases a <;> cases b <;> cases c <;> cases d <;> cases e <;> rfl
theorem i_Y (n:Nat)(hn:14<=n)(s:Str):d_q n s=some (a_J s):=by
 unfold d_q
 by_cases h1:s.b.length<1
 ·have:a_J s=false:=by unfold a_J;simp [show ¬1<=s.b.length by omega]
  rw [this];simp [show ((s.b.length:Int)<1) by omega]
 by_cases h2:12<s.b.length
 ·have:a_J s=false:=by unfold a_J;simp [show ¬s.b.length<=12 by omega]
  rw [this];simp [show ¬((s.b.length:Int)<1) by omega,show ((12:Int)<s.b.length) by omega]
 have O:decide ((s.b.length:Int)<1)=false:=by simp;omega
 have V:decide ((12:Int)<(s.b.length:Int))=false:=by simp;omega
 rw [O,V]
 simp only [bF_,fF_,bd_some]
 have hstep:∀k,k<s.b.length->a_Z s k=false->∀{ρ:Type}(x:Nat->ρ),x (k+(dec s k).2)=x (k+1):=by
  intro k hk hb ρ x
  rw [l_C hk]
  have hb':a_Z s k=(!d_J s.b[k] && (!a_F s.b[k] || k==0)):=by unfold a_Z;rw [gG_ hk]
  rw [hb'] at hb
  rw [k_j,d_K] at hb
  simp only [Bool.and_eq_false_iff,Bool.not_eq_false',Bool.or_eq_false_iff,aE_,dE_] at hb
  omega
 have hgood:∀k (hk:k<s.b.length),a_Z s k=(bd (α:=Bool) (if (decide<|97<=((dec s k).1))=true then some (decide<|((dec s k).1)<=122) else some false) (fun G=>bd (α:=Bool) (if (decide<|48<=((dec s k).1))=true then some (decide<|((dec s k).1)<=57) else some false) (fun H=>bd (α:=Bool) (if (!G)=true then if (!H)=true then some true else some ((k:Int)==0) else some false) some))).getD false /\
   (bd (α:=Bool) (if (decide<|97<=((dec s k).1))=true then some (decide<|((dec s k).1)<=122) else some false) (fun G=>bd (α:=Bool) (if (decide<|48<=((dec s k).1))=true then some (decide<|((dec s k).1)<=57) else some false) (fun H=>bd (α:=Bool) (if (!G)=true then if (!H)=true then some true else some ((k:Int)==0) else some false) (fun I=>if I=true then some (.ret false) else some (.next<|k+(dec s k).2)))))=some (if a_Z s k=true then (.ret false:Out Nat Bool) else .next (k+(dec s k).2)):=by
  intro k hk;have hb':a_Z s k=(!d_J s.b[k] && (!a_F s.b[k] || k==0)):=by unfold a_Z;rw [gG_ hk]
  rw [hb']
  rw [k_j,d_K]
  rw [k_k]
  by_cases ha:s.b[k].toNat<128
  ·rw [l_C hk ha]
   simp only
   generalize (s.b[k].toNat:Int)=c;generalize decide (97<=c)=a;generalize decide (c<=122)=b;generalize decide (48<=c)=c';generalize decide (c<=57)=d;generalize (k==0)=e
   cases a <;> cases b <;> cases c' <;> cases d <;> cases e <;> exact ⟨rfl,rfl⟩
  ·have hd:=p_M hk (by omega);generalize (dec s k).1=c at hd
   generalize (dec s k).2=c2;have g1:97<=c:=by omega
   have L:¬c<=122:=by omega
   have W:48<=c:=by omega
   have Y:¬c<=57:=by omega
   have k2:¬(s.b[k].toNat:Int)<=122:=by omega
   have k4:¬(s.b[k].toNat:Int)<=57:=by omega
   simp [g1,L,W,Y,k2,k4]
 have hit:a_5 (σ:=Nat) (ρ:=Bool) (fun h=>if (decide<|h<s.b.length)=true then bd (α:=Bool) (if (decide<|97<=((dec s h).1))=true then some (decide<|((dec s h).1)<=122) else some false) (fun G=>bd (α:=Bool) (if (decide<|48<=((dec s h).1))=true then some (decide<|((dec s h).1)<=57) else some false) (fun H=>bd (α:=Bool) (if (!G)=true then if (!H)=true then some true else some ((h:Int)==0) else some false) (fun I=>if I=true then some (.ret false) else some (.next<|h+(dec s h).2)))) else some (.brk h)) n 0=some (if (List.range s.b.length).any (a_Z s)=true then .inr false else .inl s.b.length):=by
  cases hf:(List.range s.b.length).find? (a_Z s) with
  | none =>
   have hall:∀k,k<s.b.length->a_Z s k=false:=fun k hk=>by simpa using List.find?_eq_none.1 hf k (List.mem_range.2 hk)
   have hany:(List.range s.b.length).any (a_Z s)=false:=by rw [List.any_eq_false];exact fun x hx=>by simpa using List.find?_eq_none.1 hf x hx
   rw [hany]
   refine l_B (fun k=>k) (j0:=s.b.length) (by omega) (fun k hk=>?_) ?_
   ·simp only [hk,decide_true,fT_]
    rw [(hgood k hk).2,hall k hk]
    simp only [bF_,fF_]
    rw [hstep k hk (hall k hk) (fun x=>some<|Out.next x)]
   ·simp
  | some k =>
   have hany:(List.range s.b.length).any (a_Z s)=true:=List.any_eq_true.2 ⟨k,List.mem_of_find?_eq_some hf,List.find?_some hf⟩
   rw [hany]
   obtain ⟨hp,as,bs,hl,has⟩:=List.find?_eq_some_iff_append.1 hf;have hk:k<s.b.length:=List.mem_range.1<|List.mem_of_find?_eq_some hf
   have hbef:∀j,j<k->a_Z s j=false:=by
    intro j hj;have hlen:as.length<s.b.length:=by have:=congrArg List.length hl;simp at this;omega
    have hke:as.length=k:=by
     have h2:(List.range s.b.length)[as.length]? = some k:=by rw [hl];simp
     rw [List.getElem?_range hlen] at h2
     exact Option.some.inj h2
    have hj':j<as.length:=by omega
    have h2:(List.range s.b.length)[j]? = some (as[j]):=by rw [hl,List.getElem?_append_left hj'];simp
    rw [List.getElem?_range (by omega)] at h2
    have h3:=has as[j] (gE_ hj')
    rw [← Option.some.inj h2] at h3
    simpa using h3
   refine p_L (fun k=>k) (j0:=k) (by omega) (fun j hj=>?_) ?_
   ·have J:j<s.b.length:=by omega
    simp only [J,decide_true,fT_]
    rw [(hgood j J).2,hbef j hj]
    simp only [bF_,fF_]
    rw [hstep j J (hbef j hj) (fun x=>some<|Out.next x)]
   ·simp only [hk,decide_true,fT_]
    rw [(hgood k hk).2,hp]
    rfl
 rw [hit]
 unfold a_J;have g1:decide (1<=s.b.length)=true:=dT_ (by omega);have L:decide (s.b.length<=12)=true:=dT_ (by omega)
 rw [g1,L]
 cases (List.range s.b.length).any (a_Z s) <;> rfl
def plain (r:a_)(a b c d:Bool)(k:Int):Bool:=(a || r.size==0) && ((b || (r.bytes.length:Int)==0) && ((c || (r.names.length:Int)==0) && ((d || (r.tags.length:Int)==0) && (decide (k<0) || (r.kids.length:Int)==k))))
theorem i_Z (r:a_)(a b c d:Bool)(k:Int):b_N r a b c d k=some (plain r a b c d k):=by
 unfold b_N plain;generalize (r.size==0)=h;generalize ((r.bytes.length:Int)==0)=G;generalize ((r.names.length:Int)==0)=H;generalize ((r.tags.length:Int)==0)=I;generalize decide (k<0)=J;generalize ((r.kids.length:Int)==k)=L
 cases a <;> cases h <;> try rfl
 all_goals cases b <;> cases G <;> try rfl
 all_goals cases c <;> cases H <;> try rfl
 all_goals cases d <;> cases I <;> try rfl
 all_goals cases J <;> rfl
theorem o_6 (r:a_)(a b c d:Bool)(k:Int):b_L r a b c d k=some (plain r a b c d k && (!r.little || r.kind==1)):=by
 unfold b_L plain;generalize (r.size==0)=h;generalize ((r.bytes.length:Int)==0)=G;generalize ((r.names.length:Int)==0)=H;generalize ((r.tags.length:Int)==0)=I;generalize decide (k<0)=J;generalize ((r.kids.length:Int)==k)=L;generalize (r.kind==1)=V;generalize r.little=O
 cases a <;> cases h <;> try rfl
 all_goals cases b <;> cases G <;> try rfl
 all_goals cases c <;> cases H <;> try rfl
 all_goals cases d <;> cases I <;> try rfl
 all_goals cases J <;> cases L <;> cases O <;> rfl
def lim (rs:List a_)(i:Int):Int:=match idx rs i with
 | some r=>if r.kind=1/\1<=r.size/\r.size<=4 then 256 ^ r.size.toNat - 1 else -1
 | none=>-1
theorem k_m {α:Type}{l:List α}{i:Int}(h:¬(0<=i/\i<l.length)):idx l i=none:=by
 unfold idx;split
 ·rw [gN_];omega
 ·rfl
theorem h_2 {s:Int}(h1:1<=s)(h4:s<=4):K_ (b_p .i64 1<|b_e 8 s) 1=256 ^ s.toNat - 1/\nn (b_e 8 s)=some ():=by
 have:s=1∨s=2∨s=3∨s=4:=by omega
 rcases this with rfl | rfl | rfl | rfl <;> exact ⟨by decide,by decide⟩
theorem k_n (d:g_)(i:Int):d_W d i=some (lim d.rules i):=by
 unfold d_W d_r lim
 by_cases h:0<=i/\i<d.rules.length
 ·obtain ⟨G,h1⟩:=h
  rw [dT_ G,dT_ h1,h_k G (by omega)]
  generalize d.rules[i.toNat]=r
  simp only [fT_,bd_some,e_j]
  by_cases hk:r.kind=1
  ·by_cases H:1<=r.size
   ·by_cases I:r.size<=4
    ·simp [hk,H,I,(h_2 H I).1,(h_2 H I).2]
    ·simp [hk,H,I]
   ·simp [hk,H]
  ·simp [hk]
 ·rw [k_m h]
  by_cases G:0<=i
  ·have h1:¬i<d.rules.length:=fun h1=>h ⟨G,h1⟩
   simp [G,h1]
  ·simp [G]
theorem k_o (d:g_)(i:Int)(hd:d.rules.length<=MX):d_S d i=some (lim d.rules i):=by
 unfold d_S lim
 rw [b_F]
 have hMX:MX=1048576:=rfl;have e:K_ (d.rules.length:Int) 1=(d.rules.length:Int) - 1:=a_W (by omega) (by omega)
 rw [e]
 by_cases h:0<=i/\i<d.rules.length
 ·obtain ⟨G,h1⟩:=h
  rw [dT_ G,dT_ (show i<=(d.rules.length:Int) - 1 by omega),h_k G (by omega)]
  generalize d.rules[i.toNat]=r
  simp only [bd_some,b_F,h_t]
  by_cases hk:r.kind=1
  ·by_cases H:1<=r.size
   ·by_cases I:r.size<=4
    ·simp [hk,H,I,(h_2 H I).1,(h_2 H I).2]
    ·simp [hk,H,I]
   ·simp [hk,H]
  ·simp [hk]
 ·rw [k_m h]
  by_cases G:0<=i
  ·have h1:¬i<=(d.rules.length:Int) - 1:=fun h1=>h ⟨G,by omega⟩
   simp [G,h1]
  ·simp [G]
def c_4 (l:List Str)(s:Str):Bool:=l.any<|fun x=>x.b==s.b
theorem k_p (l:List Str)(s:Str):d_X l s=some (c_4 l s):=by
 unfold d_X c_4
 rw [e_r (fun x=>x.b==s.b) true (fun k hk=>by simp only [ix_ hk,bd_some];exact c_m _ _)]
 cases l.any (fun x=>x.b==s.b) <;> rfl
theorem o_7 (l:List Str)(s:Str):f_t l s=some (c_4 l s):=by
 unfold f_t c_4
 rw [e_r (fun x=>x.b==s.b) true (fun k hk=>by simp only [ix_ hk,bd_some];exact c_m _ _)]
 cases l.any (fun x=>x.b==s.b) <;> rfl
def b_G (l:List Str)(k:Nat):Bool:=match l[k]? with
 | some s=>!a_J s || c_4 (l.take k) s
 | none=>false
def c_5 (m:Int)(l:List Int)(k:Nat):Bool:=match l[k]? with
 | some t=>!(decide (0<=t) && decide (t<=m)) || (decide (0<(k:Int)) && decide (t<=l.getD (k - 1) 0))
 | none=>false
def b_z (n:Nat):Bool:=decide (1<=(n:Int)) && decide ((n:Int)<=8)
def s_ (r:a_):Int:=r.kids.getD 0 0
def a_d (rs:List a_)(r:a_):Bool :=
 if r.kind==1 then plain r true false false false 0 && ((decide (1<=r.size) && decide (r.size<=4)) && (!r.little || decide (1<r.size)))
 else if r.kind==2 then plain r false true false false 0 && (decide (1<=(r.bytes.length:Int)) && decide ((r.bytes.length:Int)<=16))
 else if r.kind==3 then plain r true false false false 0 && (decide (1<=r.size) && decide (r.size<=64))
 else if r.kind==4 then plain r false false false false 1 && decide (0<lim rs (s_ r))
 else if r.kind==5 then plain r false false false false 2 && decide (0<lim rs (s_ r))
 else if r.kind==6 then plain r false false true false r.names.length && (!((List.range r.names.length).any (b_G r.names)) && b_z r.names.length)
 else if r.kind==7 then plain r false false false true ((r.tags.length:Int)+1) && (b_z r.tags.length && !((List.range r.tags.length).any (c_5 (lim rs<|s_ r) r.tags)))
 else if r.kind==8 then plain r false false false false 1
 else if r.kind==9 then plain r false false false false 1
 else if r.kind==10 then plain r false true false false 0 && ((r.bytes.length:Int)==1 && byteI (r.bytes.getD 0 0) != byteI (92:UInt8))
 else false
theorem c_6 {r:a_}{a b c d:Bool}{k:Int}(h:plain r a b c d k=true)(hk:0<=k):(r.kids.length:Int)=k:=by
 unfold plain at h
 simp only [aE_,Bool.or_eq_true,dE_,beq_iff_eq] at h
 omega
theorem k_q (r:a_)(a b c d:Bool)(k:Int):plain r a b c d k=(plain r a b c d (-1) && (decide (k<0) || (r.kids.length:Int)==k)):=by
 unfold plain;simp [Bool.and_assoc]
theorem j_0 {α:Type}{l:List α}{k:Nat}(h:k<=l.length):slc l 0 (k:Int)=some (l.take k):=by
 rw [h_l (Int.le_refl 0) (by omega) (by omega)];simp
theorem k_r (rs:List a_)(i:Int):lim rs i = -1∨0<lim rs i:=by
 unfold lim
 cases idx rs i with
 | none=>exact .inl rfl
 | some r =>
  simp only
  by_cases h:r.kind=1/\1<=r.size/\r.size<=4
  ·rw [iP_ h]
   right
   obtain ⟨_,h1,h4⟩:=h;have:r.size=1∨r.size=2∨r.size=3∨r.size=4:=by omega
   rcases this with h | h | h | h <;> rw [h] <;> decide
  ·rw [iN_ h];exact .inl rfl
theorem a_2 {α:Type}{l:List α}{k:Nat}{x:α}(h:k<l.length):l.getD k x=l[k]:=by simp [h]
theorem o_8 (n:Nat)(hn:14<=n)(l:List Str):u_ (σ:=Unit) (ρ:=Bool) (fun h=>(fun (_:Unit)=>bd (idx l ((h:Nat):Int)) fun G=>bd (α:=Bool) (bd (d_q n G) fun H=>if (!H)=true then some true else bd (slc l 0 ((h:Nat):Int)) fun I=>bd (d_X I G) fun J=>some J) (fun L=>if L=true then some (.ret false) else some (.next ())))) l.length 0 ()=some (if (List.range l.length).any (b_G l)=true then .inr false else .inl ()):=by
 refine d_n (b_G l) false<|fun k hk _=>?_
 simp only [ix_ hk,bd_some,i_Y n hn,j_0<|Nat.le_of_lt hk,k_p,b_G,gG_ hk]
 generalize a_J l[k]=a;generalize c_4 (l.take k) l[k]=b
 cases a <;> cases b <;> rfl
theorem o_9 (l:List Str):f_u l=some (!((List.range l.length).any (b_G l)) && b_z l.length):=by
 unfold f_u
 rw [d_n (b_G l) false]
 ·rw [b_F]
  unfold b_z
  cases (List.range l.length).any (b_G l) <;> rfl
 ·intro k hk _
  simp only [ix_ hk,bd_some,k_l,j_0<|Nat.le_of_lt hk,o_7,b_G,gG_ hk]
  generalize a_J l[k]=a;generalize c_4 (l.take k) l[k]=b
  cases a <;> cases b <;> rfl
theorem o_a (n:Nat)(hn:14<=n)(r:a_):f_M n r=some (plain r false false true false r.names.length && (!((List.range r.names.length).any (b_G r.names)) && b_z r.names.length)):=by
 unfold f_M
 rw [o_8 n hn,i_Z,e_j,k_q r _ _ _ _ r.names.length]
 have I:decide ((r.names.length:Int)<0)=false:=dF_ (by omega)
 rw [I]
 unfold b_z;generalize (List.range r.names.length).any (b_G r.names)=a;generalize plain r false false true false (-1)=b
 by_cases h:(r.kids.length:Int)=r.names.length
 ·rw [h]
  have G:((r.names.length:Int)==(r.names.length:Int))=true:=by simp
  have H:((r.names.length:Int) != (r.names.length:Int))=false:=by simp
  rw [G,H]
  generalize (decide (1<=(r.names.length:Int)) && decide ((r.names.length:Int)<=8))=c
  cases a <;> cases b <;> cases c <;> rfl
 ·have G:((r.kids.length:Int)==(r.names.length:Int))=false:=by simpa using h
  have H:((r.kids.length:Int) != (r.names.length:Int))=true:=by simpa using h
  rw [G,H]
  cases a <;> cases b <;> rfl
theorem h_3 {m:Int}{l:List Int}{k:Nat}(hk:k<l.length):c_5 m l k=(!(decide (0<=l[k]) && decide (l[k]<=m)) || (decide (0<(k:Int)) && decide (l[k]<=l.getD (k - 1) 0))):=by
 unfold c_5;rw [gG_ hk]
theorem k_s {l:List Int}{k:Nat}(hk:k<l.length)(h:0<k):idx l (K_ (k:Int) 1)=some (l.getD (k - 1) 0)∨¬l.length<=MX:=by
 by_cases hM:l.length<=MX
 ·left
  have hMX:MX=1048576:=rfl
  rw [a_W (by omega) (by omega),h_k (by omega) (by omega),a_2 (by omega)]
  simp [show ((k:Int) - 1).toNat=k - 1 by omega]
 ·exact .inr hM
theorem o_b (m:Int)(l:List Int)(hl:l.length<=MX):u_ (σ:=Unit) (ρ:=Bool) (fun G=>(fun (_:Unit)=>bd (idx l ((G:Nat):Int)) fun I=>bd (α:=Bool) (bd (b_M I 0 m) fun J=>if (!J)=true then some true else if (decide<|0<((G:Nat):Int))=true then bd (idx l<|K_ ((G:Nat):Int) 1) fun L=>some (decide<|I<=L) else some false) (fun O=>if O=true then some (.ret false) else some (.next ())))) l.length 0 ()=some (if (List.range l.length).any (c_5 m l)=true then .inr false else .inl ()):=by
 refine d_n (c_5 m l) false<|fun k hk _=>?_
 simp only [ix_ hk,bd_some,e_j,h_3 hk]
 by_cases V:0<k
 ·have e:=(k_s hk V).resolve_right (fun h=>h hl);have H:decide (0<(k:Int))=true:=dT_ (by omega)
  rw [e,H]
  generalize decide (0<=l[k])=a;generalize decide (l[k]<=m)=b
  simp only [bd_some]
  generalize decide (l[k]<=l.getD (k - 1) 0)=c
  cases a <;> cases b <;> cases c <;> rfl
 ·have H:decide (0<(k:Int))=false:=dF_ (by omega)
  rw [H]
  generalize decide (0<=l[k])=a;generalize decide (l[k]<=m)=b
  cases a <;> cases b <;> rfl
theorem a_U {r:a_}(h:0<r.kids.length):idx r.kids 0=some (s_ r):=by
 rw [b_k h,s_,a_2 h]
theorem o_c (d:g_)(r:a_)(ht:r.tags.length<=MX):f_N d r=some (plain r false false false true ((r.tags.length:Int)+1) && (b_z r.tags.length && !((List.range r.tags.length).any (c_5 (lim d.rules<|s_ r) r.tags)))):=by
 have hMX:MX=1048576:=rfl;unfold f_N
 rw [i_Z,e_j,ia_ (x:=(r.tags.length:Int)) (by omega) (by omega)]
 unfold b_z
 cases hp:plain r false false false true ((r.tags.length:Int)+1)
 ·rfl
 ·have hk:=c_6 hp (by omega)
  rw [a_U (by omega)]
  simp only [bd_some,nT_,bF_,fF_,k_n,o_b _ _ ht]
  by_cases G:1<=(r.tags.length:Int)/\(r.tags.length:Int)<=8
  ·rw [dT_ G.1,dT_ G.2]
   cases ha:(List.range r.tags.length).any (c_5 (lim d.rules<|s_ r) r.tags)
   ·have hpos:0<lim d.rules (s_ r):=by
     rcases k_r d.rules (s_ r) with h | h
     ·exfalso
      have H:0<r.tags.length:=by omega
      have:=List.any_eq_false.1 ha 0<|List.mem_range.2 H
      rw [h_3 H,h] at this
      simp only [Bool.or_eq_true,Bool.not_eq_true',Bool.and_eq_false_iff,decide_eq_false_iff_not] at this
      omega
     ·exact h
    rw [dT_ hpos]
    rfl
   ·rfl
  ·have:(decide (1<=(r.tags.length:Int)) && decide ((r.tags.length:Int)<=8))=false:=by
    rw [Bool.and_eq_false_iff]
    simp only [decide_eq_false_iff_not]
    omega
   rw [this]
   rfl
theorem o_d (d:g_)(r:a_)(hd:d.rules.length<=MX)(ht:r.tags.length<=MX):f_v d r=some (((r.kids.length:Int)==(r.tags.length:Int)+1) && (b_z r.tags.length && !((List.range r.tags.length).any (c_5 (lim d.rules<|s_ r) r.tags)))):=by
 have hMX:MX=1048576:=rfl;unfold f_v
 rw [ia_ (x:=(r.tags.length:Int)) (by omega) (by omega),b_F]
 unfold b_z
 by_cases hk:(r.kids.length:Int)=(r.tags.length:Int)+1
 ·have G:((r.kids.length:Int)==(r.tags.length:Int)+1)=true:=by simpa using hk
  have H:((r.kids.length:Int) != (r.tags.length:Int)+1)=false:=by simpa using hk
  rw [G,H]
  rw [d_n (c_5 (lim d.rules<|s_ r) r.tags) false]
  ·generalize (List.range r.tags.length).any (c_5 (lim d.rules<|s_ r) r.tags)=a;generalize (decide (1<=(r.tags.length:Int)) && decide ((r.tags.length:Int)<=8))=c
   cases a <;> cases c <;> rfl
  ·intro k hk' _
   simp only [ix_ hk',bd_some,a_U (show 0<r.kids.length by omega),k_o d _ hd,b_F,h_3 hk']
   by_cases J:0<k
   ·have e:=(k_s hk' J).resolve_right (fun h=>h ht);have I:decide (0<(k:Int))=true:=dT_ (by omega)
    rw [e,I]
    generalize decide (0<=r.tags[k])=a;generalize decide (r.tags[k]<=lim d.rules (s_ r))=b
    simp only [bd_some]
    generalize decide (r.tags[k]<=r.tags.getD (k - 1) 0)=c
    cases a <;> cases b <;> cases c <;> rfl
   ·have I:decide (0<(k:Int))=false:=dF_ (by omega)
    rw [I]
    generalize decide (0<=r.tags[k])=a;generalize decide (r.tags[k]<=lim d.rules (s_ r))=b
    cases a <;> cases b <;> rfl
 ·have G:((r.kids.length:Int)==(r.tags.length:Int)+1)=false:=by simpa using hk
  have H:((r.kids.length:Int) != (r.tags.length:Int)+1)=true:=by simpa using hk
  rw [G,H]
  rfl
theorem o_e (n:Nat)(hn:14<=n)(d:g_)(r:a_)(ht:r.tags.length<=MX):f_O n d r=some (a_d d.rules r):=by
 unfold f_O a_d
 rw [o_a n hn,o_c d r ht]
 simp only [i_Z,e_j,k_n,bd_some]
 cases (r.kind==1) with
 | true =>
  generalize plain r true false false false 0=a;generalize (decide (1<=r.size) && decide (r.size<=4))=b;generalize decide (1<r.size)=c;generalize r.little=e
  cases a <;> cases b <;> cases c <;> cases e <;> rfl
 | false =>
 cases (r.kind==2) with
 | true =>
  generalize plain r false true false false 0=a
  cases a <;> rfl
 | false =>
 cases (r.kind==3) with
 | true =>
  generalize plain r true false false false 0=a
  cases a <;> rfl
 | false =>
 cases (r.kind==4) with
 | true =>
  cases hp:plain r false false false false 1
  ·rfl
  ·have hk:=c_6 hp (by omega)
   rw [a_U (by omega)]
   rfl
 | false =>
 cases (r.kind==5) with
 | true =>
  cases hp:plain r false false false false 2
  ·rfl
  ·have hk:=c_6 hp (by omega)
   rw [a_U (by omega)]
   rfl
 | false =>
 cases (r.kind==6) with
 | true=>rfl
 | false =>
 cases (r.kind==7) with
 | true=>rfl
 | false =>
 cases (r.kind==8) with
 | true=>rfl
 | false =>
 cases (r.kind==9) with
 | true=>rfl
 | false =>
 cases (r.kind==10) with
 | true =>
  generalize plain r false true false false 0=a
  by_cases hb:(r.bytes.length:Int)=1
  ·have e:((r.bytes.length:Int)==1)=true:=by simpa using hb
   rw [e,b_k (show 0<r.bytes.length by omega),a_2 (show 0<r.bytes.length by omega)]
   cases a <;> rfl
  ·have e:((r.bytes.length:Int)==1)=false:=by simpa using hb
   rw [e]
   cases a <;> rfl
 | false=>rfl
theorem o_f (d:g_)(r:a_)(hd:d.rules.length<=MX)(ht:r.tags.length<=MX):f_w d r=some (a_d d.rules r && (!r.little || r.kind==1)):=by
 unfold f_w a_d
 rw [o_d d r hd ht,o_9]
 simp only [o_6,b_F,k_o d _ hd,bd_some]
 have h:plain r false false false true ((r.tags.length:Int)+1)=(plain r false false false true (-1) && ((r.kids.length:Int)==(r.tags.length:Int)+1)):=by
  rw [k_q,dF_ (show ¬((r.tags.length:Int)+1<0) by omega)];rfl
 rw [h]
 cases (r.kind==1) with
 | true =>
  generalize plain r true false false false 0=a;generalize (decide (1<=r.size) && decide (r.size<=4))=b;generalize decide (1<r.size)=c;generalize r.little=e
  cases a <;> cases b <;> cases c <;> cases e <;> rfl
 | false =>
 generalize r.little=e
 cases (r.kind==2) with
 | true =>
  generalize plain r false true false false 0=a;generalize (decide (1<=(r.bytes.length:Int)) && decide ((r.bytes.length:Int)<=16))=b
  cases a <;> cases e <;> cases b <;> rfl
 | false =>
 cases (r.kind==3) with
 | true =>
  generalize plain r true false false false 0=a;generalize (decide (1<=r.size) && decide (r.size<=64))=b
  cases a <;> cases e <;> cases b <;> rfl
 | false =>
 cases (r.kind==4) with
 | true =>
  cases hp:plain r false false false false 1
  ·rfl
  ·have hk:=c_6 hp (by omega)
   rw [a_U (by omega)]
   simp only [bd_some]
   generalize decide (0<lim d.rules (s_ r))=b
   cases e <;> cases b <;> rfl
 | false =>
 cases (r.kind==5) with
 | true =>
  cases hp:plain r false false false false 2
  ·rfl
  ·have hk:=c_6 hp (by omega)
   rw [a_U (by omega)]
   simp only [bd_some]
   generalize decide (0<lim d.rules (s_ r))=b
   cases e <;> cases b <;> rfl
 | false =>
 cases (r.kind==6) with
 | true =>
  generalize plain r false false true false r.names.length=a;generalize (!((List.range r.names.length).any (b_G r.names)) && b_z r.names.length)=b
  cases a <;> cases e <;> cases b <;> rfl
 | false =>
 cases (r.kind==7) with
 | true =>
  generalize plain r false false false true (-1)=a;generalize ((r.kids.length:Int)==(r.tags.length:Int)+1)=b;generalize (b_z r.tags.length && !((List.range r.tags.length).any (c_5 (lim d.rules<|s_ r) r.tags)))=c
  cases a <;> cases e <;> cases b <;> cases c <;> rfl
 | false =>
 cases (r.kind==8) with
 | true =>
  generalize plain r false false false false 1=a
  cases a <;> cases e <;> rfl
 | false =>
 cases (r.kind==9) with
 | true =>
  generalize plain r false false false false 1=a
  cases a <;> cases e <;> rfl
 | false =>
 cases (r.kind==10) with
 | true =>
  generalize plain r false true false false 0=a
  by_cases hb:(r.bytes.length:Int)=1
  ·have e:((r.bytes.length:Int)==1)=true:=by simpa using hb
   rw [e,b_k (show 0<r.bytes.length by omega),a_2 (show 0<r.bytes.length by omega)]
   simp only [bd_some]
   generalize (byteI r.bytes[0] != byteI (92:UInt8))=b
   rename_i e'
   cases a <;> cases e' <;> cases b <;> rfl
  ·have e:((r.bytes.length:Int)==1)=false:=by simpa using hb
   rw [e]
   rename_i e'
   cases a <;> cases e' <;> rfl
 | false=>cases e <;> rfl
def c_n (i:Nat)(k:Int):Bool:=decide (k<0) || decide ((i:Int)<=k)
def c_o (rs:List a_)(i:Nat):Bool:=match rs[i]? with
 | none=>false
 | some r=>(a_J r.name && !(r.little && r.kind != 1)) && (!((rs.take i).any (fun x=>x.name.b==r.name.b)) && (!(r.kids.any<|c_n i) && a_d rs r))
def P_ (d:g_):Bool:=(decide (1<=(d.rules.length:Int)) && decide ((d.rules.length:Int)<=24)) && !((List.range d.rules.length).any (fun i=>!c_o d.rules i))
theorem o_g (n:Nat)(hn:14<=n)(d:g_)(hd:SmD d){i:Nat}(hi:i<d.rules.length):f_P n d i=some (c_o d.rules i):=by
 unfold f_P d_r c_o;have hr:=hd.each d.rules[i] (gE_ hi)
 rw [dT_ (show (0:Int)<=(i:Int) by omega),dT_ (show (i:Int)<(d.rules.length:Int) by omega),gG_ hi,ix_ hi]
 simp only [fT_,bd_some,i_Y n hn,j_0<|Nat.le_of_lt hi,o_e n hn d _ hr.tags]
 generalize d.rules[i]=r;have L:=e_r (body:=(fun G=>(fun (_:Unit)=>bd (idx (d.rules.take i) ((G:Nat):Int)) fun H=>if (H.name.b==r.name.b)=true then some (Out.ret false:Out Unit Bool) else some (.next ())))) (l:=d.rules.take i) (fun x=>x.name.b==r.name.b) false (fun k hk=>by simp only [ix_ hk,bd_some];exact c_m _ _)
 have O:=e_r (body:=(fun I=>(fun (_:Unit)=>bd (idx r.kids ((I:Nat):Int)) fun h=>bd (α:=Bool) (if (decide (h<0))=true then some true else some (decide ((i:Int)<=h))) (fun J=>if J=true then some (Out.ret false:Out Unit Bool) else some (.next ()))))) (l:=r.kids) (c_n i) false (fun k hk=>by
  simp only [ix_ hk,bd_some]
  rw [show c_n i r.kids[k]=(decide (r.kids[k]<0) || decide ((i:Int)<=r.kids[k])) from rfl]
  generalize decide (r.kids[k]<0)=a;generalize decide ((i:Int)<=r.kids[k])=b
  cases a <;> cases b <;> rfl)
 rw [L,O]
 generalize a_J r.name=a;generalize r.little=b;generalize (r.kind != 1)=c;generalize (d.rules.take i).any (fun x=>x.name.b==r.name.b)=x;generalize r.kids.any (c_n i)=y;generalize a_d d.rules r=z
 cases a <;> cases b <;> cases c <;> cases x <;> cases y <;> rfl
theorem o_h (d:g_)(hd:SmD d){i:Nat}(hi:i<d.rules.length):f_x d i=some (c_o d.rules i):=by
 have hMX:MX=1048576:=rfl;have hdl:=hd.rules;unfold f_x c_o;have hr:=hd.each d.rules[i] (gE_ hi)
 rw [b_F,a_W (x:=(d.rules.length:Int)) (by omega) (by omega),a_W (x:=(i:Int)) (by omega) (by omega),dT_ (show (0:Int)<=(i:Int) by omega),dT_ (show (i:Int)<=(d.rules.length:Int) - 1 by omega),gG_ hi,ix_ hi]
 simp only [bd_some,k_l,o_f d _ hd.rules hr.tags]
 generalize d.rules[i]=r;have hl:((i:Int)).toNat=(d.rules.take i).length:=by simp;omega
 have O:u_ (σ:=Unit) (ρ:=Bool) (fun G=>(fun (_:Unit)=>bd (idx d.rules ((G:Nat):Int)) fun H=>if (H.name.b==r.name.b)=true then some (.ret false) else some (.next ()))) (i:Int).toNat 0 ()=some (if (d.rules.take i).any (fun x=>x.name.b==r.name.b)=true then .inr false else .inl ()):=by
  rw [hl]
  refine e_r (fun x:a_=>x.name.b==r.name.b) false<|fun k hk=>?_;have hk':k<d.rules.length:=by simp at hk;omega
  simp only [ix_ hk',bd_some,List.getElem_take]
  exact c_m _ _
 have V:u_ (σ:=Unit) (ρ:=Bool) (fun I=>(fun (_:Unit)=>bd (idx r.kids ((I:Nat):Int)) fun J=>bd (a_R J 0<|(i:Int) - 1) fun L=>if (!L)=true then some (.ret false) else some (.next ()))) r.kids.length 0 ()=some (if r.kids.any (c_n i)=true then .inr false else .inl ()):=by
  refine e_r (c_n i) false<|fun k hk=>?_
  simp only [ix_ hk,bd_some,b_F]
  rw [show c_n i r.kids[k] = !(decide (0<=r.kids[k]) && decide (r.kids[k]<=(i:Int) - 1)) from by
   unfold c_n
   by_cases h:r.kids[k]<0
   ·rw [dT_ h,dF_ (show ¬0<=r.kids[k] by omega)];rfl
   ·rw [dF_ h,dT_ (show 0<=r.kids[k] by omega)]
    by_cases h1:(i:Int)<=r.kids[k]
    ·rw [dT_ h1,dF_ (show ¬r.kids[k]<=(i:Int) - 1 by omega)];rfl
    ·rw [dF_ h1,dT_ (show r.kids[k]<=(i:Int) - 1 by omega)];rfl]
  exact c_m _ _
 rw [O,V]
 have W:(!(r.little && r.kind != 1))=(!r.little || r.kind==1):=by
  simp only [bne]
  generalize (r.kind==1)=c
  cases r.little <;> cases c <;> rfl
 rw [W]
 generalize a_J r.name=a;generalize (!r.little || r.kind==1)=b;generalize (d.rules.take i).any (fun x=>x.name.b==r.name.b)=x;generalize r.kids.any (c_n i)=y;generalize a_d d.rules r=z
 cases a <;> cases b <;> cases x <;> cases y <;> cases z <;> rfl
theorem o_i (n:Nat)(hn:14<=n)(d:g_)(hd:SmD d):f_Q n d=some (P_ d):=by
 unfold f_Q P_
 rw [e_j,d_n (fun i=>!c_o d.rules i) false (fun k hk _=>by rw [o_g n hn d hd hk];simp only [bd_some];exact c_m _ _)]
 generalize (decide (1<=(d.rules.length:Int)) && decide ((d.rules.length:Int)<=24))=a;generalize (List.range d.rules.length).any (fun i=>!c_o d.rules i)=b
 cases a <;> cases b <;> rfl
theorem o_j (d:g_)(hd:SmD d):f_y d=some (P_ d):=by
 unfold f_y P_
 rw [b_F,d_n (fun i=>!c_o d.rules i) false (fun k hk _=>by rw [o_h d hd hk];simp only [bd_some];exact c_m _ _)]
 generalize (decide (1<=(d.rules.length:Int)) && decide ((d.rules.length:Int)<=24))=a;generalize (List.range d.rules.length).any (fun i=>!c_o d.rules i)=b
 cases a <;> cases b <;> rfl
def b_5 (d:g_)(r:Int):Bool:=decide (0<=r) && decide (r<(d.rules.length:Int))
theorem j_1 (n:Nat)(hn:14<=n)(d:g_)(hd:SmD d)(r:Int):d_Y n d r=some (P_ d && b_5 d r):=by
 unfold d_Y d_r b_5
 rw [o_i n hn d hd]
 generalize P_ d=a;generalize decide (0<=r)=b;generalize decide (r<(d.rules.length:Int))=c
 cases a <;> cases b <;> rfl
theorem o_k (d:g_)(hd:SmD d)(r:Int):f_J d r=some (P_ d && b_5 d r):=by
 have hMX:MX=1048576:=rfl;have hdl:=hd.rules;unfold f_J b_5
 rw [o_j d hd,b_F,a_W (x:=(d.rules.length:Int)) (by omega) (by omega),show decide (r<=(d.rules.length:Int) - 1)=decide (r<(d.rules.length:Int)) from decide_eq_decide.2 (by omega)]
 generalize P_ d=a;generalize decide (0<=r)=b;generalize decide (r<(d.rules.length:Int))=c
 cases a <;> cases b <;> cases c <;> rfl
end Go.Vw
