import Derived.Test.YtajhmimbhplkfaaGreatDoorV1
namespace Go.Vw
open Go.RowKit Dat
def MX:Nat:=1048576
structure SmR (r:g_):Prop where
 name:r.name.b.length<=MX
 bytes:r.bytes.length<=MX
 names:r.names.length<=MX
 tags:r.tags.length<=MX
 kids:r.kids.length<=MX
 each:∀s∈r.names,s.b.length<=MX
structure SmD (d:e_):Prop where
 rules:d.rules.length<=MX
 each:∀r∈d.rules,SmR r
theorem r_N {α:Type}{c:Prop}[Decidable c](x y:α):(if c then some x else some y)=some (if c then x else y):=by split <;> rfl
theorem c_T {ρ:Type}{c:Bool}(x y:Out Unit ρ):(if c=true then some x else some y)=some (if c=true then x else y):=by split <;> rfl
def lowC (c:UInt8):Bool:=decide (byteI (97:UInt8)<=byteI c) && decide (byteI c<=byteI (122:UInt8))
def a_U (c:UInt8):Bool:=decide (byteI (48:UInt8)<=byteI c) && decide (byteI c<=byteI (57:UInt8))
theorem n_r (c:UInt8):lowC c=(decide (97<=(c.toNat:Int)) && decide ((c.toNat:Int)<=122)):=rfl
theorem f_k (c:UInt8):a_U c=(decide (48<=(c.toNat:Int)) && decide ((c.toNat:Int)<=57)):=rfl
theorem l_q (k:Nat):((k:Int)==0)=(k==0):=by
 rw [Bool.eq_iff_iff];simp
def b_M (s:Str)(k:Nat):Bool:=match s.b[k]? with
 | some c=>!lowC c && (!a_U c || k==0)
 | none=>false
def a_Z (s:Str):Bool:=!((List.range s.b.length).any (b_M s)) && (decide (1<=s.b.length) && decide (s.b.length<=12))
theorem b_m (x lo hi:Int):a_G x lo hi=some (decide (lo<=x) && decide (x<=hi)):=by
 unfold a_G;generalize decide (lo<=x)=a;generalize decide (x<=hi)=b
 cases a <;> rfl
theorem e_E (x lo hi:Int):c_l x lo hi=some (decide (lo<=x) && decide (x<=hi)):=by
 unfold c_l;generalize decide (lo<=x)=a;generalize decide (x<=hi)=b
 cases a <;> rfl
theorem j_M (s:Str):e_Z s=some (a_Z s):=by
 unfold e_Z
 rw [e_h (b_M s) false]
 ·unfold a_Z
  cases (List.range s.b.length).any (b_M s)
  ·have h:decide ((1:Int)<=s.b.length)=decide (1<=s.b.length):=decide_eq_decide.2 (by omega);have G:decide ((s.b.length:Int)<=12)=decide (s.b.length<=12):=decide_eq_decide.2 (by omega)
   simp only [bF_,fF_,bd_some,el_inl,b_m,h,G,Bool.not_false,Bool.true_and]
  ·rfl
 ·intro k hk _
  simp only [ix_ hk,bd_some,b_M,gG_ hk,lowC,a_U,l_q]
  generalize decide (byteI (97:UInt8)<=byteI s.b[k])=a;generalize decide (byteI s.b[k]<=byteI (122:UInt8))=b;generalize decide (byteI (48:UInt8)<=byteI s.b[k])=c;generalize decide (byteI s.b[k]<=byteI (57:UInt8))=d;generalize (k==0)=e
  cases a <;> cases b <;> cases c <;> cases d <;> cases e <;> rfl
theorem j_N (n:Nat)(hn:14<=n)(s:Str):e_s n s=some (a_Z s):=by
 unfold e_s
 by_cases h1:s.b.length<1
 ·have:a_Z s=false:=by unfold a_Z;simp [show ¬1<=s.b.length by omega]
  rw [this];simp [show ((s.b.length:Int)<1) by omega]
 by_cases h2:12<s.b.length
 ·have:a_Z s=false:=by unfold a_Z;simp [show ¬s.b.length<=12 by omega]
  rw [this];simp [show ¬((s.b.length:Int)<1) by omega,show ((12:Int)<s.b.length) by omega]
 have O:decide ((s.b.length:Int)<1)=false:=by simp;omega
 have V:decide ((12:Int)<(s.b.length:Int))=false:=by simp;omega
 rw [O,V]
 simp only [bF_,fF_,bd_some]
 have hstep:∀k,k<s.b.length->b_M s k=false->∀{ρ:Type}(x:Nat->ρ),x (k+(dec s k).2)=x (k+1):=by
  intro k hk hb ρ x
  rw [p_w hk]
  have hb':b_M s k=(!lowC s.b[k] && (!a_U s.b[k] || k==0)):=by unfold b_M;rw [gG_ hk]
  rw [hb'] at hb
  rw [n_r,f_k] at hb
  simp only [Bool.and_eq_false_iff,Bool.not_eq_false',Bool.or_eq_false_iff,aE_,dE_] at hb
  omega
 have hgood:∀k (hk:k<s.b.length),b_M s k=(bd (α:=Bool) (if (decide<|97<=((dec s k).1))=true then some (decide<|((dec s k).1)<=122) else some false) (fun G=>bd (α:=Bool) (if (decide<|48<=((dec s k).1))=true then some (decide<|((dec s k).1)<=57) else some false) (fun H=>bd (α:=Bool) (if (!G)=true then if (!H)=true then some true else some ((k:Int)==0) else some false) some))).getD false /\
   (bd (α:=Bool) (if (decide<|97<=((dec s k).1))=true then some (decide<|((dec s k).1)<=122) else some false) (fun G=>bd (α:=Bool) (if (decide<|48<=((dec s k).1))=true then some (decide<|((dec s k).1)<=57) else some false) (fun H=>bd (α:=Bool) (if (!G)=true then if (!H)=true then some true else some ((k:Int)==0) else some false) (fun I=>if I=true then some (.ret false) else some (.next<|k+(dec s k).2)))))=some (if b_M s k=true then (.ret false:Out Nat Bool) else .next (k+(dec s k).2)):=by
  intro k hk;have hb':b_M s k=(!lowC s.b[k] && (!a_U s.b[k] || k==0)):=by unfold b_M;rw [gG_ hk]
  rw [hb']
  rw [n_r,f_k]
  rw [l_q]
  by_cases ha:s.b[k].toNat<128
  ·rw [p_w hk ha]
   simp only
   generalize (s.b[k].toNat:Int)=c;generalize decide (97<=c)=a;generalize decide (c<=122)=b;generalize decide (48<=c)=c';generalize decide (c<=57)=d;generalize (k==0)=e
   cases a <;> cases b <;> cases c' <;> cases d <;> cases e <;> exact ⟨rfl,rfl⟩
  ·have hd:=u_e hk (by omega);generalize (dec s k).1=c at hd
   generalize (dec s k).2=c2;have g1:97<=c:=by omega
   have L:¬c<=122:=by omega
   have W:48<=c:=by omega
   have Y:¬c<=57:=by omega
   have k2:¬(s.b[k].toNat:Int)<=122:=by omega
   have k4:¬(s.b[k].toNat:Int)<=57:=by omega
   simp [g1,L,W,Y,k2,k4]
 have hit:O_ (σ:=Nat) (ρ:=Bool) (fun h=>if (decide<|h<s.b.length)=true then bd (α:=Bool) (if (decide<|97<=((dec s h).1))=true then some (decide<|((dec s h).1)<=122) else some false) (fun G=>bd (α:=Bool) (if (decide<|48<=((dec s h).1))=true then some (decide<|((dec s h).1)<=57) else some false) (fun H=>bd (α:=Bool) (if (!G)=true then if (!H)=true then some true else some ((h:Int)==0) else some false) (fun I=>if I=true then some (.ret false) else some (.next<|h+(dec s h).2)))) else some (.brk h)) n 0=some (if (List.range s.b.length).any (b_M s)=true then .inr false else .inl s.b.length):=by
  cases hf:(List.range s.b.length).find? (b_M s) with
  | none =>
   have hall:∀k,k<s.b.length->b_M s k=false:=fun k hk=>by simpa using List.find?_eq_none.1 hf k (List.mem_range.2 hk)
   have hany:(List.range s.b.length).any (b_M s)=false:=by rw [List.any_eq_false];exact fun x hx=>by simpa using List.find?_eq_none.1 hf x hx
   rw [hany]
   refine g_n (fun k=>k) (j0:=s.b.length) (by omega) (fun k hk=>?_) ?_
   ·simp only [hk,decide_true,fT_]
    rw [(hgood k hk).2,hall k hk]
    simp only [bF_,fF_]
    rw [hstep k hk (hall k hk) (fun x=>some<|Out.next x)]
   ·simp
  | some k =>
   have hany:(List.range s.b.length).any (b_M s)=true:=List.any_eq_true.2 ⟨k,List.mem_of_find?_eq_some hf,List.find?_some hf⟩
   rw [hany]
   obtain ⟨hp,as,bs,hl,has⟩:=List.find?_eq_some_iff_append.1 hf;have hk:k<s.b.length:=List.mem_range.1<|List.mem_of_find?_eq_some hf
   have hbef:∀j,j<k->b_M s j=false:=by
    intro j hj;have hlen:as.length<s.b.length:=by have:=congrArg List.length hl;simp at this;omega
    have hke:as.length=k:=by
     have h2:(List.range s.b.length)[as.length]? = some k:=by rw [hl];simp
     rw [List.getElem?_range hlen] at h2
     exact Option.some.inj h2
    have hj':j<as.length:=by omega
    have h2:(List.range s.b.length)[j]? = some (as[j]):=by rw [hl,List.getElem?_append_left hj'];simp
    rw [List.getElem?_range (by omega)] at h2
    have h3:=has as[j] (gE_ hj')
    rw [← Option.some.inj h2] at h3
    simpa using h3
   refine p_v (fun k=>k) (j0:=k) (by omega) (fun j hj=>?_) ?_
   ·have J:j<s.b.length:=by omega
    simp only [J,decide_true,fT_]
    rw [(hgood j J).2,hbef j hj]
    simp only [bF_,fF_]
    rw [hstep j J (hbef j hj) (fun x=>some<|Out.next x)]
   ·simp only [hk,decide_true,fT_]
    rw [(hgood k hk).2,hp]
    rfl
 rw [hit]
 unfold a_Z;have g1:decide (1<=s.b.length)=true:=dT_ (by omega);have L:decide (s.b.length<=12)=true:=dT_ (by omega)
 rw [g1,L]
 cases (List.range s.b.length).any (b_M s) <;> rfl
def plain (r:g_)(a b c d:Bool)(k:Int):Bool:=(a || r.size==0) && ((b || (r.bytes.length:Int)==0) && ((c || (r.names.length:Int)==0) && ((d || (r.tags.length:Int)==0) && (decide (k<0) || (r.kids.length:Int)==k))))
theorem l_r (r:g_)(a b c d:Bool)(k:Int):c_K r a b c d k=some (plain r a b c d k):=by
 unfold c_K plain;generalize (r.size==0)=h;generalize ((r.bytes.length:Int)==0)=G;generalize ((r.names.length:Int)==0)=H;generalize ((r.tags.length:Int)==0)=I;generalize decide (k<0)=J;generalize ((r.kids.length:Int)==k)=L
 cases a <;> cases h <;> try rfl
 all_goals cases b <;> cases G <;> try rfl
 all_goals cases c <;> cases H <;> try rfl
 all_goals cases d <;> cases I <;> try rfl
 all_goals cases J <;> rfl
theorem r_O (r:g_)(a b c d:Bool)(k:Int):c_J r a b c d k=some (plain r a b c d k && (!r.little || r.kind==1)):=by
 unfold c_J plain;generalize (r.size==0)=h;generalize ((r.bytes.length:Int)==0)=G;generalize ((r.names.length:Int)==0)=H;generalize ((r.tags.length:Int)==0)=I;generalize decide (k<0)=J;generalize ((r.kids.length:Int)==k)=L;generalize (r.kind==1)=V;generalize r.little=O
 cases a <;> cases h <;> try rfl
 all_goals cases b <;> cases G <;> try rfl
 all_goals cases c <;> cases H <;> try rfl
 all_goals cases d <;> cases I <;> try rfl
 all_goals cases J <;> cases L <;> cases O <;> rfl
def lim (rs:List g_)(i:Int):Int:=match idx rs i with
 | some r=>if r.kind=1/\1<=r.size/\r.size<=4 then 256 ^ r.size.toNat - 1 else -1
 | none=>-1
theorem n_s {α:Type}{l:List α}{i:Int}(h:¬(0<=i/\i<l.length)):idx l i=none:=by
 unfold idx;split
 ·rw [gN_];omega
 ·rfl
theorem j_O {s:Int}(h1:1<=s)(h4:s<=4):x_ (b_v .i64 1<|b_6 8 s) 1=256 ^ s.toNat - 1/\nn (b_6 8 s)=some ():=by
 have:s=1∨s=2∨s=3∨s=4:=by omega
 rcases this with rfl | rfl | rfl | rfl <;> exact ⟨by decide,by decide⟩
theorem n_t (d:e_)(i:Int):f_E d i=some (lim d.rules i):=by
 unfold f_E f_2 lim
 by_cases h:0<=i/\i<d.rules.length
 ·obtain ⟨G,h1⟩:=h
  rw [dT_ G,dT_ h1,f_v G (by omega)]
  generalize d.rules[i.toNat]=r
  simp only [fT_,bd_some,e_E]
  by_cases hk:r.kind=1
  ·by_cases H:1<=r.size
   ·by_cases I:r.size<=4
    ·simp [hk,H,I,(j_O H I).1,(j_O H I).2]
    ·simp [hk,H,I]
   ·simp [hk,H]
  ·simp [hk]
 ·rw [n_s h]
  by_cases G:0<=i
  ·have h1:¬i<d.rules.length:=fun h1=>h ⟨G,h1⟩
   simp [G,h1]
  ·simp [G]
theorem n_u (d:e_)(i:Int)(hd:d.rules.length<=MX):f_B d i=some (lim d.rules i):=by
 unfold f_B lim
 rw [b_m]
 have hMX:MX=1048576:=rfl;have e:x_ (d.rules.length:Int) 1=(d.rules.length:Int) - 1:=a_x (by omega) (by omega)
 rw [e]
 by_cases h:0<=i/\i<d.rules.length
 ·obtain ⟨G,h1⟩:=h
  rw [dT_ G,dT_ (show i<=(d.rules.length:Int) - 1 by omega),f_v G (by omega)]
  generalize d.rules[i.toNat]=r
  simp only [bd_some,b_m,f_A]
  by_cases hk:r.kind=1
  ·by_cases H:1<=r.size
   ·by_cases I:r.size<=4
    ·simp [hk,H,I,(j_O H I).1,(j_O H I).2]
    ·simp [hk,H,I]
   ·simp [hk,H]
  ·simp [hk]
 ·rw [n_s h]
  by_cases G:0<=i
  ·have h1:¬i<=(d.rules.length:Int) - 1:=fun h1=>h ⟨G,by omega⟩
   simp [G,h1]
  ·simp [G]
def f_l (l:List Str)(s:Str):Bool:=l.any<|fun x=>x.b==s.b
theorem r_P (l:List Str)(s:Str):g_K l s=some (f_l l s):=by
 unfold g_K f_l
 rw [d_Q (fun x=>x.b==s.b) true (fun k hk=>by simp only [ix_ hk,bd_some];exact c_T _ _)]
 cases l.any (fun x=>x.b==s.b) <;> rfl
theorem r_Q (l:List Str)(s:Str):h_R l s=some (f_l l s):=by
 unfold h_R f_l
 rw [d_Q (fun x=>x.b==s.b) true (fun k hk=>by simp only [ix_ hk,bd_some];exact c_T _ _)]
 cases l.any (fun x=>x.b==s.b) <;> rfl
def c_U (l:List Str)(k:Nat):Bool:=match l[k]? with
 | some s=>!a_Z s || f_l (l.take k) s
 | none=>false
def d_m (m:Int)(l:List Int)(k:Nat):Bool:=match l[k]? with
 | some t=>!(decide (0<=t) && decide (t<=m)) || (decide (0<(k:Int)) && decide (t<=l.getD (k - 1) 0))
 | none=>false
def c_p (n:Nat):Bool:=decide (1<=(n:Int)) && decide ((n:Int)<=8)
def B_ (r:g_):Int:=r.kids.getD 0 0
def a_B (rs:List g_)(r:g_):Bool :=
 if r.kind==1 then plain r true false false false 0 && ((decide (1<=r.size) && decide (r.size<=4)) && (!r.little || decide (1<r.size)))
 else if r.kind==2 then plain r false true false false 0 && (decide (1<=(r.bytes.length:Int)) && decide ((r.bytes.length:Int)<=16))
 else if r.kind==3 then plain r true false false false 0 && (decide (1<=r.size) && decide (r.size<=64))
 else if r.kind==4 then plain r false false false false 1 && decide (0<lim rs (B_ r))
 else if r.kind==5 then plain r false false false false 2 && decide (0<lim rs (B_ r))
 else if r.kind==6 then plain r false false true false r.names.length && (!((List.range r.names.length).any (c_U r.names)) && c_p r.names.length)
 else if r.kind==7 then plain r false false false true ((r.tags.length:Int)+1) && (c_p r.tags.length && !((List.range r.tags.length).any (d_m (lim rs<|B_ r) r.tags)))
 else if r.kind==8 then plain r false false false false 1
 else if r.kind==9 then plain r false false false false 1
 else if r.kind==10 then plain r false true false false 0 && ((r.bytes.length:Int)==1 && byteI (r.bytes.getD 0 0) != byteI (92:UInt8))
 else false
theorem d_n {r:g_}{a b c d:Bool}{k:Int}(h:plain r a b c d k=true)(hk:0<=k):(r.kids.length:Int)=k:=by
 unfold plain at h
 simp only [aE_,Bool.or_eq_true,dE_,beq_iff_eq] at h
 omega
theorem n_v (r:g_)(a b c d:Bool)(k:Int):plain r a b c d k=(plain r a b c d (-1) && (decide (k<0) || (r.kids.length:Int)==k)):=by
 unfold plain;simp [Bool.and_assoc]
theorem l_s {α:Type}{l:List α}{k:Nat}(h:k<=l.length):slc l 0 (k:Int)=some (l.take k):=by
 rw [d_7 (Int.le_refl 0) (by omega) (by omega)];simp
theorem n_w (rs:List g_)(i:Int):lim rs i = -1∨0<lim rs i:=by
 unfold lim
 cases idx rs i with
 | none=>exact .inl rfl
 | some r =>
  simp only
  by_cases h:r.kind=1/\1<=r.size/\r.size<=4
  ·rw [iP_ h]
   right
   obtain ⟨_,h1,h4⟩:=h;have:r.size=1∨r.size=2∨r.size=3∨r.size=4:=by omega
   rcases this with h | h | h | h <;> rw [h] <;> decide
  ·rw [iN_ h];exact .inl rfl
theorem a_F {α:Type}{l:List α}{k:Nat}{x:α}(h:k<l.length):l.getD k x=l[k]:=by simp [h]
theorem r_R (n:Nat)(hn:14<=n)(l:List Str):t_ (σ:=Unit) (ρ:=Bool) (fun h=>(fun (_:Unit)=>bd (idx l ((h:Nat):Int)) fun G=>bd (α:=Bool) (bd (e_s n G) fun H=>if (!H)=true then some true else bd (slc l 0 ((h:Nat):Int)) fun I=>bd (g_K I G) fun J=>some J) (fun L=>if L=true then some (.ret false) else some (.next ())))) l.length 0 ()=some (if (List.range l.length).any (c_U l)=true then .inr false else .inl ()):=by
 refine e_h (c_U l) false<|fun k hk _=>?_
 simp only [ix_ hk,bd_some,j_N n hn,l_s<|Nat.le_of_lt hk,r_P,c_U,gG_ hk]
 generalize a_Z l[k]=a;generalize f_l (l.take k) l[k]=b
 cases a <;> cases b <;> rfl
theorem r_S (l:List Str):h_S l=some (!((List.range l.length).any (c_U l)) && c_p l.length):=by
 unfold h_S
 rw [e_h (c_U l) false]
 ·rw [b_m]
  unfold c_p
  cases (List.range l.length).any (c_U l) <;> rfl
 ·intro k hk _
  simp only [ix_ hk,bd_some,j_M,l_s<|Nat.le_of_lt hk,r_Q,c_U,gG_ hk]
  generalize a_Z l[k]=a;generalize f_l (l.take k) l[k]=b
  cases a <;> cases b <;> rfl
theorem r_T (n:Nat)(hn:14<=n)(r:g_):i_8 n r=some (plain r false false true false r.names.length && (!((List.range r.names.length).any (c_U r.names)) && c_p r.names.length)):=by
 unfold i_8
 rw [r_R n hn,l_r,e_E,n_v r _ _ _ _ r.names.length]
 have I:decide ((r.names.length:Int)<0)=false:=dF_ (by omega)
 rw [I]
 unfold c_p;generalize (List.range r.names.length).any (c_U r.names)=a;generalize plain r false false true false (-1)=b
 by_cases h:(r.kids.length:Int)=r.names.length
 ·rw [h]
  have G:((r.names.length:Int)==(r.names.length:Int))=true:=by simp
  have H:((r.names.length:Int) != (r.names.length:Int))=false:=by simp
  rw [G,H]
  generalize (decide (1<=(r.names.length:Int)) && decide ((r.names.length:Int)<=8))=c
  cases a <;> cases b <;> cases c <;> rfl
 ·have G:((r.kids.length:Int)==(r.names.length:Int))=false:=by simpa using h
  have H:((r.kids.length:Int) != (r.names.length:Int))=true:=by simpa using h
  rw [G,H]
  cases a <;> cases b <;> rfl
theorem j_P {m:Int}{l:List Int}{k:Nat}(hk:k<l.length):d_m m l k=(!(decide (0<=l[k]) && decide (l[k]<=m)) || (decide (0<(k:Int)) && decide (l[k]<=l.getD (k - 1) 0))):=by
 unfold d_m;rw [gG_ hk]
theorem n_x {l:List Int}{k:Nat}(hk:k<l.length)(h:0<k):idx l (x_ (k:Int) 1)=some (l.getD (k - 1) 0)∨¬l.length<=MX:=by
 by_cases hM:l.length<=MX
 ·left
  have hMX:MX=1048576:=rfl
  rw [a_x (by omega) (by omega),f_v (by omega) (by omega),a_F (by omega)]
  simp [show ((k:Int) - 1).toNat=k - 1 by omega]
 ·exact .inr hM
theorem r_U (m:Int)(l:List Int)(hl:l.length<=MX):t_ (σ:=Unit) (ρ:=Bool) (fun G=>(fun (_:Unit)=>bd (idx l ((G:Nat):Int)) fun I=>bd (α:=Bool) (bd (c_l I 0 m) fun J=>if (!J)=true then some true else if (decide<|0<((G:Nat):Int))=true then bd (idx l<|x_ ((G:Nat):Int) 1) fun L=>some (decide<|I<=L) else some false) (fun O=>if O=true then some (.ret false) else some (.next ())))) l.length 0 ()=some (if (List.range l.length).any (d_m m l)=true then .inr false else .inl ()):=by
 refine e_h (d_m m l) false<|fun k hk _=>?_
 simp only [ix_ hk,bd_some,e_E,j_P hk]
 by_cases V:0<k
 ·have e:=(n_x hk V).resolve_right (fun h=>h hl);have H:decide (0<(k:Int))=true:=dT_ (by omega)
  rw [e,H]
  generalize decide (0<=l[k])=a;generalize decide (l[k]<=m)=b
  simp only [bd_some]
  generalize decide (l[k]<=l.getD (k - 1) 0)=c
  cases a <;> cases b <;> cases c <;> rfl
 ·have H:decide (0<(k:Int))=false:=dF_ (by omega)
  rw [H]
  generalize decide (0<=l[k])=a;generalize decide (l[k]<=m)=b
  cases a <;> cases b <;> rfl
theorem c_4 {r:g_}(h:0<r.kids.length):idx r.kids 0=some (B_ r):=by
 rw [b_S h,B_,a_F h]
theorem r_V (d:e_)(r:g_)(ht:r.tags.length<=MX):i_9 d r=some (plain r false false false true ((r.tags.length:Int)+1) && (c_p r.tags.length && !((List.range r.tags.length).any (d_m (lim d.rules<|B_ r) r.tags)))):=by
 have hMX:MX=1048576:=rfl;unfold i_9
 rw [l_r,e_E,ia_ (x:=(r.tags.length:Int)) (by omega) (by omega)]
 unfold c_p
 cases hp:plain r false false false true ((r.tags.length:Int)+1)
 ·rfl
 ·have hk:=d_n hp (by omega)
  rw [c_4 (by omega)]
  simp only [bd_some,nT_,bF_,fF_,n_t,r_U _ _ ht]
  by_cases G:1<=(r.tags.length:Int)/\(r.tags.length:Int)<=8
  ·rw [dT_ G.1,dT_ G.2]
   cases ha:(List.range r.tags.length).any (d_m (lim d.rules<|B_ r) r.tags)
   ·have hpos:0<lim d.rules (B_ r):=by
     rcases n_w d.rules (B_ r) with h | h
     ·exfalso
      have H:0<r.tags.length:=by omega
      have:=List.any_eq_false.1 ha 0<|List.mem_range.2 H
      rw [j_P H,h] at this
      simp only [Bool.or_eq_true,Bool.not_eq_true',Bool.and_eq_false_iff,decide_eq_false_iff_not] at this
      omega
     ·exact h
    rw [dT_ hpos]
    rfl
   ·rfl
  ·have:(decide (1<=(r.tags.length:Int)) && decide ((r.tags.length:Int)<=8))=false:=by
    rw [Bool.and_eq_false_iff]
    simp only [decide_eq_false_iff_not]
    omega
   rw [this]
   rfl
theorem r_W (d:e_)(r:g_)(hd:d.rules.length<=MX)(ht:r.tags.length<=MX):h_T d r=some (((r.kids.length:Int)==(r.tags.length:Int)+1) && (c_p r.tags.length && !((List.range r.tags.length).any (d_m (lim d.rules<|B_ r) r.tags)))):=by
 have hMX:MX=1048576:=rfl;unfold h_T
 rw [ia_ (x:=(r.tags.length:Int)) (by omega) (by omega),b_m]
 unfold c_p
 by_cases hk:(r.kids.length:Int)=(r.tags.length:Int)+1
 ·have G:((r.kids.length:Int)==(r.tags.length:Int)+1)=true:=by simpa using hk
  have H:((r.kids.length:Int) != (r.tags.length:Int)+1)=false:=by simpa using hk
  rw [G,H]
  rw [e_h (d_m (lim d.rules<|B_ r) r.tags) false]
  ·generalize (List.range r.tags.length).any (d_m (lim d.rules<|B_ r) r.tags)=a;generalize (decide (1<=(r.tags.length:Int)) && decide ((r.tags.length:Int)<=8))=c
   cases a <;> cases c <;> rfl
  ·intro k hk' _
   simp only [ix_ hk',bd_some,c_4 (show 0<r.kids.length by omega),n_u d _ hd,b_m,j_P hk']
   by_cases J:0<k
   ·have e:=(n_x hk' J).resolve_right (fun h=>h ht);have I:decide (0<(k:Int))=true:=dT_ (by omega)
    rw [e,I]
    generalize decide (0<=r.tags[k])=a;generalize decide (r.tags[k]<=lim d.rules (B_ r))=b
    simp only [bd_some]
    generalize decide (r.tags[k]<=r.tags.getD (k - 1) 0)=c
    cases a <;> cases b <;> cases c <;> rfl
   ·have I:decide (0<(k:Int))=false:=dF_ (by omega)
    rw [I]
    generalize decide (0<=r.tags[k])=a;generalize decide (r.tags[k]<=lim d.rules (B_ r))=b
    cases a <;> cases b <;> rfl
 ·have G:((r.kids.length:Int)==(r.tags.length:Int)+1)=false:=by simpa using hk
  have H:((r.kids.length:Int) != (r.tags.length:Int)+1)=true:=by simpa using hk
  rw [G,H]
  rfl
theorem r_X (n:Nat)(hn:14<=n)(d:e_)(r:g_)(ht:r.tags.length<=MX):i_a n d r=some (a_B d.rules r):=by
 unfold i_a a_B
 rw [r_T n hn,r_V d r ht]
 simp only [l_r,e_E,n_t,bd_some]
 cases (r.kind==1) with
 | true =>
  generalize plain r true false false false 0=a;generalize (decide (1<=r.size) && decide (r.size<=4))=b;generalize decide (1<r.size)=c;generalize r.little=e
  cases a <;> cases b <;> cases c <;> cases e <;> rfl
 | false =>
 cases (r.kind==2) with
 | true =>
  generalize plain r false true false false 0=a
  cases a <;> rfl
 | false =>
 cases (r.kind==3) with
 | true =>
  generalize plain r true false false false 0=a
  cases a <;> rfl
 | false =>
 cases (r.kind==4) with
 | true =>
  cases hp:plain r false false false false 1
  ·rfl
  ·have hk:=d_n hp (by omega)
   rw [c_4 (by omega)]
   rfl
 | false =>
 cases (r.kind==5) with
 | true =>
  cases hp:plain r false false false false 2
  ·rfl
  ·have hk:=d_n hp (by omega)
   rw [c_4 (by omega)]
   rfl
 | false =>
 cases (r.kind==6) with
 | true=>rfl
 | false =>
 cases (r.kind==7) with
 | true=>rfl
 | false =>
 cases (r.kind==8) with
 | true=>rfl
 | false =>
 cases (r.kind==9) with
 | true=>rfl
 | false =>
 cases (r.kind==10) with
 | true =>
  generalize plain r false true false false 0=a
  by_cases hb:(r.bytes.length:Int)=1
  ·have e:((r.bytes.length:Int)==1)=true:=by simpa using hb
   rw [e,b_S (show 0<r.bytes.length by omega),a_F (show 0<r.bytes.length by omega)]
   cases a <;> rfl
  ·have e:((r.bytes.length:Int)==1)=false:=by simpa using hb
   rw [e]
   cases a <;> rfl
 | false=>rfl
theorem r_Y (d:e_)(r:g_)(hd:d.rules.length<=MX)(ht:r.tags.length<=MX):h_U d r=some (a_B d.rules r && (!r.little || r.kind==1)):=by
 unfold h_U a_B
 rw [r_W d r hd ht,r_S]
 simp only [r_O,b_m,n_u d _ hd,bd_some]
 have h:plain r false false false true ((r.tags.length:Int)+1)=(plain r false false false true (-1) && ((r.kids.length:Int)==(r.tags.length:Int)+1)):=by
  rw [n_v,dF_ (show ¬((r.tags.length:Int)+1<0) by omega)];rfl
 rw [h]
 cases (r.kind==1) with
 | true =>
  generalize plain r true false false false 0=a;generalize (decide (1<=r.size) && decide (r.size<=4))=b;generalize decide (1<r.size)=c;generalize r.little=e
  cases a <;> cases b <;> cases c <;> cases e <;> rfl
 | false =>
 generalize r.little=e
 cases (r.kind==2) with
 | true =>
  generalize plain r false true false false 0=a;generalize (decide (1<=(r.bytes.length:Int)) && decide ((r.bytes.length:Int)<=16))=b
  cases a <;> cases e <;> cases b <;> rfl
 | false =>
 cases (r.kind==3) with
 | true =>
  generalize plain r true false false false 0=a;generalize (decide (1<=r.size) && decide (r.size<=64))=b
  cases a <;> cases e <;> cases b <;> rfl
 | false =>
 cases (r.kind==4) with
 | true =>
  cases hp:plain r false false false false 1
  ·rfl
  ·have hk:=d_n hp (by omega)
   rw [c_4 (by omega)]
   simp only [bd_some]
   generalize decide (0<lim d.rules (B_ r))=b
   cases e <;> cases b <;> rfl
 | false =>
 cases (r.kind==5) with
 | true =>
  cases hp:plain r false false false false 2
  ·rfl
  ·have hk:=d_n hp (by omega)
   rw [c_4 (by omega)]
   simp only [bd_some]
   generalize decide (0<lim d.rules (B_ r))=b
   cases e <;> cases b <;> rfl
 | false =>
 cases (r.kind==6) with
 | true =>
  generalize plain r false false true false r.names.length=a;generalize (!((List.range r.names.length).any (c_U r.names)) && c_p r.names.length)=b
  cases a <;> cases e <;> cases b <;> rfl
 | false =>
 cases (r.kind==7) with
 | true =>
  generalize plain r false false false true (-1)=a;generalize ((r.kids.length:Int)==(r.tags.length:Int)+1)=b;generalize (c_p r.tags.length && !((List.range r.tags.length).any (d_m (lim d.rules<|B_ r) r.tags)))=c
  cases a <;> cases e <;> cases b <;> cases c <;> rfl
 | false =>
 cases (r.kind==8) with
 | true =>
  generalize plain r false false false false 1=a
  cases a <;> cases e <;> rfl
 | false =>
 cases (r.kind==9) with
 | true =>
  generalize plain r false false false false 1=a
  cases a <;> cases e <;> rfl
 | false =>
 cases (r.kind==10) with
 | true =>
  generalize plain r false true false false 0=a
  by_cases hb:(r.bytes.length:Int)=1
  ·have e:((r.bytes.length:Int)==1)=true:=by simpa using hb
   rw [e,b_S (show 0<r.bytes.length by omega),a_F (show 0<r.bytes.length by omega)]
   simp only [bd_some]
   generalize (byteI r.bytes[0] != byteI (92:UInt8))=b
   rename_i e'
   cases a <;> cases e' <;> cases b <;> rfl
  ·have e:((r.bytes.length:Int)==1)=false:=by simpa using hb
   rw [e]
   rename_i e'
   cases a <;> cases e' <;> rfl
 | false=>cases e <;> rfl
def d_H (i:Nat)(k:Int):Bool:=decide (k<0) || decide ((i:Int)<=k)
def d_I (rs:List g_)(i:Nat):Bool:=match rs[i]? with
 | none=>false
 | some r=>(a_Z r.name && !(r.little && r.kind != 1)) && (!((rs.take i).any (fun x=>x.name.b==r.name.b)) && (!(r.kids.any<|d_H i) && a_B rs r))
def a_4 (d:e_):Bool:=(decide (1<=(d.rules.length:Int)) && decide ((d.rules.length:Int)<=24)) && !((List.range d.rules.length).any (fun i=>!d_I d.rules i))
theorem r_Z (n:Nat)(hn:14<=n)(d:e_)(hd:SmD d){i:Nat}(hi:i<d.rules.length):i_b n d i=some (d_I d.rules i):=by
 unfold i_b f_2 d_I;have hr:=hd.each d.rules[i] (gE_ hi)
 rw [dT_ (show (0:Int)<=(i:Int) by omega),dT_ (show (i:Int)<(d.rules.length:Int) by omega),gG_ hi,ix_ hi]
 simp only [fT_,bd_some,j_N n hn,l_s<|Nat.le_of_lt hi,r_X n hn d _ hr.tags]
 generalize d.rules[i]=r;have L:=d_Q (body:=(fun G=>(fun (_:Unit)=>bd (idx (d.rules.take i) ((G:Nat):Int)) fun H=>if (H.name.b==r.name.b)=true then some (Out.ret false:Out Unit Bool) else some (.next ())))) (l:=d.rules.take i) (fun x=>x.name.b==r.name.b) false (fun k hk=>by simp only [ix_ hk,bd_some];exact c_T _ _)
 have O:=d_Q (body:=(fun I=>(fun (_:Unit)=>bd (idx r.kids ((I:Nat):Int)) fun h=>bd (α:=Bool) (if (decide (h<0))=true then some true else some (decide ((i:Int)<=h))) (fun J=>if J=true then some (Out.ret false:Out Unit Bool) else some (.next ()))))) (l:=r.kids) (d_H i) false (fun k hk=>by
  simp only [ix_ hk,bd_some]
  rw [show d_H i r.kids[k]=(decide (r.kids[k]<0) || decide ((i:Int)<=r.kids[k])) from rfl]
  generalize decide (r.kids[k]<0)=a;generalize decide ((i:Int)<=r.kids[k])=b
  cases a <;> cases b <;> rfl)
 rw [L,O]
 generalize a_Z r.name=a;generalize r.little=b;generalize (r.kind != 1)=c;generalize (d.rules.take i).any (fun x=>x.name.b==r.name.b)=x;generalize r.kids.any (d_H i)=y;generalize a_B d.rules r=z
 cases a <;> cases b <;> cases c <;> cases x <;> cases y <;> rfl
theorem s_0 (d:e_)(hd:SmD d){i:Nat}(hi:i<d.rules.length):h_V d i=some (d_I d.rules i):=by
 have hMX:MX=1048576:=rfl;have hdl:=hd.rules;unfold h_V d_I;have hr:=hd.each d.rules[i] (gE_ hi)
 rw [b_m,a_x (x:=(d.rules.length:Int)) (by omega) (by omega),a_x (x:=(i:Int)) (by omega) (by omega),dT_ (show (0:Int)<=(i:Int) by omega),dT_ (show (i:Int)<=(d.rules.length:Int) - 1 by omega),gG_ hi,ix_ hi]
 simp only [bd_some,j_M,r_Y d _ hd.rules hr.tags]
 generalize d.rules[i]=r;have hl:((i:Int)).toNat=(d.rules.take i).length:=by simp;omega
 have O:t_ (σ:=Unit) (ρ:=Bool) (fun G=>(fun (_:Unit)=>bd (idx d.rules ((G:Nat):Int)) fun H=>if (H.name.b==r.name.b)=true then some (.ret false) else some (.next ()))) (i:Int).toNat 0 ()=some (if (d.rules.take i).any (fun x=>x.name.b==r.name.b)=true then .inr false else .inl ()):=by
  rw [hl]
  refine d_Q (fun x:g_=>x.name.b==r.name.b) false<|fun k hk=>?_;have hk':k<d.rules.length:=by simp at hk;omega
  simp only [ix_ hk',bd_some,List.getElem_take]
  exact c_T _ _
 have V:t_ (σ:=Unit) (ρ:=Bool) (fun I=>(fun (_:Unit)=>bd (idx r.kids ((I:Nat):Int)) fun J=>bd (a_G J 0<|(i:Int) - 1) fun L=>if (!L)=true then some (.ret false) else some (.next ()))) r.kids.length 0 ()=some (if r.kids.any (d_H i)=true then .inr false else .inl ()):=by
  refine d_Q (d_H i) false<|fun k hk=>?_
  simp only [ix_ hk,bd_some,b_m]
  rw [show d_H i r.kids[k] = !(decide (0<=r.kids[k]) && decide (r.kids[k]<=(i:Int) - 1)) from by
   unfold d_H
   by_cases h:r.kids[k]<0
   ·rw [dT_ h,dF_ (show ¬0<=r.kids[k] by omega)];rfl
   ·rw [dF_ h,dT_ (show 0<=r.kids[k] by omega)]
    by_cases h1:(i:Int)<=r.kids[k]
    ·rw [dT_ h1,dF_ (show ¬r.kids[k]<=(i:Int) - 1 by omega)];rfl
    ·rw [dF_ h1,dT_ (show r.kids[k]<=(i:Int) - 1 by omega)];rfl]
  exact c_T _ _
 rw [O,V]
 have W:(!(r.little && r.kind != 1))=(!r.little || r.kind==1):=by
  simp only [bne]
  generalize (r.kind==1)=c
  cases r.little <;> cases c <;> rfl
 rw [W]
 generalize a_Z r.name=a;generalize (!r.little || r.kind==1)=b;generalize (d.rules.take i).any (fun x=>x.name.b==r.name.b)=x;generalize r.kids.any (d_H i)=y;generalize a_B d.rules r=z
 cases a <;> cases b <;> cases x <;> cases y <;> cases z <;> rfl
theorem n_y (n:Nat)(hn:14<=n)(d:e_)(hd:SmD d):g_L n d=some (a_4 d):=by
 unfold g_L a_4
 rw [e_E,e_h (fun i=>!d_I d.rules i) false (fun k hk _=>by rw [r_Z n hn d hd hk];simp only [bd_some];exact c_T _ _)]
 generalize (decide (1<=(d.rules.length:Int)) && decide ((d.rules.length:Int)<=24))=a;generalize (List.range d.rules.length).any (fun i=>!d_I d.rules i)=b
 cases a <;> cases b <;> rfl
theorem n_z (d:e_)(hd:SmD d):g_C d=some (a_4 d):=by
 unfold g_C a_4
 rw [b_m,e_h (fun i=>!d_I d.rules i) false (fun k hk _=>by rw [s_0 d hd hk];simp only [bd_some];exact c_T _ _)]
 generalize (decide (1<=(d.rules.length:Int)) && decide ((d.rules.length:Int)<=24))=a;generalize (List.range d.rules.length).any (fun i=>!d_I d.rules i)=b
 cases a <;> cases b <;> rfl
def b_N (d:e_)(r:Int):Bool:=decide (0<=r) && decide (r<(d.rules.length:Int))
theorem l_t (n:Nat)(hn:14<=n)(d:e_)(hd:SmD d)(r:Int):f_F n d r=some (a_4 d && b_N d r):=by
 unfold f_F f_2 b_N
 rw [n_y n hn d hd]
 generalize a_4 d=a;generalize decide (0<=r)=b;generalize decide (r<(d.rules.length:Int))=c
 cases a <;> cases b <;> rfl
theorem s_1 (d:e_)(hd:SmD d)(r:Int):i_4 d r=some (a_4 d && b_N d r):=by
 have hMX:MX=1048576:=rfl;have hdl:=hd.rules;unfold i_4 b_N
 rw [n_z d hd,b_m,a_x (x:=(d.rules.length:Int)) (by omega) (by omega),show decide (r<=(d.rules.length:Int) - 1)=decide (r<(d.rules.length:Int)) from decide_eq_decide.2 (by omega)]
 generalize a_4 d=a;generalize decide (0<=r)=b;generalize decide (r<(d.rules.length:Int))=c
 cases a <;> cases b <;> cases c <;> rfl
end Go.Vw
namespace Go.Vw
open Go.RowKit Dat
def b_O (n:Int)(c:UInt8):Int:=n * 256+byteI c
def d_q (bs:List UInt8)(little:Bool):Int:=(if little=true then bs.reverse else bs).foldl b_O 0
theorem e_G {α β:Type}(f:β->α->β)(a:β){l:List α}{k:Nat}(h:k<l.length):(l.take<|k+1).foldl f a=f ((l.take k).foldl f a) l[k]:=by
 rw [List.take_add_one,gG_ h,Option.toList_some,List.foldl_append];rfl
theorem s_k (l:List UInt8):0<=l.foldl b_O 0/\l.foldl b_O 0<256 ^ l.length:=by
 have:∀k,k<=l.length->0<=(l.take k).foldl b_O 0/\(l.take k).foldl b_O 0<256 ^ k:=by
  intro k
  induction k with
  | zero=>intro _;simp
  | succ k ih =>
   intro hk;obtain ⟨h1,h2⟩:=ih (by omega)
   rw [e_G b_O 0 (show k<l.length by omega)]
   have h3:=f_d l[k];have h4:=f_e l[k];generalize (l.take k).foldl b_O 0=z at *
   unfold b_O
   rw [Int.pow_succ]
   omega
 have h:=this l.length<|Nat.le_refl _
 simpa using h
theorem j_S (l:List UInt8)(h:l.length<=4):0<=l.foldl b_O 0/\l.foldl b_O 0<4294967296:=by
 obtain ⟨h1,h2⟩:=s_k l;refine ⟨h1,?_⟩;have:l.length=0∨l.length=1∨l.length=2∨l.length=3∨l.length=4:=by omega
 rcases this with h | h | h | h | h <;> rw [h] at h2 <;> omega
theorem j_T (bs:List UInt8)(e:Bool)(h:bs.length<=4):0<=d_q bs e/\d_q bs e<4294967296:=by
 unfold d_q
 cases e
 ·exact j_S bs h
 ·exact j_S bs.reverse (by simpa using h)
theorem n_U {bs:List UInt8}{k:Nat}(hk:k<bs.length)(hb:bs.length<=4)(e:Bool):idx bs (if e=true then x_ (x_ (bs.length:Int) 1) (k:Int) else (k:Int))=some ((if e=true then bs.reverse else bs)[k]'(by cases e <;> simpa using hk)):=by
 cases e
 ·exact ix_ hk
 ·rw [iP_ rfl,a_x (x:=(bs.length:Int)) (by omega) (by omega),a_x (by omega) (by omega),f_v (by omega) (by omega)]
  simp only [fT_]
  rw [List.getElem_reverse]
  congr 2
  omega
theorem l_x (bs:List UInt8)(e:Bool)(hb:bs.length<=4):f_C bs e=some (d_q bs e):=by
 unfold f_C
 rw [dF_ (show ¬(4:Int)<(bs.length:Int) by omega)]
 have hl:(if e=true then bs.reverse else bs).length=bs.length:=by cases e <;> simp
 have h:=b_T (n:=bs.length) (σ:=Int) (ρ:=Int) (body:=(fun G=>(fun I=>bd (α:=Int) (if e=true then some (x_ (x_ (bs.length:Int) 1) ((G:Nat):Int)) else some ((G:Nat):Int))<|fun J=>bd (idx bs J) fun H=>some<|.next<|b_ (b_6 I 256)<|byteI H)))
  (fun k=>((if e=true then bs.reverse else bs).take k).foldl b_O 0) (fun j hj=>by
   have L:=j_S ((if e=true then bs.reverse else bs).take j) (by simp;omega)
   rw [r_N,bd_some,n_U hj hb e,bd_some,e_G b_O 0 (by rw [hl];exact hj)]
   generalize (if e=true then bs.reverse else bs)[j]'(by rw [hl];exact hj)=c at *
   have h3:=f_d c;have h4:=f_e c
   rw [h_B (by omega) (by omega),ia_ (by omega) (by omega)]
   rfl)
 simp only [List.take_zero,List.foldl_nil] at h
 rw [h]
 simp only [bF_,fF_,bd_some,el_inl]
 unfold d_q
 rw [List.take_of_length_le (by omega)]
theorem l_y {n:Int}{c:UInt8}(h:0<=n)(h1:n<4294967296):b_Y .i64 (· ||| ·) (b_v .i64 n 8) (byteI c)=b_O n c:=by
 have e:b_v .i64 n 8=n * 256:=by
  unfold b_v
  rw [show (min (8:Int).toNat IntKind.i64.bits)=8 from rfl,IntKind.wrap_i64]
  omega
 rw [e]
 unfold b_Y b_O;obtain ⟨m,rfl⟩:=Int.eq_ofNat_of_zero_le h;have hc:=c.toNat_lt;have hm:m<4294967296:=by omega
 have G:BitVec.ofInt IntKind.i64.bits ((m:Int) * 256)=BitVec.ofNat 64 (m * 256):=by
  rw [show ((m:Int) * 256)=((m * 256:Nat):Int) by omega];exact BitVec.ofInt_natCast 64 _
 have H:BitVec.ofInt IntKind.i64.bits (byteI c)=BitVec.ofNat 64 c.toNat:=by
  unfold byteI;exact BitVec.ofInt_natCast 64 _
 show IntKind.i64.wrap ((BitVec.ofInt IntKind.i64.bits ((m:Int) * 256) ||| BitVec.ofInt IntKind.i64.bits (byteI c)).toNat:Int)=_
 rw [G,H]
 have I:(BitVec.ofNat 64 (m * 256) ||| BitVec.ofNat 64 c.toNat).toNat=m * 256+c.toNat:=by
  rw [BitVec.toNat_or,BitVec.toNat_ofNat,BitVec.toNat_ofNat,Nat.mod_eq_of_lt (by omega),Nat.mod_eq_of_lt (by omega)]
  have:=Nat.shiftLeft_add_eq_or_of_lt (i:=8) (b:=c.toNat) (by omega) m
  rw [Nat.shiftLeft_eq] at this
  exact this.symm
 have J:((BitVec.ofNat 64 (m * 256) ||| BitVec.ofNat 64 c.toNat:BitVec IntKind.i64.bits).toNat:Int)=(m:Int) * 256+(c.toNat:Int):=by
  rw [show (BitVec.ofNat 64 (m * 256) ||| BitVec.ofNat 64 c.toNat:BitVec IntKind.i64.bits).toNat=m * 256+c.toNat from I];omega
 refine (congrArg IntKind.i64.wrap J).trans ?_
 rw [IntKind.wrap_i64]
 unfold byteI
 omega
theorem l_z (bs:List UInt8)(e:Bool)(hb:bs.length<=4):f_G bs e=some (d_q bs e):=by
 unfold f_G
 rw [dF_ (show ¬(4:Int)<(bs.length:Int) by omega)]
 have hl:(if e=true then bs.reverse else bs).length=bs.length:=by cases e <;> simp
 have h:=b_T (n:=bs.length) (σ:=Int) (ρ:=Int) (body:=(fun H=>(fun I=>bd (α:=Int) (if e=true then bd (idx bs<|x_ (x_ (bs.length:Int) 1) ((H:Nat):Int)) fun J=>some (b_Y .i64 (· ||| ·) (b_v .i64 I 8)<|byteI J) else bd (idx bs ((H:Nat):Int)) fun L=>some<|b_Y .i64 (· ||| ·) (b_v .i64 I 8)<|byteI L)<|fun O=>some<|.next O)))
  (fun k=>((if e=true then bs.reverse else bs).take k).foldl b_O 0) (fun j hj=>by
   have G:=j_S ((if e=true then bs.reverse else bs).take j) (by simp;omega);have hbt:=n_U hj hb e
   rw [e_G b_O 0 (by rw [hl];exact hj)]
   cases e
   ·simp only [bF_,fF_] at hbt G ⊢
    rw [hbt,bd_some,bd_some,l_y G.1 G.2]
   ·simp only [fT_] at hbt G ⊢
    rw [hbt,bd_some,bd_some,l_y G.1 G.2])
 simp only [List.take_zero,List.foldl_nil] at h
 rw [h]
 simp only [bF_,fF_,bd_some,el_inl]
 unfold d_q
 rw [List.take_of_length_le (by omega)]
def c_V (n:Int)(c:UInt8):Int:=n+byteI c
def c_5 (bs:List UInt8):Int:=bs.foldl c_V 0 % 256
theorem l_A (bs:List UInt8)(k:Nat)(hk:k<=bs.length):0<=(bs.take k).foldl c_V 0/\(bs.take k).foldl c_V 0<=256 * k:=by
 induction k with
 | zero=>simp
 | succ k ih =>
  obtain ⟨h1,h2⟩:=ih (by omega)
  rw [e_G c_V 0 (show k<bs.length by omega)]
  have h3:=f_d bs[k];have h4:=f_e bs[k];generalize (bs.take k).foldl c_V 0=z at *
  unfold c_V
  omega
theorem l_B (bs:List UInt8)(hb:bs.length<=MX):f_H bs=some (c_5 bs):=by
 have hMX:MX=1048576:=rfl;unfold f_H c_5
 have h:=b_T (n:=bs.length) (σ:=Int) (ρ:=Int) (body:=(fun G=>(fun H=>bd (idx bs ((G:Nat):Int)) fun I=>some (.next (b_ H (byteI I)))))) (fun k=>(bs.take k).foldl c_V 0) (fun j hj=>by
  have hbd:=l_A bs j (by omega);have h3:=f_d bs[j];have h4:=f_e bs[j]
  rw [ix_ hj,bd_some,e_G c_V 0 hj,ia_ (by omega) (by omega)]
  rfl)
 simp only [List.take_zero,List.foldl_nil] at h
 rw [h]
 have hbd:=l_A bs bs.length<|Nat.le_refl _
 rw [List.take_of_length_le (Nat.le_refl _)] at hbd ⊢
 simp only [bd_some,el_inl]
 rw [m_8 hbd.1]
theorem n_V (bs:List UInt8):g_G bs=some (c_5 bs):=by
 have hMX:MX=1048576:=rfl;unfold g_G c_5
 have h:=b_T (n:=bs.length) (σ:=Int) (ρ:=Int) (body:=(fun G=>(fun H=>bd (idx bs ((G:Nat):Int)) fun I=>some (.next (b_L (b_ H (byteI I)) 256))))) (fun k=>(bs.take k).foldl c_V 0 % 256) (fun j hj=>by
  have hbd:=l_A bs j (by omega);have h3:=f_d bs[j];have h4:=f_e bs[j]
  rw [ix_ hj,bd_some,e_G c_V 0 hj,ia_ (by omega) (by omega),m_8 (by omega)]
  generalize (bs.take j).foldl c_V 0=z at *
  unfold c_V
  congr 2
  omega)
 simp only [List.take_zero,List.foldl_nil] at h
 rw [show ((0:Int) % 256)=0 from rfl] at h
 rw [h]
 rw [List.take_of_length_le (Nat.le_refl _)]
 rfl
def e_b (b:List UInt8)(t:UInt8):Nat->List UInt8->Nat->Option (List UInt8×Nat)
 | 0,_,_=>none
 | f+1,acc,p=>match b[p]? with
  | none=>none
  | some c=>if c=t then some (acc,p+1) else if c=92 then (match b[p+1]? with
    | none=>none
    | some c'=>e_b b t f (acc++[c']) (p+2)) else e_b b t f (acc++[c]) (p+1)
def j_U (o:Option (List UInt8×Nat)):Sum (List UInt8×Int) (List UInt8×Int×Bool)->Prop:=fun s=>match o with
 | some (c,q)=>s = .inr (c,(q:Int),true)
 | none=>∃x,s = .inl x
def d_r (b:List UInt8)(at_:Nat)(t:UInt8):Option (List UInt8×Nat):=e_b b t (b.length+1) [] at_
theorem g_b (a c:UInt8):(byteI a==byteI c)=decide (a=c):=by
 rw [Bool.eq_iff_iff];simp only [beq_iff_eq,dE_];exact g_l
theorem n_W (b:List UInt8)(t:UInt8)(hb:b.length<=MX)(step:List UInt8×Int->Option (Out (List UInt8×Int)<|List UInt8×Int×Bool))
  (hstep:∀acc (p:Nat),step (acc,(p:Int))=if decide ((p:Int)<(b.length:Int))=true then bd (idx b (p:Int)) fun I=>if ((byteI I)==(byteI t))=true then some (.ret (acc,b_ (p:Int) 1,true)) else bd (idx b (p:Int)) fun J=>bd (α:=Sum Int<|Out ((List UInt8)×Int)<|(List UInt8)×Int×Bool) (if ((byteI J)==(byteI (92:UInt8)))=true then if ((b_ (p:Int) 1)==(b.length:Int))=true then some (.inr<|.brk (acc,b_ (p:Int) 1)) else some (.inl<|b_ (p:Int) 1) else some (.inl (p:Int))) (el (fun H=>bd (idx b H) fun L=>bd (psh acc L) fun O=>some<|.next (O,b_ H 1)) some) else some (.brk (acc,(p:Int)))) :
  ∀f acc p,acc.length<=p->p<=b.length->b.length<p+f->∀n,f<=n->∃s,O_ step n (acc,(p:Int))=some s/\j_U (e_b b t f acc p) s:=by
 have hMX:MX=1048576:=rfl;have hLIM:LIM=4294967296:=rfl;intro f
 induction f with
 | zero=>intro acc p _ _ h;omega
 | succ f ih =>
  intro acc p hacc hp hf n hn;obtain ⟨m,rfl⟩:∃m,n=m+1:=⟨n - 1,by omega⟩;unfold O_ e_b
  rw [hstep]
  by_cases hlt:p<b.length
  ·rw [dT_ (show (p:Int)<(b.length:Int) by omega),ix_ hlt,gG_ hlt]
   simp only [fT_,bd_some,g_b]
   rw [ia_ (x:=(p:Int)) (by omega) (by omega)]
   by_cases ht:b[p]=t
   ·rw [dT_ ht,iP_ rfl,iP_ ht]
    exact ⟨_,rfl,by simp [j_U]⟩
   ·rw [dF_ ht,iN_ (by simp),iN_ ht]
    by_cases he:b[p]=92
    ·rw [dT_ he,iP_ rfl,iP_ he]
     by_cases hl:p+1<b.length
     ·have G:((p:Int)+1==(b.length:Int))=false:=by simp;omega
      rw [G,gG_ hl]
      simp only [bF_,fF_,bd_some,el_inl]
      rw [show (p:Int)+1=((p+1:Nat):Int) by omega,ix_ hl,bd_some,b_h (by omega),bd_some,ia_ (by omega) (by omega)]
      obtain ⟨s,h1,h2⟩:=ih (acc++[b[p+1]]) (p+2) (by simp;omega) (by omega) (by omega) m (by omega);refine ⟨s,?_,h2⟩
      rw [← h1]
      simp only
      congr 2
     ·have G:((p:Int)+1==(b.length:Int))=true:=by simp;omega
      rw [G,gN_ (by omega)]
      exact ⟨_,rfl,_,rfl⟩
    ·rw [dF_ he,iN_ (by simp),iN_ he]
     simp only [bd_some,el_inl]
     rw [ix_ hlt,bd_some,b_h (by omega),bd_some,ia_ (by omega) (by omega)]
     obtain ⟨s,h1,h2⟩:=ih (acc++[b[p]]) (p+1) (by simp;omega) (by omega) (by omega) m (by omega);refine ⟨s,?_,h2⟩
     rw [← h1]
     simp only
     congr 2
  ·rw [dF_ (show ¬(p:Int)<(b.length:Int) by omega),gN_ (by omega)]
   exact ⟨_,rfl,_,rfl⟩
def j_V (o:Option (List UInt8×Nat))(at_:Nat):List UInt8×Int×Bool:=match o with
 | some (c,q)=>(c,(q:Int),true)
 | none=>([],(at_:Int),false)
theorem n_X (n:Nat)(b:List UInt8)(at_:Nat)(t:UInt8)(hb:b.length<=MX)(ha:at_<=b.length)(hn:b.length+1<=n):g_N n b at_ t=some (j_V (d_r b at_ t) at_):=by
 unfold g_N d_r
 rw [dF_ (show ¬(at_:Int)<0 by omega),dF_ (show ¬(b.length:Int)<(at_:Int) by omega)]
 simp only [bF_,fF_,bd_some]
 obtain ⟨s,h1,h2⟩:=n_W b t hb (un2 fun G h=>if (decide<|h<(b.length:Int))=true then bd (idx b h) fun I=>if ((byteI I)==(byteI t))=true then some (.ret (G,b_ h 1,true)) else bd (idx b h) fun J=>bd (α:=Sum Int<|Out ((List UInt8)×Int)<|(List UInt8)×Int×Bool) (if ((byteI J)==(byteI (92:UInt8)))=true then if ((b_ h 1)==(b.length:Int))=true then some (.inr<|.brk (G,b_ h 1)) else some (.inl<|b_ h 1) else some (.inl h)) (el (fun H=>bd (idx b H) fun L=>bd (psh G L) fun O=>some<|.next (O,b_ H 1)) some) else some (.brk (G,h))) (fun acc p=>rfl) (b.length+1) [] at_ (by simp) ha (by omega) n hn
 rw [h1,bd_some]
 unfold j_U at h2
 unfold j_V
 cases ho:e_b b t (b.length+1) [] at_ with
 | none=>rw [ho] at h2;obtain ⟨x,rfl⟩:=h2;rfl
 | some x=>rw [ho] at h2;simp only at h2;subst h2;rfl
theorem s_l (n:Nat)(b:List UInt8)(at_:Nat)(t:UInt8)(hb:b.length<=MX)(ha:at_<=b.length)(hn:b.length+1<=n):h_X n b at_ t=some (j_V (d_r b at_ t) at_):=by
 unfold h_X d_r
 have hin:a_G (at_:Int) 0 (b.length:Int)=some true:=by
  rw [b_m,dT_ (show (0:Int)<=(at_:Int) by omega),dT_ (show (at_:Int)<=(b.length:Int) by omega)];rfl
 obtain ⟨s,h1,h2⟩:=n_W b t hb (un2 fun G h=>bd (α:=Bool) (bd (a_G (at_:Int) 0 (b.length:Int)) fun I=>if I=true then some (decide<|h<(b.length:Int)) else some false) (fun J=>if J=true then bd (idx b h) fun L=>if ((byteI L)==(byteI t))=true then some (.ret (G,b_ h 1,true)) else bd (idx b h) fun O=>bd (α:=Sum Int<|Out ((List UInt8)×Int)<|(List UInt8)×Int×Bool) (if ((byteI O)==(byteI (92:UInt8)))=true then if ((b_ h 1)==(b.length:Int))=true then some (.inr<|.brk (G,b_ h 1)) else some (.inl<|b_ h 1) else some (.inl h)) (el (fun H=>bd (idx b H) fun V=>bd (psh G V) fun W=>some<|.next (W,b_ H 1)) some) else some (.brk (G,h)))) (fun acc p=>by simp only [un2,hin,bd_some,fT_]) (b.length+1) [] at_ (by simp) ha (by omega) n hn
 rw [h1,bd_some]
 unfold j_U at h2
 unfold j_V
 cases ho:e_b b t (b.length+1) [] at_ with
 | none=>rw [ho] at h2;obtain ⟨x,rfl⟩:=h2;rfl
 | some x=>rw [ho] at h2;simp only at h2;subst h2;rfl
theorem j_W {b:List UInt8}{t:UInt8}:∀f acc p c q,e_b b t f acc p=some (c,q)->p<q/\q<=b.length
 | 0,_,_,_,_,h=>by cases h
 | f+1,acc,p,c,q,h=>by
  unfold e_b at h
  by_cases hlt:p<b.length
  ·rw [gG_ hlt] at h
   simp only at h
   split at h
   ·cases h;omega
   ·split at h
    ·by_cases hl:p+1<b.length
     ·rw [gG_ hl] at h
      have:=j_W f _ _ _ _ h
      omega
     ·rw [gN_ (by omega)] at h
      cases h
    ·have:=j_W f _ _ _ _ h
     omega
  ·rw [gN_ (by omega)] at h
   cases h
end Go.Vw
