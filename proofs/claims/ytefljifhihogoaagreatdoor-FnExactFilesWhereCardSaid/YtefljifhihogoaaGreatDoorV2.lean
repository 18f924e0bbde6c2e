import Derived.Test.YtefljifhihogoaaGreatDoorV1
namespace Go.Vw
set_option linter.unusedVariables false
open Go.RowKit Dat
def MX:Nat:=1048576
structure SmR (r:f_):Prop where
 name:r.name.b.length<=MX
 bytes:r.bytes.length<=MX
 names:r.names.length<=MX
 tags:r.tags.length<=MX
 kids:r.kids.length<=MX
 each:∀s∈r.names,s.b.length<=MX
structure SmD (d:d_):Prop where
 rules:d.rules.length<=MX
 each:∀r∈d.rules,SmR r
theorem v_o {α:Type}{c:Prop}[Decidable c](x y:α):(if c then some x else some y)=some (if c then x else y):=by grind
def h_d (c:UInt8):Bool:=decide (b_ (97:UInt8)<=b_ c) && decide (b_ c<=b_ (122:UInt8))
def b_2 (c:UInt8):Bool:=decide (b_ (48:UInt8)<=b_ c) && decide (b_ c<=b_ (57:UInt8))
theorem v_p (c:UInt8):h_d c=(decide (97<=(c.toNat:Int)) && decide ((c.toNat:Int)<=122)):=rfl
theorem h_e (c:UInt8):b_2 c=(decide (48<=(c.toNat:Int)) && decide ((c.toNat:Int)<=57)):=rfl
theorem n_t (k:Nat):((k:Int)==0)=(k==0):=by
 grind
def c_f (s:Str)(k:Nat):Bool:=match s.b[k]? with
 | some c=>!h_d c && (!b_2 c || k==0)
 | none=>false
def b_3 (s:Str):Bool:=!((List.range s.b.length).any (c_f s)) && (decide (1<=s.b.length) && decide (s.b.length<=12))
theorem b_z (x lo hi:Int):a_M x lo hi=some (decide (lo<=x) && decide (x<=hi)):=by
 unfold a_M;generalize decide (lo<=x)=a;generalize decide (x<=hi)=b
 cases a <;> rfl
theorem c_g (x lo hi:Int):c_B x lo hi=some (decide (lo<=x) && decide (x<=hi)):=by
 unfold c_B;generalize decide (lo<=x)=a;generalize decide (x<=hi)=b
 cases a <;> rfl
theorem l_v (s:Str):g_o s=some (b_3 s):=by
 unfold g_o
 rw [f_j (c_f s) false]
 .unfold b_3
  cases (List.range s.b.length).any (c_f s)
  .have G:decide ((1:Int)<=s.b.length)=decide (1<=s.b.length):=decide_eq_decide.2 (by omega);have H:decide ((s.b.length:Int)<=12)=decide (s.b.length<=12):=decide_eq_decide.2 (by omega)
   simp_all [a_,W_,b_z]
  .rfl
 .intro k hk _
  simp only [ix_ hk,a_,c_f,gG_ hk,h_d,b_2,n_t]
  generalize decide (b_ (97:UInt8)<=b_ s.b[k])=a;generalize decide (b_ s.b[k]<=b_ (122:UInt8))=b;generalize decide (b_ (48:UInt8)<=b_ s.b[k])=c;generalize decide (b_ s.b[k]<=b_ (57:UInt8))=d;generalize (k==0)=e
  cases a <;> cases b <;> cases c <;> cases d <;> cases e <;> rfl
theorem l_w (n:Nat)(hn:14<=n)(s:Str):f_m n s=some (b_3 s):=by
 unfold f_m
 by_cases h1:s.b.length<1
 .have:b_3 s=false:=by grind [b_3]
  simp_all
 by_cases h2:12<s.b.length
 .have:b_3 s=false:=by grind [b_3]
  rw [this];simp [show ¬((s.b.length:Int)<1) by omega,show ((12:Int)<s.b.length) by omega]
 have V:decide ((s.b.length:Int)<1)=false:=by grind
 have W:decide ((12:Int)<(s.b.length:Int))=false:=by grind
 rw [V,W]
 simp only [bF_,fF_,a_]
 have hstep:∀k,k<s.b.length->c_f s k=false->∀{ρ:Type}(x:Nat->ρ),x (k+(dec s k).2)=x (k+1):=by
  intro k hk hb ρ x
  rw [s_U hk]
  grind [c_f,h_d,b_2]
 have hgood:∀k (hk:k<s.b.length),c_f s k=(bd (α:=Bool) (if (decide<|97<=((dec s k).1)) then some (decide<|((dec s k).1)<=122) else some false) (λH=>bd (α:=Bool) (if (decide<|48<=((dec s k).1)) then some (decide<|((dec s k).1)<=57) else some false) (λI=>bd (α:=Bool) (if (!H) then if (!I) then some true else some ((k:Int)==0) else some false) some))).getD false /\
   (bd (α:=Bool) (if (decide<|97<=((dec s k).1)) then some (decide<|((dec s k).1)<=122) else some false) (λH=>bd (α:=Bool) (if (decide<|48<=((dec s k).1)) then some (decide<|((dec s k).1)<=57) else some false) (λI=>bd (α:=Bool) (if (!H) then if (!I) then some true else some ((k:Int)==0) else some false) (λJ=>if J then some (.ret false) else some (.next<|k+(dec s k).2)))))=some (if c_f s k then (.ret false:Out Nat Bool) else .next (k+(dec s k).2)):=by
  intro k hk;have hb':c_f s k=(!h_d s.b[k] && (!b_2 s.b[k] || k==0)):=by grind [c_f]
  rw [hb']
  rw [v_p,h_e]
  rw [n_t]
  by_cases ha:s.b[k].toNat<128
  .rw [s_U hk ha]
   simp only
   generalize (s.b[k].toNat:Int)=c;generalize decide (97<=c)=a;generalize decide (c<=122)=b;generalize decide (48<=c)=c';generalize decide (c<=57)=d;generalize (k==0)=e
   cases a <;> cases b <;> cases c' <;> cases d <;> cases e <;> exact ⟨rfl,rfl⟩
  .have hd:=y_l hk (by omega);generalize (dec s k).1=c at hd
   generalize (dec s k).2=Y;have g1:97<=c:=by omega
   have O:¬c<=122:=by omega
   have g3:48<=c:=by omega
   have g4:¬c<=57:=by omega
   have k2:¬(s.b[k].toNat:Int)<=122:=by omega
   have k4:¬(s.b[k].toNat:Int)<=57:=by omega
   simp_all
 have hit:F_ (σ:=Nat) (ρ:=Bool) (λG=>if (decide<|G<s.b.length) then bd (α:=Bool) (if (decide<|97<=((dec s G).1)) then some (decide<|((dec s G).1)<=122) else some false) (λH=>bd (α:=Bool) (if (decide<|48<=((dec s G).1)) then some (decide<|((dec s G).1)<=57) else some false) (λI=>bd (α:=Bool) (if (!H) then if (!I) then some true else some ((G:Int)==0) else some false) (λJ=>if J then some (.ret false) else some (.next<|G+(dec s G).2)))) else some (.brk G)) n 0=some (if (List.range s.b.length).any (c_f s) then .inr false else .inl s.b.length):=by
  cases hf:(List.range s.b.length).find? (c_f s) with
  | none =>
   have hall:∀k,k<s.b.length->c_f s k=false:=λk hk=>by grind
   have hany:(List.range s.b.length).any (c_f s)=false:=by grind
   rw [hany]
   refine g_l (λk=>k) (j0:=s.b.length) (by omega) (λk hk=>?_) ?_
   .simp_all
   .simp
  | some k =>
   have hany:(List.range s.b.length).any (c_f s)=true:=List.any_eq_true.2 ⟨k,List.mem_of_find?_eq_some hf,List.find?_some hf⟩
   rw [hany]
   obtain ⟨hp,as,bs,hl,has⟩:=List.find?_eq_some_iff_append.1 hf;have hk:k<s.b.length:=QAX.1<|List.mem_of_find?_eq_some hf
   have hbef:∀j,j<k->c_f s j=false:=by
    intro j hj;have hlen:as.length<s.b.length:=by have:=congrArg List.length hl;grind
    have hke:as.length=k:=by
     have h2:(List.range s.b.length)[as.length]? = some k:=by grind
     grind
    have hj':j<as.length:=by omega
    have h2:(List.range s.b.length)[j]? = some (as[j]):=by rw [hl,List.getElem?_append_left hj'];simp
    rw [List.getElem?_range (by omega)] at h2
    have h3:=has as[j] (gE_ hj')
    rw [← QAS h2] at h3
    simpa using h3
   refine s_T (λk=>k) (j0:=k) (by omega) (λj hj=>?_) ?_
   .have L:j<s.b.length:=by omega
    simp only [L,decide_true,fT_]
    rw [(hgood j L).2,hbef j hj]
    simp only [bF_,fF_]
    rw [hstep j L (hbef j hj) (λx=>some<|Out.next x)]
   .simp only [hk,decide_true,fT_]
    rw [(hgood k hk).2,hp]
    rfl
 rw [hit]
 unfold b_3;have g1:decide (1<=s.b.length)=true:=dT_ (by omega);have O:decide (s.b.length<=12)=true:=dT_ (by omega)
 rw [g1,O]
 cases (List.range s.b.length).any (c_f s) <;> rfl
def plain (r:f_)(a b c d:Bool)(k:Int):Bool:=(a || r.size==0) && ((b || (r.bytes.length:Int)==0) && ((c || (r.names.length:Int)==0) && ((d || (r.tags.length:Int)==0) && (decide (k<0) || (r.kids.length:Int)==k))))
theorem n_u (r:f_)(a b c d:Bool)(k:Int):d_s r a b c d k=some (plain r a b c d k):=by
 unfold d_s plain;generalize (r.size==0)=G;generalize ((r.bytes.length:Int)==0)=H;generalize ((r.names.length:Int)==0)=I;generalize ((r.tags.length:Int)==0)=J;generalize decide (k<0)=L;generalize ((r.kids.length:Int)==k)=O
 cases a <;> cases G <;> try rfl
 all_goals cases b <;> cases H <;> try rfl
 all_goals cases c <;> cases I <;> try rfl
 all_goals cases d <;> cases J <;> try rfl
 all_goals cases L <;> rfl
theorem v_q (r:f_)(a b c d:Bool)(k:Int):d_q r a b c d k=some (plain r a b c d k && (!r.little || r.kind==1)):=by
 unfold d_q plain;generalize (r.size==0)=G;generalize ((r.bytes.length:Int)==0)=H;generalize ((r.names.length:Int)==0)=I;generalize ((r.tags.length:Int)==0)=J;generalize decide (k<0)=L;generalize ((r.kids.length:Int)==k)=O;generalize (r.kind==1)=W;generalize r.little=V
 cases a <;> cases G <;> try rfl
 all_goals cases b <;> cases H <;> try rfl
 all_goals cases c <;> cases I <;> try rfl
 all_goals cases d <;> cases J <;> try rfl
 all_goals cases L <;> cases O <;> cases V <;> rfl
def lim (rs:List f_)(i:Int):Int:=match idx rs i with
 | some r=>if r.kind=1/\1<=r.size/\r.size<=4 then 256 ^ r.size.toNat - 1 else -1
 | none=>-1
theorem q_7 {α:Type}{l:List α}{i:Int}(h:¬(0<=i/\i<l.length)):idx l i=none:=by
 grind [idx]
theorem n_v {s:Int}(h1:1<=s)(h4:s<=4):w_ (b_I .i64 1<|b_t 8 s) 1=256 ^ s.toNat - 1/\nn (b_t 8 s)=some ():=by
 have:s=1∨s=2∨s=3∨s=4:=by omega
 rcases this with rfl | rfl | rfl | rfl <;> exact ⟨by decide,by decide⟩
theorem i_3 (d:d_)(i:Int):e_j d i=some (lim d.rules i):=by
 unfold e_j g_u lim
 by_cases h:0<=i/\i<d.rules.length
 .obtain ⟨G,h1⟩:=h
  rw [dT_ G,dT_ h1,h_r G (by omega)]
  generalize d.rules[i.toNat]=r
  simp only [fT_,a_,c_g]
  by_cases hk:r.kind=1
  .by_cases H:1<=r.size
   .by_cases I:r.size<=4
    .simp_all [n_v]
    .simp [hk,H,I]
   .simp [hk,H]
  simp_all
 .rw [q_7 h]
  by_cases G:0<=i
  .simp_all
  .simp [G]
theorem l_x (d:d_)(i:Int)(hd:d.rules.length<=MX):f_l d i=some (lim d.rules i):=by
 unfold f_l lim
 rw [b_z]
 have hMX:MX=1048576:=rfl;have e:w_ (d.rules.length:Int) 1=(d.rules.length:Int) - 1:=a_L (by omega) (by omega)
 rw [e]
 by_cases h:0<=i/\i<d.rules.length
 .obtain ⟨G,h1⟩:=h
  rw [dT_ G,dT_ (show i<=(d.rules.length:Int) - 1 by omega),h_r G (by omega)]
  generalize d.rules[i.toNat]=r
  simp only [a_,b_z,e_K]
  by_cases hk:r.kind=1
  .by_cases H:1<=r.size
   .by_cases I:r.size<=4
    .simp_all [n_v]
    .simp [hk,H,I]
   .simp [hk,H]
  simp_all
 .rw [q_7 h]
  by_cases G:0<=i
  .have h1:¬i<=(d.rules.length:Int) - 1:=λh1=>h ⟨G,by omega⟩
   simp_all
  .simp [G]
def e_5 (l:List Str)(s:Str):Bool:=l.any<|λx=>x.b==s.b
theorem q_8 (l:List Str)(s:Str):h_A l s=some (e_5 l s):=by
 unfold h_A e_5
 rw [e_H (λx=>x.b==s.b) true (λk hk=>by simp only [ix_ hk,a_];grind)]
 cases l.any (λx=>x.b==s.b) <;> rfl
theorem v_r (l:List Str)(s:Str):j_P l s=some (e_5 l s):=by
 unfold j_P e_5
 rw [e_H (λx=>x.b==s.b) true (λk hk=>by simp only [ix_ hk,a_];grind)]
 cases l.any (λx=>x.b==s.b) <;> rfl
def d_h (l:List Str)(k:Nat):Bool:=match l[k]? with
 | some s=>!b_3 s || e_5 (l.take k) s
 | none=>false
def e_6 (m:Int)(l:List Int)(k:Nat):Bool:=match l[k]? with
 | some t=>!(decide (0<=t) && decide (t<=m)) || (decide (0<(k:Int)) && decide (t<=l.getD (k - 1) 0))
 | none=>false
def c_X (n:Nat):Bool:=decide (1<=(n:Int)) && decide ((n:Int)<=8)
def p_ (r:f_):Int:=r.kids.getD 0 0
def a_m (rs:List f_)(r:f_):Bool :=
 if r.kind==1 then plain r true false false false 0 && ((decide (1<=r.size) && decide (r.size<=4)) && (!r.little || decide (1<r.size)))
 else if r.kind==2 then plain r false true false false 0 && (decide (1<=(r.bytes.length:Int)) && decide ((r.bytes.length:Int)<=16))
 else if r.kind==3 then plain r true false false false 0 && (decide (1<=r.size) && decide (r.size<=64))
 else if r.kind==4 then plain r false false false false 1 && decide (0<lim rs (p_ r))
 else if r.kind==5 then plain r false false false false 2 && decide (0<lim rs (p_ r))
 else if r.kind==6 then plain r false false true false r.names.length && (!((List.range r.names.length).any (d_h r.names)) && c_X r.names.length)
 else if r.kind==7 then plain r false false false true ((r.tags.length:Int)+1) && (c_X r.tags.length && !((List.range r.tags.length).any (e_6 (lim rs<|p_ r) r.tags)))
 else if r.kind==8 then plain r false false false false 1
 else if r.kind==9 then plain r false false false false 1
 else if r.kind==10 then plain r false true false false 0 && ((r.bytes.length:Int)==1 && b_ (r.bytes.getD 0 0) != b_ (92:UInt8))
 else false
theorem e_7 {r:f_}{a b c d:Bool}{k:Int}(h:plain r a b c d k=true)(hk:0<=k):(r.kids.length:Int)=k:=by
 grind [plain]
theorem q_9 (r:f_)(a b c d:Bool)(k:Int):plain r a b c d k=(plain r a b c d (-1) && (decide (k<0) || (r.kids.length:Int)==k)):=by
 grind [plain]
theorem n_w {α:Type}{l:List α}{k:Nat}(h:k<=l.length):slc l 0 (k:Int)=some (l.take k):=by
 simp_all [d_O]
theorem q_a (rs:List f_)(i:Int):lim rs i = -1∨0<lim rs i:=by
 unfold lim
 cases idx rs i with
 | none=>simp
 | some r =>
  simp only
  by_cases h:r.kind=1/\1<=r.size/\r.size<=4
  .rw [iP_ h]
   right
   obtain ⟨_,h1,h4⟩:=h;have:r.size=1∨r.size=2∨r.size=3∨r.size=4:=by omega
   grind
  omega
theorem a_x {α:Type}{l:List α}{k:Nat}{x:α}(h:k<l.length):l.getD k x=l[k]:=by grind
theorem v_s (n:Nat)(hn:14<=n)(l:List Str):k_ (σ:=Unit) (ρ:=Bool) (λG=>(λ(_:Unit)=>bd (idx l ((G:Nat):Int)) λH=>bd (α:=Bool) (bd (f_m n H) λI=>if (!I) then some true else bd (slc l 0 ((G:Nat):Int)) λJ=>bd (h_A J H) λL=>some L) (λO=>if O then some (.ret false) else some (.next ())))) l.length 0 ()=some (if (List.range l.length).any (d_h l) then .inr false else .inl ()):=by
 refine f_j (d_h l) false<|λk hk _=>?_
 simp only [ix_ hk,a_,l_w n hn,n_w<|QAO hk,q_8,d_h,gG_ hk]
 generalize b_3 l[k]=a;generalize e_5 (l.take k) l[k]=b
 cases a <;> cases b <;> rfl
theorem v_t (l:List Str):j_Q l=some (!((List.range l.length).any (d_h l)) && c_X l.length):=by
 unfold j_Q
 rw [f_j (d_h l) false]
 .rw [b_z]
  unfold c_X
  cases (List.range l.length).any (d_h l) <;> rfl
 .intro k hk _
  simp only [ix_ hk,a_,l_v,n_w<|QAO hk,v_r,d_h,gG_ hk]
  generalize b_3 l[k]=a;generalize e_5 (l.take k) l[k]=b
  cases a <;> cases b <;> rfl
theorem v_u (n:Nat)(hn:14<=n)(r:f_):k_3 n r=some (plain r false false true false r.names.length && (!((List.range r.names.length).any (d_h r.names)) && c_X r.names.length)):=by
 unfold k_3
 rw [v_s n hn,n_u,c_g,q_9 r _ _ _ _ r.names.length]
 have G:decide ((r.names.length:Int)<0)=false:=dF_ (by omega)
 rw [G]
 unfold c_X;generalize (List.range r.names.length).any (d_h r.names)=a;generalize plain r false false true false (-1)=b
 by_cases h:(r.kids.length:Int)=r.names.length
 .rw [h]
  have H:((r.names.length:Int)==(r.names.length:Int))=true:=by simp
  have I:((r.names.length:Int) != (r.names.length:Int))=false:=by simp
  rw [H,I]
  generalize (decide (1<=(r.names.length:Int)) && decide ((r.names.length:Int)<=8))=c
  cases a <;> cases b <;> cases c <;> rfl
 simp_all
theorem l_y {m:Int}{l:List Int}{k:Nat}(hk:k<l.length):e_6 m l k=(!(decide (0<=l[k]) && decide (l[k]<=m)) || (decide (0<(k:Int)) && decide (l[k]<=l.getD (k - 1) 0))):=by
 grind [e_6]
theorem q_b {l:List Int}{k:Nat}(hk:k<l.length)(G:0<k):idx l (w_ (k:Int) 1)=some (l.getD (k - 1) 0)∨¬l.length<=MX:=by
 by_cases hM:l.length<=MX
 .left
  have hMX:MX=1048576:=rfl
  grind [a_L,h_r,a_x]
 omega
theorem v_v (m:Int)(l:List Int)(hl:l.length<=MX):k_ (σ:=Unit) (ρ:=Bool) (λG=>(λ(_:Unit)=>bd (idx l ((G:Nat):Int)) λH=>bd (α:=Bool) (bd (c_B H 0 m) λI=>if (!I) then some true else if (decide<|0<((G:Nat):Int)) then bd (idx l<|w_ ((G:Nat):Int) 1) λJ=>some (decide<|H<=J) else some false) (λL=>if L then some (.ret false) else some (.next ())))) l.length 0 ()=some (if (List.range l.length).any (e_6 m l) then .inr false else .inl ()):=by
 refine f_j (e_6 m l) false<|λk hk _=>?_
 simp only [ix_ hk,a_,c_g,l_y hk]
 grind [decide,decide,decide_eq_false,q_b,decide_eq_true,a_]
theorem b_W {r:f_}(h:0<r.kids.length):idx r.kids 0=some (p_ r):=by
 grind [p_,b_j,a_x]
theorem v_w (d:d_)(r:f_)(ht:r.tags.length<=MX):k_4 d r=some (plain r false false false true ((r.tags.length:Int)+1) && (c_X r.tags.length && !((List.range r.tags.length).any (e_6 (lim d.rules<|p_ r) r.tags)))):=by
 have hMX:MX=1048576:=rfl;unfold k_4
 rw [n_u,c_g,ia_ (x:=(r.tags.length:Int)) (by omega) (by omega)]
 unfold c_X
 cases hp:plain r false false false true ((r.tags.length:Int)+1)
 .rfl
 .have hk:=e_7 hp (by omega)
  rw [b_W (by omega)]
  simp only [a_,nT_,bF_,fF_,i_3,v_v _ _ ht]
  by_cases G:1<=(r.tags.length:Int)/\(r.tags.length:Int)<=8
  .rw [dT_ G.1,dT_ G.2]
   cases ha:(List.range r.tags.length).any (e_6 (lim d.rules<|p_ r) r.tags)
   .have hpos:0<lim d.rules (p_ r):=by
     rcases q_a d.rules (p_ r) with h | h
     .exfalso
      have H:0<r.tags.length:=by omega
      have:=QAi.1 ha 0<|QAX.2 H
      rw [l_y H,h] at this
      grind
     omega
    simp_all
   .rfl
  grind
theorem v_x (d:d_)(r:f_)(hd:d.rules.length<=MX)(ht:r.tags.length<=MX):j_R d r=some (((r.kids.length:Int)==(r.tags.length:Int)+1) && (c_X r.tags.length && !((List.range r.tags.length).any (e_6 (lim d.rules<|p_ r) r.tags)))):=by
 have hMX:MX=1048576:=rfl;unfold j_R
 rw [ia_ (x:=(r.tags.length:Int)) (by omega) (by omega),b_z]
 unfold c_X
 by_cases hk:(r.kids.length:Int)=(r.tags.length:Int)+1
 .have G:((r.kids.length:Int)==(r.tags.length:Int)+1)=true:=by grind
  have H:((r.kids.length:Int) != (r.tags.length:Int)+1)=false:=by grind
  rw [G,H]
  rw [f_j (e_6 (lim d.rules<|p_ r) r.tags) false]
  .generalize (List.range r.tags.length).any (e_6 (lim d.rules<|p_ r) r.tags)=a;generalize (decide (1<=(r.tags.length:Int)) && decide ((r.tags.length:Int)<=8))=c
   cases a <;> cases c <;> rfl
  .intro k hk' _
   simp only [ix_ hk',a_,b_W (show 0<r.kids.length by omega),l_x d _ hd,b_z,l_y hk']
   by_cases I:0<k
   .have e:=(q_b hk' I).resolve_right (λh=>h ht)
    grind [decide,decide,lim,p_,decide,decide,a_,decide_eq_true]
   .have J:decide (0<(k:Int))=false:=dF_ (by omega)
    rw [J]
    generalize decide (0<=r.tags[k])=a;generalize decide (r.tags[k]<=lim d.rules (p_ r))=b
    cases a <;> cases b <;> rfl
 simp_all
theorem v_y (n:Nat)(hn:14<=n)(d:d_)(r:f_)(ht:r.tags.length<=MX):k_5 n d r=some (a_m d.rules r):=by
 unfold k_5 a_m
 rw [v_u n hn,v_w d r ht]
 simp only [n_u,c_g,i_3,a_]
 cases (r.kind==1) with
 | true =>
  generalize plain r true false false false 0=a;generalize (decide (1<=r.size) && decide (r.size<=4))=b;generalize decide (1<r.size)=c;generalize r.little=e
  cases a <;> cases b <;> cases c <;> cases e <;> rfl
 | false =>
 cases (r.kind==2) with
 | true =>
  generalize plain r false true false false 0=a
  cases a <;> rfl
 | false =>
 cases (r.kind==3) with
 | true =>
  generalize plain r true false false false 0=a
  cases a <;> rfl
 | false =>
 cases (r.kind==4) with
 | true =>
  cases hp:plain r false false false false 1
  .rfl
  .have hk:=e_7 hp (by omega)
   rw [b_W (by omega)]
   rfl
 | false =>
 cases (r.kind==5) with
 | true =>
  cases hp:plain r false false false false 2
  .rfl
  .have hk:=e_7 hp (by omega)
   rw [b_W (by omega)]
   rfl
 | false =>
 cases (r.kind==6) with
 | true=>rfl
 | false =>
 cases (r.kind==7) with
 | true=>rfl
 | false =>
 cases (r.kind==8) with
 | true=>rfl
 | false =>
 cases (r.kind==9) with
 | true=>rfl
 | false =>
 cases (r.kind==10) with
 | true =>
  generalize plain r false true false false 0=a
  by_cases hb:(r.bytes.length:Int)=1
  .have e:((r.bytes.length:Int)==1)=true:=by grind
   rw [e,b_j (show 0<r.bytes.length by omega),a_x (show 0<r.bytes.length by omega)]
   cases a <;> rfl
  simp_all
 | false=>rfl
theorem v_z (d:d_)(r:f_)(hd:d.rules.length<=MX)(ht:r.tags.length<=MX):j_S d r=some (a_m d.rules r && (!r.little || r.kind==1)):=by
 unfold j_S a_m
 rw [v_x d r hd ht,v_t]
 simp only [v_q,b_z,l_x d _ hd,a_]
 have G:plain r false false false true ((r.tags.length:Int)+1)=(plain r false false false true (-1) && ((r.kids.length:Int)==(r.tags.length:Int)+1)):=by
  grind [q_9,decide_eq_false]
 rw [G]
 cases (r.kind==1) with
 | true =>
  generalize plain r true false false false 0=a;generalize (decide (1<=r.size) && decide (r.size<=4))=b;generalize decide (1<r.size)=c;generalize r.little=e
  cases a <;> cases b <;> cases c <;> cases e <;> rfl
 | false =>
 generalize r.little=e
 cases (r.kind==2) with
 | true =>
  generalize plain r false true false false 0=a;generalize (decide (1<=(r.bytes.length:Int)) && decide ((r.bytes.length:Int)<=16))=b
  cases a <;> cases e <;> cases b <;> rfl
 | false =>
 cases (r.kind==3) with
 | true =>
  generalize plain r true false false false 0=a;generalize (decide (1<=r.size) && decide (r.size<=64))=b
  cases a <;> cases e <;> cases b <;> rfl
 | false =>
 cases (r.kind==4) with
 | true =>
  grind [decide,lim,p_,plain,e_7,b_W,a_]
 | false =>
 cases (r.kind==5) with
 | true =>
  grind [decide,lim,p_,plain,e_7,b_W,a_]
 | false =>
 cases (r.kind==6) with
 | true =>
  generalize plain r false false true false r.names.length=a;generalize (!((List.range r.names.length).any (d_h r.names)) && c_X r.names.length)=b
  cases a <;> cases e <;> cases b <;> rfl
 | false =>
 cases (r.kind==7) with
 | true =>
  generalize plain r false false false true (-1)=a;generalize ((r.kids.length:Int)==(r.tags.length:Int)+1)=b;generalize (c_X r.tags.length && !((List.range r.tags.length).any (e_6 (lim d.rules<|p_ r) r.tags)))=c
  cases a <;> cases e <;> cases b <;> cases c <;> rfl
 | false =>
 cases (r.kind==8) with
 | true =>
  rfl
 | false =>
 cases (r.kind==9) with
 | true =>
  rfl
 | false =>
 cases (r.kind==10) with
 | true =>
  generalize plain r false true false false 0=a
  by_cases hb:(r.bytes.length:Int)=1
  .have e:((r.bytes.length:Int)==1)=true:=by grind
   rw [e,b_j (show 0<r.bytes.length by omega),a_x (show 0<r.bytes.length by omega)]
   simp only [a_]
   generalize (b_ r.bytes[0] != b_ (92:UInt8))=b
   rename_i e'
   cases a <;> cases e' <;> cases b <;> rfl
  simp_all
 | false=>rfl
def f_c (i:Nat)(k:Int):Bool:=decide (k<0) || decide ((i:Int)<=k)
def e_A (rs:List f_)(i:Nat):Bool:=match rs[i]? with
 | none=>false
 | some r=>(b_3 r.name && !(r.little && r.kind != 1)) && (!((rs.take i).any (λx=>x.name.b==r.name.b)) && (!(r.kids.any<|f_c i) && a_m rs r))
def D_ (d:d_):Bool:=(decide (1<=(d.rules.length:Int)) && decide ((d.rules.length:Int)<=24)) && !((List.range d.rules.length).any (λi=>!e_A d.rules i))
theorem v_A (n:Nat)(hn:14<=n)(d:d_)(hd:SmD d){i:Nat}(hi:i<d.rules.length):k_6 n d i=some (e_A d.rules i):=by
 unfold k_6 g_u e_A;have hr:=hd.each d.rules[i] (gE_ hi)
 rw [dT_ (show (0:Int)<=(i:Int) by omega),dT_ (show (i:Int)<(d.rules.length:Int) by omega),gG_ hi,ix_ hi]
 simp only [fT_,a_,l_w n hn,n_w<|QAO hi,v_y n hn d _ hr.tags]
 generalize d.rules[i]=r;have O:=e_H (body:=(λH=>(λ(_:Unit)=>bd (idx (d.rules.take i) ((H:Nat):Int)) λI=>if (I.name.b==r.name.b) then some (Out.ret false:Out Unit Bool) else some (.next ())))) (l:=d.rules.take i) (λx=>x.name.b==r.name.b) false (λk hk=>by simp only [ix_ hk,a_];grind)
 have V:=e_H (body:=(λJ=>(λ(_:Unit)=>bd (idx r.kids ((J:Nat):Int)) λG=>bd (α:=Bool) (if (decide (G<0)) then some true else some (decide ((i:Int)<=G))) (λL=>if L then some (Out.ret false:Out Unit Bool) else some (.next ()))))) (l:=r.kids) (f_c i) false (λk hk=>by
  simp only [ix_ hk,a_]
  rw [show f_c i r.kids[k]=(decide (r.kids[k]<0) || decide ((i:Int)<=r.kids[k])) from rfl]
  generalize decide (r.kids[k]<0)=a;generalize decide ((i:Int)<=r.kids[k])=b
  cases a <;> cases b <;> rfl)
 rw [O,V]
 generalize b_3 r.name=a;generalize r.little=b;generalize (r.kind != 1)=c;generalize (d.rules.take i).any (λx=>x.name.b==r.name.b)=x;generalize r.kids.any (f_c i)=y;generalize a_m d.rules r=z
 cases a <;> cases b <;> cases c <;> cases x <;> cases y <;> rfl
theorem v_B (d:d_)(hd:SmD d){i:Nat}(hi:i<d.rules.length):j_T d i=some (e_A d.rules i):=by
 have hMX:MX=1048576:=rfl;have hdl:=hd.rules;unfold j_T e_A;have hr:=hd.each d.rules[i] (gE_ hi)
 rw [b_z,a_L (x:=(d.rules.length:Int)) (by omega) (by omega),a_L (x:=(i:Int)) (by omega) (by omega),dT_ (show (0:Int)<=(i:Int) by omega),dT_ (show (i:Int)<=(d.rules.length:Int) - 1 by omega),gG_ hi,ix_ hi]
 simp only [a_,l_v,v_z d _ hd.rules hr.tags]
 generalize d.rules[i]=r;have hl:((i:Int)).toNat=(d.rules.take i).length:=by grind
 have O:k_ (σ:=Unit) (ρ:=Bool) (λG=>(λ(_:Unit)=>bd (idx d.rules ((G:Nat):Int)) λH=>if (H.name.b==r.name.b) then some (.ret false) else some (.next ()))) (i:Int).toNat 0 ()=some (if (d.rules.take i).any (λx=>x.name.b==r.name.b) then .inr false else .inl ()):=by
  rw [hl]
  refine e_H (λx:f_=>x.name.b==r.name.b) false<|λk hk=>?_;have hk':k<d.rules.length:=by omega
  simp only [ix_ hk',a_,List.getElem_take]
  grind
 have V:k_ (σ:=Unit) (ρ:=Bool) (λI=>(λ(_:Unit)=>bd (idx r.kids ((I:Nat):Int)) λJ=>bd (a_M J 0<|(i:Int) - 1) λL=>if (!L) then some (.ret false) else some (.next ()))) r.kids.length 0 ()=some (if r.kids.any (f_c i) then .inr false else .inl ()):=by
  refine e_H (f_c i) false<|λk hk=>?_
  simp only [ix_ hk,a_,b_z]
  grind [f_c,decide]
 rw [O,V]
 have W:(!(r.little && r.kind != 1))=(!r.little || r.kind==1):=by
  grind
 rw [W]
 generalize b_3 r.name=a;generalize (!r.little || r.kind==1)=b;generalize (d.rules.take i).any (λx=>x.name.b==r.name.b)=x;generalize r.kids.any (f_c i)=y;generalize a_m d.rules r=z
 cases a <;> cases b <;> cases x <;> cases y <;> cases z <;> rfl
theorem n_x (n:Nat)(hn:14<=n)(d:d_)(hd:SmD d):h_B n d=some (D_ d):=by
 unfold h_B D_
 rw [c_g,f_j (λi=>!e_A d.rules i) false (λk hk _=>by rw [v_A n hn d hd hk];simp only [a_];grind)]
 generalize (decide (1<=(d.rules.length:Int)) && decide ((d.rules.length:Int)<=24))=a;generalize (List.range d.rules.length).any (λi=>!e_A d.rules i)=b
 cases a <;> cases b <;> rfl
theorem l_z (d:d_)(hd:SmD d):h_w d=some (D_ d):=by
 unfold h_w D_
 rw [b_z,f_j (λi=>!e_A d.rules i) false (λk hk _=>by rw [v_B d hd hk];simp only [a_];grind)]
 generalize (decide (1<=(d.rules.length:Int)) && decide ((d.rules.length:Int)<=24))=a;generalize (List.range d.rules.length).any (λi=>!e_A d.rules i)=b
 cases a <;> cases b <;> rfl
def b_A (d:d_)(r:Int):Bool:=decide (0<=r) && decide (r<(d.rules.length:Int))
theorem l_A (n:Nat)(hn:14<=n)(d:d_)(hd:SmD d)(r:Int):g_v n d r=some (D_ d && b_A d r):=by
 unfold g_v g_u b_A
 rw [n_x n hn d hd]
 generalize D_ d=a;generalize decide (0<=r)=b;generalize decide (r<(d.rules.length:Int))=c
 cases a <;> cases b <;> rfl
theorem q_c (d:d_)(hd:SmD d)(r:Int):i_y d r=some (D_ d && b_A d r):=by
 have hMX:MX=1048576:=rfl;have hdl:=hd.rules;unfold i_y b_A
 rw [l_z d hd,b_z,a_L (x:=(d.rules.length:Int)) (by omega) (by omega),show decide (r<=(d.rules.length:Int) - 1)=decide (r<(d.rules.length:Int)) from decide_eq_decide.2 (by omega)]
 generalize D_ d=a;generalize decide (0<=r)=b;generalize decide (r<(d.rules.length:Int))=c
 cases a <;> cases b <;> cases c <;> rfl
end Go.Vw
namespace Go.Vw
open Go.RowKit Dat
def b_X (n:Int)(c:UInt8):Int:=n * 256+b_ c
def e_9 (bs:Bt)(little:Bool):Int:=(if little then bs.reverse else bs).foldl b_X 0
theorem g_1 {α β:Type}(f:β->α->β)(a:β){l:List α}{k:Nat}(h:k<l.length):(l.take<|k+1).foldl f a=f ((l.take k).foldl f a) l[k]:=by
 grind [List.take_add_one,List.getElem?_eq_getElem,Option.toList_some]
theorem q_J (l:Bt):0<=l.foldl b_X 0/\l.foldl b_X 0<256 ^ l.length:=by
 have:∀k,k<=l.length->0<=(l.take k).foldl b_X 0/\(l.take k).foldl b_X 0<256 ^ k:=by
  intro k
  induction k with
  | zero=>simp
  | succ k ih =>
   intro hk;obtain ⟨h1,h2⟩:=ih (by omega)
   rw [g_1 b_X 0 (show k<l.length by omega)]
   have h3:=g_U l[k]
   grind [b_X,b_X]
 grind
theorem l_F (l:Bt)(h:l.length<=4):0<=l.foldl b_X 0/\l.foldl b_X 0<4294967296:=by
 obtain ⟨h1,h2⟩:=q_J l;refine ⟨h1,?_⟩;have:l.length=0∨l.length=1∨l.length=2∨l.length=3∨l.length=4:=by omega
 grind
theorem w_8 (bs:Bt)(e:Bool)(h:bs.length<=4):0<=e_9 bs e/\e_9 bs e<4294967296:=by
 unfold e_9
 cases e
 .simp_all [l_F]
 .exact l_F bs.reverse (by grind)
theorem q_K {bs:Bt}{k:Nat}(hk:k<bs.length)(hb:bs.length<=4)(e:Bool):idx bs (if e then w_ (w_ (bs.length:Int) 1) (k:Int) else (k:Int))=some ((if e then bs.reverse else bs)[k]'(by grind)):=by
 cases e
 .exact ix_ hk
 .rw [iP_ rfl,a_L (x:=(bs.length:Int)) (by omega) (by omega),a_L (by omega) (by omega),h_r (by omega) (by omega)]
  simp
theorem q_L (bs:Bt)(e:Bool)(hb:bs.length<=4):i_u bs e=some (e_9 bs e):=by
 unfold i_u
 rw [dF_ (show ¬(4:Int)<(bs.length:Int) by omega)]
 have hl:(if e then bs.reverse else bs).length=bs.length:=by grind
 have h:=b_Z (n:=bs.length) (σ:=Int) (ρ:=Int) (body:=(λG=>(λI=>bd (α:=Int) (if e then some (w_ (w_ (bs.length:Int) 1) ((G:Nat):Int)) else some ((G:Nat):Int))<|λJ=>bd (idx bs J) λH=>some<|.next<|e_ (b_t I 256)<|b_ H)))
  (λk=>((if e then bs.reverse else bs).take k).foldl b_X 0) (λj hj=>by
   have L:=l_F ((if e then bs.reverse else bs).take j) (by grind)
   rw [v_o,a_,q_K hj hb e,a_,g_1 b_X 0 (by omega)]
   generalize (if e then bs.reverse else bs)[j]'(by omega)=c at *
   have h3:=g_U c;have h4:=l_m c
   rw [i_j (by omega) (by omega),ia_ (by omega) (by omega)]
   rfl)
 simp_all [e_9,QAR,a_,W_,List.foldl_nil]
theorem n_J {n:Int}{c:UInt8}(G:0<=n)(h1:n<4294967296):b_P .i64 (· ||| ·) (b_I .i64 n 8) (b_ c)=b_X n c:=by
 have e:b_I .i64 n 8=n * 256:=by
  unfold b_I
  rw [show (min (8:Int).toNat IntKind.i64.bits)=8 from rfl,IntKind.wrap_i64]
  omega
 rw [e]
 unfold b_P b_X;obtain ⟨m,rfl⟩:=Int.eq_ofNat_of_zero_le G;have hc:=c.toNat_lt;have hm:m<4294967296:=by omega
 have H:BitVec.ofInt IntKind.i64.bits ((m:Int) * 256)=BitVec.ofNat 64 (m * 256):=by
  rfl
 have I:BitVec.ofInt IntKind.i64.bits (b_ c)=BitVec.ofNat 64 c.toNat:=by
  rfl
 show IntKind.i64.wrap ((BitVec.ofInt IntKind.i64.bits ((m:Int) * 256) ||| BitVec.ofInt IntKind.i64.bits (b_ c)).toNat:Int)=_
 rw [H,I]
 have L:(BitVec.ofNat 64 (m * 256) ||| BitVec.ofNat 64 c.toNat).toNat=m * 256+c.toNat:=by
  rw [BitVec.toNat_or,BitVec.toNat_ofNat,BitVec.toNat_ofNat,Nat.mod_eq_of_lt (by omega),Nat.mod_eq_of_lt (by omega)]
  have:=Nat.shiftLeft_add_eq_or_of_lt (i:=8) (b:=c.toNat) (by omega) m
  grind [Nat.shiftLeft_eq]
 have J:((BitVec.ofNat 64 (m * 256) ||| BitVec.ofNat 64 c.toNat:BitVec IntKind.i64.bits).toNat:Int)=(m:Int) * 256+(c.toNat:Int):=by
  omega
 refine (congrArg IntKind.i64.wrap J).trans ?_
 rw [IntKind.wrap_i64]
 grind
theorem n_K (bs:Bt)(e:Bool)(hb:bs.length<=4):h_D bs e=some (e_9 bs e):=by
 unfold h_D
 rw [dF_ (show ¬(4:Int)<(bs.length:Int) by omega)]
 have hl:(if e then bs.reverse else bs).length=bs.length:=by grind
 have h:=b_Z (n:=bs.length) (σ:=Int) (ρ:=Int) (body:=(λG=>(λH=>bd (α:=Int) (if e then bd (idx bs<|w_ (w_ (bs.length:Int) 1) ((G:Nat):Int)) λI=>some (b_P .i64 (· ||| ·) (b_I .i64 H 8)<|b_ I) else bd (idx bs ((G:Nat):Int)) λJ=>some<|b_P .i64 (· ||| ·) (b_I .i64 H 8)<|b_ J)<|λL=>some<|.next L)))
  (λk=>((if e then bs.reverse else bs).take k).foldl b_X 0) (λj hj=>by
   have O:=l_F ((if e then bs.reverse else bs).take j) (by grind);have hbt:=q_K hj hb e
   rw [g_1 b_X 0 (by omega)]
   cases e
   .simp_all [a_,n_J]
   simp_all [a_,n_J])
 simp_all [e_9,QAR,a_,W_,List.foldl_nil]
def d_C (n:Int)(c:UInt8):Int:=n+b_ c
def c_Y (bs:Bt):Int:=bs.foldl d_C 0 % 256
theorem n_L (bs:Bt)(k:Nat)(hk:k<=bs.length):0<=(bs.take k).foldl d_C 0/\(bs.take k).foldl d_C 0<=256 * k:=by
 induction k with
 | zero=>simp
 | succ k ih =>
  obtain ⟨h1,h2⟩:=ih (by omega)
  rw [g_1 d_C 0 (show k<bs.length by omega)]
  have h3:=g_U bs[k]
  grind [d_C,d_C]
theorem n_M (bs:Bt)(hb:bs.length<=MX):h_E bs=some (c_Y bs):=by
 have hMX:MX=1048576:=rfl;unfold h_E c_Y
 have h:=b_Z (n:=bs.length) (σ:=Int) (ρ:=Int) (body:=(λG=>(λH=>bd (idx bs ((G:Nat):Int)) λI=>some (.next (e_ H (b_ I)))))) (λk=>(bs.take k).foldl d_C 0) (λj hj=>by
  have hbd:=n_L bs j (by omega);have h3:=g_U bs[j]
  grind [d_C,b_E,a_,g_1,d_o,l_m])
 simp only [QA3,List.foldl_nil] at h
 rw [h]
 have hbd:=n_L bs bs.length<|QAB _
 simp_all [m_a,a_,W_,QAR]
theorem q_M (bs:Bt):i_w bs=some (c_Y bs):=by
 have hMX:MX=1048576:=rfl;unfold i_w c_Y
 have h:=b_Z (n:=bs.length) (σ:=Int) (ρ:=Int) (body:=(λG=>(λH=>bd (idx bs ((G:Nat):Int)) λI=>some (.next (b_7 (e_ H (b_ I)) 256))))) (λk=>(bs.take k).foldl d_C 0 % 256) (λj hj=>by
  have hbd:=n_L bs j (by omega);have h3:=g_U bs[j];have h4:=l_m bs[j]
  grind [d_C,d_C,d_C,b_E,a_,g_1,d_o,m_a])
 simp_all
def e_a (b:Bt)(t:UInt8):Nat->Bt->Nat->Option (Bt×Nat)
 | 0,_,_=>none
 | f+1,acc,p=>match b[p]? with
  | none=>none
  | some c=>if c=t then some (acc,p+1) else if c=92 then (match b[p+1]? with
    | none=>none
    | some c'=>e_a b t f (acc++[c']) (p+2)) else e_a b t f (acc++[c]) (p+1)
def n_N (o:Option (Bt×Nat)):Sum (Bt×Int) (Bt×Int×Bool)->Prop:=λs=>match o with
 | some (c,q)=>s = .inr (c,(q:Int),true)
 | none=>∃x,s = .inl x
def d_D (b:Bt)(at_:Nat)(t:UInt8):Option (Bt×Nat):=e_a b t (b.length+1) [] at_
theorem h_k (a c:UInt8):(b_ a==b_ c)=decide (a=c):=by
 rw [QA0];simp_all [j_D]
theorem q_N (b:Bt)(t:UInt8)(hb:b.length<=MX)(step:Bt×Int->Option (Out (Bt×Int)<|Bt×Int×Bool))
  (hstep:∀acc (p:Nat),step (acc,(p:Int))=if decide ((p:Int)<(b.length:Int)) then bd (idx b (p:Int)) λI=>if ((b_ I)==(b_ t)) then some (.ret (acc,e_ (p:Int) 1,true)) else bd (idx b (p:Int)) λJ=>bd (α:=Sum Int<|Out (Bt×Int)<|Bt×Int×Bool) (if ((b_ J)==(b_ (92:UInt8))) then if ((e_ (p:Int) 1)==(b.length:Int)) then some (.inr<|.brk (acc,e_ (p:Int) 1)) else some (.inl<|e_ (p:Int) 1) else some (.inl (p:Int))) (el (λH=>bd (idx b H) λL=>bd (psh acc L) λO=>some<|.next (O,e_ H 1)) some) else some (.brk (acc,(p:Int)))) :
  ∀f acc p,acc.length<=p->p<=b.length->b.length<p+f->∀n,f<=n->∃s,F_ step n (acc,(p:Int))=some s/\n_N (e_a b t f acc p) s:=by
 have hMX:MX=1048576:=rfl;have hLIM:LIM=4294967296:=rfl;intro f
 induction f with
 | zero=>omega
 | succ f ih =>
  intro acc p hacc hp hf n hn;obtain ⟨m,rfl⟩:∃m,n=m+1:=⟨n - 1,by omega⟩;unfold F_ e_a
  rw [hstep]
  by_cases hlt:p<b.length
  .rw [dT_ (show (p:Int)<(b.length:Int) by omega),ix_ hlt,gG_ hlt]
   simp only [fT_,a_,h_k]
   rw [ia_ (x:=(p:Int)) (by omega) (by omega)]
   by_cases ht:b[p]=t
   .rw [dT_ ht,iP_ rfl,iP_ ht]
    exact ⟨_,rfl,by rfl⟩
   .rw [dF_ ht,iN_ (by simp),iN_ ht]
    by_cases he:b[p]=92
    .rw [dT_ he,iP_ rfl,iP_ he]
     by_cases hl:p+1<b.length
     .have G:((p:Int)+1==(b.length:Int))=false:=by grind
      rw [G,gG_ hl]
      simp only [bF_,fF_,a_,W_]
      rw [show (p:Int)+1=((p+1:Nat):Int) by omega,ix_ hl,a_,a_Z (by omega),a_,ia_ (by omega) (by omega)]
      obtain ⟨s,h1,h2⟩:=ih (acc++[b[p+1]]) (p+2) (by grind) (by omega) (by omega) m (by omega)
      grind
     .have G:((p:Int)+1==(b.length:Int))=true:=by grind
      rw [G,gN_ (by omega)]
      exact ⟨_,rfl,_,rfl⟩
    .rw [dF_ he,iN_ (by simp),iN_ he]
     simp only [a_,W_]
     rw [ix_ hlt,a_,a_Z (by omega),a_,ia_ (by omega) (by omega)]
     obtain ⟨s,h1,h2⟩:=ih (acc++[b[p]]) (p+1) (by grind) (by omega) (by omega) m (by omega)
     grind
  .rw [dF_ (show ¬(p:Int)<(b.length:Int) by omega),gN_ (by omega)]
   exact ⟨_,rfl,_,rfl⟩
def l_G (o:Option (Bt×Nat))(at_:Nat):Bt×Int×Bool:=match o with
 | some (c,q)=>(c,(q:Int),true)
 | none=>([],(at_:Int),false)
theorem q_O (n:Nat)(b:Bt)(at_:Nat)(t:UInt8)(hb:b.length<=MX)(ha:at_<=b.length)(hn:b.length+1<=n):i_B n b at_ t=some (l_G (d_D b at_ t) at_):=by
 unfold i_B d_D
 rw [dF_ (show ¬(at_:Int)<0 by omega),dF_ (show ¬(b.length:Int)<(at_:Int) by omega)]
 simp only [bF_,fF_,a_]
 obtain ⟨s,h1,h2⟩:=q_N b t hb (un2 λH G=>if (decide<|G<(b.length:Int)) then bd (idx b G) λJ=>if ((b_ J)==(b_ t)) then some (.ret (H,e_ G 1,true)) else bd (idx b G) λL=>bd (α:=Sum Int<|Out (Bt×Int)<|Bt×Int×Bool) (if ((b_ L)==(b_ (92:UInt8))) then if ((e_ G 1)==(b.length:Int)) then some (.inr<|.brk (H,e_ G 1)) else some (.inl<|e_ G 1) else some (.inl G)) (el (λI=>bd (idx b I) λO=>bd (psh H O) λV=>some<|.next (V,e_ I 1)) some) else some (.brk (H,G))) (λacc p=>rfl) (b.length+1) [] at_ (by simp) ha (by omega) n hn
 rw [h1,a_]
 unfold n_N at h2
 unfold l_G
 cases ho:e_a b t (b.length+1) [] at_ with
 | none=>rw [ho] at h2;obtain ⟨x,rfl⟩:=h2;rfl
 | some x=>simp_all
theorem w_9 (n:Nat)(b:Bt)(at_:Nat)(t:UInt8)(hb:b.length<=MX)(ha:at_<=b.length)(hn:b.length+1<=n):j_V n b at_ t=some (l_G (d_D b at_ t) at_):=by
 unfold j_V d_D
 have hin:a_M (at_:Int) 0 (b.length:Int)=some true:=by
  simp_all [b_z,dT_]
 obtain ⟨s,h1,h2⟩:=q_N b t hb (un2 λH G=>bd (α:=Bool) (bd (a_M (at_:Int) 0 (b.length:Int)) λJ=>if J then some (decide<|G<(b.length:Int)) else some false) (λL=>if L then bd (idx b G) λO=>if ((b_ O)==(b_ t)) then some (.ret (H,e_ G 1,true)) else bd (idx b G) λV=>bd (α:=Sum Int<|Out (Bt×Int)<|Bt×Int×Bool) (if ((b_ V)==(b_ (92:UInt8))) then if ((e_ G 1)==(b.length:Int)) then some (.inr<|.brk (H,e_ G 1)) else some (.inl<|e_ G 1) else some (.inl G)) (el (λI=>bd (idx b I) λW=>bd (psh H W) λY=>some<|.next (Y,e_ I 1)) some) else some (.brk (H,G)))) (λacc p=>by simp_all [un2,a_]) (b.length+1) [] at_ (by simp) ha (by omega) n hn
 rw [h1,a_]
 unfold n_N at h2
 unfold l_G
 cases ho:e_a b t (b.length+1) [] at_ with
 | none=>rw [ho] at h2;obtain ⟨x,rfl⟩:=h2;rfl
 | some x=>simp_all
theorem l_H {b:Bt}{t:UInt8}:∀f acc p c q,e_a b t f acc p=some (c,q)->p<q/\q<=b.length
 | 0,_,_,_,_,h=>by cases h
 | f+1,acc,p,c,q,h=>by
  unfold e_a at h
  by_cases hlt:p<b.length
  .rw [gG_ hlt] at h
   simp only at h
   split at h
   .grind
   .split at h
    .by_cases hl:p+1<b.length
     .rw [gG_ hl] at h
      have:=l_H f _ _ _ _ h
      omega
     grind
    .have:=l_H f _ _ _ _ h
     omega
  grind
end Go.Vw
