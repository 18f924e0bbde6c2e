
import Derived.Test.YtefljifhihogoaaGreatDoorV6
namespace Go.Vw
set_option linter.unusedVariables false
open Go.RowKit Dat
def b_K (r:q_):Bool :=
 b_3 r.name && (decide (0<=r.version) && decide (r.version<=7)) && decide (r.data.length<=400) && (r.kind==1 || (r.kind==2 && r.version==0 && r.data.length==0))
def h_m (r:q_):Bt :=
 [mkB r.kind,mkB (r.name.b.length:Int)]++r.name.b++[mkB r.version,mkB<|c_W .i64 ((d_0 r.data).length:Int) 8,mkB ((d_0 r.data).length:Int)]++d_0 r.data
def b_a (r:q_):Bt:=if b_K r then h_m r++[mkB (c_Y<|h_m r)] else []
theorem g_8 {r:q_}(h:b_K r=true):r.name.b.length<=12/\0<=r.version/\r.version<=7/\r.data.length<=400/\1<=r.kind/\r.kind<=2/\(d_0 r.data).length<=800:=by
 unfold b_K at h
 simp only [aE_,dE_,Bool.or_eq_true,QAv] at h
 obtain ⟨⟨⟨h1,h2,h3⟩,h4⟩,h5⟩:=h;have hp:=r_s _ _<|QAB r.data.length
 grind [b_3]
theorem w_G {r:q_}:b_a r ≠ [] ↔ b_K r=true:=by
 unfold b_a
 simp
theorem r_u {r:q_}(h:b_K r=true):(b_a r).length=r.name.b.length+6+(d_0 r.data).length:=by
 grind [h_m,b_a]
def j_v (t:Bt)(data:Bt):q_ :=
 ⟨b_<|t.getD 0 0,⟨(t.drop 2).take (t.getD 1 0).toNat⟩,b_<|t.getD ((t.getD 1 0).toNat+2) 0,data⟩
def o_5 (t:Bt):Bt:=(t.drop<|(t.getD 1 0).toNat+5).take (t.length - (t.getD 1 0).toNat - 6)
def l_T (t:Bt):Option q_ :=
 match e_c (o_5 t) with
 | none=>none
 | some data=>if b_K (j_v t data)=true/\b_a (j_v t data)=t then some (j_v t data) else none
def b_5 (s:Bt):Option (q_×Nat) :=
 match d_1 s with
 | none=>none
 | some k=>match l_T (s.take k) with
  | none=>none
  | some r=>some (r,k)
theorem l_U {s:Bt}{r:q_}{k:Nat}(h:b_5 s=some (r,k)):d_1 s=some k/\l_T (s.take k)=some r:=by
 grind [b_5]
theorem j_w {s:Bt}{r:q_}{k:Nat}(h:b_5 s=some (r,k)):6<=k/\k<=s.length:=by
 obtain ⟨c,hi,lo,_,_,_,hk,h2⟩:=o_4 (l_U h).1
 omega
theorem w_H {s:Bt}{r:q_}{k:Nat}(h:b_5 s=some (r,k)):b_K r=true/\b_a r=s.take k:=by
 have:=(l_U h).2
 grind [l_T]
theorem w_I {s:Bt}{r:q_}{k m:Nat}(h:b_5 s=some (r,k))(hk:k<=m):b_5 (s.take m)=some (r,k):=by
 grind [b_5,Nat.min_eq_left,w_E,l_U]
theorem r_v {s:Bt}{r:q_}{k m:Nat}(h:b_5 (s.take m)=some (r,k)):b_5 s=some (r,k)/\k<=m:=by
 grind [b_5,Nat.min_eq_left,w_F,l_U]
def g_a:Nat->Bt->List q_×Nat
 | 0,_=>([],0)
 | n+1,s=>match b_5 s with
  | none=>([],0)
  | some (r,k)=>(r::(g_a n<|s.drop k).1,k+(g_a n<|s.drop k).2)
def a_J (s:Bt):List q_×Nat:=g_a s.length s
theorem r_w:∀(n m:Nat)(s:Bt),s.length<=n->s.length<=m->g_a n s=g_a m s
 | 0,0,_,_,_=>rfl
 | 0,m+1,s,h,_=>by
  have:s=[]:=QAK (by omega);subst this;rfl
 | n+1,0,s,_,h=>by
  have:s=[]:=QAK (by omega);subst this;rfl
 | n+1,m+1,s,h1,h2=>by
  unfold g_a
  cases hd:b_5 s with
  | none=>rfl
  | some x =>
   obtain ⟨r,k⟩:=x;have:=j_w hd
   simp only
   rw [r_w n m (s.drop k) (by grind) (by grind)]
theorem i_c {s:Bt}(h:b_5 s=none):a_J s=([],0):=by
 unfold a_J
 cases hl:s.length with
 | zero=>rfl
 | succ n=>grind [g_a]
theorem l_V {s:Bt}{r:q_}{k:Nat}(h:b_5 s=some (r,k)):a_J s=(r::(a_J<|s.drop k).1,k+(a_J<|s.drop k).2):=by
 have hp:=j_w h;unfold a_J;obtain ⟨n,hn⟩:∃n,s.length=n+1:=⟨s.length - 1,by omega⟩
 rw [hn]
 conv=>lhs;unfold g_a
 rw [h]
 simp only
 rw [r_w n (s.drop k).length _ (by grind) (QAB _)]
theorem h_n:∀(n:Nat)(s:Bt),s.length<=n->(a_J s).2<=s.length/\6 * (a_J s).1.length<=s.length/\∀r∈(a_J s).1,b_K r=true
 | 0,s,h=>by
  have:s=[]:=QAK (by omega);subst this;exact ⟨QAB _,QAB _,λr hr=>by cases hr⟩
 | n+1,s,h=>by
  cases hd:b_5 s with
  | none=>simp_all [i_c]
  | some x =>
   obtain ⟨r,k⟩:=x;have hp:=j_w hd;obtain ⟨h1,h2,h3⟩:=h_n n (s.drop k) (by grind)
   rw [QAa] at h1 h2
   rw [l_V hd]
   refine ⟨by omega,by grind,λx hx=>?_⟩
   rcases QAV.1 hx with rfl | hx
   .exact (w_H hd).1
   grind
def d_k (r:q_):o_:=⟨r.name,r.version,r.data⟩
def c_j (l:List o_)(r:q_):List o_ :=
 match l.findIdx? (λf=>f.name.b==r.name.b) with
 | some k=>if r.kind=1 then l.set k (d_k r) else l.eraseIdx k
 | none=>if r.kind=1 then l++[d_k r] else l
def c_O (s:Bt):List o_:=(a_J s).1.foldl c_j []
def e_d (l:List o_):Prop:=(l.map (·.name.b)).Nodup
section
variable {l:List o_}{r:q_}
def b_Y (r:q_)(x:o_):List o_:=if (x.name.b != r.name.b) then [x] else if r.kind=1 then [d_k r] else []
def sapR (l:List o_)(r:q_):List o_:=l.flatMap (b_Y r)++if r.kind=1/\(l.any λf=>f.name.b==r.name.b)=false then [d_k r] else []
theorem o_6:∀{l:List o_},(l.any λf=>f.name.b==r.name.b)=false->l.flatMap (b_Y r)=l
 | [],_=>rfl
 | x::t,h=>by
  simp only [List.any_cons,Bool.or_eq_false_iff] at h
  have:b_Y r x=[x]:=by grind [b_Y]
  rw [List.flatMap_cons,this,o_6 h.2];rfl
theorem w_J {l:List o_}:(l.any λf=>f.name.b==r.name.b)=(l.findIdx? λf=>f.name.b==r.name.b).isSome:=by
 simp
theorem r_x:∀{l:List o_}{k:Nat},e_d l->(l.findIdx? λf=>f.name.b==r.name.b)=some k->l.flatMap (b_Y r)=if r.kind=1 then l.set k (d_k r) else l.eraseIdx k
 | [],k,_,h=>by simp
 | x::t,k,hn,h=>by
  rw [List.findIdx?_cons] at h
  unfold e_d at hn
  simp only [List.map_cons,QAq] at hn
  rw [List.flatMap_cons]
  cases hx:x.name.b==r.name.b with
  | true =>
   rw [hx] at h
   simp only [fT_,oI_] at h
   subst h;have hx':x.name.b=r.name.b:=by grind
   have hnone:(t.any λf=>f.name.b==r.name.b)=false:=by
    grind
   rw [o_6 hnone]
   grind [b_Y]
  | false =>
   rw [hx] at h
   simp only [bF_,fF_,QBF] at h
   obtain ⟨j,hj,rfl⟩:=h;have hs:b_Y r x=[x]:=by grind [b_Y]
   rw [hs,r_x hn.2 hj]
   grind
theorem w_K (hn:e_d l):sapR l r=c_j l r:=by
 unfold sapR c_j
 rw [w_J]
 cases h:l.findIdx? λf=>f.name.b==r.name.b with
 | none =>
  rw [o_6 (by grind)]
  grind
 | some k =>
  simp_all [Option.isSome_some,Bool.true_eq_false,and_false,List.append_nil,r_x]
theorem w_L (hn:e_d l):e_d (c_j l r):=by
 unfold c_j
 cases h:l.findIdx? λf=>f.name.b==r.name.b with
 | none =>
  simp only
  split
  .unfold e_d at *
   rw [QBN,QAb]
   refine ⟨hn,by simp,λa ha b hb he=>?_⟩
   simp only [List.map_cons,List.map_nil,QA_,d_k] at hb
   grind
  omega
 | some k =>
  obtain ⟨hk,hp,_⟩:=List.findIdx?_eq_some_iff_getElem.1 h
  simp only
  split
  .unfold e_d at *
   have:(l.set k<|d_k r).map (·.name.b)=l.map (·.name.b):=by
    rw [List.map_set]
    have h2:(l.map (·.name.b))[k]? = some (d_k r).name.b:=by
     grind [d_k]
    apply List.ext_getElem?
    grind
   grind
  grind [e_d]
theorem w_M:(c_j l r).length<=l.length+1:=by
 grind [c_j]
end
end Go.Vw
