
import Derived.Test.YtgpgenigfncgeaaGreatDoorVe
namespace Go.Vw
open Go.RowKit Dat
def b_n (r:p_):Bool :=
 b_8 r.name && (decide (0<=r.version) && decide (r.version<=7)) && decide (r.data.length<=400) && (r.kind==1 || (r.kind==2 && r.version==0 && r.data.length==0))
def e_V (r:p_):Bt :=
 [mkB r.kind,mkB (r.name.b.length:Int)]++r.name.b++[mkB r.version,mkB<|c_Y .i64 ((c_x r.data).length:Int) 8,mkB ((c_x r.data).length:Int)]++c_x r.data
def b_0 (r:p_):Bt:=if b_n r then e_V r++[mkB (c_9<|e_V r)] else []
theorem e_W {r:p_}(h:b_n r=true):r.name.b.length<=12/\0<=r.version/\r.version<=7/\r.data.length<=400/\1<=r.kind/\r.kind<=2/\(c_x r.data).length<=800:=by
 unfold b_n at h
 simp only [aE_,dE_,Bool.or_eq_true,beq_iff_eq] at h
 obtain ⟨⟨⟨h1,h2,h3⟩,h4⟩,h5⟩:=h;have hp:=p_s _ _<|Nat.le_refl r.data.length;refine ⟨?_,h2,h3,h4,by omega,by omega,by omega⟩;unfold b_8 at h1
 simp only [aE_,dE_] at h1
 exact h1.2.2
theorem u_f {r:p_}:b_0 r ≠ [] ↔ b_n r=true:=by
 unfold b_0
 constructor
 .intro h
  by_cases hv:b_n r=true
  .exact hv
  .rw [iN_ hv] at h;exact absurd rfl h
 .intro h;rw [iP_ h];simp [e_V]
theorem p_u {r:p_}(h:b_n r=true):(b_0 r).length=r.name.b.length+6+(c_x r.data).length:=by
 unfold b_0;rw [iP_ h];simp [e_V];omega
def h_U (t:Bt)(data:Bt):p_ :=
 ⟨byteI<|t.getD 0 0,⟨(t.drop 2).take (t.getD 1 0).toNat⟩,byteI<|t.getD ((t.getD 1 0).toNat+2) 0,data⟩
def m_L (t:Bt):Bt:=(t.drop<|(t.getD 1 0).toNat+5).take (t.length - (t.getD 1 0).toNat - 6)
def k_S (t:Bt):Option p_ :=
 match d_y (m_L t) with
 | none=>none
 | some data=>if b_n (h_U t data)=true/\b_0 (h_U t data)=t then some (h_U t data) else none
def a_N (s:Bt):Option (p_×Nat) :=
 match c_y s with
 | none=>none
 | some k=>match k_S (s.take k) with
  | none=>none
  | some r=>some (r,k)
theorem k_T {s:Bt}{r:p_}{k:Nat}(h:a_N s=some (r,k)):c_y s=some k/\k_S (s.take k)=some r:=by
 unfold a_N at h
 split at h
 .cases h
 .rename_i k' hk
  split at h
  .cases h
  .rename_i r' hr;cases h;exact ⟨hk,hr⟩
theorem h_V {s:Bt}{r:p_}{k:Nat}(h:a_N s=some (r,k)):6<=k/\k<=s.length:=by
 obtain ⟨c,hi,lo,_,_,_,hk,h2⟩:=m_K (k_T h).1
 omega
theorem u_g {s:Bt}{r:p_}{k:Nat}(h:a_N s=some (r,k)):b_n r=true/\b_0 r=s.take k:=by
 have:=(k_T h).2;unfold k_S at this
 split at this
 .cases this
 .split at this
  .rename_i hv;cases this;exact hv
  .cases this
theorem u_h {s:Bt}{r:p_}{k m:Nat}(h:a_N s=some (r,k))(hk:k<=m):a_N (s.take m)=some (r,k):=by
 obtain ⟨h1,h2⟩:=k_T h;unfold a_N
 rw [u_d h1 hk]
 simp only
 rw [List.take_take,Nat.min_eq_left hk,h2]
theorem p_v {s:Bt}{r:p_}{k m:Nat}(h:a_N (s.take m)=some (r,k)):a_N s=some (r,k)/\k<=m:=by
 obtain ⟨h1,h2⟩:=k_T h;obtain ⟨h3,h4⟩:=u_e h1
 rw [List.take_take,Nat.min_eq_left h4] at h2
 refine ⟨?_,h4⟩;unfold a_N;rw [h3];simp only;rw [h2]
def e_v:Nat->Bt->List p_×Nat
 | 0,_=>([],0)
 | n+1,s=>match a_N s with
  | none=>([],0)
  | some (r,k)=>(r::(e_v n<|s.drop k).1,k+(e_v n<|s.drop k).2)
def a_w (s:Bt):List p_×Nat:=e_v s.length s
theorem p_w:∀(n m:Nat)(s:Bt),s.length<=n->s.length<=m->e_v n s=e_v m s
 | 0,0,_,_,_=>rfl
 | 0,m+1,s,h,_=>by
  have:s=[]:=List.eq_nil_of_length_eq_zero (by omega);subst this;rfl
 | n+1,0,s,_,h=>by
  have:s=[]:=List.eq_nil_of_length_eq_zero (by omega);subst this;rfl
 | n+1,m+1,s,h1,h2=>by
  unfold e_v
  cases hd:a_N s with
  | none=>rfl
  | some x =>
   obtain ⟨r,k⟩:=x;have:=h_V hd
   simp only
   rw [p_w n m (s.drop k) (by rw [List.length_drop];omega) (by rw [List.length_drop];omega)]
theorem g_x {s:Bt}(h:a_N s=none):a_w s=([],0):=by
 unfold a_w
 cases hl:s.length with
 | zero=>rfl
 | succ n=>unfold e_v;rw [h]
theorem k_U {s:Bt}{r:p_}{k:Nat}(h:a_N s=some (r,k)):a_w s=(r::(a_w<|s.drop k).1,k+(a_w<|s.drop k).2):=by
 have hp:=h_V h;unfold a_w;obtain ⟨n,hn⟩:∃n,s.length=n+1:=⟨s.length - 1,by omega⟩
 rw [hn]
 conv=>lhs;unfold e_v
 rw [h]
 simp only
 rw [p_w n (s.drop k).length _ (by rw [List.length_drop];omega) (Nat.le_refl _)]
theorem f_A:∀(n:Nat)(s:Bt),s.length<=n->(a_w s).2<=s.length/\6 * (a_w s).1.length<=s.length/\∀r∈(a_w s).1,b_n r=true
 | 0,s,h=>by
  have:s=[]:=List.eq_nil_of_length_eq_zero (by omega);subst this;exact ⟨Nat.le_refl _,Nat.le_refl _,λr hr=>by cases hr⟩
 | n+1,s,h=>by
  cases hd:a_N s with
  | none=>rw [g_x hd];exact ⟨Nat.zero_le _,Nat.zero_le _,λr hr=>by cases hr⟩
  | some x =>
   obtain ⟨r,k⟩:=x;have hp:=h_V hd;obtain ⟨h1,h2,h3⟩:=f_A n (s.drop k) (by rw [List.length_drop];omega)
   rw [List.length_drop] at h1 h2
   rw [k_U hd]
   refine ⟨by simp only;omega,by simp only [lC_];omega,λx hx=>?_⟩
   rcases List.mem_cons.1 hx with rfl | hx
   .exact (u_g hd).1
   .exact h3 x hx
def c_I (r:p_):r_:=⟨r.name,r.version,r.data⟩
def b_V (l:List r_)(r:p_):List r_ :=
 match l.findIdx? (λf=>f.name.b==r.name.b) with
 | some k=>if r.kind=1 then l.set k (c_I r) else l.eraseIdx k
 | none=>if r.kind=1 then l++[c_I r] else l
def c_k (s:Bt):List r_:=(a_w s).1.foldl b_V []
def d_z (l:List r_):Prop:=(l.map (·.name.b)).Nodup
section
variable {l:List r_}{r:p_}
def b_w (r:p_)(x:r_):List r_:=if (x.name.b != r.name.b) then [x] else if r.kind=1 then [c_I r] else []
def sapR (l:List r_)(r:p_):List r_:=l.flatMap (b_w r)++if r.kind=1/\(l.any λf=>f.name.b==r.name.b)=false then [c_I r] else []
theorem m_M:∀{l:List r_},(l.any λf=>f.name.b==r.name.b)=false->l.flatMap (b_w r)=l
 | [],_=>rfl
 | x::t,h=>by
  simp only [List.any_cons,Bool.or_eq_false_iff] at h
  have:b_w r x=[x]:=by unfold b_w;rw [iP_ (by simpa using h.1)]
  rw [List.flatMap_cons,this,m_M h.2];rfl
theorem p_x {l:List r_}:(l.any λf=>f.name.b==r.name.b)=(l.findIdx? λf=>f.name.b==r.name.b).isSome:=by
 induction l with
 | nil=>rfl
 | cons x t ih =>
  rw [List.any_cons,List.findIdx?_cons,ih]
  cases x.name.b==r.name.b <;> simp
theorem p_y:∀{l:List r_}{k:Nat},d_z l->(l.findIdx? λf=>f.name.b==r.name.b)=some k->l.flatMap (b_w r)=if r.kind=1 then l.set k (c_I r) else l.eraseIdx k
 | [],k,_,h=>by simp at h
 | x::t,k,hn,h=>by
  rw [List.findIdx?_cons] at h
  unfold d_z at hn
  simp only [List.map_cons,List.nodup_cons] at hn
  rw [List.flatMap_cons]
  cases hx:x.name.b==r.name.b with
  | true =>
   rw [hx] at h
   simp only [fT_,oI_] at h
   subst h;have hx':x.name.b=r.name.b:=by simpa using hx
   have hnone:(t.any λf=>f.name.b==r.name.b)=false:=by
    rw [List.any_eq_false]
    intro y hy hc;have:y.name.b=x.name.b:=by rw [hx'];simpa using hc
    exact hn.1<|this ▸ List.mem_map_of_mem hy
   rw [m_M hnone]
   unfold b_w
   rw [iN_ (by simp [hx'])]
   split <;> rfl
  | false =>
   rw [hx] at h
   simp only [bF_,fF_,Option.map_eq_some_iff] at h
   obtain ⟨j,hj,rfl⟩:=h;have hs:b_w r x=[x]:=by unfold b_w;rw [iP_ (by simpa using hx)]
   rw [hs,p_y hn.2 hj]
   split <;> rfl
theorem u_i (hn:d_z l):sapR l r=b_V l r:=by
 unfold sapR b_V
 rw [p_x]
 cases h:l.findIdx? λf=>f.name.b==r.name.b with
 | none =>
  rw [m_M (by rw [p_x,h];rfl)]
  simp only [Option.isSome_none,and_true]
  split <;> simp
 | some k =>
  rw [p_y hn h]
  simp only [Option.isSome_some,Bool.true_eq_false,and_false,fF_,List.append_nil]
theorem u_j (hn:d_z l):d_z (b_V l r):=by
 unfold b_V
 cases h:l.findIdx? λf=>f.name.b==r.name.b with
 | none =>
  simp only
  split
  .unfold d_z at *
   rw [List.map_append,List.nodup_append]
   refine ⟨hn,by simp,λa ha b hb he=>?_⟩
   simp only [List.map_cons,List.map_nil,List.mem_singleton,c_I] at hb
   obtain ⟨x,hx,rfl⟩:=List.mem_map.1 ha;have:=List.findIdx?_eq_none_iff.1 h x hx
   rw [he,hb] at this;simp at this
  .exact hn
 | some k =>
  obtain ⟨hk,hp,_⟩:=List.findIdx?_eq_some_iff_getElem.1 h
  simp only
  split
  .unfold d_z at *
   have:(l.set k<|c_I r).map (·.name.b)=l.map (·.name.b):=by
    rw [List.map_set]
    have h2:(l.map (·.name.b))[k]? = some (c_I r).name.b:=by
     rw [List.getElem?_map,gG_ hk]
     simp only [Option.map_some,c_I]
     congr 1;simpa using hp
    apply List.ext_getElem?
    intro i
    by_cases hi:k=i
    .subst hi
     rw [List.getElem?_set_self (by simpa using hk),h2]
    .rw [List.getElem?_set_ne hi]
   rw [this];exact hn
  .unfold d_z at *
   exact hn.sublist<|List.Sublist.map _<|List.eraseIdx_sublist l k
theorem u_k:(b_V l r).length<=l.length+1:=by
 unfold b_V
 split <;> split
 .rw [List.length_set];omega
 .rename_i k _ _;have:=List.length_eraseIdx_le l k;omega
 .simp
 .omega
end
end Go.Vw
