
import Derived.Test.YtdgimlkkidpmmaaGreatDoorVg
namespace Go.Vw
open Go.RowKit Dat
def a_I (r:m_):Bool :=
 b_r r.name && (decide (0<=r.version) && decide (r.version<=7)) && decide (r.data.length<=400) && (r.kind==1 || (r.kind==2 && r.version==0 && r.data.length==0))
def d_t (r:m_):Bt :=
 [mkB r.kind,mkB (r.name.b.length:Int)]++r.name.b++[mkB r.version,mkB<|a_9 .i64 ((b_m r.data).length:Int) 8,mkB ((b_m r.data).length:Int)]++b_m r.data
def a_3 (r:m_):Bt:=if a_I r then d_t r++[mkB (c_1<|d_t r)] else []
theorem e_X {r:m_}(h:a_I r=true):r.name.b.length<=12/\0<=r.version/\r.version<=7/\r.data.length<=400/\1<=r.kind/\r.kind<=2/\(b_m r.data).length<=800:=by
 unfold a_I at h
 simp only [aE_,dE_,Bool.or_eq_true,beq_iff_eq] at h
 obtain ⟨⟨⟨h1,h2,h3⟩,h4⟩,h5⟩:=h;have hp:=o_S _ _<|Nat.le_refl r.data.length;refine ⟨?_,h2,h3,h4,by omega,by omega,by omega⟩;unfold b_r at h1
 simp only [aE_,dE_] at h1
 exact h1.2.2
theorem t_g {r:m_}:a_3 r ≠ [] ↔ a_I r=true:=by
 unfold a_3
 constructor
 .intro h
  by_cases hv:a_I r=true
  .exact hv
  .rw [iN_ hv] at h;exact absurd rfl h
 .intro h;rw [iP_ h];simp [d_t]
theorem m_C {r:m_}(h:a_I r=true):(a_3 r).length=r.name.b.length+6+(b_m r.data).length:=by
 unfold a_3;rw [iP_ h];simp [d_t];omega
def i_K (t:Bt)(data:Bt):m_ :=
 ⟨byteI<|t.getD 0 0,⟨(t.drop 2).take (t.getD 1 0).toNat⟩,byteI<|t.getD ((t.getD 1 0).toNat+2) 0,data⟩
def m_D (t:Bt):Bt:=(t.drop<|(t.getD 1 0).toNat+5).take (t.length - (t.getD 1 0).toNat - 6)
def k_v (t:Bt):Option m_ :=
 match d_s (m_D t) with
 | none=>none
 | some data=>if a_I (i_K t data)=true/\a_3 (i_K t data)=t then some (i_K t data) else none
def a_z (s:Bt):Option (m_×Nat) :=
 match c_q s with
 | none=>none
 | some k=>match k_v (s.take k) with
  | none=>none
  | some r=>some (r,k)
theorem i_L {s:Bt}{r:m_}{k:Nat}(h:a_z s=some (r,k)):c_q s=some k/\k_v (s.take k)=some r:=by
 unfold a_z at h
 split at h
 .cases h
 .rename_i k' hk
  split at h
  .cases h
  .rename_i r' hr;cases h;exact ⟨hk,hr⟩
theorem g_e {s:Bt}{r:m_}{k:Nat}(h:a_z s=some (r,k)):6<=k/\k<=s.length:=by
 obtain ⟨c,hi,lo,_,_,_,hk,h2⟩:=m_A (i_L h).1
 omega
theorem t_h {s:Bt}{r:m_}{k:Nat}(h:a_z s=some (r,k)):a_I r=true/\a_3 r=s.take k:=by
 have:=(i_L h).2;unfold k_v at this
 split at this
 .cases this
 .split at this
  .rename_i hv;cases this;exact hv
  .cases this
theorem m_E {s:Bt}{r:m_}{k m:Nat}(h:a_z s=some (r,k))(hk:k<=m):a_z (s.take m)=some (r,k):=by
 obtain ⟨h1,h2⟩:=i_L h;unfold a_z
 rw [t_e h1 hk]
 simp only
 rw [List.take_take,Nat.min_eq_left hk,h2]
theorem k_w {s:Bt}{r:m_}{k m:Nat}(h:a_z (s.take m)=some (r,k)):a_z s=some (r,k)/\k<=m:=by
 obtain ⟨h1,h2⟩:=i_L h;obtain ⟨h3,h4⟩:=t_f h1
 rw [List.take_take,Nat.min_eq_left h4] at h2
 refine ⟨?_,h4⟩;unfold a_z;rw [h3];simp only;rw [h2]
def e_k:Nat->Bt->List m_×Nat
 | 0,_=>([],0)
 | n+1,s=>match a_z s with
  | none=>([],0)
  | some (r,k)=>(r::(e_k n<|s.drop k).1,k+(e_k n<|s.drop k).2)
def G_ (s:Bt):List m_×Nat:=e_k s.length s
theorem o_T:∀(n m:Nat)(s:Bt),s.length<=n->s.length<=m->e_k n s=e_k m s
 | 0,0,_,_,_=>rfl
 | 0,m+1,s,h,_=>by
  have:s=[]:=List.eq_nil_of_length_eq_zero (by omega);subst this;rfl
 | n+1,0,s,_,h=>by
  have:s=[]:=List.eq_nil_of_length_eq_zero (by omega);subst this;rfl
 | n+1,m+1,s,h1,h2=>by
  unfold e_k
  cases hd:a_z s with
  | none=>rfl
  | some x =>
   obtain ⟨r,k⟩:=x;have:=g_e hd
   simp only
   rw [o_T n m (s.drop k) (by rw [List.length_drop];omega) (by rw [List.length_drop];omega)]
theorem d_O {s:Bt}(h:a_z s=none):G_ s=([],0):=by
 unfold G_
 cases hl:s.length with
 | zero=>rfl
 | succ n=>unfold e_k;rw [h]
theorem d_P {s:Bt}{r:m_}{k:Nat}(h:a_z s=some (r,k)):G_ s=(r::(G_<|s.drop k).1,k+(G_<|s.drop k).2):=by
 have hp:=g_e h;unfold G_;obtain ⟨n,hn⟩:∃n,s.length=n+1:=⟨s.length - 1,by omega⟩
 rw [hn]
 conv=>lhs;unfold e_k
 rw [h]
 simp only
 rw [o_T n (s.drop k).length _ (by rw [List.length_drop];omega) (Nat.le_refl _)]
theorem i_M:∀(n:Nat)(s:Bt),s.length<=n->(G_ s).2<=s.length/\6 * (G_ s).1.length<=s.length/\∀r∈(G_ s).1,a_I r=true
 | 0,s,h=>by
  have:s=[]:=List.eq_nil_of_length_eq_zero (by omega);subst this;exact ⟨Nat.le_refl _,Nat.le_refl _,λr hr=>by cases hr⟩
 | n+1,s,h=>by
  cases hd:a_z s with
  | none=>rw [d_O hd];exact ⟨Nat.zero_le _,Nat.zero_le _,λr hr=>by cases hr⟩
  | some x =>
   obtain ⟨r,k⟩:=x;have hp:=g_e hd;obtain ⟨h1,h2,h3⟩:=i_M n (s.drop k) (by rw [List.length_drop];omega)
   rw [List.length_drop] at h1 h2
   rw [d_P hd]
   refine ⟨by simp only;omega,by simp only [lC_];omega,λx hx=>?_⟩
   rcases List.mem_cons.1 hx with rfl | hx
   .exact (t_h hd).1
   .exact h3 x hx
def d_u (r:m_):w_:=⟨r.name,r.version,r.data⟩
def c_r (l:List w_)(r:m_):List w_ :=
 match l.findIdx? (λf=>f.name.b==r.name.b) with
 | some k=>if r.kind=1 then l.set k (d_u r) else l.eraseIdx k
 | none=>if r.kind=1 then l++[d_u r] else l
def b_T (s:Bt):List w_:=(G_ s).1.foldl c_r []
def d_v (l:List w_):Prop:=(l.map (·.name.b)).Nodup
section
variable {l:List w_}{r:m_}
def b_s (r:m_)(x:w_):List w_:=if (x.name.b != r.name.b) then [x] else if r.kind=1 then [d_u r] else []
def sapR (l:List w_)(r:m_):List w_:=l.flatMap (b_s r)++if r.kind=1/\(l.any λf=>f.name.b==r.name.b)=false then [d_u r] else []
theorem m_F:∀{l:List w_},(l.any λf=>f.name.b==r.name.b)=false->l.flatMap (b_s r)=l
 | [],_=>rfl
 | x::t,h=>by
  simp only [List.any_cons,Bool.or_eq_false_iff] at h
  have:b_s r x=[x]:=by unfold b_s;rw [iP_ (by simpa using h.1)]
  rw [List.flatMap_cons,this,m_F h.2];rfl
theorem o_U {l:List w_}:(l.any λf=>f.name.b==r.name.b)=(l.findIdx? λf=>f.name.b==r.name.b).isSome:=by
 induction l with
 | nil=>rfl
 | cons x t ih =>
  rw [List.any_cons,List.findIdx?_cons,ih]
  cases x.name.b==r.name.b <;> simp
theorem o_V:∀{l:List w_}{k:Nat},d_v l->(l.findIdx? λf=>f.name.b==r.name.b)=some k->l.flatMap (b_s r)=if r.kind=1 then l.set k (d_u r) else l.eraseIdx k
 | [],k,_,h=>by simp at h
 | x::t,k,hn,h=>by
  rw [List.findIdx?_cons] at h
  unfold d_v at hn
  simp only [List.map_cons,List.nodup_cons] at hn
  rw [List.flatMap_cons]
  cases hx:x.name.b==r.name.b with
  | true =>
   rw [hx] at h
   simp only [fT_,oI_] at h
   subst h;have hx':x.name.b=r.name.b:=by simpa using hx
   have hnone:(t.any λf=>f.name.b==r.name.b)=false:=by
    rw [List.any_eq_false]
    intro y hy hc;have:y.name.b=x.name.b:=by rw [hx'];simpa using hc
    exact hn.1<|this ▸ List.mem_map_of_mem hy
   rw [m_F hnone]
   unfold b_s
   rw [iN_ (by simp [hx'])]
   split <;> rfl
  | false =>
   rw [hx] at h
   simp only [bF_,fF_,Option.map_eq_some_iff] at h
   obtain ⟨j,hj,rfl⟩:=h;have hs:b_s r x=[x]:=by unfold b_s;rw [iP_ (by simpa using hx)]
   rw [hs,o_V hn.2 hj]
   split <;> rfl
theorem t_i (hn:d_v l):sapR l r=c_r l r:=by
 unfold sapR c_r
 rw [o_U]
 cases h:l.findIdx? λf=>f.name.b==r.name.b with
 | none =>
  rw [m_F (by rw [o_U,h];rfl)]
  simp only [Option.isSome_none,and_true]
  split <;> simp
 | some k =>
  rw [o_V hn h]
  simp only [Option.isSome_some,Bool.true_eq_false,and_false,fF_,List.append_nil]
theorem t_j (hn:d_v l):d_v (c_r l r):=by
 unfold c_r
 cases h:l.findIdx? λf=>f.name.b==r.name.b with
 | none =>
  simp only
  split
  .unfold d_v at *
   rw [List.map_append,List.nodup_append]
   refine ⟨hn,by simp,λa ha b hb he=>?_⟩
   simp only [List.map_cons,List.map_nil,List.mem_singleton,d_u] at hb
   obtain ⟨x,hx,rfl⟩:=List.mem_map.1 ha;have:=List.findIdx?_eq_none_iff.1 h x hx
   rw [he,hb] at this;simp at this
  .exact hn
 | some k =>
  obtain ⟨hk,hp,_⟩:=List.findIdx?_eq_some_iff_getElem.1 h
  simp only
  split
  .unfold d_v at *
   have:(l.set k<|d_u r).map (·.name.b)=l.map (·.name.b):=by
    rw [List.map_set]
    have h2:(l.map (·.name.b))[k]? = some (d_u r).name.b:=by
     rw [List.getElem?_map,gG_ hk]
     simp only [Option.map_some,d_u]
     congr 1;simpa using hp
    apply List.ext_getElem?
    intro i
    by_cases hi:k=i
    .subst hi
     rw [List.getElem?_set_self (by simpa using hk),h2]
    .rw [List.getElem?_set_ne hi]
   rw [this];exact hn
  .unfold d_v at *
   exact hn.sublist<|List.Sublist.map _<|List.eraseIdx_sublist l k
theorem o_W:(c_r l r).length<=l.length+1:=by
 unfold c_r
 split <;> split
 .rw [List.length_set];omega
 .rename_i k _ _;have:=List.length_eraseIdx_le l k;omega
 .simp
 .omega
end
end Go.Vw
