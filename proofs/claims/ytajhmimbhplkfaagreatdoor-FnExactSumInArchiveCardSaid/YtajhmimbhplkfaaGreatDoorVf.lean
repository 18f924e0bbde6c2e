
import Derived.Test.YtajhmimbhplkfaaGreatDoorVe
namespace Go.Vw
open Go.RowKit Dat
def b_g (r:o_):Bool :=
 a_Z r.name && (decide (0<=r.version) && decide (r.version<=7)) && decide (r.data.length<=400) && (r.kind==1 || (r.kind==2 && r.version==0 && r.data.length==0))
def e_I (r:o_):List UInt8 :=
 [mkB r.kind,mkB (r.name.b.length:Int)]++r.name.b++[mkB r.version,mkB<|c_R .i64 ((c_r r.data).length:Int) 8,mkB ((c_r r.data).length:Int)]++c_r r.data
def a_W (r:o_):List UInt8:=if b_g r=true then e_I r++[mkB (c_5<|e_I r)] else []
theorem e_J {r:o_}(h:b_g r=true):r.name.b.length<=12/\0<=r.version/\r.version<=7/\r.data.length<=400/\1<=r.kind/\r.kind<=2/\(c_r r.data).length<=800:=by
 unfold b_g at h
 simp only [aE_,dE_,Bool.or_eq_true,beq_iff_eq] at h
 obtain ⟨⟨⟨h1,h2,h3⟩,h4⟩,h5⟩:=h;have hp:=o_v _ _<|Nat.le_refl r.data.length;refine ⟨?_,h2,h3,h4,by omega,by omega,by omega⟩;unfold a_Z at h1
 simp only [aE_,dE_] at h1
 exact h1.2.2
theorem s_L {r:o_}:a_W r ≠ [] ↔ b_g r=true:=by
 unfold a_W
 constructor
 ·intro h
  by_cases hv:b_g r=true
  ·exact hv
  ·rw [iN_ hv] at h;exact absurd rfl h
 ·intro h;rw [iP_ h];simp [e_I]
theorem o_x {r:o_}(h:b_g r=true):(a_W r).length=r.name.b.length+6+(c_r r.data).length:=by
 unfold a_W;rw [iP_ h];simp [e_I];omega
def h_v (t:List UInt8)(data:List UInt8):o_ :=
 ⟨byteI<|t.getD 0 0,⟨(t.drop 2).take (t.getD 1 0).toNat⟩,byteI<|t.getD ((t.getD 1 0).toNat+2) 0,data⟩
def l_K (t:List UInt8):List UInt8:=(t.drop<|(t.getD 1 0).toNat+5).take (t.length - (t.getD 1 0).toNat - 6)
def k_8 (t:List UInt8):Option o_ :=
 match d_s (l_K t) with
 | none=>none
 | some data=>if b_g (h_v t data)=true/\a_W (h_v t data)=t then some (h_v t data) else none
def a_L (s:List UInt8):Option (o_×Nat) :=
 match c_s s with
 | none=>none
 | some k=>match k_8 (s.take k) with
  | none=>none
  | some r=>some (r,k)
theorem k_9 {s:List UInt8}{r:o_}{k:Nat}(h:a_L s=some (r,k)):c_s s=some k/\k_8 (s.take k)=some r:=by
 unfold a_L at h
 split at h
 ·cases h
 ·rename_i k' hk
  split at h
  ·cases h
  ·rename_i r' hr;cases h;exact ⟨hk,hr⟩
theorem h_w {s:List UInt8}{r:o_}{k:Nat}(h:a_L s=some (r,k)):6<=k/\k<=s.length:=by
 obtain ⟨c,hi,lo,_,_,_,hk,h2⟩:=l_J (k_9 h).1
 omega
theorem s_M {s:List UInt8}{r:o_}{k:Nat}(h:a_L s=some (r,k)):b_g r=true/\a_W r=s.take k:=by
 have:=(k_9 h).2;unfold k_8 at this
 split at this
 ·cases this
 ·split at this
  ·rename_i hv;cases this;exact hv
  ·cases this
theorem s_N {s:List UInt8}{r:o_}{k m:Nat}(h:a_L s=some (r,k))(hk:k<=m):a_L (s.take m)=some (r,k):=by
 obtain ⟨h1,h2⟩:=k_9 h;unfold a_L
 rw [s_J h1 hk]
 simp only
 rw [List.take_take,Nat.min_eq_left hk,h2]
theorem o_y {s:List UInt8}{r:o_}{k m:Nat}(h:a_L (s.take m)=some (r,k)):a_L s=some (r,k)/\k<=m:=by
 obtain ⟨h1,h2⟩:=k_9 h;obtain ⟨h3,h4⟩:=s_K h1
 rw [List.take_take,Nat.min_eq_left h4] at h2
 refine ⟨?_,h4⟩;unfold a_L;rw [h3];simp only;rw [h2]
def e_e:Nat->List UInt8->List o_×Nat
 | 0,_=>([],0)
 | n+1,s=>match a_L s with
  | none=>([],0)
  | some (r,k)=>(r::(e_e n<|s.drop k).1,k+(e_e n<|s.drop k).2)
def a_v (s:List UInt8):List o_×Nat:=e_e s.length s
theorem o_z:∀(n m:Nat)(s:List UInt8),s.length<=n->s.length<=m->e_e n s=e_e m s
 | 0,0,_,_,_=>rfl
 | 0,m+1,s,h,_=>by
  have:s=[]:=List.eq_nil_of_length_eq_zero (by omega);subst this;rfl
 | n+1,0,s,_,h=>by
  have:s=[]:=List.eq_nil_of_length_eq_zero (by omega);subst this;rfl
 | n+1,m+1,s,h1,h2=>by
  unfold e_e
  cases hd:a_L s with
  | none=>rfl
  | some x =>
   obtain ⟨r,k⟩:=x;have:=h_w hd
   simp only
   rw [o_z n m (s.drop k) (by rw [List.length_drop];omega) (by rw [List.length_drop];omega)]
theorem g_f {s:List UInt8}(h:a_L s=none):a_v s=([],0):=by
 unfold a_v
 cases hl:s.length with
 | zero=>rfl
 | succ n=>unfold e_e;rw [h]
theorem k_a {s:List UInt8}{r:o_}{k:Nat}(h:a_L s=some (r,k)):a_v s=(r::(a_v<|s.drop k).1,k+(a_v<|s.drop k).2):=by
 have hp:=h_w h;unfold a_v;obtain ⟨n,hn⟩:∃n,s.length=n+1:=⟨s.length - 1,by omega⟩
 rw [hn]
 conv=>lhs;unfold e_e
 rw [h]
 simp only
 rw [o_z n (s.drop k).length _ (by rw [List.length_drop];omega) (Nat.le_refl _)]
theorem f_q:∀(n:Nat)(s:List UInt8),s.length<=n->(a_v s).2<=s.length/\6 * (a_v s).1.length<=s.length/\∀r∈(a_v s).1,b_g r=true
 | 0,s,h=>by
  have:s=[]:=List.eq_nil_of_length_eq_zero (by omega);subst this;exact ⟨Nat.le_refl _,Nat.le_refl _,fun r hr=>by cases hr⟩
 | n+1,s,h=>by
  cases hd:a_L s with
  | none=>rw [g_f hd];exact ⟨Nat.zero_le _,Nat.zero_le _,fun r hr=>by cases hr⟩
  | some x =>
   obtain ⟨r,k⟩:=x;have hp:=h_w hd;obtain ⟨h1,h2,h3⟩:=f_q n (s.drop k) (by rw [List.length_drop];omega)
   rw [List.length_drop] at h1 h2
   rw [k_a hd]
   refine ⟨by simp only;omega,by simp only [lC_];omega,fun x hx=>?_⟩
   rcases List.mem_cons.1 hx with rfl | hx
   ·exact (s_M hd).1
   ·exact h3 x hx
def c_C (r:o_):q_:=⟨r.name,r.version,r.data⟩
def b_Q (l:List q_)(r:o_):List q_ :=
 match l.findIdx? (fun f=>f.name.b==r.name.b) with
 | some k=>if r.kind=1 then l.set k (c_C r) else l.eraseIdx k
 | none=>if r.kind=1 then l++[c_C r] else l
def c_e (s:List UInt8):List q_:=(a_v s).1.foldl b_Q []
def d_t (l:List q_):Prop:=(l.map (·.name.b)).Nodup
section
variable {l:List q_}{r:o_}
def b_o (r:o_)(x:q_):List q_:=if (x.name.b != r.name.b)=true then [x] else if r.kind=1 then [c_C r] else []
def sapR (l:List q_)(r:o_):List q_:=l.flatMap (b_o r)++if r.kind=1/\(l.any fun f=>f.name.b==r.name.b)=false then [c_C r] else []
theorem l_L:∀{l:List q_},(l.any fun f=>f.name.b==r.name.b)=false->l.flatMap (b_o r)=l
 | [],_=>rfl
 | x::t,h=>by
  simp only [List.any_cons,Bool.or_eq_false_iff] at h
  have:b_o r x=[x]:=by unfold b_o;rw [iP_ (by simpa using h.1)]
  rw [List.flatMap_cons,this,l_L h.2];rfl
theorem o_A {l:List q_}:(l.any fun f=>f.name.b==r.name.b)=(l.findIdx? fun f=>f.name.b==r.name.b).isSome:=by
 induction l with
 | nil=>rfl
 | cons x t ih =>
  rw [List.any_cons,List.findIdx?_cons,ih]
  cases x.name.b==r.name.b <;> simp
theorem o_B:∀{l:List q_}{k:Nat},d_t l->(l.findIdx? fun f=>f.name.b==r.name.b)=some k->l.flatMap (b_o r)=if r.kind=1 then l.set k (c_C r) else l.eraseIdx k
 | [],k,_,h=>by simp at h
 | x::t,k,hn,h=>by
  rw [List.findIdx?_cons] at h
  unfold d_t at hn
  simp only [List.map_cons,List.nodup_cons] at hn
  rw [List.flatMap_cons]
  cases hx:x.name.b==r.name.b with
  | true =>
   rw [hx] at h
   simp only [fT_,oI_] at h
   subst h;have hx':x.name.b=r.name.b:=by simpa using hx
   have hnone:(t.any fun f=>f.name.b==r.name.b)=false:=by
    rw [List.any_eq_false]
    intro y hy hc;have:y.name.b=x.name.b:=by rw [hx'];simpa using hc
    exact hn.1<|this ▸ List.mem_map_of_mem hy
   rw [l_L hnone]
   unfold b_o
   rw [iN_ (by simp [hx'])]
   split <;> rfl
  | false =>
   rw [hx] at h
   simp only [bF_,fF_,Option.map_eq_some_iff] at h
   obtain ⟨j,hj,rfl⟩:=h;have hs:b_o r x=[x]:=by unfold b_o;rw [iP_ (by simpa using hx)]
   rw [hs,o_B hn.2 hj]
   split <;> rfl
theorem s_O (hn:d_t l):sapR l r=b_Q l r:=by
 unfold sapR b_Q
 rw [o_A]
 cases h:l.findIdx? fun f=>f.name.b==r.name.b with
 | none =>
  rw [l_L (by rw [o_A,h];rfl)]
  simp only [Option.isSome_none,and_true]
  split <;> simp
 | some k =>
  rw [o_B hn h]
  simp only [Option.isSome_some,Bool.true_eq_false,and_false,fF_,List.append_nil]
theorem s_P (hn:d_t l):d_t (b_Q l r):=by
 unfold b_Q
 cases h:l.findIdx? fun f=>f.name.b==r.name.b with
 | none =>
  simp only
  split
  ·unfold d_t at *
   rw [List.map_append,List.nodup_append]
   refine ⟨hn,by simp,fun a ha b hb he=>?_⟩
   simp only [List.map_cons,List.map_nil,List.mem_singleton,c_C] at hb
   obtain ⟨x,hx,rfl⟩:=List.mem_map.1 ha;have:=List.findIdx?_eq_none_iff.1 h x hx
   rw [he,hb] at this;simp at this
  ·exact hn
 | some k =>
  obtain ⟨hk,hp,_⟩:=List.findIdx?_eq_some_iff_getElem.1 h
  simp only
  split
  ·unfold d_t at *
   have:(l.set k<|c_C r).map (·.name.b)=l.map (·.name.b):=by
    rw [List.map_set]
    have h2:(l.map (·.name.b))[k]? = some (c_C r).name.b:=by
     rw [List.getElem?_map,gG_ hk]
     simp only [Option.map_some,c_C]
     congr 1;simpa using hp
    apply List.ext_getElem?
    intro i
    by_cases hi:k=i
    ·subst hi
     rw [List.getElem?_set_self (by simpa using hk),h2]
    ·rw [List.getElem?_set_ne hi]
   rw [this];exact hn
  ·unfold d_t at *
   exact hn.sublist<|List.Sublist.map _<|List.eraseIdx_sublist l k
theorem s_Q:(b_Q l r).length<=l.length+1:=by
 unfold b_Q
 split <;> split
 ·rw [List.length_set];omega
 ·rename_i k _ _;have:=List.length_eraseIdx_le l k;omega
 ·simp
 ·omega
end
end Go.Vw
