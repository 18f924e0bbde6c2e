
import Derived.Test.YtpjplgfnhbjjjaaGreatDoorVb2
import Derived.Test.YtpjplgfnhbjjjaaGreatDoorVb3
namespace Go.Vw
open Go.RowKit Dat
theorem r_H {rs:List d_}{r:d_}{v:Val}(h:Own rs r v){t:Nat}(z:Val)(ht:t<v.items.length):Own rs r (.mk v.number v.bytes<|v.items.set t z):=by
 obtain ⟨a,b,l⟩:=v
 have hn:l ≠ []:=by
  rintro rfl;exact absurd ht<|Nat.not_lt_zero _
 unfold Own at h ⊢
 simp only [Val.number,Val.bytes,Val.items,List.length_set,List.set_eq_nil_iff] at h ⊢
 exact h
section
variable {d:c_}
theorem o_a (hv:O_ d=true){part:Val}:∀(ss:List Str)(m i:Nat)(v:Val)(k:Val->Val){x:Nat×Val×(Val->Val)},i+1<=m->VP d.rules m i v->goK d.rules ss i v k=some x->VP d.rules (x.1+1) x.1 part->VP d.rules m i (d_h d.rules ss i v part)
 | [],m,i,v,k,x,hm,h,hg,hp=>by
  obtain rfl:=Option.some.inj hg;exact hp.mono hm
 | s::ss,0,i,v,k,x,hm,h,hg,hp=>h.elim
 | s::ss,m+1,i,v,k,x,hm,h,hg,hp=>by
  unfold goK at hg
  by_cases hf:a_Z (d.rules.getD i default) v.items.length s<0
  .rw [iP_ hf] at hg;cases hg
  .rw [iN_ hf] at hg
   obtain ⟨t,k',ht,I,G,J,L⟩:=g_t hv h hf
   rw [I,tN_,G,tN_,J] at hg
   obtain ⟨hi,hO,hK⟩:=h
   rw [N_ hi] at G
   have hki:k'<i:=by
    obtain ⟨k2,a,b,_⟩:=hK t ht
    omega
   have ih:=o_a hv ss m k' v.items[t] _ (by omega) L hg hp;unfold d_h
   rw [I,tN_,N_ hi,G,tN_,J]
   have H:∀j (hj:j<(v.items.set t<|d_h d.rules ss k' v.items[t] part).length),∃k2:Nat,J_ d.rules[i] v.number j=(k2:Int)/\k2<i/\VP d.rules m k2 (v.items.set t<|d_h d.rules ss k' v.items[t] part)[j]:=by
    intro j hj;have hj':j<v.items.length:=by simpa using hj
    obtain ⟨k2,a,b,c⟩:=hK j hj'
    by_cases hjt:t=j
    .subst hjt;have:k2=k':=by omega
     subst this;refine ⟨k2,a,b,?_⟩
     rw [List.getElem_set_self]
     exact ih
    .refine ⟨k2,a,b,?_⟩
     rw [List.getElem_set_ne hjt]
     exact c
   exact ⟨hi,r_H hO _ ht,H⟩
theorem o_b (hv:O_ d=true)(hd:SmD d){n:Nat}(hn:1000<=n){l:List Str}:∀(ss:List Str)(j m i:Nat)(v:Val)(k:Val->Val),l.drop j=ss->VP d.rules m i v ->
  n_ (σ:=Val×Int) (ρ:=(Option Val)×Int) (λO=>un2 λG I=>bd (idx l ((O:Nat):Int)) λV=>bd (d_c n d I G V) λH=>if (decide<|H<0) then some (.ret (none,(-1))) else bd (idx G.items H) λW=>bd (c_5 d I G H) λY=>some<|.next (W,Y)) ss.length j (v,(i:Int))
   = match goK d.rules ss i v k with | none=>some (.inr (none,-1)) | some x=>some<|.inl (x.2.1,(x.1:Int))
 | [],j,m,i,v,k,hs,h=>rfl
 | s::ss,j,0,i,v,k,hs,h=>h.elim
 | s::ss,j,m+1,i,v,k,hs,h=>by
  have hi:=h.1;have hO:=h.2.1;have h40:=h_t hv hi hO
  have hjl:j<l.length:=by
   refine Nat.lt_of_not_le λhc=>?_
   rw [List.drop_of_length_le hc] at hs;cases hs
  have hs':l[j]=s/\l.drop (j+1)=ss:=by
   rw [dC_ hjl] at hs
   exact List.cons.inj hs
  rw [lC_]
  unfold n_
  simp only [un2]
  rw [ix_ hjl,bd_some,hs'.1,o_0 hv hd hi h40 s hn,bd_some]
  unfold goK
  rw [N_ hi]
  by_cases hf:a_Z d.rules[i] v.items.length s<0
  .rw [dT_ hf,iP_ rfl,iP_ hf]
  .rw [dF_ hf,iN_ (by simp),iN_ hf]
   obtain ⟨t,k',ht,J,L,e3,e4⟩:=g_t hv h (s:=s) (by rw [N_ hi];exact hf)
   rw [N_ hi] at J L
   rw [J,ix_ ht,bd_some,e_G (ix_ hi)<|b_d (a_O hv hi).kind,bd_some,tN_,L,tN_,e3]
   exact o_b hv hd hn ss (j+1) m k' _ _ hs'.2 e4
theorem rep_G (hd:SmD d){v part:Val}{path:Str}{n:Nat}(hp:dep 25 part)(a1:vsz 25 part<=1000000)(hdv:dep 25 v)(hzv:vsz 25 v<=100000)(hpath:path.b.length<=MX)(hn:MX+1200<=n) :
  ∃w:Val×Bool,f_k n d v path part=some w/\e_p n d v path part=some w/\(∃y:Val×Int×Bool,e_v n d v path=some y)/\dep 25 w.1/\vsz 25 w.1<=vsz 25 v+vsz 25 part:=by
 have hMX:=MXv;have hsl:=s_d path;have H:b_Y n v=some v:=d_M 25 v hdv (by omega) n (by omega);have I:b_H n v=some v:=h_G 25 v hdv (by omega) n (by omega);have J:b_H n part=some part:=h_G 25 part hp (by omega) n (by omega);unfold f_k e_p c_p j_U e_v i_p
 rw [h_D hd,k_t hd,l_s (by omega) hpath (by omega),o_s (by omega) hpath]
 simp only [bd_some]
 obtain ⟨t,L,O,V⟩:=f_s hd (i:=b_e d) (v:=v) (n:=n) (by omega)
 rw [L,O,H,I,J]
 generalize hsp:e_6 path=sp at *
 obtain ⟨ss,ok⟩:=sp
 simp only [bd_some,bd2_some] at hsl ⊢
 cases ok
 .exact ⟨(v,false),rfl,rfl,⟨_,rfl⟩,hdv,Nat.le_add_right _ _⟩
 cases t
 .exact ⟨(v,false),rfl,rfl,⟨_,rfl⟩,hdv,Nat.le_add_right _ _⟩
 obtain ⟨hv,k,hk,hkl,hV⟩:=V rfl;have a0:=(b_B hv).2;have hkz:vsz (k+1) v<=100000:=Nat.le_trans (d_D v (by omega)) hzv
 simp only [bd_some,nT_,bF_,fF_]
 rw [hk,l_j hv hd (by omega) ss 0 (k+1) k v (λy=>y) rfl hV,o_3 hv hd (by omega) ss 0 (k+1) k v (λy=>y) rfl hV,o_b hv hd (by omega) ss 0 (k+1) k v (λy=>y) rfl hV]
 cases hg:goK d.rules ss k v (λy=>y) with
 | none=>exact ⟨(v,false),rfl,rfl,⟨_,rfl⟩,hdv,Nat.le_add_right _ _⟩
 | some x =>
  obtain ⟨m',a,c⟩:=l_l ss (k+1) k v _ hv hV hg;have h2:=e_A a.fuel
  have a2:vsz (x.1+1) x.2.1<=100000:=by
   rcases Nat.le_total m' (x.1+1) with h | h
   .rw [(f_v m' (x.1+1) x.2.1 (e_A a) h).2];omega
   .have:=d_D x.2.1 h;omega
  have a3:=vp_lt a;have W:b_Y n x.2.1=some x.2.1:=d_M (x.1+1) _ h2 (by omega) n (by omega);have Y:b_H n x.2.1=some x.2.1:=h_G (x.1+1) _ h2 (by omega) n (by omega)
  simp only [bd_some,bd2_some,bd3_some,el_inl,un4,un2,a_w,W,Y,opS,nT_,bF_,fF_]
  obtain ⟨t',u1,u2,u3⟩:=f_s hd (i:=(x.1:Int)) (v:=part) (n:=n) (by omega)
  rw [u1,u2]
  have hgs:(goK d.rules ss k v<|λy=>y).isSome=true:=by rw [hg];rfl
  cases t'
  .exact ⟨(v,false),rfl,rfl,⟨_,rfl⟩,hdv,Nat.le_add_right _ _⟩
  .simp only [bd_some,nT_,bF_,fF_,fT_]
   rw [o_4 hv hd hp (by omega) ss (k+1) k v (λy=>y) n hV (by omega) (by omega) (by omega) hgs,o_2 _ _ _ _ _ hg]
   obtain ⟨_,k3,a4,_,G⟩:=u3 rfl;have hk3':k3=x.1:=by omega
   subst hk3';have hP:=o_a hv ss (k+1) k v _ (Nat.le_refl _) hV hg G;have h1:=o_5 hv (part:=part) (M:=25) ss (k+1) (k+1) k v (λy=>y) hV (by omega) hgs;obtain ⟨q1,q2⟩:=d_E (e_A hP) (show k+1<=25 by omega);have h3:=d_D v (show k+1<=25 by omega);refine ⟨(d_h d.rules ss k v part,true),rfl,rfl,⟨_,rfl⟩,q1,?_⟩
   show vsz 25 (d_h d.rules ss k v part)<=_
   omega
end
end Go.Vw
