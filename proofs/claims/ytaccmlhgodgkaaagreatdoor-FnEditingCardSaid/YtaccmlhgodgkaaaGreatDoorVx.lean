
import Derived.Test.YtaccmlhgodgkaaaGreatDoorVp
import Derived.Test.YtaccmlhgodgkaaaGreatDoorVu
import Derived.Test.YtaccmlhgodgkaaaGreatDoorVv
import Derived.Test.YtaccmlhgodgkaaaGreatDoorVw
namespace Go.Vw
open Go.RowKit Dat
section
variable {d:e_}{b:Bt}
theorem h_r (hd:SmD d){i:Int}{v:Val}{n:Nat}(hn:1000<=n):∃t,d_y n d i v=some t/\d_C n d i v=some t/\(t=true->X_ d=true/\∃k:Nat,i=(k:Int)/\k<d.rules.length/\VP d.rules (k+1) k v):=by
 by_cases hv:X_ d=true
 .obtain ⟨t,a,b,c,_⟩:=r_I hv hd (i:=i) (v:=v) hn;exact ⟨t,a,b,λh=>⟨hv,c h⟩⟩
 .have hv':X_ d=false:=by simpa using hv
  unfold d_y d_C
  rw [j_d d hd,g_e n (by omega) d hd,hv',bd_some,bd_some]
  exact ⟨false,rfl,rfl,nofun⟩
theorem k_Q:∀(ss:List Str)(m i:Nat)(v:Val)(k:Val->Val){x:Nat×Val×(Val->Val)},X_ d=true->VP d.rules m i v->goK d.rules ss i v k=some x->∃m',VP d.rules m' x.1 x.2.1/\vsz m' x.2.1<=vsz m v
 | [],m,i,v,k,x,hv,h,hg=>by
  obtain rfl:=Option.some.inj hg;exact ⟨m,h,Nat.le_refl _⟩
 | s::ss,0,i,v,k,x,hv,h,hg=>h.elim
 | s::ss,m+1,i,v,k,x,hv,h,hg=>by
  unfold goK at hg
  by_cases hf:a_D (d.rules.getD i default) v.items.length s<0
  .rw [iP_ hf] at hg;cases hg
  .rw [iN_ hf] at hg
   obtain ⟨t,k',ht,G,H,I,J⟩:=f_m hv h hf
   rw [G,tN_,H,tN_,I] at hg
   obtain ⟨m',a,c⟩:=k_Q ss m k' v.items[t] _ hv J hg;refine ⟨m',a,?_⟩;have hsz:=f_p (m:=m)<|gE_ ht;have:vsz (m+1) v=v.bytes.length+lsz m v.items:=rfl
   omega
theorem q_b (hd:SmD d){v part:Val}{path:Str}{M n:Nat}(hM:25<=M)(hp:dep M part)(G:vsz M part<=1100000)(hdv:dep 25 v)(hzv:vsz 25 v<=20000)(hpath:path.b.length<=MX)(hn:M+MX+1100<=n) :
  ∃w:Val×Bool,h_0 n d v path part=some w/\f_V n d v path part=some w/\(w.2=true->(∀m,m<=25->vsz m w.1<=1120000)/\∃(ss:List Str)(k:Nat)(x:Nat×Val×(Val->Val)),c_p path=(ss,true)/\b_3 d=(k:Int)/\VP d.rules (k+1) k v/\goK d.rules ss k v (λy=>y)=some x/\w.1=c_2 d.rules ss k v part):=by
 have hMX:=MXv;have hsl:=r_2 path;have H:e_h n v=some v:=h_D 25 v hdv (by omega) n (by omega);have I:d_o n v=some v:=n_m 25 v hdv (by omega) n (by omega);have J:d_o n part=some part:=n_m M part hp G n (by omega);unfold h_0 f_V d_F i_P
 rw [h_C hd,l_d hd,k_X (by omega) hpath (by omega),q_N (by omega) hpath]
 simp only [bd_some]
 obtain ⟨t,L,O,V⟩:=h_r hd (i:=b_3 d) (v:=v) (n:=n) (by omega)
 rw [L,O,H,I,J]
 generalize hsp:c_p path=sp at *
 obtain ⟨ss,ok⟩:=sp
 simp only [bd_some,bd2_some] at hsl ⊢
 cases ok
 .exact ⟨(v,false),rfl,rfl,nofun⟩
 cases t
 .exact ⟨(v,false),rfl,rfl,nofun⟩
 obtain ⟨hv,k,hk,hkl,hV⟩:=V rfl;have a0:=(b_W hv).2;have hkz:vsz (k+1) v<=20000:=Nat.le_trans (e_v v (by omega)) hzv
 simp only [bd_some,nT_,bF_,fF_]
 rw [hk,k_O hv hd (by omega) ss 0 (k+1) k v (λy=>y) rfl hV,m_x hv hd (by omega) ss 0 (k+1) k v (λy=>y) rfl hV]
 cases hg:goK d.rules ss k v (λy=>y) with
 | none=>exact ⟨(v,false),rfl,rfl,nofun⟩
 | some x =>
  obtain ⟨m',a,c⟩:=k_Q ss (k+1) k v _ hv hV hg
  have W:e_h n x.2.1=some x.2.1:=by
   have:=k_N a;have h1:=e_y m' (x.1+1) x.2.1 ;have h2:=g_f a.fuel
   exact h_D (x.1+1) _ h2 (by
    rcases Nat.le_total m' (x.1+1) with h | h
    .rw [(e_y m' (x.1+1) x.2.1 (g_f a) h).2];omega
    .have:=e_v x.2.1 h;omega) n (by omega)
  simp only [bd_some,bd2_some,bd3_some,el_inl,un4,un2,d_x,W,opS,nT_,bF_,fF_]
  obtain ⟨t',Y,u2,_⟩:=h_r hd (i:=(x.1:Int)) (v:=part) (n:=n) (by omega)
  rw [Y,u2]
  have hgs:(goK d.rules ss k v<|λy=>y).isSome=true:=by rw [hg];rfl
  cases t'
  .exact ⟨(v,false),rfl,rfl,nofun⟩
  .simp only [bd_some,nT_,bF_,fF_,fT_]
   rw [m_y hv hd hp G ss (k+1) k v (λy=>y) n hV (by omega) (by omega) (by omega) hgs,m_w _ _ _ _ _ hg]
   refine ⟨(c_2 d.rules ss k v part,true),rfl,rfl,λ_=>⟨λm hm=>?_,ss,k,x,rfl,rfl,hV,hg,rfl⟩⟩;have h1:=m_z hv (part:=part) (M:=M) ss m (k+1) k v (λy=>y) hV (by omega) hgs;have h2:=e_v v hm
   show vsz m (c_2 d.rules ss k v part)<=_
   omega
theorem q_c (hd:SmD d){v:Val}{n:Nat}(hn:1000<=n)(hz:∀m,m<=25->vsz m v<=1120000):∃w:Bt×Bool,h_H n d v=some w/\h_7 n d v=some w/\w.1.length<=400/\(w.2=true->X_ d=true/\∃k:Nat,b_3 d=(k:Int)/\VP d.rules (k+1) k v/\Prt d.rules (k+1) k v w.1):=by
 have hMX:=MXv;unfold h_H h_7 j_D i_Q
 rw [h_C hd,l_d hd,bd_some,bd_some]
 obtain ⟨t,H,I,J⟩:=h_r hd (i:=b_3 d) (v:=v) (n:=n) (by omega)
 rw [H,I,bd_some,bd_some]
 cases t
 .exact ⟨([],false),rfl,rfl,Nat.zero_le _,nofun⟩
 obtain ⟨hv,k,hk,hkl,hV⟩:=J rfl;have W:=(b_W hv).2;obtain ⟨e,Y,ep,L,O⟩:=m_t hv hd (k+1) k v hV (by have:=hz (k+1) (by omega);omega);obtain ⟨o',o1,o2,o3,V⟩:=O n (by omega) []<|Nat.zero_le _
 rw [hk,L n (by omega),o1]
 simp only [bd_some,nT_,bF_,fF_]
 unfold f_8
 simp only [bd_some]
 rcases V with G | ⟨h1,h2⟩
 .rw [List.nil_append] at G
  rw [G]
  by_cases h:(400:Int)<(e.length:Int)
  .rw [dT_ h]
   exact ⟨([],false),rfl,rfl,Nat.zero_le _,nofun⟩
  .rw [dF_ h]
   exact ⟨(e,true),rfl,rfl,by show e.length<=400;omega,λ_=>⟨hv,k,rfl,hV,ep⟩⟩
 .rw [List.nil_append] at h2
  rw [dT_ (show (400:Int)<(e.length:Int) by omega),dT_ (show (400:Int)<(o'.length:Int) by omega)]
  exact ⟨([],false),rfl,rfl,Nat.zero_le _,nofun⟩
theorem dep_zV:dep 25 zV:=λx hx=>by cases hx
theorem q_d (h:¬(b_N d b).2.2=0):(b_N d b).1=zV:=by
 unfold b_N at h ⊢
 split
 .rfl
 .rename_i hc
  rw [iN_ hc] at h
  unfold b_D at h ⊢
  split
  .rename_i ho
   rw [iP_ ho] at h
   exact l_9 h
  .rfl
theorem q_e:dep 25 (b_N d b).1/\vsz 25 (b_N d b).1<=20000:=by
 by_cases h:(b_N d b).2.2=0
 .obtain ⟨hv,hb,hl,_,G,e,_⟩:=okF_ok (show okF d b=true by unfold okF;rw [h];rfl);have H:=(b_W hv).2;have h1:=(n_2 (b:=b) hv (d.rules.length - 1) hl 0<|Nat.zero_le _).1;have h2:=r_C hv hb hl (Nat.zero_le _) G
  rw [e]
  have h3:=e_y _ 25 _ h1 (by omega);exact ⟨h3.1,by rw [h3.2];exact h2⟩
 .rw [q_d h]
  exact ⟨dep_zV,by decide⟩
end
end Go.Vw
