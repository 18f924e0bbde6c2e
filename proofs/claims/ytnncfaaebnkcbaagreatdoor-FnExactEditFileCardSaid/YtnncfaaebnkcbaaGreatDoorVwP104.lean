
import Derived.Test.YtnncfaaebnkcbaaGreatDoorVwP103
import Derived.Test.YtnncfaaebnkcbaaGreatDoorVwP101
import Derived.Test.YtnncfaaebnkcbaaGreatDoorVwP94
import Derived.Test.YtnncfaaebnkcbaaGreatDoorVwP27
namespace Go.Vw
open Go.RowKit Dat
section
variable {d:f_}{b:List UInt8}
theorem j_J (hd:SmD d){i:Int}{v:Val}{n:Nat}(hn:1000<=n):∃t,d_A n d i v=some t/\d_n n d i v=some t/\(t=true->a_5 d=true/\∃k:Nat,i=(k:Int)/\k<d.rules.length/\VP d.rules (k+1) k v):=by
 by_cases hv:a_5 d=true
 ·obtain ⟨t,a,b,c,_⟩:=q_T hv hd (i:=i) (v:=v) hn;exact ⟨t,a,b,fun h=>⟨hv,c h⟩⟩
 ·have hv':a_5 d=false:=by simpa using hv
  unfold d_A d_n
  rw [i_h d hd,f_w n (by omega) d hd,hv',bd_some,bd_some]
  exact ⟨false,rfl,rfl,nofun⟩
theorem m_a:∀(ss:List Str)(m i:Nat)(v:Val)(k:Val->Val){x:Nat×Val×(Val->Val)},a_5 d=true->VP d.rules m i v->goK d.rules ss i v k=some x->∃m',VP d.rules m' x.1 x.2.1/\vsz m' x.2.1<=vsz m v
 | [],m,i,v,k,x,hv,h,hg=>by
  obtain rfl:=Option.some.inj hg;exact ⟨m,h,Nat.le_refl _⟩
 | s::ss,0,i,v,k,x,hv,h,hg=>h.elim
 | s::ss,m+1,i,v,k,x,hv,h,hg=>by
  unfold goK at hg
  by_cases hf:a_S (d.rules.getD i default) v.items.length s<0
  ·rw [iP_ hf] at hg;cases hg
  ·rw [iN_ hf] at hg
   obtain ⟨t,k',ht,G,H,I,J⟩:=g_y hv h hf
   rw [G,tN_,H,tN_,I] at hg
   obtain ⟨m',a,c⟩:=m_a ss m k' v.items[t] _ hv J hg;refine ⟨m',a,?_⟩;have hsz:=e_5 (m:=m)<|gE_ ht;have:vsz (m+1) v=v.bytes.length+lsz m v.items:=rfl
   omega
theorem p_r (hd:SmD d){v part:Val}{path:Str}{M n:Nat}(hM:25<=M)(hp:dep M part)(G:vsz M part<=1100000)(hdv:dep 25 v)(hzv:vsz 25 v<=20000)(hpath:path.b.length<=MX)(hn:M+MX+1100<=n) :
  ∃w:Val×Bool,g_h n d v path part=some w/\f_m n d v path part=some w/\(w.2=true->∀m,m<=25->vsz m w.1<=1120000):=by
 have hMX:=MXv;have hsl:=q_h path;have H:e_v n v=some v:=i_x 25 v hdv (by omega) n (by omega);have I:d_2 n v=some v:=m_L 25 v hdv (by omega) n (by omega);have J:d_2 n part=some part:=m_L M part hp G n (by omega);unfold g_h f_m h_P i_1
 rw [k_6 hd,k_5 hd,p_V (by omega) hpath (by omega),q_1 (by omega) hpath]
 simp only [bd_some]
 obtain ⟨t,L,O,V⟩:=j_J hd (i:=b_7 d) (v:=v) (n:=n) (by omega)
 rw [L,O,H,I,J]
 generalize hsp:e_P path=sp at *
 obtain ⟨ss,ok⟩:=sp
 simp only [bd_some,bd2_some] at hsl ⊢
 cases ok
 ·exact ⟨(v,false),rfl,rfl,nofun⟩
 cases t
 ·exact ⟨(v,false),rfl,rfl,nofun⟩
 obtain ⟨hv,k,hk,hkl,hV⟩:=V rfl;have a0:=(c_N hv).2;have hkz:vsz (k+1) v<=20000:=Nat.le_trans (g_z v (by omega)) hzv
 simp only [bd_some,nT_,bF_,fF_]
 rw [hk,m_6 hv hd (by omega) ss 0 (k+1) k v (fun y=>y) rfl hV,m_5 hv hd (by omega) ss 0 (k+1) k v (fun y=>y) rfl hV]
 cases hg:goK d.rules ss k v (fun y=>y) with
 | none=>exact ⟨(v,false),rfl,rfl,nofun⟩
 | some x =>
  obtain ⟨m',a,c⟩:=m_a ss (k+1) k v _ hv hV hg
  have W:e_v n x.2.1=some x.2.1:=by
   have:=vp_lt a;have h1:=f_A m' (x.1+1) x.2.1 ;have h2:=i_k a.fuel
   exact i_x (x.1+1) _ h2 (by
    rcases Nat.le_total m' (x.1+1) with h | h
    ·rw [(f_A m' (x.1+1) x.2.1 (i_k a) h).2];omega
    ·have:=g_z x.2.1 h;omega) n (by omega)
  simp only [bd_some,bd2_some,bd3_some,el_inl,un4,un2,e_W,W,opS,nT_,bF_,fF_]
  obtain ⟨t',Y,u2,_⟩:=j_J hd (i:=(x.1:Int)) (v:=part) (n:=n) (by omega)
  rw [Y,u2]
  have hgs:(goK d.rules ss k v<|fun y=>y).isSome=true:=by rw [hg];rfl
  cases t'
  ·exact ⟨(v,false),rfl,rfl,nofun⟩
  ·simp only [bd_some,nT_,bF_,fF_,fT_]
   rw [m_7 hv hd hp G ss (k+1) k v (fun y=>y) n hV (by omega) (by omega) (by omega) hgs,m_4 _ _ _ _ _ hg]
   refine ⟨(e_2 d.rules ss k v part,true),rfl,rfl,fun _ m hm=>?_⟩;have h1:=m_9 hv (part:=part) (M:=M) ss m (k+1) k v (fun y=>y) hV (by omega) hgs;have h2:=g_z v hm
   show vsz m (e_2 d.rules ss k v part)<=_
   omega
theorem p_s (hd:SmD d){v:Val}{n:Nat}(hn:1000<=n)(hz:∀m,m<=25->vsz m v<=1120000):∃w:List UInt8×Bool,g_N n d v=some w/\g_o n d v=some w/\w.1.length<=400:=by
 have hMX:=MXv;unfold g_N g_o i_E i_2
 rw [k_6 hd,k_5 hd,bd_some,bd_some]
 obtain ⟨t,H,I,J⟩:=j_J hd (i:=b_7 d) (v:=v) (n:=n) (by omega)
 rw [H,I,bd_some,bd_some]
 cases t
 ·exact ⟨([],false),rfl,rfl,Nat.zero_le _⟩
 obtain ⟨hv,k,hk,hkl,hV⟩:=J rfl;have W:=(c_N hv).2;obtain ⟨e,Y,L,O⟩:=p_o hv hd (k+1) k v hV (by have:=hz (k+1) (by omega);omega);obtain ⟨o',o1,o2,o3,V⟩:=O n (by omega) []<|Nat.zero_le _
 rw [hk,L n (by omega),o1]
 simp only [bd_some,nT_,bF_,fF_]
 unfold e_E
 simp only [bd_some]
 rcases V with G | ⟨h1,h2⟩
 ·rw [List.nil_append] at G
  rw [G]
  by_cases h:(400:Int)<(e.length:Int)
  ·rw [dT_ h]
   exact ⟨([],false),rfl,rfl,Nat.zero_le _⟩
  ·rw [dF_ h]
   exact ⟨(e,true),rfl,rfl,by show e.length<=400;omega⟩
 ·rw [List.nil_append] at h2
  rw [dT_ (show (400:Int)<(e.length:Int) by omega),dT_ (show (400:Int)<(o'.length:Int) by omega)]
  exact ⟨([],false),rfl,rfl,Nat.zero_le _⟩
theorem dep_zV:dep 25 zV:=fun x hx=>by cases hx
theorem p_t (h:¬(b_B d b).2.2=0):(b_B d b).1=zV:=by
 unfold b_B at h ⊢
 split
 ·rfl
 ·rename_i hc
  rw [iN_ hc] at h
  unfold b_A at h ⊢
  split
  ·rename_i ho
   rw [iP_ ho] at h
   exact k_3 h
  ·rfl
theorem p_u:dep 25 (b_B d b).1/\vsz 25 (b_B d b).1<=20000:=by
 by_cases h:(b_B d b).2.2=0
 ·obtain ⟨hv,hb,hl,_,G,e,_⟩:=okF_ok (show okF d b=true by unfold okF;rw [h];rfl);have H:=(c_N hv).2;have h1:=(m_s (b:=b) hv (d.rules.length - 1) hl 0<|Nat.zero_le _).1;have h2:=q_L hv hb hl (Nat.zero_le _) G
  rw [e]
  have h3:=f_A _ 25 _ h1 (by omega);exact ⟨h3.1,by rw [h3.2];exact h2⟩
 ·rw [p_t h]
  exact ⟨dep_zV,by decide⟩
theorem p_v (hd:SmD d)(hb:b.length<=MX){part:Val}{path:Str}{M n:Nat}(hM:25<=M)(hp:dep M part)(L:vsz M part<=1100000)(hpath:path.b.length<=MX)(hn:M+MX+1100<=n) :
  ∃w:List UInt8×Bool,g_i n d b path part=some w/\f_n n d b path part=some w/\w.1.length<=MX:=by
 have hMX:=MXv;obtain ⟨h1,h2⟩:=p_u (d:=d) (b:=b);obtain ⟨w,I,J,O⟩:=p_r hd hM hp L h1 h2 hpath hn;unfold g_i f_n
 rw [q_F hd (by omega),q_E hd (by omega)]
 generalize b_B d b=rf at *
 obtain ⟨v0,p0,G⟩:=rf;obtain ⟨v,ok⟩:=w
 simp only [bd3_some] at I J ⊢
 rw [I,J,q_g hb]
 simp only [bd2_some,bd_some]
 by_cases H:G=0
 ·subst H
  cases ok
  ·exact ⟨(b,false),rfl,rfl,hb⟩
  ·obtain ⟨y,V,W,Y⟩:=p_s hd (n:=n) (v:=v) (by omega)<|O rfl
   rw [V,W]
   obtain ⟨o,ok⟩:=y
   cases ok
   ·exact ⟨(b,false),rfl,rfl,hb⟩
   ·exact ⟨(o,true),rfl,rfl,by simp only at Y ⊢;omega⟩
 ·rw [show (G != 0)=true by simpa using H,show (G==0)=false by simpa using H]
  exact ⟨(b,false),rfl,rfl,hb⟩
theorem p_w {n:Nat}{v:Val}{m:Nat}{k:Int}(hd:dep (m+1) v)(hs:vsz (m+1) v<=MX)(G:0<=k)(hk:k<=562949953421312)(hn:m+MX+10<=n):∃(k':Int)(bs:List UInt8)(l:List Val),h_F n v k=some (k',bs,l)/\0<=k':=by
 have hMX:=MXv;have hv:vsz (m+1) v=v.bytes.length+lsz m v.items:=rfl;have hd':∀x∈v.items,dep m x:=hd;have he:=i_s (j_V m) v.items (k+v.bytes.length) hd';refine ⟨(a_v (a_w m) v.items<|k+v.bytes.length).2,d_u v.bytes.length k,(a_v (a_w m) v.items<|k+v.bytes.length).1,?_,by omega⟩;unfold h_F
 rw [g_A (by omega) (by omega) (by omega)]
 simp only [bd2_some]
 rw [m_x m n v.items _ hd' (by omega) (by omega) (by omega)]
 rfl
theorem p_x {n:Nat}(hn:4000000<=n){path:Str}{v:Val}(hd:LnD d)(hb:b.length<=LEN)(hp:path.b.length<=LEN)(hlv:LnV v):g_p n d b path v=some true:=by
 have hMX:=MXv;have hLEN:=f_x;unfold g_p
 by_cases h1:(1048576:Int)<(b.length:Int)
 ·rw [dT_ h1];rfl
 rw [dF_ h1]
 simp only [bF_,fF_]
 by_cases h3:(1048576:Int)<(path.b.length:Int)
 ·rw [dT_ h3];rfl
 rw [dF_ h3]
 obtain ⟨r,hr,H⟩:=p_B hd
 simp only [bF_,fF_]
 rw [hr,bd_some]
 by_cases h2:r<0
 ·rw [dT_ h2];rfl
 rw [dF_ h2]
 have hs:=(H.resolve_left h2).2;have hlr:=(H.resolve_left h2).1;have hbm:b.length<=MX:=by omega
 have hpm:path.b.length<=MX:=by omega
 have hlr':=hlr;unfold a_q at hlr'
 obtain ⟨K,hK⟩:∃K:Nat,K=1048576:=⟨_,rfl⟩;obtain ⟨q,hq,I⟩:=m_O (K+1) n (by omega) v hlv r hlr (by omega)
 simp only [bF_,fF_]
 rw [hq,bd_some]
 by_cases h4:q<0
 ·rw [dT_ h4];rfl
 rw [dF_ h4]
 obtain ⟨L,G,q2⟩:=I.resolve_left h4;unfold a_q at L
 have hvz:vsz (K+1) v<=MX:=by omega
 obtain ⟨w,O,V,W⟩:=p_v hs hbm (part:=v) (path:=path) (M:=K+1) (n:=n) (by omega) G (by omega) hpm (by omega);have tv:=q_N (K+1) n v G hvz (by omega);have ev:=m_t (K+1) n v G (by omega)
 simp only [bF_,fF_,p_F hs,i_m hbm,tv,bd_some,O,V]
 obtain ⟨o,ok⟩:=w
 simp only at W
 simp only [bd2_some,bd_some,nT_,bF_,fF_,bN_,p_I,j_L,ev]
 obtain ⟨k',l',hm,Y,a0⟩:=p_N (n:=n) hs (by omega)
 rw [hm]
 simp only [bd2_some]
 rw [g_A (by omega) (by omega) (by omega)]
 simp only [bd2_some]
 obtain ⟨k2,bs,l,J,a1⟩:=p_w (n:=n) (m:=K) (k:=k'+b.length) G hvz (by omega) (by omega) (by omega)
 rw [J]
 simp only [bd3_some]
 rw [dF_ (by omega)]
 simp only [bF_,fF_,bd_some]
 rw [g_A (by omega) (by omega) (by omega)]
 simp only [bd2_some]
 rw [show (List.range o.length).map (fun (i:Nat)=>mkB<|1+(i:Int))=d_u o.length 1 from rfl,q_f (by omega) (by omega)]
 simp only [bd_some]
 rw [dF_ (show ¬(1:Int)+(o.length:Int)<0 by omega)]
 simp only [bF_,fF_,bN_]
end
end Go.Vw
