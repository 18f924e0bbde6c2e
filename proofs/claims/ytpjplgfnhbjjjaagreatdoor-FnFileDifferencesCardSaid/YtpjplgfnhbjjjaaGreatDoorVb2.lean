
import Derived.Test.YtpjplgfnhbjjjaaGreatDoorVb1
namespace Go.Vw
open Go.RowKit Dat
theorem d_E {m n:Nat}{v:Val}(h:dep m v)(hn:m<=n):dep n v/\vsz n v=vsz m v:=f_v m n v h hn
theorem pow4 (j:Nat):1<=4 ^ j:=Nat.pow_pos (by decide)
theorem l_m {a b:Nat}(h:a<=b):4 ^ a<=4 ^ b:=Nat.pow_le_pow_right (by decide) h
theorem o_7 {m B:Nat}:∀{l:List Val},(∀x∈l,vsz m x<=B)->lsz m l<=l.length * (1+B)
 | [],_=>by simp [lsz]
 | v::l,h=>by
  have h1:=h v mS_;have h2:=o_7 (l:=l) λx hx=>h x<|mT_ _ hx
  rw [c_g,lC_,Nat.add_mul]
  omega
theorem o_8 {d:c_}{j:Nat}{v:Val}(h:Mk d j v):dep j v/\vsz j v<=6 * 4 ^ j:=by
 induction h with
 | @flat j v hj hi hb =>
  have G:dep 0 v:=hi;obtain ⟨a,c⟩:=d_E G<|Nat.zero_le j;refine ⟨a,?_⟩
  rw [c]
  show v.bytes.length<=_
  have:=pow4 j
  omega
 | @node j v hj hn hb f hf ch ih =>
  have hx:∀x∈v.items,∃c,c<j/\dep c x/\vsz c x<=6 * 4 ^ c:=λx hx=>by
   obtain ⟨t,ht,rfl⟩:=List.mem_iff_getElem.1 hx;exact ⟨f t,(hf t ht).2,(ih t ht).1,(ih t ht).2⟩
  cases j with
  | zero =>
   have:v.items=[]:=List.eq_nil_iff_forall_not_mem.2 λx hm=>by obtain ⟨c,hc,_⟩:=hx x hm;omega
   exact ⟨this,by show v.bytes.length<=_;rw [hb];simp⟩
  | succ j =>
   refine ⟨λx hm=>?_,?_⟩
   .obtain ⟨c,h1,h2,_⟩:=hx x hm;exact (d_E h2 (by omega)).1
   .show v.bytes.length+lsz j v.items<=_
    rw [hb]
    have:=o_7 (m:=j) (B:=6 * 4 ^ j) (l:=v.items) λx hm=>by
     obtain ⟨c,h1,h2,h3⟩:=hx x hm
     rw [(d_E h2 (show c<=j by omega)).2]
     have:=l_m (show c<=j by omega)
     omega
    have h3:=Nat.mul_le_mul_right (1+6 * 4 ^ j) hn;have h4:=pow4 j
    rw [List.length_nil,Nat.pow_succ]
    omega
section
variable {b:Bt}{i h:Int}
theorem r_E (hb:b.length<=MX):∀(m n:Nat),m+1<=n->∀(v:Val)(i h:Int),0<=i->i<=(b.length:Int)->dep m v->vsz m v<=100000->Dr b (n_2 n ⟨b,i,h⟩ v) (λw=>dep (m+1) w/\vsz (m+1) w<=vsz (m+1) v+1):=by
 have hLIM:=X_;intro m
 induction m with
 | zero =>
  intro n hn v i h G h1 hd hz;obtain ⟨n,rfl⟩:∃q,n=q+1:=⟨n - 1,by omega⟩;have hi:v.items=[]:=hd;have hz':v.bytes.length<=100000:=hz;have I:vsz 1 v=v.bytes.length+lsz 0 v.items:=rfl;have e0:lsz 0 ([]:List Val)=0:=rfl
  show Dr b (f_N n (f_0 n) ⟨b,i,h⟩ v) _
  unfold f_N;refine (b_6 (n:=5) G h1 hb (by omega)).bd λr i h hr G h1=>?_
  rw [hi]
  by_cases J:(r==0)=true
  .rw [iP_ J]
   obtain ⟨x,i,h,e,H,g1,_⟩:=i_B (h:=h) G h1 hb (l:=[(-1),1,256,4294967296]) (by simp)
   simp only
   rw [e]
   exact ⟨_,_,_,rfl,H,g1,⟨λx hx=>(by cases hx),by rw [I,hi];exact Nat.le_succ _⟩⟩
  rw [iN_ J]
  by_cases L:(r==1)=true
  .rw [iP_ L,a_a (by omega)]
   refine ⟨_,_,_,rfl,G,h1,⟨λx hx=>(by cases hx),?_⟩⟩
   rw [I,hi]
   show (v.bytes++[(1:UInt8)]).length+lsz 0 []<=_
   rw [List.length_append,e0]
   simp
  rw [iN_ L]
  by_cases O:(r==2)=true
  .rw [iP_ O,a_a (by simp;omega)]
   refine ⟨_,_,_,rfl,G,h1,⟨λx hx=>?_,?_⟩⟩
   .have hx':x∈[zV]:=hx;have:x=zV:=by simpa using hx'
    rw [this];rfl
   .rw [I,hi]
    show v.bytes.length+lsz 0 [zV]<=_
    have:lsz 0 [zV]=1:=rfl
    omega
  rw [iN_ O]
  by_cases V:(r==3)=true
  .rw [iP_ V]
   exact ⟨_,_,_,rfl,G,h1,⟨λx hx=>(by cases hx),by rw [I,hi];exact Nat.le_succ _⟩⟩
  .rw [iN_ V]
   exact ⟨_,_,_,rfl,G,h1,⟨λx hx=>(by cases hx),by rw [I,hi];exact Nat.le_succ _⟩⟩
 | succ m ih =>
  intro n hn v i h G h1 hd hz;obtain ⟨n,rfl⟩:∃q,n=q+1:=⟨n - 1,by omega⟩;have hz':v.bytes.length+lsz m v.items<=100000:=hz;have hll:=g_u m v.items;have W:∀x∈v.items,dep (m+1) x/\vsz (m+1) x=vsz m x:=λx hx=>d_E (hd x hx)<|Nat.le_succ m
  have e2:vsz (m+2) v=v.bytes.length+lsz (m+1) v.items:=rfl;have e3:vsz (m+1+1) v=v.bytes.length+lsz (m+1) v.items:=rfl;have hdv:dep (m+2) v:=λx hx=>(W x hx).1
  show Dr b (f_N n (f_0 n) ⟨b,i,h⟩ v) _
  unfold f_N;refine (b_6 (n:=5) G h1 hb (by omega)).bd λr i h hr G h1=>?_
  by_cases J:(r==0)=true
  .rw [iP_ J]
   obtain ⟨x,i,h,e,H,g1,_⟩:=i_B (h:=h) G h1 hb (l:=[(-1),1,256,4294967296]) (by simp)
   simp only
   rw [e]
   exact ⟨_,_,_,rfl,H,g1,⟨hdv,Nat.le_succ _⟩⟩
  rw [iN_ J]
  by_cases L:(r==1)=true
  .rw [iP_ L,a_a (by omega)]
   refine ⟨_,_,_,rfl,G,h1,⟨hdv,?_⟩⟩
   show (v.bytes++[(1:UInt8)]).length+lsz (m+1) v.items<=_
   rw [List.length_append,e2]
   simp;omega
  rw [iN_ L]
  by_cases O:(r==2)=true
  .rw [iP_ O,a_a (by omega)]
   refine ⟨_,_,_,rfl,G,h1,⟨λx hx=>?_,?_⟩⟩
   .rcases List.mem_append.1 (show x∈v.items++[zV] from hx) with hx | hx
    .exact (W x hx).1
    .have:x=zV:=by simpa using hx
     rw [this]
     exact λy hy=>by cases hy
   .show v.bytes.length+lsz (m+1) (v.items++[zV])<=_
    have:lsz (m+1) (v.items++[zV])=lsz (m+1) v.items+1:=by unfold lsz;simp [vsz,Val.items,Val.bytes]
    omega
  rw [iN_ O]
  by_cases V:(r==3)=true
  .rw [iP_ V]
   by_cases hp:(0:Int)<(v.items.length:Int)
   .rw [dT_ hp,iP_ rfl]
    obtain ⟨k,i,h,e,H,g1,hk⟩:=b_6 (h:=h) G h1 hb hp
    simp only
    rw [e,bd3_some]
    obtain ⟨t,rfl⟩:∃t:Nat,k=t:=⟨k.toNat,by omega⟩;have ht:t<v.items.length:=by omega
    have hm:=gE_ ht;have hsz:=d_H (m:=m) hm;obtain ⟨w,i,h,e',H,g1,p1,p2⟩:=ih n (by omega) v.items[t] i h H g1 (hd _ hm) (by omega)
    rw [ix_ ht,bd_some,show (f_0 n).spec_l9Bent ⟨b,_,_⟩ v.items[t]=some (w,i,h) from e',bd3_some]
    refine ⟨_,_,_,rfl,H,g1,⟨λx hx=>?_,?_⟩⟩
    .rcases List.mem_or_eq_of_mem_set (show x∈v.items.set (t:Int).toNat w from hx) with hx | rfl
     .exact (W x hx).1
     .exact p1
    .show v.bytes.length+lsz (m+1) (v.items.set (t:Int).toNat w)<=_
     have:=l_k (m:=m+1) (z:=w) (Y:=1) (l:=v.items) (t:=t) ht p2
     rw [tN_,e2]
     omega
   .rw [dF_ hp]
    exact ⟨_,_,_,rfl,G,h1,⟨hdv,Nat.le_succ _⟩⟩
  .rw [iN_ V]
   by_cases hp:(0:Int)<(v.items.length:Int)
   .rw [dT_ hp,iP_ rfl,f_A (by omega) (by omega) (by omega)]
    refine ⟨_,_,_,rfl,G,h1,⟨λx hx=>?_,?_⟩⟩
    .exact (W x<|List.mem_of_mem_take<|List.mem_of_mem_drop hx).1
    .cases hv:v.items with
     | nil=>rw [hv] at hp;simp at hp
     | cons y l =>
      show v.bytes.length+lsz (m+1) (((y::l).take ((y::l).length:Int).toNat).drop (1:Int).toNat)<=_
      rw [e2,hv,c_g,tN_,List.take_length]
      show _+lsz (m+1) l<=_
      omega
   .rw [dF_ hp]
    exact ⟨_,_,_,rfl,G,h1,⟨hdv,Nat.le_succ _⟩⟩
end
theorem o_9 {d:c_}(hd:SmD d){n m:Nat}(hm:m<=25){v:Val}(hdv:dep m v)(hz:vsz m v<=1000000){p:Str}(hp:p.b.length<=1000)(hn:2000<=n):∃y r ok,c_p n d v p=some (y,r,ok)/\((r = -1/\ok=false)∨∃k:Nat,r=(k:Int)/\k<d.rules.length):=by
 have hMX:=MXv;unfold c_p
 rw [h_D hd,bd_some,l_s (by omega) (by omega) (by omega)]
 obtain ⟨t,G,L,H⟩:=f_s hd (i:=b_e d) (v:=v) (n:=n) (by omega)
 rw [G]
 generalize e_6 p=sp;obtain ⟨ss,ok⟩:=sp
 simp only [bd2_some]
 cases ok
 .exact ⟨_,_,_,rfl,.inl ⟨rfl,rfl⟩⟩
 cases t
 .exact ⟨_,_,_,rfl,.inl ⟨rfl,rfl⟩⟩
 obtain ⟨hv,k,hk,hkl,hV⟩:=H rfl;have I:=(b_B hv).2
 simp only [bd_some,nT_,bF_,fF_]
 rw [hk,l_j hv hd (by omega) ss 0 (k+1) k v (λy=>y) rfl hV]
 cases hg:goK d.rules ss k v (λy=>y) with
 | none=>exact ⟨_,_,_,rfl,.inl ⟨rfl,rfl⟩⟩
 | some x =>
  obtain ⟨m',a,c⟩:=l_l ss (k+1) k v _ hv hV hg
  have J:vsz (k+1) v<=1000000:=by
   rcases Nat.le_total (k+1) m with h | h
   .exact Nat.le_trans (d_D v h) hz
   .rw [(d_E hdv h).2];exact hz
  have hx:=vp_lt a;have h2:=e_A a.fuel
  have hcp:b_Y n x.2.1=some x.2.1:=d_M (x.1+1) _ h2 (by
   rcases Nat.le_total m' (x.1+1) with h | h
   .rw [(f_v m' (x.1+1) x.2.1 (e_A a) h).2];omega
   .have:=d_D x.2.1 h;omega) n (by omega)
  simp only [bd_some,el_inl,un4,a_w,hcp]
  exact ⟨_,_,_,rfl,.inr ⟨x.1,rfl,hx⟩⟩
theorem r_F {d:c_}(hd:SmD d){n m:Nat}(hm:m<=25){v:Val}(hdv:dep m v)(hz:vsz m v<=1000000){p:Str}(hp:p.b.length<=1000)(hn:2000<=n):∃y r ok,c_p n d v p=some (y,r,ok)/\(r = -1∨∃k:Nat,r=(k:Int)/\k<d.rules.length):=by
 obtain ⟨y,r,ok,e,h⟩:=o_9 hd hm hdv hz hp hn;exact ⟨y,r,ok,e,h.imp (·.1) id⟩
section
variable {c:Bt}
theorem r_G (hb:c.length<=MX){n:Nat}(hn:1048600<=n){i h:Int}(G:0<=i)(h1:i<=(c.length:Int)):∃d v p r i' h',i_6 n ⟨c,i,h⟩ 0=some (d,v,p,r,i',h')/\0<=i'/\i'<=(c.length:Int)/\DrD d/\dep 6 v/\vsz 6 v<=6145/\p.b.length<=300/\(r = -1∨∃k:Nat,r=(k:Int)/\k<d.rules.length):=by
 unfold i_6;obtain ⟨d,i,h,L,O,V,hd⟩:=s_o (h:=h) G h1 hb (n:=n) (by omega);have hf:=hd.few;have hs:=hd.some_
 rw [L,bd3_some,dF_ (show ¬(0:Int)<0 by omega)]
 simp only [bF_,fF_,bd_some,el_inl,un3]
 rw [b_i (by omega) (by omega),show (d.rules.length:Int) - 1=((d.rules.length - 1:Nat):Int) by omega]
 obtain ⟨v,i,h,W,Y,b1,hv⟩:=l_D hb hd (d.rules.length - 1) (by omega) n (by omega) i h 10 O V (by omega) (by omega)
 rw [show (⟨d.rules⟩:c_)=d from rfl,W,bd3_some]
 obtain ⟨p,i,h,e3,c0,c1,hp⟩:=s_v (h:=h) Y b1 hb hd hv (n:=n) (by omega)
 rw [e3,bd3_some]
 obtain ⟨o,i,h,e4,f0,H,_⟩:=h_y (h:=h) c0 c1 hb 12
 rw [e4,bd3_some]
 obtain ⟨m1,m2⟩:=o_8 hv;have a4:=l_m (show d.rules.length - 1<=5 by omega);obtain ⟨I,n2⟩:=d_E m1 (show d.rules.length - 1<=5 by omega);obtain ⟨n3,n4⟩:=d_E I (show 5<=6 by omega)
 have hvz:vsz 5 v<=6144:=by
  have:(4:Nat) ^ 5=1024:=rfl
  omega
 have fin:∀(w:Val)(i h:Int),0<=i->i<=(c.length:Int)->dep 6 w->vsz 6 w<=6145->∃d' v p' r i' h',(bd3 (c_p n d w p) λa2 J a3=>some (d,w,p,J,i,h))=some (d',v,p',r,i',h')/\0<=i'/\i'<=(c.length:Int)/\DrD d'/\dep 6 v/\vsz 6 v<=6145/\p'.b.length<=300/\(r = -1∨∃k:Nat,r=(k:Int)/\k<d'.rules.length):=by
  intro w i h G h1 hw hz;obtain ⟨y,r,ok,ef,hr⟩:=r_F hd.sm (m:=6) (by omega) hw (by omega) (p:=p) (by omega) (n:=n) (by omega)
  rw [ef]
  exact ⟨d,w,p,r,i,h,rfl,G,h1,hd,hw,hz,hp,hr⟩
 cases o
 .simp only [bF_,fF_,bd_some,un5,a_w]
  exact fin v i h f0 H n3 (by omega)
 .obtain ⟨w,i,h,e5,g0,g1,w1,w2⟩:=r_E hb 5 n (by omega) v i h f0 H I (by omega)
  simp only [fT_]
  rw [e5]
  simp only [bd3_some,bd_some,un5,a_w]
  have w3:vsz 6 w<=vsz 6 v+1:=w2;exact fin w i h g0 g1 w1 (by omega)
end
end Go.Vw
