
import Derived.Test.YtgieiijmhcgmcaaGreatDoorVwP77
namespace Go.Vw
open Go.RowKit Dat
theorem l_o {σ ρ:Type}{f g:Nat->σ->Option (Out σ ρ)}(I:σ->Prop)(h:∀k s,I s->(∃s',f k s=some (.next s')/\g k s=some (.next s')/\I s')∨(f k s=some (.brk s)/\g k s=some (.brk s))):∀(n k:Nat)(s:σ),I s->∃s',u_ f n k s=some (.inl s')/\u_ g n k s=some (.inl s')/\I s'
 | 0,k,s,hs=>⟨s,rfl,rfl,hs⟩
 | n+1,k,s,hs=>by
  unfold u_
  rcases h k s hs with ⟨s',G,H,h'⟩ | ⟨G,H⟩
  ·rw [G,H];exact l_o I h n (k+1) s' h'
  ·rw [G,H];exact ⟨s,rfl,rfl,hs⟩
theorem p_p (l:List UInt8):0<=a_j l/\a_j l<256:=by unfold a_j;omega
theorem p_q {k:Int}(G:0<=k)(h:k<256):byteI (mkB k)=k:=by
 obtain ⟨m,rfl⟩:∃m:Nat,k=m:=⟨k.toNat,by omega⟩
 have:mkB (m:Int)=UInt8.ofNat m:=by
  unfold mkB
  rw [IntKind.wrap_u8]
  congr 1
  omega
 rw [this];exact f_a (by omega)
section
variable {d:g_}{b:List UInt8}
theorem j_n (hd:SmD d){n:Nat}(hn:500<=n):c_H n d b=some ((a_l d b).2.1,(a_l d b).2.2):=by
 unfold c_H
 rw [l_t hd hn]
 rcases a_l d b with ⟨v,p,c⟩
 rfl
theorem p_r:(a_A d (a_K d) b 0).2.2=0->(a_A d (a_K d) b 0).2.1<=(b.length:Int):=fun h=>by
 unfold a_A at *
 split at h
 ·rename_i ho
  rw [iP_ ho]
  obtain ⟨hv,hb,i,p,h1,h2,hi,hp⟩:=e_o ho;unfold b_j;have:=(b_b (b:=b) hv i hi p hp).2
  rw [h1,h2]
  simp only [tN_];omega
 ·cases h
theorem p_s (hd:SmD d){n:Nat}(hn:500<=n):f_4 n d b=some ((a_l d b).2.1,(a_l d b).2.2):=by
 unfold f_4
 rw [h_j hd,bd_some,j_o hd hn,bd2_some]
 unfold a_l;have he:=p_r (d:=d) (b:=b);generalize a_A d (a_K d) b 0=x at *
 obtain ⟨v,p,c⟩:=x
 simp only at he ⊢
 by_cases G:c=0
 ·subst G;have:=he rfl
  by_cases h1:p<(b.length:Int)
  ·have hne:¬((⟨p,0⟩:B_)=⟨(b.length:Int),0⟩):=fun h=>by
    injection h with h2;omega
   rw [dF_ hne,iP_ (show (0:Int)=0/\p<(b.length:Int) from ⟨rfl,h1⟩)];rfl
  ·have:p=(b.length:Int):=by omega
   rw [this,dT_ rfl,iN_ (show ¬((0:Int)=0/\(b.length:Int)<(b.length:Int)) by omega)];rfl
 ·have hne:¬((⟨p,c⟩:B_)=⟨(b.length:Int),0⟩):=fun h=>by
   injection h with h2 h3;exact G h3
  rw [dF_ hne,iN_ (show ¬(c=0/\p<(b.length:Int)) from fun h=>G h.1)]
  rw [show (!false)=true from rfl,iP_ rfl,bd_some,show (c==0)=false by simpa using G];rfl
theorem l_p (hv:P_ d=true)(hb:b.length<=400):a_A d (a_K d) b 0=b_j (rdW d.rules b (d.rules.length - 1) 0):=by
 have hl:=b_X hv;have:=j_7 (d:=d) (b:=b) hv hb (i:=d.rules.length - 1) (p:=0) (by omega) (by omega)
 rw [← this]
 unfold a_K
 rw [show ((d.rules.length:Int) - 1)=((d.rules.length - 1:Nat):Int) by omega]
 rfl
theorem l_q (hd:SmD d)(h5:(a_l d b).2.2=5):P_ d=true/\b.length<=400/\∃ss j st,e_n d b (d.rules.length - 1) 0 ss j st (rdW d.rules b (d.rules.length - 1) 0).2.1/\(a_l d b).2.1=((rdW d.rules b (d.rules.length - 1) 0).2.1:Int):=by
 have hc:(a_A d (a_K d) b 0).2.2=5/\a_l d b=a_A d (a_K d) b 0:=by
  unfold a_l at h5 ⊢
  split at h5
  ·cases h5
  ·rename_i h;rw [iN_ h];exact ⟨h5,rfl⟩
 have ho:okV d b (a_K d) 0=true:=by
  have:=hc.1;unfold a_A at this
  split at this
  ·assumption
  ·cases this
 obtain ⟨hv,hb,_⟩:=e_o ho;have hl:=b_X hv;have hr:=l_p (b:=b) hv hb;have h6:=hc.1
 rw [hr] at h6
 obtain ⟨ss,j,st,S⟩:=p_n (b:=b) hv hd hb (d.rules.length - 1) (by omega) 0 (by omega) h6;exact ⟨hv,hb,ss,j,st,S,by rw [hc.2,hr];rfl⟩
theorem p_t {q:Nat}(hq:q<b.length)(c:UInt8):b_9 b (b.set q c) q:=⟨by omega,by rw [List.length_set];omega,by rw [List.take_set_of_le (Nat.le_refl q)]⟩
theorem p_u (hd:SmD d)(hv:P_ d=true)(hb:b.length<=400){ss:List Str}{j st q:Nat}(S:e_n d b (d.rules.length - 1) 0 ss j st q)(c:UInt8):if byteI c=a_j (piece b st q) then ((a_l d<|b.set q c).2.1 ≠ (q:Int)∨(a_l d<|b.set q c).2.2 ≠ 5) else ((a_l d<|b.set q c).2.1=(q:Int)/\(a_l d<|b.set q c).2.2=5):=by
 have hl:=b_X hv;have hA:=p_t S.lt c;have hc:(b.set q c)[q]? = some c:=by rw [List.getElem?_set_self S.lt]
 have hr:=l_p (b:=b.set q c) hv (by rw [List.length_set];exact hb)
 split
 ·rename_i he
  have h:=S.other _ c hA hc he
  left
  have hp:(a_l d<|b.set q c).2.1=(a_A d (a_K d) (b.set q c) 0).2.1:=by
   unfold a_l;split <;> rfl
  rw [hp,hr]
  unfold b_j
  simp only
  omega
 ·rename_i he
  have h:=S.same _ c hA hc he;unfold a_l
  rw [hr]
  unfold b_j
  rw [h]
  simp
theorem p_v (hd:SmD d){n:Nat}(hn:500<=n)(hv:P_ d=true)(hb:b.length<=400){ss:List Str}{j st q:Nat}(S:e_n d b (d.rules.length - 1) 0 ss j st q):e_e n d b (q:Int)=some (mkB<|a_j<|piece b st q):=by
 have hLIM:=b_0;have hs:=p_p<|piece b st q;unfold e_e
 have hbody:∀k:Nat,k<256->(fun G=>(fun (_:Unit)=>bd (app ([]:List UInt8) b) fun H=>bd (upd H (q:Int)<|mkB ((G:Nat):Int)) fun I=>bd2 (c_H n d I) fun J L=>bd (α:=Bool) (if (J != (q:Int))=true then some true else some (L != 5)) (fun O=>if O=true then some (.ret<|mkB ((G:Nat):Int)) else some (.next ()))):Nat->Unit->Option (Out Unit UInt8)) k ()=if (k:Int)=a_j (piece b st q) then some (.ret<|mkB ((k:Nat):Int)) else some (.next ()):=fun k hk=>by
  have ht:=p_u hd hv hb S<|mkB (k:Int)
  rw [p_q (by omega) (by omega)] at ht
  simp only
  rw [h_m (by simp;omega),bd_some,List.nil_append,b_I S.lt,bd_some,j_n hd hn,bd2_some]
  by_cases he:(k:Int)=a_j (piece b st q)
  ·rw [iP_ he] at ht ⊢
   by_cases hq:(a_l d<|b.set q<|mkB (k:Int)).2.1=(q:Int)
   ·have h5:=ht.resolve_left<|fun h=>h hq
    rw [hq]
    rw [show ((q:Int) != (q:Int))=false by simp,iN_ (by simp),bd_some,show ((a_l d<|b.set q<|mkB (k:Int)).2.2 != 5)=true by simpa using h5,iP_ rfl]
   ·rw [show ((a_l d<|b.set q<|mkB (k:Int)).2.1 != (q:Int))=true by simpa using hq,iP_ rfl,bd_some,iP_ rfl]
  ·rw [iN_ he] at ht ⊢
   rw [ht.1,ht.2]
   rw [show ((q:Int) != (q:Int))=false by simp,iN_ (by simp),bd_some]
   rfl
 have h:=f_n (σ:=Unit) (ρ:=UInt8) (body:=(fun G=>(fun (_:Unit)=>bd (app ([]:List UInt8) b) fun H=>bd (upd H (q:Int)<|mkB ((G:Nat):Int)) fun I=>bd2 (c_H n d I) fun J L=>bd (α:=Bool) (if (J != (q:Int))=true then some true else some (L != 5)) (fun O=>if O=true then some (.ret<|mkB ((G:Nat):Int)) else some (.next ()))))) (fun _=>()) (r:=mkB<|a_j<|piece b st q) (n:=256) (j0:=(a_j<|piece b st q).toNat) (by omega)
  (fun k hk=>(hbody k (by omega)).trans (iN_ (by omega)))
  ((hbody (a_j<|piece b st q).toNat (by omega)).trans ((iP_ (by omega)).trans (by rw [show (((a_j<|piece b st q).toNat:Nat):Int)=a_j (piece b st q) by omega])))
 refine (congrArg (fun z=>bd z _) h).trans ?_
 rfl
theorem l_r (hv:P_ d=true):a_K d=((d.rules.length - 1:Nat):Int):=by
 have:=b_X hv;unfold a_K;omega
theorem p_w (hd:SmD d){n:Nat}(hn:1000<=n):∃x,e_g n d b=some x/\x.code=(a_l d b).2.2/\x.position=(a_l d b).2.1/\((a_l d b).2.2=5->∀(ss:List Str)(j st q:Nat),P_ d=true->b.length<=400->e_n d b (d.rules.length - 1) 0 ss j st q->x.path=⟨b_g ss⟩):=by
 have hMX:=MXv;unfold e_g
 rw [p_s hd (by omega),bd2_some,h_j hd,bd_some]
 generalize hq:(a_l d b).2.1=J;generalize hc:(a_l d b).2.2=c
 by_cases G:c=8
 ·rw [G]
  exact ⟨_,rfl,rfl,rfl,fun h=>by cases h⟩
 rw [show (c==8)=false by simpa using G]
 by_cases H:c=0
 ·rw [H]
  exact ⟨_,rfl,rfl,rfl,fun h=>by cases h⟩
 by_cases I:c=7
 ·rw [I]
  exact ⟨_,rfl,rfl,rfl,fun h=>by cases h⟩
 rw [show (c==0)=false by simpa using H,show (c==7)=false by simpa using I]
 have ho:okV d b (a_K d) 0=true:=by
  by_cases h:okV d b (a_K d) 0=true
  ·exact h
  ·exfalso
   unfold a_l a_A at hc
   rw [iN_ h] at hc
   simp at hc
   exact G hc.symm
 obtain ⟨hv,hb,_⟩:=e_o ho;have hl:=b_X hv
 simp only [bF_,fF_,bd_some]
 rw [l_r hv]
 by_cases h5:c=5
 ·obtain ⟨_,_,ss,j,st,S,_⟩:=l_q (b:=b) hd<|hc.trans h5;have ht:=S.tr ⟨[]⟩ (by have:=S.len;simp only [List.length_nil];omega) n (by omega) ⟨[]⟩ 0
  rw [show (((0:Nat):Nat):Int)=0 from rfl] at ht
  rw [show (a_t n).impl_tracer_part=g_R n from rfl] at ht
  rw [show (⟨⟨d.rules⟩,b,⟨[]⟩,0⟩:b_3)=⟨d,b,⟨[]⟩,0⟩ from rfl,ht]
  refine ⟨_,rfl,rfl,rfl,fun _ ss' j' st' q' _ _ S'=>?_⟩;have ht':=S'.tr ⟨[]⟩ (by have:=S'.len;simp only [List.length_nil];omega) n (by omega) ⟨[]⟩ 0
  rw [show (((0:Nat):Nat):Int)=0 from rfl] at ht'
  rw [show (a_t n).impl_tracer_part=g_R n from rfl,ht] at ht'
  exact (Prod.mk.inj<|Option.some.inj ht').1
 ·obtain ⟨x,hx⟩:=p_o (b:=b) hv hd hb (d.rules.length - 1) (by omega) 0 (by omega) ⟨[]⟩ (by simp only [List.length_nil];omega) n (by omega) ⟨[]⟩ 0
  rw [show (((0:Nat):Nat):Int)=0 from rfl] at hx
  rw [show (a_t n).impl_tracer_part=g_R n from rfl] at hx
  rw [show (⟨⟨d.rules⟩,b,⟨[]⟩,0⟩:b_3)=⟨d,b,⟨[]⟩,0⟩ from rfl,hx]
  exact ⟨_,rfl,rfl,rfl,fun h=>absurd h h5⟩
theorem p_x (hd:SmD d)(hv:P_ d=true)(hb:b.length<=400){n:Nat}(hn:1000<=n){ss:List Str}{j st q:Nat}(S:e_n d b (d.rules.length - 1) 0 ss j st q):e_h n d b ⟨b_g ss⟩=some ((st:Int),true):=by
 have hMX:=MXv;have hl:=b_X hv;have hj:=k_J ss S.good;have hlen:=S.len;unfold e_h
 rw [o_P (by omega) (by simp only;omega),o_J ss S.good,bd2_some,h_j hd,bd_some,l_r hv]
 have key:∀(m t i p:Nat),t+m=ss.length->i<d.rules.length->p<=b.length->∀k s,locL d b (ss.drop t) i p=some (k,s)->u_ (σ:=Bool×Int×Int) (ρ:=Int×Bool) (fun I=>un3 fun J G H=>bd (idx ss ((I:Nat):Int)) fun L=>bd (α:=Bool×Int×Int) (if J=true then bd3 (e_G n (⟨(⟨d.rules⟩:g_),b,G,H⟩:a_N) L) fun O V W=>some (O,V,W) else some (false,G,H))<|un3 fun Y a0 a1=>some<|.next (Y,a0,a1)) m t (true,(i:Int),(p:Int))=some (.inl (true,(k:Int),(s:Int))):=by
  intro m
  induction m with
  | zero =>
   intro t i p ht hi hp k s h
   rw [List.drop_eq_nil_of_le (by omega)] at h
   cases h;rfl
  | succ m ih =>
   intro t i p ht hi hp k s h;have htl:t<ss.length:=by omega
   rw [dC_ htl] at h
   unfold locL at h
   rw [k_Z hi] at h
   obtain ⟨y,h1,h2⟩:=p_0 hv hd hb (show 500<=n by omega) hi hp ss[t]
   cases hs:a_V d.rules b d.rules[i] p ss[t] with
   | none=>rw [hs] at h;cases h
   | some x =>
    rw [hs] at h h2
    have h2':y=(true,(x.1:Int),(x.2:Int)):=h2;have hx:=o_V hv hi hp (k:=x.1) (q:=x.2) hs;unfold u_
    simp only [un3]
    rw [ix_ htl,bd_some,iP_ trivial,h1,h2']
    exact ih (t+1) x.1 x.2 (by omega) (by omega) hx.2 k s h
 have:=key ss.length 0 (d.rules.length - 1) 0 (by omega) (by omega) (by omega) j st (by rw [List.drop_zero];exact S.loc);refine (congrArg (fun z=>bd z _) this).trans ?_
 rfl
def repP (d:g_)(b x:List UInt8):List UInt8×Bool:=if okF d x=true then (x,true) else (b,false)
theorem p_y (hd:SmD d)(hb:b.length<=MX){n:Nat}(hn:1000<=n):∃x:List UInt8,e_f n d b=some (repP d b x)/\d_I n d b=some (repP d b x)/\x.length=b.length:=by
 have hMX:=MXv;have hLIM:=b_0;unfold e_f d_I
 rw [h_m (by simp;omega),bd_some,bd_some,List.nil_append]
 obtain ⟨x,e1,e2,hx⟩:=l_o (σ:=List UInt8) (ρ:=(List UInt8)×Bool) (f:=(fun a4=>(fun G=>bd2 (c_H n d G) fun J O=>if (O != 5)=true then some (.brk G) else bd (e_e n d G J) fun V=>bd (upd G J V) fun h=>some<|.next h)))
  (g:=(fun a5=>(fun h=>bd (e_g n d h) fun H=>if (H.code != 5)=true then some (.brk h) else bd2 (e_h n d h H.path) fun W Y=>bd (α:=Int) (if Y=true then some W else some 0)<|fun a0=>bd (slc h a0 H.position) fun a1=>bd (d_t a1) fun a2=>bd (upd h H.position<|mkB a2) fun a3=>some<|.next a3)))
  (fun x=>x.length=b.length) (fun k s hs=>by
   obtain ⟨y,hy,L,y2,y3⟩:=p_w (b:=s) hd hn
   by_cases h5:(a_l d s).2.2=5
   ·left
    obtain ⟨hv,I,ss,j,st,S,hpos⟩:=l_q (b:=s) hd h5;generalize (rdW d.rules s (d.rules.length - 1) 0).2.1=q at *
    refine ⟨s.set q<|mkB<|a_j<|piece s st q,?_,?_,by rw [List.length_set];exact hs⟩
    ·rw [j_n hd (by omega),bd2_some,h5,iN_ (by simp),hpos,p_v hd (by omega) hv I S,bd_some,b_I S.lt,bd_some]
    ·rw [hy,bd_some,L,h5,iN_ (by simp),y3 h5 ss j st q hv I S,p_x hd hv I hn S,bd2_some,iP_ rfl,bd_some,y2,hpos,b_W S.le<|Nat.le_of_lt S.lt,bd_some,j_9 _ (by rw [c_7 (Nat.le_of_lt S.lt)];have:=S.lt;omega),bd_some,b_I S.lt,bd_some]
   ·right
    refine ⟨?_,?_⟩
    ·rw [j_n hd (by omega),bd2_some,iP_ (by simpa using h5)]
    ·rw [hy,bd_some,L,iP_ (by simpa using h5)]) 400 0 b rfl
 have ho:e_A n d x=some (okF d x):=o_l hd (by omega);have ho':e_I n d x=some (okF d x):=p_6 hd (by omega);refine ⟨x,?_,?_,hx⟩
 ·refine (congrArg (fun z=>bd z _) e1).trans ?_
  rw [bd_some,el_inl,ho,bd_some]
  unfold repP
  cases okF d x <;> rfl
 ·refine (congrArg (fun z=>bd z _) e2).trans ?_
  rw [bd_some,el_inl,ho',bd_some]
  unfold repP
  cases okF d x <;> rfl
theorem p_z (hd:SmD d)(hb:b.length<=MX){n:Nat}(hn:1000<=n):∃u,e_f n d b=some u/\d_I n d b=some u/\u.1.length<=MX:=by
 obtain ⟨x,h,G,hx⟩:=p_y (b:=b) hd hb hn;refine ⟨_,h,G,?_⟩;unfold repP
 split
 ·simp only;omega
 ·exact hb
theorem p_A {n:Nat}(hn:4000000<=n)(hd:LnD d)(hb:b.length<=LEN):f_7 n d b=some true:=by
 have hMX:=MXv;have hLEN:=LENv;unfold f_7
 by_cases h1:(1048576:Int)<(b.length:Int)
 ·rw [dT_ h1];rfl
 rw [dF_ h1]
 obtain ⟨r,hr,h⟩:=o_p hd
 simp only [bF_,fF_]
 rw [hr,bd_some]
 by_cases h2:r<0
 ·rw [dT_ h2];rfl
 rw [dF_ h2]
 have hs:=(h.resolve_left h2).2;have hbm:b.length<=MX:=by omega
 obtain ⟨⟨v,ok⟩,G,H,hul⟩:=p_z hs hbm (show 1000<=n by omega)
 simp only at hul
 simp only [bF_,fF_,o_t hs,k_w hbm,bd_some,G,H,bd2_some,k_y,o_w,nT_,bN_]
 obtain ⟨k',l',hm,I,J⟩:=o_B (n:=n) hs (by omega)
 rw [hm]
 simp only [bd2_some]
 rw [j_4 (by omega) (by omega) (by omega)]
 simp only [bd2_some]
 rw [dF_ (by omega)]
 simp only [bF_,fF_,bd_some]
 rw [j_4 (by omega) (by omega) (by omega)]
 simp only [bd2_some]
 rw [show (List.range v.length).map (fun (i:Nat)=>mkB<|1+(i:Int))=f_f v.length 1 from rfl,p_2 (by omega) (by omega)]
 simp only [bd_some]
 rw [dF_ (show ¬(1:Int)+(v.length:Int)<0 by omega)]
 simp only [bF_,fF_,bN_]
end
end Go.Vw
