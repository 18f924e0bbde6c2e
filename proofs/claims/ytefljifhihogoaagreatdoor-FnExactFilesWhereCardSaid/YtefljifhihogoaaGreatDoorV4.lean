import Derived.Test.YtefljifhihogoaaGreatDoorV3
namespace Go.Vw
set_option linter.unusedVariables false
open Go.RowKit Dat
theorem o_j {ρ:Type}(rd:Int->Nat->RR)(ks:List Int)(L:Nat)(er:Nat->Nat->Int->ρ)(body:Nat->Int×List Val->Option (Out (Int×List Val) ρ))
  (hbody:∀k (hk:k<ks.length) (p:Nat) vs,p<=L->vs.length<=k->body k ((p:Int),vs)=some (if (rd ks[k] p).2.2=0 then .next (((rd ks[k] p).2.1:Int),vs++[(rd ks[k] p).1]) else .ret (er p (rd ks[k] p).2.1 (rd ks[k] p).2.2)))
  (hle:∀k∈ks,∀p,p<=L->(rd k p).2.1<=L):∀m k (p:Nat) vs,k+m=ks.length->p<=L->vs.length<=k ->
  ∃pe,k_ body m k ((p:Int),vs)=some (if (P_ rd (ks.drop k) p).2.2=0 then .inl (((P_ rd (ks.drop k) p).2.1:Int),vs++(P_ rd (ks.drop k) p).1) else .inr (er pe (P_ rd (ks.drop k) p).2.1 (P_ rd (ks.drop k) p).2.2))
 | 0,k,p,vs,hk,_,_=>by
  simp_all [k_,P_,QAl]
 | m+1,k,p,vs,hk,hp,hv=>by
  have hlt:k<ks.length:=by omega
  rw [dC_ hlt]
  unfold k_ P_
  rw [hbody k hlt p vs hp hv]
  by_cases G:(rd ks[k] p).2.2=0
  .rw [iP_ G,iP_ G]
   obtain ⟨pe,h⟩:=o_j rd ks L er body hbody hle m (k+1) (rd ks[k] p).2.1 (vs++[(rd ks[k] p).1]) (by omega) (hle _ (gE_ hlt) p hp) (by grind)
   simp only
   rw [h]
   refine ⟨pe,?_⟩
   grind
  grind
section
variable {d:d_}{b:Bt}
def b_B (x:RR):Val×Int×Int:=(x.1,(x.2.1:Int),x.2.2)
def g_i (x:List Val×Nat×Int):Val×Int×Int:=if x.2.2=0 then (⟨0,[],x.1⟩,(x.2.1:Int),0) else (zV,(x.2.1:Int),x.2.2)
theorem s_g (v:Val):(⟨v.number,v.bytes,v.items⟩:Val)=v:=by cases v;rfl
theorem x_L {n:Nat}{r:f_}{num:Int}{ks:List Int}{i:Nat}(hk:i_a r)(hks:∀k (hk:k<ks.length),a_n r num k=ks[k])
  (hkk:∀k∈ks,0<=k/\k<(i:Int)) (a5:ks.length<=40) (ih:∀k,k<i->∀p,p<=b.length->e_L n d k b p=some (b_B<|rdW d.rules b k p))
  (hle:∀k,k<i->∀p,p<=b.length->(rdW d.rules b k p).2.1<=b.length) {p:Nat} (hp:p<=b.length) :
  h_y (n+1) d r num (ks.length:Int) b p=some (g_i<|P_ (λk p=>rdW d.rules b k.toNat p) ks p):=by
 show j_X n (a_w n) d r num (ks.length:Int) b p=_
 unfold j_X
 rw [show ((ks.length:Int)).toNat=ks.length from rfl]
 obtain ⟨pe,h⟩:=o_j (λk p=>rdW d.rules b k.toNat p) ks b.length (λ_ e c=>(zV,(e:Int),c)) (λa2=>un2 λa3 a4=>bd (α:=Int×Bt×(List Val)×Int×Int) (bd (b_S r num ((a2:Nat):Int)) λL=>bd3 ((a_w n).spec_l11Read d L b a3) λH O V=>some (H.number,H.bytes,H.items,O,V)) (un5 λW Y a0 I J=>if (J != 0) then some (.ret ((⟨0,([]:Bt),([]:List Val)⟩:Val),I,J)) else bd (psh a4 (⟨W,Y,a0⟩:Val)) λa1=>some<|.next (I,a1)))
  (λk hlt p vs hp hv=>by
   have hkr:=hkk _<|gE_ hlt
   simp only [un2]
   rw [d_I hk,a_,hks k hlt]
   have hrd:=ih ks[k].toNat (by omega) p hp
   rw [show ((ks[k].toNat:Nat):Int)=ks[k] by omega] at hrd
   rw [show (a_w n).spec_l11Read d ks[k] b p=e_L n d ks[k] b p from rfl,hrd]
   unfold b_B
   simp only [a_E,a_]
   generalize rdW d.rules b ks[k].toNat p=x
   show (if (x.2.2 != 0) then some (Out.ret (zV,(x.2.1:Int),x.2.2)) else bd (psh vs (⟨x.1.number,x.1.bytes,x.1.items⟩:Val)) λy=>some<|.next ((x.2.1:Int),y))=_
   by_cases G:x.2.2=0
   .rw [iP_ G,G]
    simp only [bN_,bF_,fF_]
    rw [a_Z (by rw [a_7];omega),s_g];rfl
   .rw [iN_ G,show (x.2.2 != 0)=true by simpa using G];rfl)
  (λk hk p hp=>by have:=hkk k hk;exact hle k.toNat (by omega) p hp) ks.length 0 p [] (by omega) hp (QAI _)
 rw [h]
 rw [QAP]
 unfold g_i;generalize P_ (λk p=>rdW d.rules b k.toNat p) ks p=x
 by_cases G:x.2.2=0
 .rw [iP_ G,iP_ G];rfl
 .rw [iN_ G,iN_ G];rfl
theorem h_q (hv:D_ d=true)(hd:SmD d)(hb:b.length<=400):∀(i:Nat),i<d.rules.length->∀n,3 * i+410<=n->∀at_,at_<=b.length->e_L n d i b at_=some (b_B<|rdW d.rules b i at_):=by
 have hMX:=MXv;intro i
 induction i using Nat.strongRecOn with
 | _ i ih =>
  intro hi n hn at_ ha;have hlen:=(b_i hv).2;obtain ⟨m,rfl⟩:∃m,n=m+3:=⟨n - 3,by omega⟩
  rw [e_G hv hi ha]
  have hr:=a_P hv hi;have hal:=g_h hr.kind;have hsm:=hd.each d.rules[i] (gE_ hi);have hidx:idx d.rules (i:Int)=some d.rules[i]:=ix_ hi;generalize hrr:d.rules[i]=r at *
  have hkk:=d_7 hr.kind
  show j_W (m+2) (a_w<|m+2) d i b at_=_
  unfold j_W rdB
  rw [hidx,a_]
  have hle:∀k,k<i->∀p,p<=b.length->(rdW d.rules b k p).2.1<=b.length:=λk hk p hp=>(c_9 hv k (by omega) p hp).2
  have hit:∀q,m<=q->∀(num:Int)(ks:List Int),(∀k (hk:k<ks.length),a_n r num k=ks[k])->(∀k∈ks,k∈r.kids)->ks.length<=40->∀p,p<=b.length ->
    h_y (q+1) d r num (ks.length:Int) b p=some (g_i<|P_ (λk p=>rdW d.rules b k.toNat p) ks p):=λq hq num ks h1 h2 h3 p hp =>
   x_L hkk h1 (λk hk=>hr.kids k<|h2 k hk) h3 (λk hk p hp=>ih k hk (by omega) q (by omega) p hp) hle hp
  by_cases h1:r.kind=1
  .rw [h1];simp only [bQ_,fT_]
   rw [i_9 hidx (g_f hr.kind h1) (by omega) ha]
   cases U_ b r at_ <;> rfl
  rw [show (r.kind==1)=false by grind]
  by_cases h2:r.kind=2
  .rw [h2];simp only [bQ_,fT_,bF_,fF_]
   rw [w_x (by omega) ha hsm.bytes];rfl
  rw [show (r.kind==2)=false by grind]
  by_cases h3:r.kind=3
  .rw [h3];simp only [bQ_,fT_,bF_,fF_]
   have:=h_p hr.kind h3
   rw [r_h (by omega) ha (by omega) (by omega)];rfl
  rw [show (r.kind==3)=false by grind]
  by_cases V:r.kind=10
  .rw [V];simp only [bQ_,fT_,bF_,fF_,show ((10:Int)==4)=false from rfl]
   have Y:=o_i hr.kind V
   rw [b_j (by omega),a_,a_x (show 0<r.bytes.length by omega),w_9 _ _ _ _ (by omega) ha (by omega)]
   cases d_D b at_ r.bytes[0] <;> rfl
  rw [show (r.kind==10)=false by grind]
  by_cases h6:r.kind=6
  .rw [h6];simp only [bQ_,fT_,bF_,fF_,show ((6:Int)==4)=false from rfl]
   have hs:=e_F hr.kind h6
   rw [show (a_w<|m+2).spec_l11Items d r 0 (r.kids.length:Int) b at_=h_y ((m+1)+1) d r 0 (r.kids.length:Int) b at_ from rfl]
   rw [hit (m+1) (by omega) 0 r.kids (λk hk=>by grind [a_n]) (λk hk=>hk) (by omega) at_ ha]
   rw [show I_ d.rules b r at_ = .inr (0,r.kids,at_) by grind [I_]]
   simp only
   unfold g_i b_B a_R;generalize P_ (λk p=>rdW d.rules b k.toNat p) r.kids at_=x
   rw [h6]
   by_cases G:x.2.2=0
   .simp_all
   simp_all
  rw [show (r.kind==6)=false by grind]
  by_cases I:r.kind=7
  .rw [I];simp only [bQ_,fT_,bF_,fF_,show ((7:Int)==4)=false from rfl]
   have hs:=d_m hr.kind I;have hq:=c_8 hs.1
   rw [show (a_w<|m+2).spec_l11Choice d r b at_=j_Y (m+1) (a_w<|m+1) d r b at_ from rfl]
   unfold j_Y
   rw [b_W (by omega),a_,i_9 hq.1 hq.2 (by omega) ha]
   have hhd:I_ d.rules b r at_=(match U_ b (y_ d.rules<|p_ r) at_ with | none=>.inl 1 | some n=>match b_9 r.tags n with | none=>.inl 3 | some k=>.inr (n,[r.kids.getD (k+1) 0],at_+(y_ d.rules<|p_ r).size.toNat)):=by grind [I_]
   rw [hhd]
   cases hi:U_ b (y_ d.rules<|p_ r) at_ with
   | none=>rfl
   | some num =>
    have hrg:=c_p hq.2 hi
    simp only [a_E,nT_,bF_,fF_]
    rw [show b_S r num 0=some (a_n r num 0) from d_I hkk num 0,a_]
    have hitem:a_n r num 0=(match b_9 r.tags num with | some k=>r.kids.getD (k+1) 0 | none=>-1):=by grind [a_n]
    rw [hitem]
    cases ht:b_9 r.tags num with
    | none=>rfl
    | some k =>
     have htl:=m_1 ht;have hmem:r.kids.getD (k+1) 0∈r.kids:=e_e (by omega);have a0:=hr.kids _ hmem
     simp only
     rw [dF_ (show ¬r.kids.getD (k+1) 0<0 by omega)]
     simp only [bF_,fF_]
     rw [show (a_w<|m+1).spec_l11Items d r num 1 b ((at_+(y_ d.rules<|p_ r).size.toNat:Nat):Int)=h_y (m+1) d r num (([r.kids.getD (k+1) 0].length:Nat):Int) b ((at_+(y_ d.rules<|p_ r).size.toNat:Nat):Int) from rfl]
     rw [hit m (by omega) num [r.kids.getD (k+1) 0] (λj hj=>by
      grind) (λk' hk'=>by grind) (by simp) _ (by omega)]
     unfold g_i b_B a_R;generalize P_ (λk p=>rdW d.rules b k.toNat p) [r.kids.getD (k+1) 0] (at_+(y_ d.rules<|p_ r).size.toNat)=x
     rw [I]
     by_cases G:x.2.2=0
     .rw [iP_ G,iP_ G];rfl
     .rw [iN_ G,iN_ G]
      simp only [a_E]
      rw [show (x.2.2==0)=false by grind]
      rfl
  rw [show (r.kind==7)=false by grind]
  by_cases J:r.kind=8
  .rw [J];simp only [bQ_,fT_,bF_,fF_,show ((8:Int)==4)=false from rfl]
   have hs:=d_L hr.kind<|.inl J
   rw [show (a_w<|m+2).spec_l11Option d r b at_=j_Z (m+1) (a_w<|m+1) d r b at_ from rfl]
   unfold j_Z;have hhd:I_ d.rules b r at_=(match b[at_]? with | none=>.inl 1 | some c=>if 1<b_ c then .inl 4 else .inr (0,List.replicate c.toNat<|r.kids.getD 0 0,at_+1)):=by grind [I_]
   rw [hhd]
   by_cases hlt:at_<b.length
   .rw [dF_ (show ¬(b.length:Int)<=(at_:Int) by omega),ix_ hlt,gG_ hlt]
    simp only [bF_,fF_,a_]
    by_cases hc:1<b_ b[at_]
    .rw [iP_ hc,dT_ (show b_ (1:UInt8)<b_ b[at_] from hc)];rfl
    .rw [iN_ hc,dF_ (show ¬b_ (1:UInt8)<b_ b[at_] from hc)]
     simp only [bF_,fF_]
     rw [ia_ (x:=(at_:Int)) (by omega) (by omega)]
     rw [show (a_w<|m+1).spec_l11Items d r 0 (b_ b[at_]) b ((at_:Int)+1)=h_y (m+1) d r 0 (((List.replicate b[at_].toNat (r.kids.getD 0 0)).length:Nat):Int) b ((at_+1:Nat):Int) by rw [QAe];rfl]
     rw [hit m (by omega) 0 _ (λj hj=>by grind [a_n]) (λk' hk'=>by grind) (by grind) _ (by omega)]
     unfold g_i b_B a_R;generalize P_ (λk p=>rdW d.rules b k.toNat p) (List.replicate b[at_].toNat (r.kids.getD 0 0)) (at_+1)=x
     rw [J]
     by_cases G:x.2.2=0
     .simp_all
     simp_all
   .rw [dT_ (show (b.length:Int)<=(at_:Int) by omega),gN_ (by omega)];rfl
  rw [show (r.kind==8)=false by grind]
  by_cases O:r.kind=9
  .rw [O];simp only [bQ_,fT_,bF_,fF_,show ((9:Int)==4)=false from rfl]
   have hs:=d_L hr.kind<|.inr O
   rw [show (a_w<|m+2).spec_l11Checked d r b at_=k_0 (m+1) (a_w<|m+1) d r b at_ from rfl]
   unfold k_0
   rw [show I_ d.rules b r at_ = .inr (0,[r.kids.getD 0 0],at_) by grind [I_]]
   rw [show (a_w<|m+1).spec_l11Items d r 0 1 b (at_:Int)=h_y (m+1) d r 0 (([r.kids.getD 0 0].length:Nat):Int) b (at_:Int) from rfl]
   rw [hit m (by omega) 0 [r.kids.getD 0 0] (λj hj=>by
    grind [a_n]) (λk' hk'=>by grind) (by simp) _ ha]
   simp only
   have hx:=j_y (rd:=λk p=>rdW d.rules b k.toNat p) (L:=b.length) [r.kids.getD 0 0] at_ ha (λk hk p hp=>by
    have hmem:k∈r.kids:=by grind
    have:=hr.kids k hmem
    grind [c_9])
   unfold g_i b_B a_R;generalize P_ (λk p=>rdW d.rules b k.toNat p) [r.kids.getD 0 0] at_=x at hx
   rw [O]
   by_cases G:x.2.2=0
   .rw [iP_ G,iP_ G]
    simp only [a_E,bN_,bF_,fF_,bQ_,fT_]
    by_cases hlt:x.2.1<b.length
    .rw [dF_ (show ¬(b.length:Int)<=(x.2.1:Int) by omega),ix_ hlt,gG_ hlt]
     simp only [bF_,fF_,a_]
     rw [d_G hx.1 (by omega),a_,q_M,a_,ia_ (x:=(x.2.1:Int)) (by omega) (by omega)]
     by_cases hsum:b_ b[x.2.1]=c_Y (a_v b at_ x.2.1)
     .simp_all
     simp_all
    simp_all
   simp_all
  rw [show (r.kind==9)=false by grind]
  simp only [bF_,fF_]
  have W:r.kind=4∨r.kind=5:=by omega
  have hlim:0<lim d.rules (p_ r)/\0<r.kids.length:=by
   rcases W with h | h
   .have:=g_g hr.kind h;omega
   .have:=d_6 hr.kind h;omega
  have hq:=c_8 hlim.1
  rw [b_W hlim.2,a_,i_9 hq.1 hq.2 (by omega) ha]
  rcases W with h4 | h5
  .rw [h4];simp only [bQ_,fT_]
   cases hi:U_ b (y_ d.rules<|p_ r) at_ with
   | none=>rfl
   | some num =>
    have hrg:=c_p hq.2 hi
    simp only [a_E,nT_,bF_,fF_]
    rw [r_h (by omega) (by omega) (by omega) (by omega)];rfl
  .rw [h5];simp only [show ((5:Int)==4)=false from rfl,bF_,fF_]
   have hs:=d_6 hr.kind h5;have hhd:I_ d.rules b r at_=(match U_ b (y_ d.rules<|p_ r) at_ with | none=>.inl 1 | some n=>if 40<n then .inl 6 else .inr (0,List.replicate n.toNat<|r.kids.getD 1 0,at_+(y_ d.rules<|p_ r).size.toNat)):=by grind [I_]
   rw [hhd]
   cases hi:U_ b (y_ d.rules<|p_ r) at_ with
   | none=>rfl
   | some num =>
    have hrg:=c_p hq.2 hi
    simp only [a_E,nT_,bF_,fF_]
    by_cases H:40<num
    .rw [dT_ H,iP_ H];rfl
    .rw [dF_ H,iN_ H]
     simp only [bF_,fF_]
     rw [show (a_w<|m+2).spec_l11Items d r 0 num b ((at_+(y_ d.rules<|p_ r).size.toNat:Nat):Int)=h_y ((m+1)+1) d r 0 (((List.replicate num.toNat<|r.kids.getD 1 0).length:Nat):Int) b ((at_+(y_ d.rules<|p_ r).size.toNat:Nat):Int) by rw [QAe,show ((num.toNat:Nat):Int)=num by omega];rfl]
     rw [hit (m+1) (by omega) 0 _ (λj hj=>by grind [a_n]) (λk' hk'=>by grind) (by grind) _ (by omega)]
     unfold g_i b_B a_R;generalize P_ (λk p=>rdW d.rules b k.toNat p) (List.replicate num.toNat<|r.kids.getD 1 0) (at_+(y_ d.rules<|p_ r).size.toNat)=x
     rw [h5]
     by_cases G:x.2.2=0
     .simp_all
     simp_all
end
end Go.Vw
namespace Go.Vw
open Go.RowKit Dat
theorem s_i {ts:List Int}{n:Int}{k:Nat}(h:b_9 ts n=some k):k<ts.length/\ts.getD k 0=n/\∀j,j<k->ts.getD j 0 ≠ n:=by
 have hlt:=m_1 h;unfold b_9 at h
 simp_all
theorem s_j {ts:List Int}{n:Int}(h:b_9 ts n=none):∀j,j<ts.length->ts.getD j 0 ≠ n:=λj hj=>by
 have:=List.find?_eq_none.1 h j<|QAX.2 hj
 grind
theorem s_k {l:List Int}(h:l.length=1):l=[l.getD 0 0]:=by
 cases l with
 | nil=>cases h
 | cons a t =>
  grind
theorem s_l {b:Bt}{p:Nat}(h:p<b.length):a_v b p (p+1)=[b[p]]:=by
 grind [a_v,List.take_add_one,List.getElem?_eq_getElem,Option.toList_some,List.drop_of_length_le]
theorem x_N {l:List Int}{k:Nat}(h:k+1<l.length)(hl:l.length<=MX):slc l ((k+1:Nat):Int) (e_ (k:Int) 2)=some [l.getD (k+1) 0]:=by
 have:=MXv
 rw [ia_ (x:=(k:Int)) (by omega) (by omega),d_O (by omega) (by omega) (by omega),show ((k:Int)+2).toNat=(k+1)+1 by omega,show (((k+1:Nat):Int)).toNat=k+1 from rfl,QAy,gG_ h,QBB,List.drop_append_of_le_length (by grind),QAl (by grind),a_x h]
 rfl
theorem x_O {α:Type}(m k:Nat)(z x:α)(h:k<m):(List.replicate k x++List.replicate (m - k) z).set k x=List.replicate (k+1) x++List.replicate (m - (k+1)) z:=by
 rw [QBJ _ _ (by simp),QAe,QBC,show m - k=(m - (k+1))+1 by omega,QAk,List.set_cons_zero,List.replicate_succ',QAh]
 rfl
theorem x_P {ρ:Type}{ks:List Int}{x:Int}(hx:idx ks 1=some x)(m:Nat):k_ (σ:=List Int) (ρ:=ρ) (λG=>(λH=>bd (idx ks 1) λI=>bd (upd H ((G:Nat):Int) I) λJ=>some<|.next J)) m 0 (List.replicate m 0)=some (.inl<|List.replicate m x):=by
 have h:=b_Z (n:=m) (σ:=List Int) (ρ:=ρ) (body:=(λG=>(λH=>bd (idx ks 1) λI=>bd (upd H ((G:Nat):Int) I) λJ=>some (.next J)))) (λk=>List.replicate k x++List.replicate (m - k) 0) (λj hj=>by
  grind [a_,c_P,x_O])
 grind
section
variable {d:d_}{b:Bt}
def d_M (x:RR)(nx:Int):Val×Int×Option (Int×Int):=if x.2.2=0 then (x.1,(x.2.1:Int),none) else (zV,nx,some ((x.2.1:Int),x.2.2))
def f_g (v:Val)(x:List Val×Nat×Int)(nx:Int):Val×Int×Option (Int×Int):=if x.2.2=0 then (⟨v.number,v.bytes,x.1⟩,(x.2.1:Int),none) else (zV,nx,some ((x.2.1:Int),x.2.2))
theorem x_Q {n:Nat}{ks:List Int}{i:Nat}(v:Val)(a0:v.items=[])
  (hkk:∀k∈ks,0<=k/\k<(i:Int)) (a1:ks.length<=40) (ih:∀k,k<i->∀p,p<=b.length->∃nx,m_o n ⟨d,b⟩ k p=some (d_M (rdW d.rules b k p) nx))
  (hle:∀k,k<i->∀p,p<=b.length->(rdW d.rules b k p).2.1<=b.length) {p:Nat} (hp:p<=b.length) :
  ∃nx,h_G (n+1) ⟨d,b⟩ v ks p=some (f_g v (P_ (λk p=>rdW d.rules b k.toNat p) ks p) nx):=by
 show ∃nx,k_g n (a_g n) ⟨d,b⟩ v ks p=_
 unfold k_g
 obtain ⟨pe,h⟩:=o_j (λk p=>rdW d.rules b k.toNat p) ks b.length (λp e c=>(zV,(p:Int),some ((e:Int),c))) (λJ=>un2 λH L=>bd (idx ks ((J:Nat):Int)) λO=>bd3 ((a_g n).impl_fileReader_value ⟨d,b⟩ O H) λV W I=>if I.isSome then some (.ret ((⟨0,([]:Bt),([]:List Val)⟩:Val),H,I)) else bd (psh L V) λY=>some<|.next (W,Y))
  (λk hlt p vs hp hv=>by
   have hkr:=hkk _<|gE_ hlt;obtain ⟨nx,hrd⟩:=ih ks[k].toNat (by omega) p hp
   rw [show ((ks[k].toNat:Nat):Int)=ks[k] by omega] at hrd
   simp only [un2]
   rw [ix_ hlt,a_,show (a_g n).impl_fileReader_value ⟨d,b⟩ ks[k] p=m_o n ⟨d,b⟩ ks[k] p from rfl,hrd]
   unfold d_M;generalize rdW d.rules b ks[k].toNat p=x
   by_cases G:x.2.2=0
   .rw [iP_ G,iP_ G]
    simp only [a_E,QAn,bF_,fF_]
    rw [a_Z (by rw [a_7];omega)];rfl
   .rw [iN_ G,iN_ G];rfl)
  (λk hk p hp=>by have:=hkk k hk;exact hle k.toNat (by omega) p hp) ks.length 0 p [] (by omega) hp (QAI _)
 rw [a0,h,QAP]
 unfold f_g;generalize P_ (λk p=>rdW d.rules b k.toNat p) ks p=x
 by_cases G:x.2.2=0
 .rw [iP_ G];exact ⟨0,by rw [iP_ G];rfl⟩
 .rw [iN_ G]
  exact ⟨pe,by rw [iN_ G];rfl⟩
theorem x_R (hv:D_ d=true)(hd:SmD d)(hb:b.length<=400):∀(i:Nat),i<d.rules.length->∀n,3 * i+410<=n->∀at_,at_<=b.length->∃nx,m_o n ⟨d,b⟩ i at_=some (d_M (rdW d.rules b i at_) nx):=by
 have hMX:=MXv;intro i
 induction i using Nat.strongRecOn with
 | _ i ih =>
  intro hi n hn at_ ha;have hlen:=(b_i hv).2;obtain ⟨m,rfl⟩:∃m,n=m+3:=⟨n - 3,by omega⟩
  rw [e_G hv hi ha]
  have hr:=a_P hv hi;have hal:=g_h hr.kind;have hsm:=hd.each d.rules[i] (gE_ hi);have hidx:idx d.rules (i:Int)=some d.rules[i]:=ix_ hi;generalize hrr:d.rules[i]=r at *
  have hkk:=d_7 hr.kind
  show ∃nx,k_e (m+2) (a_g<|m+2) ⟨d,b⟩ i at_=_
  unfold k_e rdB
  simp only
  rw [hidx,a_]
  have hle:∀k,k<i->∀p,p<=b.length->(rdW d.rules b k p).2.1<=b.length:=λk hk p hp=>(c_9 hv k (by omega) p hp).2
  have hit:∀q,m<=q->∀(v:Val)(ks:List Int),v.items=[]->(∀k∈ks,k∈r.kids)->ks.length<=40->∀p,p<=b.length ->
    ∃nx,h_G (q+1) ⟨d,b⟩ v ks p=some (f_g v (P_ (λk p=>rdW d.rules b k.toNat p) ks p) nx):=λq hq v ks h1 h2 h3 p hp =>
   x_Q v h1 (λk hk=>hr.kids k<|h2 k hk) h3 (λk hk p hp=>ih k hk (by omega) q (by omega) p hp) hle hp
  by_cases h1:r.kind=1
  .rw [h1];simp only [bQ_,fT_]
   rw [l_P hidx (g_f hr.kind h1) (by omega) ha]
   cases U_ b r at_ with
   | none=>exact ⟨_,rfl⟩
   | some n=>exact ⟨0,rfl⟩
  rw [show (r.kind==1)=false by grind]
  by_cases h2:r.kind=2
  .rw [h2];simp only [bQ_,fT_,bF_,fF_]
   rw [w_y (by omega) ha hsm.bytes]
   unfold d_M
   by_cases G:(c_6 b r.bytes at_).2=0
   .simp_all
   simp_all
  rw [show (r.kind==2)=false by grind]
  by_cases h3:r.kind=3
  .rw [h3];simp only [bQ_,fT_,bF_,fF_]
   have:=h_p hr.kind h3
   rw [r_i (by omega) ha (by omega) (by omega)]
   unfold d_M
   by_cases G:(a_H b at_ r.size).2.2=0
   .simp_all
   simp_all
  rw [show (r.kind==3)=false by grind]
  by_cases h4:r.kind=4
  .rw [h4];simp only [bQ_,fT_,bF_,fF_]
   have hs:=g_g hr.kind h4;have hq:=c_8 hs.1
   rw [b_W (by omega),a_,l_P hq.1 hq.2 (by omega) ha]
   cases hi:U_ b (y_ d.rules<|p_ r) at_ with
   | none=>exact ⟨_,rfl⟩
   | some num =>
    have hrg:=c_p hq.2 hi
    simp only [a_E,QAn,bF_,fF_]
    rw [r_i (by omega) (by omega) (by omega) (by omega)]
    unfold d_M
    by_cases G:(a_H b (at_+(y_ d.rules<|p_ r).size.toNat) num).2.2=0
    .simp_all
    simp_all
  rw [show (r.kind==4)=false by grind]
  by_cases V:r.kind=10
  .rw [V];simp only [bQ_,fT_,bF_,fF_,show ((10:Int)==5)=false from rfl,show ((10:Int)==6)=false from rfl,show ((10:Int)==7)=false from rfl,show ((10:Int)==8)=false from rfl,show ((10:Int)==9)=false from rfl]
   have W:=o_i hr.kind V
   rw [b_j (by omega),a_,a_x (show 0<r.bytes.length by omega),q_O _ _ _ _ (by omega) ha (by omega)]
   cases d_D b at_ r.bytes[0] with
   | none=>exact ⟨_,rfl⟩
   | some x=>exact ⟨0,rfl⟩
  rw [show (r.kind==10)=false by grind]
  by_cases h5:r.kind=5
  .rw [h5];simp only [bQ_,fT_,bF_,fF_]
   have hs:=d_6 hr.kind h5;have hq:=c_8 hs.1
   rw [show (a_g<|m+2).impl_fileReader_array ⟨d,b⟩ r at_=k_f (m+1) (a_g<|m+1) ⟨d,b⟩ r at_ from rfl]
   unfold k_f c_C
   rw [b_W (by omega),a_,l_P hq.1 hq.2 (by omega) ha]
   have hhd:I_ d.rules b r at_=(match U_ b (y_ d.rules<|p_ r) at_ with | none=>.inl 1 | some n=>if 40<n then .inl 6 else .inr (0,List.replicate n.toNat<|r.kids.getD 1 0,at_+(y_ d.rules<|p_ r).size.toNat)):=by grind [I_]
   rw [hhd]
   cases hi:U_ b (y_ d.rules<|p_ r) at_ with
   | none=>exact ⟨_,rfl⟩
   | some num =>
    have hrg:=c_p hq.2 hi
    simp only [a_E,QAn,bF_,fF_]
    by_cases H:40<num
    .rw [dT_ H,iP_ H];exact ⟨_,rfl⟩
    .rw [dF_ H,iN_ H]
     simp only [bF_,fF_]
     rw [y_j (by omega) (by grind [a_7]),a_,QAe]
     rw [x_P (x:=r.kids.getD 1 0) (by grind [m_b,a_x]) num.toNat]
     simp only [a_,W_]
     rw [show (a_g<|m+1).impl_fileReader_items=h_G (m+1) from rfl]
     obtain ⟨nx,h⟩:=hit m (by omega) zV (List.replicate num.toNat<|r.kids.getD 1 0) rfl (λk' hk'=>by grind) (by grind) (at_+(y_ d.rules<|p_ r).size.toNat) (by omega)
     rw [h]
     unfold f_g d_M a_R;generalize P_ (λk p=>rdW d.rules b k.toNat p) (List.replicate num.toNat<|r.kids.getD 1 0) (at_+(y_ d.rules<|p_ r).size.toNat)=x
     rw [h5]
     refine ⟨nx,?_⟩
     by_cases G:x.2.2=0
     .rw [iP_ G,iP_ G];rfl
     simp_all
  rw [show (r.kind==5)=false by grind]
  by_cases h6:r.kind=6
  .rw [h6];simp only [bQ_,fT_,bF_,fF_]
   have hs:=e_F hr.kind h6
   rw [show (a_g<|m+2).impl_fileReader_items=h_G ((m+1)+1) from rfl]
   obtain ⟨nx,h⟩:=hit (m+1) (by omega) zV r.kids rfl (λk hk=>hk) (by omega) at_ ha
   rw [h]
   rw [show I_ d.rules b r at_ = .inr (0,r.kids,at_) by grind [I_]]
   simp only
   unfold f_g d_M a_R;generalize P_ (λk p=>rdW d.rules b k.toNat p) r.kids at_=x
   rw [h6]
   refine ⟨nx,?_⟩
   by_cases G:x.2.2=0
   .rw [iP_ G,iP_ G];rfl
   simp_all
  rw [show (r.kind==6)=false by grind]
  by_cases J:r.kind=7
  .rw [J];simp only [bQ_,fT_,bF_,fF_]
   have hs:=d_m hr.kind J;have hq:=c_8 hs.1
   rw [show (a_g<|m+2).impl_fileReader_choice ⟨d,b⟩ r at_=k_h (m+1) (a_g<|m+1) ⟨d,b⟩ r at_ from rfl]
   unfold k_h c_C
   rw [b_W (by omega),a_,l_P hq.1 hq.2 (by omega) ha]
   have hhd:I_ d.rules b r at_=(match U_ b (y_ d.rules<|p_ r) at_ with | none=>.inl 1 | some n=>match b_9 r.tags n with | none=>.inl 3 | some k=>.inr (n,[r.kids.getD (k+1) 0],at_+(y_ d.rules<|p_ r).size.toNat)):=by grind [I_]
   rw [hhd]
   cases hi:U_ b (y_ d.rules<|p_ r) at_ with
   | none=>exact ⟨_,rfl⟩
   | some num =>
    have hrg:=c_p hq.2 hi
    simp only [a_E,QAn,bF_,fF_]
    cases ht:b_9 r.tags num with
    | none =>
     have htn:=s_j ht
     rw [b_Z (λ_=>()) (n:=r.tags.length) (λj hj=>by
      grind [b_E,a_,a_x])]
     exact ⟨_,rfl⟩
    | some k =>
     obtain ⟨htl,hte,htb⟩:=s_i ht;have hmem:r.kids.getD (k+1) 0∈r.kids:=e_e (by omega);obtain ⟨nx,h⟩:=hit m (by omega) ⟨num,[],[]⟩ [r.kids.getD (k+1) 0] rfl (λk' hk'=>by grind) (by simp) (at_+(y_ d.rules<|p_ r).size.toNat) (by omega)
     rw [m_c (λ_=>()) (n:=r.tags.length) (j0:=k) (r:=f_g ⟨num,[],[]⟩ (P_ (λk p=>rdW d.rules b k.toNat p) [r.kids.getD (k+1) 0] (at_+(y_ d.rules (p_ r)).size.toNat)) nx) htl (λj hj=>by
      grind [b_E,a_,a_x]) (by
      rw [a_x htl] at hte
      rw [ix_ htl,a_,show (r.tags[k]==num)=true by grind,iP_ rfl,x_N (by omega) hsm.kids,a_,
       show (a_g (m+1)).impl_fileReader_items=h_G (m+1) from rfl,h]
      rfl)]
     simp only [a_,d_Y]
     unfold f_g d_M a_R;generalize P_ (λk p=>rdW d.rules b k.toNat p) [r.kids.getD (k+1) 0] (at_+(y_ d.rules<|p_ r).size.toNat)=x
     rw [J]
     refine ⟨nx,?_⟩
     by_cases G:x.2.2=0
     .rw [iP_ G,iP_ G];rfl
     simp_all
  rw [show (r.kind==7)=false by grind]
  by_cases I:r.kind=8
  .rw [I];simp only [bQ_,fT_,bF_,fF_]
   have hs:=d_L hr.kind<|.inl I
   rw [show (a_g<|m+2).impl_fileReader_option ⟨d,b⟩ r at_=k_i (m+1) (a_g<|m+1) ⟨d,b⟩ r at_ from rfl]
   unfold k_i c_C;have hhd:I_ d.rules b r at_=(match b[at_]? with | none=>.inl 1 | some c=>if 1<b_ c then .inl 4 else .inr (0,List.replicate c.toNat<|r.kids.getD 0 0,at_+1)):=by grind [I_]
   rw [hhd,l_O (by omega) ha (by omega) (by omega)]
   by_cases hlt:at_<b.length
   .rw [iN_ (show ¬(b.length:Int) - at_<1 by omega),gG_ hlt]
    simp only [a_b,QAn,bF_,fF_]
    rw [show (1:Int).toNat=1 from rfl,s_l hlt,b_j (by simp)]
    simp only [a_,QAw]
    by_cases hc:1<b_ b[at_]
    .rw [iP_ hc,dT_ (show b_ (1:UInt8)<b_ b[at_] from hc)];exact ⟨_,rfl⟩
    .rw [iN_ hc,dF_ (show ¬b_ (1:UInt8)<b_ b[at_] from hc)]
     simp only [bF_,fF_]
     rw [ia_ (x:=(at_:Int)) (by omega) (by omega)]
     by_cases hz:b_ b[at_]=0
     .rw [show (b_ b[at_]==b_ (0:UInt8))=true by grind]
      rw [show b[at_].toNat=0 by grind]
      unfold a_R
      rw [I]
      exact ⟨0,rfl⟩
     .rw [show (b_ b[at_]==b_ (0:UInt8))=false by grind]
      rw [show b[at_].toNat=1 by grind]
      simp only [bF_,fF_]
      rw [show (a_g<|m+1).impl_fileReader_items=h_G (m+1) from rfl]
      obtain ⟨nx,h⟩:=hit m (by omega) zV r.kids rfl (λk hk=>hk) (by omega) (at_+1) (by omega)
      rw [show (at_:Int)+1=((at_+1:Nat):Int) by omega,h]
      rw [show List.replicate 1 (r.kids.getD 0 0)=r.kids from (s_k hs).symm]
      unfold f_g d_M a_R;generalize P_ (λk p=>rdW d.rules b k.toNat p) r.kids (at_+1)=x
      rw [I]
      refine ⟨nx,?_⟩
      by_cases G:x.2.2=0
      .rw [iP_ G,iP_ G];rfl
      simp_all
   .rw [iP_ (show (b.length:Int) - at_<1 by omega),gN_ (by omega)];exact ⟨_,rfl⟩
  rw [show (r.kind==8)=false by grind]
  have O:r.kind=9:=by omega
  rw [O];simp only [bQ_,fT_,bF_,fF_]
  have hs:=d_L hr.kind<|.inr O
  rw [show (a_g<|m+2).impl_fileReader_checked ⟨d,b⟩ r at_=k_j (m+1) (a_g<|m+1) ⟨d,b⟩ r at_ from rfl]
  unfold k_j c_C
  rw [show I_ d.rules b r at_ = .inr (0,r.kids,at_) by grind [I_,s_k]]
  rw [show (a_g<|m+1).impl_fileReader_items=h_G (m+1) from rfl]
  obtain ⟨nx,h⟩:=hit m (by omega) zV r.kids rfl (λk hk=>hk) (by omega) at_ ha
  rw [h]
  simp only
  have hx:=j_y (rd:=λk p=>rdW d.rules b k.toNat p) (L:=b.length) r.kids at_ ha (λk hk p hp=>by
   have:=hr.kids k hk
   grind [c_9])
  unfold f_g d_M a_R;generalize P_ (λk p=>rdW d.rules b k.toNat p) r.kids at_=x at hx
  rw [O]
  by_cases G:x.2.2=0
  .rw [iP_ G,iP_ G]
   simp only [a_E,QAn,bF_,fF_,bQ_,fT_]
   rw [l_O (by omega) hx.2 (by omega) (by omega)]
   by_cases hlt:x.2.1<b.length
   .rw [iN_ (show ¬(b.length:Int) - x.2.1<1 by omega),gG_ hlt]
    simp only [a_b,QAn,bF_,fF_]
    rw [show (1:Int).toNat=1 from rfl,s_l hlt,b_j (by simp)]
    simp only [a_,QAw]
    rw [d_G hx.1 (by omega),a_,n_M _ (by grind [d_H]),a_,ia_ (x:=(x.2.1:Int)) (by omega) (by omega)]
    by_cases hsum:b_ b[x.2.1]=c_Y (a_v b at_ x.2.1)
    .rw [show (b_ b[x.2.1] != c_Y (a_v b at_ x.2.1))=false by grind,iP_ hsum];exact ⟨0,rfl⟩
    simp_all
   .rw [iP_ (show (b.length:Int) - x.2.1<1 by omega),gN_ (by omega)];simp
  simp_all
end
end Go.Vw
