import Derived.Test.YtahlbmonbflopaaGreatDoorV3
namespace Go.Vw
open Go.RowKit Dat
theorem k_U {ρ:Type}(rd:Int->Nat->RR)(ks:List Int)(L:Nat)(er:Nat->Nat->Int->ρ)(body:Nat->Int×List Val->Option (Out (Int×List Val) ρ))
  (hbody:∀k (hk:k<ks.length) (p:Nat) vs,p<=L->vs.length<=k->body k ((p:Int),vs)=some (if (rd ks[k] p).2.2=0 then .next (((rd ks[k] p).2.1:Int),vs++[(rd ks[k] p).1]) else .ret (er p (rd ks[k] p).2.1 (rd ks[k] p).2.2)))
  (hle:∀k∈ks,∀p,p<=L->(rd k p).2.1<=L):∀m k (p:Nat) vs,k+m=ks.length->p<=L->vs.length<=k ->
  ∃pe,y_ body m k ((p:Int),vs)=some (if (a_c rd (ks.drop k) p).2.2=0 then .inl (((a_c rd (ks.drop k) p).2.1:Int),vs++(a_c rd (ks.drop k) p).1) else .inr (er pe (a_c rd (ks.drop k) p).2.1 (a_c rd (ks.drop k) p).2.2))
 | 0,k,p,vs,hk,_,_=>by
  rw [List.drop_of_length_le (by omega)]
  exact ⟨0,by simp [y_,a_c]⟩
 | m+1,k,p,vs,hk,hp,hv=>by
  have hlt:k<ks.length:=by omega
  rw [dC_ hlt]
  unfold y_ a_c
  rw [hbody k hlt p vs hp hv]
  by_cases G:(rd ks[k] p).2.2=0
  .rw [iP_ G,iP_ G]
   obtain ⟨pe,h⟩:=k_U rd ks L er body hbody hle m (k+1) (rd ks[k] p).2.1 (vs++[(rd ks[k] p).1]) (by omega) (hle _ (gE_ hlt) p hp) (by simp;omega)
   simp only
   rw [h]
   refine ⟨pe,?_⟩
   by_cases h1:(a_c rd (ks.drop<|k+1) (rd ks[k] p).2.1).2.2=0
   .rw [iP_ h1,iP_ h1,iP_ rfl];simp
   .rw [iN_ h1,iN_ h1,iN_ h1]
  .rw [iN_ G,iN_ G]
   simp only
   exact ⟨p,by rw [iN_ G]⟩
section
variable {d:c_}{b:Bt}
def c_8 (x:RR):Val×Int×Int:=(x.1,(x.2.1:Int),x.2.2)
def f_0 (x:List Val×Nat×Int):Val×Int×Int:=if x.2.2=0 then (⟨0,[],x.1⟩,(x.2.1:Int),0) else (zV,(x.2.1:Int),x.2.2)
theorem n_6 (v:Val):(⟨v.number,v.bytes,v.items⟩:Val)=v:=by cases v;rfl
theorem q_O {n:Nat}{r:b_}{num:Int}{ks:List Int}{i:Nat}(hk:e_Y r)(hks:∀k (hk:k<ks.length),P_ r num k=ks[k])
  (hkk:∀k∈ks,0<=k/\k<(i:Int)) (a5:ks.length<=40) (ih:∀k,k<i->∀p,p<=b.length->k_4 n d k b p=some (c_8<|rdW d.rules b k p))
  (hle:∀k,k<i->∀p,p<=b.length->(rdW d.rules b k p).2.1<=b.length) {p:Nat} (hp:p<=b.length) :
  g_n (n+1) d r num (ks.length:Int) b p=some (f_0<|a_c (λk p=>rdW d.rules b k.toNat p) ks p):=by
 show i_D n (a_x n) d r num (ks.length:Int) b p=_
 unfold i_D
 rw [show ((ks.length:Int)).toNat=ks.length from rfl]
 obtain ⟨pe,h⟩:=k_U (λk p=>rdW d.rules b k.toNat p) ks b.length (λ_ e c=>(zV,(e:Int),c)) (λa2=>un2 λa3 a4=>bd (α:=Int×Bt×(List Val)×Int×Int) (bd (b_r r num ((a2:Nat):Int)) λL=>bd3 ((a_x n).spec_l11Read d L b a3) λH O V=>some (H.number,H.bytes,H.items,O,V)) (un5 λW Y a0 I J=>if (J != 0) then some (.ret ((⟨0,([]:Bt),([]:List Val)⟩:Val),I,J)) else bd (psh a4 (⟨W,Y,a0⟩:Val)) λa1=>some<|.next (I,a1)))
  (λk hlt p vs hp hv=>by
   have hkr:=hkk _<|gE_ hlt
   simp only [un2]
   rw [d_q hk,bd_some,hks k hlt]
   have hrd:=ih ks[k].toNat (by omega) p hp
   rw [show ((ks[k].toNat:Nat):Int)=ks[k] by omega] at hrd
   rw [show (a_x n).spec_l11Read d ks[k] b p=k_4 n d ks[k] b p from rfl,hrd]
   unfold c_8
   simp only [bd3_some,bd_some]
   generalize rdW d.rules b ks[k].toNat p=x
   show (if (x.2.2 != 0) then some (Out.ret (zV,(x.2.1:Int),x.2.2)) else bd (psh vs (⟨x.1.number,x.1.bytes,x.1.items⟩:Val)) λy=>some<|.next ((x.2.1:Int),y))=_
   by_cases G:x.2.2=0
   .rw [iP_ G,G]
    simp only [bN_,bF_,fF_]
    rw [Y_ (by rw [a_7];omega),n_6];rfl
   .rw [iN_ G,show (x.2.2 != 0)=true by simpa using G];rfl)
  (λk hk p hp=>by have:=hkk k hk;exact hle k.toNat (by omega) p hp) ks.length 0 p [] (by omega) hp (Nat.zero_le _)
 rw [h]
 rw [List.drop_zero]
 unfold f_0;generalize a_c (λk p=>rdW d.rules b k.toNat p) ks p=x
 by_cases G:x.2.2=0
 .rw [iP_ G,iP_ G];rfl
 .rw [iN_ G,iN_ G];rfl
theorem q_P (hv:R_ d=true)(hd:SmD d)(hb:b.length<=400):∀(i:Nat),i<d.rules.length->∀n,3 * i+410<=n->∀at_,at_<=b.length->k_4 n d i b at_=some (c_8<|rdW d.rules b i at_):=by
 have hMX:=MXv;intro i
 induction i using Nat.strongRecOn with
 | _ i ih =>
  intro hi n hn at_ ha;have hlen:=(b_X hv).2;obtain ⟨m,rfl⟩:∃m,n=m+3:=⟨n - 3,by omega⟩
  rw [h_d hv hi ha]
  have hr:=a_S hv hi;have hal:=d_Z hr.kind;have hsm:=hd.each d.rules[i] (gE_ hi);have hidx:idx d.rules (i:Int)=some d.rules[i]:=ix_ hi;generalize hrr:d.rules[i]=r at *
  have hkk:=c_7 hr.kind
  show i_C (m+2) (a_x<|m+2) d i b at_=_
  unfold i_C rdB
  rw [hidx,bd_some]
  have hle:∀k,k<i->∀p,p<=b.length->(rdW d.rules b k p).2.1<=b.length:=λk hk p hp=>(d_7 hv k (by omega) p hp).2
  have hit:∀q,m<=q->∀(num:Int)(ks:List Int),(∀k (hk:k<ks.length),P_ r num k=ks[k])->(∀k∈ks,k∈r.kids)->ks.length<=40->∀p,p<=b.length ->
    g_n (q+1) d r num (ks.length:Int) b p=some (f_0<|a_c (λk p=>rdW d.rules b k.toNat p) ks p):=λq hq num ks h1 h2 h3 p hp =>
   q_O hkk h1 (λk hk=>hr.kids k<|h2 k hk) h3 (λk hk p hp=>ih k hk (by omega) q (by omega) p hp) hle hp
  by_cases h1:r.kind=1
  .rw [h1];simp only [bQ_,fT_]
   rw [k_R hidx (c_J hr.kind h1) (by omega) ha]
   cases a_k b r at_ <;> rfl
  rw [show (r.kind==1)=false by simpa using h1]
  by_cases h2:r.kind=2
  .rw [h2];simp only [bQ_,fT_,bF_,fF_]
   rw [q_A (by omega) ha hsm.bytes];rfl
  rw [show (r.kind==2)=false by simpa using h2]
  by_cases h3:r.kind=3
  .rw [h3];simp only [bQ_,fT_,bF_,fF_]
   have:=d_s hr.kind h3
   rw [n_1 (by omega) ha (by omega) (by omega)];rfl
  rw [show (r.kind==3)=false by simpa using h3]
  by_cases V:r.kind=10
  .rw [V];simp only [bQ_,fT_,bF_,fF_,show ((10:Int)==4)=false from rfl]
   have Y:=k_S hr.kind V
   rw [a_h (by omega),bd_some,a_8 (show 0<r.bytes.length by omega),q_x _ _ _ _ (by omega) ha (by omega)]
   cases c_w b at_ r.bytes[0] <;> rfl
  rw [show (r.kind==10)=false by simpa using V]
  by_cases h6:r.kind=6
  .rw [h6];simp only [bQ_,fT_,bF_,fF_,show ((6:Int)==4)=false from rfl]
   have hs:=d_t hr.kind h6
   rw [show (a_x<|m+2).spec_l11Items d r 0 (r.kids.length:Int) b at_=g_n ((m+1)+1) d r 0 (r.kids.length:Int) b at_ from rfl]
   rw [hit (m+1) (by omega) 0 r.kids (λk hk=>by unfold P_;rw [h6];simp [hk]) (λk hk=>hk) (by omega) at_ ha]
   rw [show a_r d.rules b r at_ = .inr (0,r.kids,at_) by unfold a_r;rw [h6];rfl]
   simp only
   unfold f_0 c_8 a_W;generalize a_c (λk p=>rdW d.rules b k.toNat p) r.kids at_=x
   rw [h6]
   by_cases G:x.2.2=0
   .rw [iP_ G,iP_ G];rfl
   .rw [iN_ G,iN_ G];rfl
  rw [show (r.kind==6)=false by simpa using h6]
  by_cases H:r.kind=7
  .rw [H];simp only [bQ_,fT_,bF_,fF_,show ((7:Int)==4)=false from rfl]
   have hs:=c_6 hr.kind H;have hq:=d_r hs.1
   rw [show (a_x<|m+2).spec_l11Choice d r b at_=i_E (m+1) (a_x<|m+1) d r b at_ from rfl]
   unfold i_E
   rw [d_1 (by omega),bd_some,k_R hq.1 hq.2 (by omega) ha]
   have hhd:a_r d.rules b r at_=(match a_k b (O_ d.rules<|o_ r) at_ with | none=>.inl 1 | some n=>match a_H r.tags n with | none=>.inl 3 | some k=>.inr (n,[r.kids.getD (k+1) 0],at_+(O_ d.rules<|o_ r).size.toNat)):=by unfold a_r;rw [H];rfl
   rw [hhd]
   cases hi:a_k b (O_ d.rules<|o_ r) at_ with
   | none=>rfl
   | some num =>
    have hrg:=d_4 hq.2 hi
    simp only [bd3_some,nT_,bF_,fF_]
    rw [show b_r r num 0=some (P_ r num 0) from d_q hkk num 0,bd_some]
    have hitem:P_ r num 0=(match a_H r.tags num with | some k=>r.kids.getD (k+1) 0 | none=>-1):=by unfold P_;rw [H];rfl
    rw [hitem]
    cases ht:a_H r.tags num with
    | none=>rfl
    | some k =>
     have htl:=h_c ht;have hmem:r.kids.getD (k+1) 0∈r.kids:=c_K (by omega);have a0:=hr.kids _ hmem
     simp only
     rw [dF_ (show ¬r.kids.getD (k+1) 0<0 by omega)]
     simp only [bF_,fF_]
     rw [show (a_x<|m+1).spec_l11Items d r num 1 b ((at_+(O_ d.rules<|o_ r).size.toNat:Nat):Int)=g_n (m+1) d r num (([r.kids.getD (k+1) 0].length:Nat):Int) b ((at_+(O_ d.rules<|o_ r).size.toNat:Nat):Int) from rfl]
     rw [hit m (by omega) num [r.kids.getD (k+1) 0] (λj hj=>by
      have:j=0:=by simpa using hj
      subst this
      rw [hitem,ht];rfl) (λk' hk'=>by rw [List.mem_singleton.1 hk'];exact hmem) (by simp) _ (by omega)]
     unfold f_0 c_8 a_W;generalize a_c (λk p=>rdW d.rules b k.toNat p) [r.kids.getD (k+1) 0] (at_+(O_ d.rules<|o_ r).size.toNat)=x
     rw [H]
     by_cases G:x.2.2=0
     .rw [iP_ G,iP_ G];rfl
     .rw [iN_ G,iN_ G]
      simp only [bd3_some]
      rw [show (x.2.2==0)=false by simpa using G]
      rfl
  rw [show (r.kind==7)=false by simpa using H]
  by_cases I:r.kind=8
  .rw [I];simp only [bQ_,fT_,bF_,fF_,show ((8:Int)==4)=false from rfl]
   have hs:=b_F hr.kind<|.inl I
   rw [show (a_x<|m+2).spec_l11Option d r b at_=i_F (m+1) (a_x<|m+1) d r b at_ from rfl]
   unfold i_F;have hhd:a_r d.rules b r at_=(match b[at_]? with | none=>.inl 1 | some c=>if 1<byteI c then .inl 4 else .inr (0,List.replicate c.toNat<|r.kids.getD 0 0,at_+1)):=by unfold a_r;rw [I];rfl
   rw [hhd]
   by_cases hlt:at_<b.length
   .rw [dF_ (show ¬(b.length:Int)<=(at_:Int) by omega),ix_ hlt,gG_ hlt]
    simp only [bF_,fF_,bd_some]
    by_cases hc:1<byteI b[at_]
    .rw [iP_ hc,dT_ (show byteI (1:UInt8)<byteI b[at_] from hc)];rfl
    .rw [iN_ hc,dF_ (show ¬byteI (1:UInt8)<byteI b[at_] from hc)]
     simp only [bF_,fF_]
     rw [ia_ (x:=(at_:Int)) (by omega) (by omega)]
     rw [show (a_x<|m+1).spec_l11Items d r 0 (byteI b[at_]) b ((at_:Int)+1)=g_n (m+1) d r 0 (((List.replicate b[at_].toNat (r.kids.getD 0 0)).length:Nat):Int) b ((at_+1:Nat):Int) by rw [List.length_replicate];rfl]
     rw [hit m (by omega) 0 _ (λj hj=>by unfold P_;rw [I];simp) (λk' hk'=>by rw [List.eq_of_mem_replicate hk'];exact c_K (by omega)) (by unfold byteI at hc;simp;omega) _ (by omega)]
     unfold f_0 c_8 a_W;generalize a_c (λk p=>rdW d.rules b k.toNat p) (List.replicate b[at_].toNat (r.kids.getD 0 0)) (at_+1)=x
     rw [I]
     by_cases G:x.2.2=0
     .rw [iP_ G,iP_ G];rfl
     .rw [iN_ G,iN_ G];rfl
   .rw [dT_ (show (b.length:Int)<=(at_:Int) by omega),gN_ (by omega)];rfl
  rw [show (r.kind==8)=false by simpa using I]
  by_cases J:r.kind=9
  .rw [J];simp only [bQ_,fT_,bF_,fF_,show ((9:Int)==4)=false from rfl]
   have hs:=b_F hr.kind<|.inr J
   rw [show (a_x<|m+2).spec_l11Checked d r b at_=i_G (m+1) (a_x<|m+1) d r b at_ from rfl]
   unfold i_G
   rw [show a_r d.rules b r at_ = .inr (0,[r.kids.getD 0 0],at_) by unfold a_r;rw [J];rfl]
   rw [show (a_x<|m+1).spec_l11Items d r 0 1 b (at_:Int)=g_n (m+1) d r 0 (([r.kids.getD 0 0].length:Nat):Int) b (at_:Int) from rfl]
   rw [hit m (by omega) 0 [r.kids.getD 0 0] (λj hj=>by
    have:j=0:=by simpa using hj
    subst this
    unfold P_;rw [J];rfl) (λk' hk'=>by rw [List.mem_singleton.1 hk'];exact c_K (by omega)) (by simp) _ ha]
   simp only
   have hx:=i_j (rd:=λk p=>rdW d.rules b k.toNat p) (L:=b.length) [r.kids.getD 0 0] at_ ha (λk hk p hp=>by
    have hmem:k∈r.kids:=by rw [List.mem_singleton.1 hk];exact c_K (by omega)
    have:=hr.kids k hmem
    exact d_7 hv k.toNat (by omega) p hp)
   unfold f_0 c_8 a_W;generalize a_c (λk p=>rdW d.rules b k.toNat p) [r.kids.getD 0 0] at_=x at hx
   rw [J]
   by_cases G:x.2.2=0
   .rw [iP_ G,iP_ G]
    simp only [bd3_some,bN_,bF_,fF_,bQ_,fT_]
    by_cases hlt:x.2.1<b.length
    .rw [dF_ (show ¬(b.length:Int)<=(x.2.1:Int) by omega),ix_ hlt,gG_ hlt]
     simp only [bF_,fF_,bd_some]
     rw [i_i hx.1 (by omega),bd_some,k_P,bd_some,ia_ (x:=(x.2.1:Int)) (by omega) (by omega)]
     by_cases hsum:byteI b[x.2.1]=b_E (b_5 b at_ x.2.1)
     .rw [iP_ hsum,show (byteI b[x.2.1] != b_E (b_5 b at_ x.2.1))=false by simpa using hsum];rfl
     .rw [iN_ hsum,show (byteI b[x.2.1] != b_E (b_5 b at_ x.2.1))=true by simpa using hsum];rfl
    .rw [dT_ (show (b.length:Int)<=(x.2.1:Int) by omega),gN_ (by omega)];rfl
   .rw [iN_ G,iN_ G]
    simp only [bd3_some]
    rw [show (x.2.2 != 0)=true by simpa using G];rfl
  rw [show (r.kind==9)=false by simpa using J]
  simp only [bF_,fF_]
  have W:r.kind=4∨r.kind=5:=by omega
  have hlim:0<lim d.rules (o_ r)/\0<r.kids.length:=by
   rcases W with h | h
   .have:=d_6 hr.kind h;exact ⟨this.1,by omega⟩
   .have:=c_5 hr.kind h;exact ⟨this.1,by omega⟩
  have hq:=d_r hlim.1
  rw [d_1 hlim.2,bd_some,k_R hq.1 hq.2 (by omega) ha]
  rcases W with h4 | h5
  .rw [h4];simp only [bQ_,fT_]
   cases hi:a_k b (O_ d.rules<|o_ r) at_ with
   | none=>rfl
   | some num =>
    have hrg:=d_4 hq.2 hi
    simp only [bd3_some,nT_,bF_,fF_]
    rw [n_1 (by omega) (by omega) (by omega) (by omega)];rfl
  .rw [h5];simp only [show ((5:Int)==4)=false from rfl,bF_,fF_]
   have hs:=c_5 hr.kind h5;have hhd:a_r d.rules b r at_=(match a_k b (O_ d.rules<|o_ r) at_ with | none=>.inl 1 | some n=>if 40<n then .inl 6 else .inr (0,List.replicate n.toNat<|r.kids.getD 1 0,at_+(O_ d.rules<|o_ r).size.toNat)):=by unfold a_r;rw [h5];rfl
   rw [hhd]
   cases hi:a_k b (O_ d.rules<|o_ r) at_ with
   | none=>rfl
   | some num =>
    have hrg:=d_4 hq.2 hi
    simp only [bd3_some,nT_,bF_,fF_]
    by_cases O:40<num
    .rw [dT_ O,iP_ O];rfl
    .rw [dF_ O,iN_ O]
     simp only [bF_,fF_]
     rw [show (a_x<|m+2).spec_l11Items d r 0 num b ((at_+(O_ d.rules<|o_ r).size.toNat:Nat):Int)=g_n ((m+1)+1) d r 0 (((List.replicate num.toNat<|r.kids.getD 1 0).length:Nat):Int) b ((at_+(O_ d.rules<|o_ r).size.toNat:Nat):Int) by rw [List.length_replicate,show ((num.toNat:Nat):Int)=num by omega];rfl]
     rw [hit (m+1) (by omega) 0 _ (λj hj=>by unfold P_;rw [h5];simp) (λk' hk'=>by rw [List.eq_of_mem_replicate hk'];exact c_K (by omega)) (by simp;omega) _ (by omega)]
     unfold f_0 c_8 a_W;generalize a_c (λk p=>rdW d.rules b k.toNat p) (List.replicate num.toNat<|r.kids.getD 1 0) (at_+(O_ d.rules<|o_ r).size.toNat)=x
     rw [h5]
     by_cases G:x.2.2=0
     .rw [iP_ G,iP_ G];rfl
     .rw [iN_ G,iN_ G];rfl
end
end Go.Vw
namespace Go.Vw
open Go.RowKit Dat
theorem q_Y {ts:List Int}{n:Int}{k:Nat}(h:a_H ts n=some k):k<ts.length/\ts.getD k 0=n/\∀j,j<k->ts.getD j 0 ≠ n:=by
 have hlt:=h_c h;unfold a_H at h
 obtain ⟨hp,as,bs,hl,has⟩:=List.find?_eq_some_iff_append.1 h;refine ⟨hlt,by simpa using hp,λj hj=>?_⟩;have hlen:as.length<ts.length:=by have:=congrArg List.length hl;simp at this;omega
 have hke:as.length=k:=by
  have h2:(List.range ts.length)[as.length]? = some k:=by rw [hl];simp
  rw [List.getElem?_range hlen] at h2
  exact Option.some.inj h2
 have hj':j<as.length:=by omega
 have h2:(List.range ts.length)[j]? = some (as[j]):=by rw [hl,List.getElem?_append_left hj'];simp
 rw [List.getElem?_range (by omega)] at h2
 have h3:=has as[j] (gE_ hj')
 rw [← Option.some.inj h2] at h3
 simpa using h3
theorem q_Z {ts:List Int}{n:Int}(h:a_H ts n=none):∀j,j<ts.length->ts.getD j 0 ≠ n:=λj hj=>by
 have:=List.find?_eq_none.1 h j<|List.mem_range.2 hj
 simpa using this
theorem n_c {l:List Int}(h:l.length=1):l=[l.getD 0 0]:=by
 cases l with
 | nil=>cases h
 | cons a t =>
  cases t with
  | nil=>rfl
  | cons _ _=>simp at h
theorem n_d {b:Bt}{p:Nat}(h:p<b.length):b_5 b p (p+1)=[b[p]]:=by
 unfold b_5
 rw [List.take_add_one,gG_ h,Option.toList_some,List.drop_append_of_le_length (by simp;omega),List.drop_of_length_le (by simp;omega)]
 rfl
theorem r_0 {l:List Int}{k:Nat}(h:k+1<l.length)(hl:l.length<=MX):slc l ((k+1:Nat):Int) (h_ (k:Int) 2)=some [l.getD (k+1) 0]:=by
 have:=MXv
 rw [ia_ (x:=(k:Int)) (by omega) (by omega),g_f (by omega) (by omega) (by omega),show ((k:Int)+2).toNat=(k+1)+1 by omega,show (((k+1:Nat):Int)).toNat=k+1 from rfl,List.take_add_one,gG_ h,Option.toList_some,List.drop_append_of_le_length (by simp;omega),List.drop_of_length_le (by simp;omega),a_8 h]
 rfl
theorem r_1 {α:Type}(m k:Nat)(z x:α)(h:k<m):(List.replicate k x++List.replicate (m - k) z).set k x=List.replicate (k+1) x++List.replicate (m - (k+1)) z:=by
 rw [List.set_append_right _ _ (by simp),List.length_replicate,Nat.sub_self,show m - k=(m - (k+1))+1 by omega,List.replicate_succ,List.set_cons_zero,List.replicate_succ',List.append_assoc]
 rfl
theorem r_2 {ρ:Type}{ks:List Int}{x:Int}(hx:idx ks 1=some x)(m:Nat):y_ (σ:=List Int) (ρ:=ρ) (λG=>(λH=>bd (idx ks 1) λI=>bd (upd H ((G:Nat):Int) I) λJ=>some<|.next J)) m 0 (List.replicate m 0)=some (.inl<|List.replicate m x):=by
 have h:=d_w (n:=m) (σ:=List Int) (ρ:=ρ) (body:=(λG=>(λH=>bd (idx ks 1) λI=>bd (upd H ((G:Nat):Int) I) λJ=>some (.next J)))) (λk=>List.replicate k x++List.replicate (m - k) 0) (λj hj=>by
  rw [hx,bd_some,n_D (by simp;omega),bd_some,r_1 m j 0 x hj])
 simpa using h
section
variable {d:c_}{b:Bt}
def c_L (x:RR)(nx:Int):Val×Int×Option (Int×Int):=if x.2.2=0 then (x.1,(x.2.1:Int),none) else (zV,nx,some ((x.2.1:Int),x.2.2))
def e_1 (v:Val)(x:List Val×Nat×Int)(nx:Int):Val×Int×Option (Int×Int):=if x.2.2=0 then (⟨v.number,v.bytes,x.1⟩,(x.2.1:Int),none) else (zV,nx,some ((x.2.1:Int),x.2.2))
theorem r_3 {n:Nat}{ks:List Int}{i:Nat}(v:Val)(a0:v.items=[])
  (hkk:∀k∈ks,0<=k/\k<(i:Int)) (a1:ks.length<=40) (ih:∀k,k<i->∀p,p<=b.length->∃nx,k_5 n ⟨d,b⟩ k p=some (c_L (rdW d.rules b k p) nx))
  (hle:∀k,k<i->∀p,p<=b.length->(rdW d.rules b k p).2.1<=b.length) {p:Nat} (hp:p<=b.length) :
  ∃nx,g_s (n+1) ⟨d,b⟩ v ks p=some (e_1 v (a_c (λk p=>rdW d.rules b k.toNat p) ks p) nx):=by
 show ∃nx,i_R n (a_m n) ⟨d,b⟩ v ks p=_
 unfold i_R
 obtain ⟨pe,h⟩:=k_U (λk p=>rdW d.rules b k.toNat p) ks b.length (λp e c=>(zV,(p:Int),some ((e:Int),c))) (λJ=>un2 λH L=>bd (idx ks ((J:Nat):Int)) λO=>bd3 ((a_m n).impl_fileReader_value ⟨d,b⟩ O H) λV W I=>if I.isSome then some (.ret ((⟨0,([]:Bt),([]:List Val)⟩:Val),H,I)) else bd (psh L V) λY=>some<|.next (W,Y))
  (λk hlt p vs hp hv=>by
   have hkr:=hkk _<|gE_ hlt;obtain ⟨nx,hrd⟩:=ih ks[k].toNat (by omega) p hp
   rw [show ((ks[k].toNat:Nat):Int)=ks[k] by omega] at hrd
   simp only [un2]
   rw [ix_ hlt,bd_some,show (a_m n).impl_fileReader_value ⟨d,b⟩ ks[k] p=k_5 n ⟨d,b⟩ ks[k] p from rfl,hrd]
   unfold c_L;generalize rdW d.rules b ks[k].toNat p=x
   by_cases G:x.2.2=0
   .rw [iP_ G,iP_ G]
    simp only [bd3_some,Option.isSome_none,bF_,fF_]
    rw [Y_ (by rw [a_7];omega)];rfl
   .rw [iN_ G,iN_ G];rfl)
  (λk hk p hp=>by have:=hkk k hk;exact hle k.toNat (by omega) p hp) ks.length 0 p [] (by omega) hp (Nat.zero_le _)
 rw [a0,h,List.drop_zero]
 unfold e_1;generalize a_c (λk p=>rdW d.rules b k.toNat p) ks p=x
 by_cases G:x.2.2=0
 .rw [iP_ G];exact ⟨0,by rw [iP_ G];rfl⟩
 .rw [iN_ G]
  exact ⟨pe,by rw [iN_ G];rfl⟩
theorem r_4 (hv:R_ d=true)(hd:SmD d)(hb:b.length<=400):∀(i:Nat),i<d.rules.length->∀n,3 * i+410<=n->∀at_,at_<=b.length->∃nx,k_5 n ⟨d,b⟩ i at_=some (c_L (rdW d.rules b i at_) nx):=by
 have hMX:=MXv;intro i
 induction i using Nat.strongRecOn with
 | _ i ih =>
  intro hi n hn at_ ha;have hlen:=(b_X hv).2;obtain ⟨m,rfl⟩:∃m,n=m+3:=⟨n - 3,by omega⟩
  rw [h_d hv hi ha]
  have hr:=a_S hv hi;have hal:=d_Z hr.kind;have hsm:=hd.each d.rules[i] (gE_ hi);have hidx:idx d.rules (i:Int)=some d.rules[i]:=ix_ hi;generalize hrr:d.rules[i]=r at *
  have hkk:=c_7 hr.kind
  show ∃nx,i_P (m+2) (a_m<|m+2) ⟨d,b⟩ i at_=_
  unfold i_P rdB
  simp only
  rw [hidx,bd_some]
  have hle:∀k,k<i->∀p,p<=b.length->(rdW d.rules b k p).2.1<=b.length:=λk hk p hp=>(d_7 hv k (by omega) p hp).2
  have hit:∀q,m<=q->∀(v:Val)(ks:List Int),v.items=[]->(∀k∈ks,k∈r.kids)->ks.length<=40->∀p,p<=b.length ->
    ∃nx,g_s (q+1) ⟨d,b⟩ v ks p=some (e_1 v (a_c (λk p=>rdW d.rules b k.toNat p) ks p) nx):=λq hq v ks h1 h2 h3 p hp =>
   r_3 v h1 (λk hk=>hr.kids k<|h2 k hk) h3 (λk hk p hp=>ih k hk (by omega) q (by omega) p hp) hle hp
  by_cases h1:r.kind=1
  .rw [h1];simp only [bQ_,fT_]
   rw [j_G hidx (c_J hr.kind h1) (by omega) ha]
   cases a_k b r at_ with
   | none=>exact ⟨_,rfl⟩
   | some n=>exact ⟨0,rfl⟩
  rw [show (r.kind==1)=false by simpa using h1]
  by_cases h2:r.kind=2
  .rw [h2];simp only [bQ_,fT_,bF_,fF_]
   rw [q_B (by omega) ha hsm.bytes]
   unfold c_L
   by_cases G:(b_v b r.bytes at_).2=0
   .rw [iP_ G];exact ⟨0,by rw [iP_ G];rfl⟩
   .rw [iN_ G];exact ⟨_,by rw [iN_ G];rfl⟩
  rw [show (r.kind==2)=false by simpa using h2]
  by_cases h3:r.kind=3
  .rw [h3];simp only [bQ_,fT_,bF_,fF_]
   have:=d_s hr.kind h3
   rw [n_2 (by omega) ha (by omega) (by omega)]
   unfold c_L
   by_cases G:(a_R b at_ r.size).2.2=0
   .rw [iP_ G];exact ⟨0,by rw [iP_ G];rfl⟩
   .rw [iN_ G];exact ⟨_,by rw [iN_ G];rfl⟩
  rw [show (r.kind==3)=false by simpa using h3]
  by_cases h4:r.kind=4
  .rw [h4];simp only [bQ_,fT_,bF_,fF_]
   have hs:=d_6 hr.kind h4;have hq:=d_r hs.1
   rw [d_1 (by omega),bd_some,j_G hq.1 hq.2 (by omega) ha]
   cases hi:a_k b (O_ d.rules<|o_ r) at_ with
   | none=>exact ⟨_,rfl⟩
   | some num =>
    have hrg:=d_4 hq.2 hi
    simp only [bd3_some,Option.isSome_none,bF_,fF_]
    rw [n_2 (by omega) (by omega) (by omega) (by omega)]
    unfold c_L
    by_cases G:(a_R b (at_+(O_ d.rules<|o_ r).size.toNat) num).2.2=0
    .rw [iP_ G];exact ⟨0,by rw [iP_ G];rfl⟩
    .rw [iN_ G];exact ⟨_,by rw [iN_ G];rfl⟩
  rw [show (r.kind==4)=false by simpa using h4]
  by_cases V:r.kind=10
  .rw [V];simp only [bQ_,fT_,bF_,fF_,show ((10:Int)==5)=false from rfl,show ((10:Int)==6)=false from rfl,show ((10:Int)==7)=false from rfl,show ((10:Int)==8)=false from rfl,show ((10:Int)==9)=false from rfl]
   have W:=k_S hr.kind V
   rw [a_h (by omega),bd_some,a_8 (show 0<r.bytes.length by omega),q_w _ _ _ _ (by omega) ha (by omega)]
   cases c_w b at_ r.bytes[0] with
   | none=>exact ⟨_,rfl⟩
   | some x=>exact ⟨0,rfl⟩
  rw [show (r.kind==10)=false by simpa using V]
  by_cases h5:r.kind=5
  .rw [h5];simp only [bQ_,fT_,bF_,fF_]
   have hs:=c_5 hr.kind h5;have hq:=d_r hs.1
   rw [show (a_m<|m+2).impl_fileReader_array ⟨d,b⟩ r at_=i_Q (m+1) (a_m<|m+1) ⟨d,b⟩ r at_ from rfl]
   unfold i_Q b_Y
   rw [d_1 (by omega),bd_some,j_G hq.1 hq.2 (by omega) ha]
   have hhd:a_r d.rules b r at_=(match a_k b (O_ d.rules<|o_ r) at_ with | none=>.inl 1 | some n=>if 40<n then .inl 6 else .inr (0,List.replicate n.toNat<|r.kids.getD 1 0,at_+(O_ d.rules<|o_ r).size.toNat)):=by unfold a_r;rw [h5];rfl
   rw [hhd]
   cases hi:a_k b (O_ d.rules<|o_ r) at_ with
   | none=>exact ⟨_,rfl⟩
   | some num =>
    have hrg:=d_4 hq.2 hi
    simp only [bd3_some,Option.isSome_none,bF_,fF_]
    by_cases J:40<num
    .rw [dT_ J,iP_ J];exact ⟨_,rfl⟩
    .rw [dF_ J,iN_ J]
     simp only [bF_,fF_]
     rw [j_W (by omega) (by rw [a_7];omega),bd_some,List.length_replicate]
     rw [r_2 (x:=r.kids.getD 1 0) (by rw [e_4 (by omega),a_8 (by omega)]) num.toNat]
     simp only [bd_some,el_inl]
     rw [show (a_m<|m+1).impl_fileReader_items=g_s (m+1) from rfl]
     obtain ⟨nx,h⟩:=hit m (by omega) zV (List.replicate num.toNat<|r.kids.getD 1 0) rfl (λk' hk'=>by rw [List.eq_of_mem_replicate hk'];exact c_K (by omega)) (by simp;omega) (at_+(O_ d.rules<|o_ r).size.toNat) (by omega)
     rw [h]
     unfold e_1 c_L a_W;generalize a_c (λk p=>rdW d.rules b k.toNat p) (List.replicate num.toNat<|r.kids.getD 1 0) (at_+(O_ d.rules<|o_ r).size.toNat)=x
     rw [h5]
     refine ⟨nx,?_⟩
     by_cases G:x.2.2=0
     .rw [iP_ G,iP_ G];rfl
     .rw [iN_ G,iN_ G]
      simp only [iN_ G];rfl
  rw [show (r.kind==5)=false by simpa using h5]
  by_cases h6:r.kind=6
  .rw [h6];simp only [bQ_,fT_,bF_,fF_]
   have hs:=d_t hr.kind h6
   rw [show (a_m<|m+2).impl_fileReader_items=g_s ((m+1)+1) from rfl]
   obtain ⟨nx,h⟩:=hit (m+1) (by omega) zV r.kids rfl (λk hk=>hk) (by omega) at_ ha
   rw [h]
   rw [show a_r d.rules b r at_ = .inr (0,r.kids,at_) by unfold a_r;rw [h6];rfl]
   simp only
   unfold e_1 c_L a_W;generalize a_c (λk p=>rdW d.rules b k.toNat p) r.kids at_=x
   rw [h6]
   refine ⟨nx,?_⟩
   by_cases G:x.2.2=0
   .rw [iP_ G,iP_ G];rfl
   .rw [iN_ G,iN_ G]
    simp only [iN_ G];rfl
  rw [show (r.kind==6)=false by simpa using h6]
  by_cases I:r.kind=7
  .rw [I];simp only [bQ_,fT_,bF_,fF_]
   have hs:=c_6 hr.kind I;have hq:=d_r hs.1
   rw [show (a_m<|m+2).impl_fileReader_choice ⟨d,b⟩ r at_=i_S (m+1) (a_m<|m+1) ⟨d,b⟩ r at_ from rfl]
   unfold i_S b_Y
   rw [d_1 (by omega),bd_some,j_G hq.1 hq.2 (by omega) ha]
   have hhd:a_r d.rules b r at_=(match a_k b (O_ d.rules<|o_ r) at_ with | none=>.inl 1 | some n=>match a_H r.tags n with | none=>.inl 3 | some k=>.inr (n,[r.kids.getD (k+1) 0],at_+(O_ d.rules<|o_ r).size.toNat)):=by unfold a_r;rw [I];rfl
   rw [hhd]
   cases hi:a_k b (O_ d.rules<|o_ r) at_ with
   | none=>exact ⟨_,rfl⟩
   | some num =>
    have hrg:=d_4 hq.2 hi
    simp only [bd3_some,Option.isSome_none,bF_,fF_]
    cases ht:a_H r.tags num with
    | none =>
     have htn:=q_Z ht
     rw [d_w (λ_=>()) (n:=r.tags.length) (λj hj=>by
      have:=htn j hj
      rw [a_8 hj] at this
      rw [ix_ hj,bd_some,show (r.tags[j]==num)=false by simpa using this];rfl)]
     exact ⟨_,rfl⟩
    | some k =>
     obtain ⟨htl,hte,htb⟩:=q_Y ht;have hmem:r.kids.getD (k+1) 0∈r.kids:=c_K (by omega);obtain ⟨nx,h⟩:=hit m (by omega) ⟨num,[],[]⟩ [r.kids.getD (k+1) 0] rfl (λk' hk'=>by rw [List.mem_singleton.1 hk'];exact hmem) (by simp) (at_+(O_ d.rules<|o_ r).size.toNat) (by omega)
     rw [n_H (λ_=>()) (n:=r.tags.length) (j0:=k) (r:=e_1 ⟨num,[],[]⟩ (a_c (λk p=>rdW d.rules b k.toNat p) [r.kids.getD (k+1) 0] (at_+(O_ d.rules (o_ r)).size.toNat)) nx) htl (λj hj=>by
      have:=htb j hj
      rw [a_8 (show j<r.tags.length by omega)] at this
      rw [ix_ (show j<r.tags.length by omega),bd_some,show (r.tags[j]==num)=false by simpa using this];rfl) (by
      rw [a_8 htl] at hte
      rw [ix_ htl,bd_some,show (r.tags[k]==num)=true by simpa using hte,iP_ rfl,r_0 (by omega) hsm.kids,bd_some,
       show (a_m (m+1)).impl_fileReader_items=g_s (m+1) from rfl,h]
      rfl)]
     simp only [bd_some,el_inr]
     unfold e_1 c_L a_W;generalize a_c (λk p=>rdW d.rules b k.toNat p) [r.kids.getD (k+1) 0] (at_+(O_ d.rules<|o_ r).size.toNat)=x
     rw [I]
     refine ⟨nx,?_⟩
     by_cases G:x.2.2=0
     .rw [iP_ G,iP_ G];rfl
     .rw [iN_ G,iN_ G]
      simp only [iN_ G];rfl
  rw [show (r.kind==7)=false by simpa using I]
  by_cases H:r.kind=8
  .rw [H];simp only [bQ_,fT_,bF_,fF_]
   have hs:=b_F hr.kind<|.inl H
   rw [show (a_m<|m+2).impl_fileReader_option ⟨d,b⟩ r at_=i_T (m+1) (a_m<|m+1) ⟨d,b⟩ r at_ from rfl]
   unfold i_T b_Y;have hhd:a_r d.rules b r at_=(match b[at_]? with | none=>.inl 1 | some c=>if 1<byteI c then .inl 4 else .inr (0,List.replicate c.toNat<|r.kids.getD 0 0,at_+1)):=by unfold a_r;rw [H];rfl
   rw [hhd,j_F (by omega) ha (by omega) (by omega)]
   by_cases hlt:at_<b.length
   .rw [iN_ (show ¬(b.length:Int) - at_<1 by omega),gG_ hlt]
    simp only [bd2_some,Option.isSome_none,bF_,fF_]
    rw [show (1:Int).toNat=1 from rfl,n_d hlt,a_h (by simp)]
    simp only [bd_some,List.getElem_cons_zero]
    by_cases hc:1<byteI b[at_]
    .rw [iP_ hc,dT_ (show byteI (1:UInt8)<byteI b[at_] from hc)];exact ⟨_,rfl⟩
    .rw [iN_ hc,dF_ (show ¬byteI (1:UInt8)<byteI b[at_] from hc)]
     simp only [bF_,fF_]
     rw [ia_ (x:=(at_:Int)) (by omega) (by omega)]
     by_cases hz:byteI b[at_]=0
     .rw [show (byteI b[at_]==byteI (0:UInt8))=true by rw [beq_iff_eq];exact hz]
      rw [show b[at_].toNat=0 by unfold byteI at hz;omega]
      unfold a_W
      rw [H]
      exact ⟨0,rfl⟩
     .rw [show (byteI b[at_]==byteI (0:UInt8))=false by rw [beq_eq_false_iff_ne];exact hz]
      rw [show b[at_].toNat=1 by unfold byteI at hz hc;omega]
      simp only [bF_,fF_]
      rw [show (a_m<|m+1).impl_fileReader_items=g_s (m+1) from rfl]
      obtain ⟨nx,h⟩:=hit m (by omega) zV r.kids rfl (λk hk=>hk) (by omega) (at_+1) (by omega)
      rw [show (at_:Int)+1=((at_+1:Nat):Int) by omega,h]
      rw [show List.replicate 1 (r.kids.getD 0 0)=r.kids from (n_c hs).symm]
      unfold e_1 c_L a_W;generalize a_c (λk p=>rdW d.rules b k.toNat p) r.kids (at_+1)=x
      rw [H]
      refine ⟨nx,?_⟩
      by_cases G:x.2.2=0
      .rw [iP_ G,iP_ G];rfl
      .rw [iN_ G,iN_ G]
       simp only [iN_ G];rfl
   .rw [iP_ (show (b.length:Int) - at_<1 by omega),gN_ (by omega)];exact ⟨_,rfl⟩
  rw [show (r.kind==8)=false by simpa using H]
  have O:r.kind=9:=by omega
  rw [O];simp only [bQ_,fT_,bF_,fF_]
  have hs:=b_F hr.kind<|.inr O
  rw [show (a_m<|m+2).impl_fileReader_checked ⟨d,b⟩ r at_=i_U (m+1) (a_m<|m+1) ⟨d,b⟩ r at_ from rfl]
  unfold i_U b_Y
  rw [show a_r d.rules b r at_ = .inr (0,r.kids,at_) by unfold a_r;rw [O,← n_c hs];rfl]
  rw [show (a_m<|m+1).impl_fileReader_items=g_s (m+1) from rfl]
  obtain ⟨nx,h⟩:=hit m (by omega) zV r.kids rfl (λk hk=>hk) (by omega) at_ ha
  rw [h]
  simp only
  have hx:=i_j (rd:=λk p=>rdW d.rules b k.toNat p) (L:=b.length) r.kids at_ ha (λk hk p hp=>by
   have:=hr.kids k hk
   exact d_7 hv k.toNat (by omega) p hp)
  unfold e_1 c_L a_W;generalize a_c (λk p=>rdW d.rules b k.toNat p) r.kids at_=x at hx
  rw [O]
  by_cases G:x.2.2=0
  .rw [iP_ G,iP_ G]
   simp only [bd3_some,Option.isSome_none,bF_,fF_,bQ_,fT_]
   rw [j_F (by omega) hx.2 (by omega) (by omega)]
   by_cases hlt:x.2.1<b.length
   .rw [iN_ (show ¬(b.length:Int) - x.2.1<1 by omega),gG_ hlt]
    simp only [bd2_some,Option.isSome_none,bF_,fF_]
    rw [show (1:Int).toNat=1 from rfl,n_d hlt,a_h (by simp)]
    simp only [bd_some,List.getElem_cons_zero]
    rw [i_i hx.1 (by omega),bd_some,m_W _ (by rw [d_Y (by omega)];omega),bd_some,ia_ (x:=(x.2.1:Int)) (by omega) (by omega)]
    by_cases hsum:byteI b[x.2.1]=b_E (b_5 b at_ x.2.1)
    .rw [show (byteI b[x.2.1] != b_E (b_5 b at_ x.2.1))=false by simpa using hsum,iP_ hsum];exact ⟨0,rfl⟩
    .rw [show (byteI b[x.2.1] != b_E (b_5 b at_ x.2.1))=true by simpa using hsum,iN_ hsum];exact ⟨_,rfl⟩
   .rw [iP_ (show (b.length:Int) - x.2.1<1 by omega),gN_ (by omega)];exact ⟨_,rfl⟩
  .rw [iN_ G,iN_ G]
   simp only [iN_ G]
   exact ⟨_,rfl⟩
end
end Go.Vw
