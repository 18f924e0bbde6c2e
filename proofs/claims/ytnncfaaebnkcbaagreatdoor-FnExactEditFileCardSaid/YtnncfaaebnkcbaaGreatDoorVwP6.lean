
import Derived.Test.YtnncfaaebnkcbaaGreatDoorVwP5
namespace Go.Vw
open Go.RowKit Dat
theorem q_s {ts:List Int}{n:Int}{k:Nat}(h:b_1 ts n=some k):k<ts.length/\ts.getD k 0=n/\∀j,j<k->ts.getD j 0 ≠ n:=by
 have hlt:=k_0 h;unfold b_1 at h
 obtain ⟨hp,as,bs,hl,has⟩:=List.find?_eq_some_iff_append.1 h;refine ⟨hlt,by simpa using hp,fun j hj=>?_⟩;have hlen:as.length<ts.length:=by have:=congrArg List.length hl;simp at this;omega
 have hke:as.length=k:=by
  have h2:(List.range ts.length)[as.length]? = some k:=by rw [hl];simp
  rw [List.getElem?_range hlen] at h2
  exact Option.some.inj h2
 have hj':j<as.length:=by omega
 have h2:(List.range ts.length)[j]? = some (as[j]):=by rw [hl,List.getElem?_append_left hj'];simp
 rw [List.getElem?_range (by omega)] at h2
 have h3:=has as[j] (gE_ hj')
 rw [← Option.some.inj h2] at h3
 simpa using h3
theorem q_t {ts:List Int}{n:Int}(h:b_1 ts n=none):∀j,j<ts.length->ts.getD j 0 ≠ n:=fun j hj=>by
 have:=List.find?_eq_none.1 h j<|List.mem_range.2 hj
 simpa using this
theorem m_D {l:List Int}(h:l.length=1):l=[l.getD 0 0]:=by
 cases l with
 | nil=>cases h
 | cons a t =>
  cases t with
  | nil=>rfl
  | cons _ _=>simp at h
theorem m_E {b:List UInt8}{p:Nat}(h:p<b.length):a_i b p (p+1)=[b[p]]:=by
 unfold a_i
 rw [List.take_add_one,gG_ h,Option.toList_some,List.drop_append_of_le_length (by simp;omega),List.drop_of_length_le (by simp;omega)]
 rfl
theorem q_u {l:List Int}{k:Nat}(h:k+1<l.length)(hl:l.length<=MX):slc l ((k+1:Nat):Int) (i_ (k:Int) 2)=some [l.getD (k+1) 0]:=by
 have:=MXv
 rw [ia_ (x:=(k:Int)) (by omega) (by omega),e_X (by omega) (by omega) (by omega),show ((k:Int)+2).toNat=(k+1)+1 by omega,show (((k+1:Nat):Int)).toNat=k+1 from rfl,List.take_add_one,gG_ h,Option.toList_some,List.drop_append_of_le_length (by simp;omega),List.drop_of_length_le (by simp;omega),a_7 h]
 rfl
theorem q_v {α:Type}(m k:Nat)(z x:α)(h:k<m):(List.replicate k x++List.replicate (m - k) z).set k x=List.replicate (k+1) x++List.replicate (m - (k+1)) z:=by
 rw [List.set_append_right _ _ (by simp),List.length_replicate,Nat.sub_self,show m - k=(m - (k+1))+1 by omega,List.replicate_succ,List.set_cons_zero,List.replicate_succ',List.append_assoc]
 rfl
theorem q_w {ρ:Type}{ks:List Int}{x:Int}(hx:idx ks 1=some x)(m:Nat):w_ (σ:=List Int) (ρ:=ρ) (fun G=>(fun H=>bd (idx ks 1) fun I=>bd (upd H ((G:Nat):Int) I) fun J=>some<|.next J)) m 0 (List.replicate m 0)=some (.inl<|List.replicate m x):=by
 have h:=c_g (n:=m) (σ:=List Int) (ρ:=ρ) (body:=(fun G=>(fun H=>bd (idx ks 1) fun I=>bd (upd H ((G:Nat):Int) I) fun J=>some (.next J)))) (fun k=>List.replicate k x++List.replicate (m - k) 0) (fun j hj=>by
  rw [hx,bd_some,c_f (by simp;omega),bd_some,q_v m j 0 x hj])
 simpa using h
section
variable {d:f_}{b:List UInt8}
def c_q (x:RR)(nx:Int):Val×Int×Option (Int×Int):=if x.2.2=0 then (x.1,(x.2.1:Int),none) else (zV,nx,some ((x.2.1:Int),x.2.2))
def d_x (v:Val)(x:List Val×Nat×Int)(nx:Int):Val×Int×Option (Int×Int):=if x.2.2=0 then (⟨v.number,v.bytes,x.1⟩,(x.2.1:Int),none) else (zV,nx,some ((x.2.1:Int),x.2.2))
theorem q_x {n:Nat}{r:b_}{ks:List Int}{i:Nat}(v:Val)(a0:v.items=[])
  (hkk:∀k∈ks,0<=k/\k<(i:Int)) (a1:ks.length<=40) (ih:∀k,k<i->∀p,p<=b.length->∃nx,i_X n ⟨d,b⟩ k p=some (c_q (rdW d.rules b k p) nx))
  (hle:∀k,k<i->∀p,p<=b.length->(rdW d.rules b k p).2.1<=b.length) {p:Nat} (hp:p<=b.length) :
  ∃nx,f_b (n+1) ⟨d,b⟩ v ks p=some (d_x v (a_a (fun k p=>rdW d.rules b k.toNat p) ks p) nx):=by
 show ∃nx,h_r n (a_e n) ⟨d,b⟩ v ks p=_
 unfold h_r
 obtain ⟨pe,h⟩:=k_2 (fun k p=>rdW d.rules b k.toNat p) ks b.length (fun p e c=>(zV,(p:Int),some ((e:Int),c))) (fun J=>un2 fun H L=>bd (idx ks ((J:Nat):Int)) fun O=>bd3 ((a_e n).impl_fileReader_value ⟨d,b⟩ O H) fun V W I=>if I.isSome=true then some (.ret ((⟨0,([]:List UInt8),([]:List Val)⟩:Val),H,I)) else bd (psh L V) fun Y=>some<|.next (W,Y))
  (fun k hlt p vs hp hv=>by
   have hkr:=hkk _<|gE_ hlt;obtain ⟨nx,hrd⟩:=ih ks[k].toNat (by omega) p hp
   rw [show ((ks[k].toNat:Nat):Int)=ks[k] by omega] at hrd
   simp only [un2]
   rw [ix_ hlt,bd_some,show (a_e n).impl_fileReader_value ⟨d,b⟩ ks[k] p=i_X n ⟨d,b⟩ ks[k] p from rfl,hrd]
   unfold c_q;generalize rdW d.rules b ks[k].toNat p=x
   by_cases G:x.2.2=0
   ·rw [iP_ G,iP_ G]
    simp only [bd3_some,Option.isSome_none,bF_,fF_]
    rw [a_Z (by rw [a_k];omega)];rfl
   ·rw [iN_ G,iN_ G];rfl)
  (fun k hk p hp=>by have:=hkk k hk;exact hle k.toNat (by omega) p hp) ks.length 0 p [] (by omega) hp (Nat.zero_le _)
 rw [a0,h,List.drop_zero]
 unfold d_x;generalize a_a (fun k p=>rdW d.rules b k.toNat p) ks p=x
 by_cases G:x.2.2=0
 ·rw [iP_ G];exact ⟨0,by rw [iP_ G];rfl⟩
 ·rw [iN_ G]
  exact ⟨pe,by rw [iN_ G];rfl⟩
theorem q_y (hv:a_5 d=true)(hd:SmD d)(hb:b.length<=400):∀(i:Nat),i<d.rules.length->∀n,3 * i+410<=n->∀at_,at_<=b.length->∃nx,i_X n ⟨d,b⟩ i at_=some (c_q (rdW d.rules b i at_) nx):=by
 have hMX:=MXv;intro i
 induction i using Nat.strongRecOn with
 | _ i ih =>
  intro hi n hn at_ ha;have hlen:=(c_N hv).2;obtain ⟨m,rfl⟩:∃m,n=m+3:=⟨n - 3,by omega⟩
  rw [g_I hv hi ha]
  have hr:=b_X hv hi;have hal:=e_V hr.kind;have hsm:=hd.each d.rules[i] (gE_ hi);have hidx:idx d.rules (i:Int)=some d.rules[i]:=ix_ hi;generalize hrr:d.rules[i]=r at *
  have hkk:=c_O hr.kind
  show ∃nx,h_p (m+2) (a_e<|m+2) ⟨d,b⟩ i at_=_
  unfold h_p rdB
  simp only
  rw [hidx,bd_some]
  have hle:∀k,k<i->∀p,p<=b.length->(rdW d.rules b k p).2.1<=b.length:=fun k hk p hp=>(d_e hv k (by omega) p hp).2
  have hit:∀q,m<=q->∀(v:Val)(ks:List Int),v.items=[]->(∀k∈ks,k∈r.kids)->ks.length<=40->∀p,p<=b.length ->
    ∃nx,f_b (q+1) ⟨d,b⟩ v ks p=some (d_x v (a_a (fun k p=>rdW d.rules b k.toNat p) ks p) nx):=fun q hq v ks h1 h2 h3 p hp =>
   q_x (r:=r) v h1 (fun k hk=>hr.kids k<|h2 k hk) h3 (fun k hk p hp=>ih k hk (by omega) q (by omega) p hp) hle hp
  by_cases h1:r.kind=1
  ·rw [h1];simp only [bQ_,fT_]
   rw [i_u hidx (e_S hr.kind h1) (by omega) ha]
   cases a_r b r at_ with
   | none=>exact ⟨_,rfl⟩
   | some n=>exact ⟨0,rfl⟩
  rw [show (r.kind==1)=false by simpa using h1]
  by_cases h2:r.kind=2
  ·rw [h2];simp only [bQ_,fT_,bF_,fF_]
   rw [q_j (by omega) ha hsm.bytes]
   unfold c_q
   by_cases G:(b_m b r.bytes at_).2=0
   ·rw [iP_ G];exact ⟨0,by rw [iP_ G];rfl⟩
   ·rw [iN_ G];exact ⟨_,by rw [iN_ G];rfl⟩
  rw [show (r.kind==2)=false by simpa using h2]
  by_cases h3:r.kind=3
  ·rw [h3];simp only [bQ_,fT_,bF_,fF_]
   have:=g_F hr.kind h3
   rw [m_A (by omega) ha (by omega) (by omega)]
   unfold c_q
   by_cases G:(a_K b at_ r.size).2.2=0
   ·rw [iP_ G];exact ⟨0,by rw [iP_ G];rfl⟩
   ·rw [iN_ G];exact ⟨_,by rw [iN_ G];rfl⟩
  rw [show (r.kind==3)=false by simpa using h3]
  by_cases h4:r.kind=4
  ·rw [h4];simp only [bQ_,fT_,bF_,fF_]
   have hs:=e_T hr.kind h4;have hq:=d_c hs.1
   rw [c_F (by omega),bd_some,i_u hq.1 hq.2 (by omega) ha]
   cases hi:a_r b (K_ d.rules<|s_ r) at_ with
   | none=>exact ⟨_,rfl⟩
   | some num =>
    have hrg:=d_b hq.2 hi
    simp only [bd3_some,Option.isSome_none,bF_,fF_]
    rw [m_A (by omega) (by omega) (by omega) (by omega)]
    unfold c_q
    by_cases G:(a_K b (at_+(K_ d.rules<|s_ r).size.toNat) num).2.2=0
    ·rw [iP_ G];exact ⟨0,by rw [iP_ G];rfl⟩
    ·rw [iN_ G];exact ⟨_,by rw [iN_ G];rfl⟩
  rw [show (r.kind==4)=false by simpa using h4]
  by_cases V:r.kind=10
  ·rw [V];simp only [bQ_,fT_,bF_,fF_,show ((10:Int)==5)=false from rfl,show ((10:Int)==6)=false from rfl,show ((10:Int)==7)=false from rfl,show ((10:Int)==8)=false from rfl,show ((10:Int)==9)=false from rfl]
   have W:=j_Z hr.kind V
   rw [b_8 (by omega),bd_some,a_7 (show 0<r.bytes.length by omega),q_6 _ _ _ _ (by omega) ha (by omega)]
   cases c_M b at_ r.bytes[0] with
   | none=>exact ⟨_,rfl⟩
   | some x=>exact ⟨0,rfl⟩
  rw [show (r.kind==10)=false by simpa using V]
  by_cases h5:r.kind=5
  ·rw [h5];simp only [bQ_,fT_,bF_,fF_]
   have hs:=d_w hr.kind h5;have hq:=d_c hs.1
   rw [show (a_e<|m+2).impl_fileReader_array ⟨d,b⟩ r at_=h_q (m+1) (a_e<|m+1) ⟨d,b⟩ r at_ from rfl]
   unfold h_q b_N
   rw [c_F (by omega),bd_some,i_u hq.1 hq.2 (by omega) ha]
   have hhd:a_D d.rules b r at_=(match a_r b (K_ d.rules<|s_ r) at_ with | none=>.inl 1 | some n=>if 40<n then .inl 6 else .inr (0,List.replicate n.toNat<|r.kids.getD 1 0,at_+(K_ d.rules<|s_ r).size.toNat)):=by unfold a_D;rw [h5];rfl
   rw [hhd]
   cases hi:a_r b (K_ d.rules<|s_ r) at_ with
   | none=>exact ⟨_,rfl⟩
   | some num =>
    have hrg:=d_b hq.2 hi
    simp only [bd3_some,Option.isSome_none,bF_,fF_]
    by_cases J:40<num
    ·rw [dT_ J,iP_ J];exact ⟨_,rfl⟩
    ·rw [dF_ J,iN_ J]
     simp only [bF_,fF_]
     rw [q_X (by omega) (by rw [a_k];omega),bd_some,List.length_replicate]
     rw [q_w (x:=r.kids.getD 1 0) (by rw [m_R (by omega),a_7 (by omega)]) num.toNat]
     simp only [bd_some,el_inl]
     rw [show (a_e<|m+1).impl_fileReader_items=f_b (m+1) from rfl]
     obtain ⟨nx,h⟩:=hit m (by omega) zV (List.replicate num.toNat<|r.kids.getD 1 0) rfl (fun k' hk'=>by rw [List.eq_of_mem_replicate hk'];exact c_P (by omega)) (by simp;omega) (at_+(K_ d.rules<|s_ r).size.toNat) (by omega)
     rw [h]
     unfold d_x c_q b_n;generalize a_a (fun k p=>rdW d.rules b k.toNat p) (List.replicate num.toNat<|r.kids.getD 1 0) (at_+(K_ d.rules<|s_ r).size.toNat)=x
     rw [h5]
     refine ⟨nx,?_⟩
     by_cases G:x.2.2=0
     ·rw [iP_ G,iP_ G];rfl
     ·rw [iN_ G,iN_ G]
      simp only [iN_ G];rfl
  rw [show (r.kind==5)=false by simpa using h5]
  by_cases h6:r.kind=6
  ·rw [h6];simp only [bQ_,fT_,bF_,fF_]
   have hs:=g_G hr.kind h6
   rw [show (a_e<|m+2).impl_fileReader_items=f_b ((m+1)+1) from rfl]
   obtain ⟨nx,h⟩:=hit (m+1) (by omega) zV r.kids rfl (fun k hk=>hk) (by omega) at_ ha
   rw [h]
   rw [show a_D d.rules b r at_ = .inr (0,r.kids,at_) by unfold a_D;rw [h6];rfl]
   simp only
   unfold d_x c_q b_n;generalize a_a (fun k p=>rdW d.rules b k.toNat p) r.kids at_=x
   rw [h6]
   refine ⟨nx,?_⟩
   by_cases G:x.2.2=0
   ·rw [iP_ G,iP_ G];rfl
   ·rw [iN_ G,iN_ G]
    simp only [iN_ G];rfl
  rw [show (r.kind==6)=false by simpa using h6]
  by_cases I:r.kind=7
  ·rw [I];simp only [bQ_,fT_,bF_,fF_]
   have hs:=e_U hr.kind I;have hq:=d_c hs.1
   rw [show (a_e<|m+2).impl_fileReader_choice ⟨d,b⟩ r at_=h_s (m+1) (a_e<|m+1) ⟨d,b⟩ r at_ from rfl]
   unfold h_s b_N
   rw [c_F (by omega),bd_some,i_u hq.1 hq.2 (by omega) ha]
   have hhd:a_D d.rules b r at_=(match a_r b (K_ d.rules<|s_ r) at_ with | none=>.inl 1 | some n=>match b_1 r.tags n with | none=>.inl 3 | some k=>.inr (n,[r.kids.getD (k+1) 0],at_+(K_ d.rules<|s_ r).size.toNat)):=by unfold a_D;rw [I];rfl
   rw [hhd]
   cases hi:a_r b (K_ d.rules<|s_ r) at_ with
   | none=>exact ⟨_,rfl⟩
   | some num =>
    have hrg:=d_b hq.2 hi
    simp only [bd3_some,Option.isSome_none,bF_,fF_]
    cases ht:b_1 r.tags num with
    | none =>
     have htn:=q_t ht
     rw [c_g (fun _=>()) (n:=r.tags.length) (fun j hj=>by
      have:=htn j hj
      rw [a_7 hj] at this
      rw [ix_ hj,bd_some,show (r.tags[j]==num)=false by simpa using this];rfl)]
     exact ⟨_,rfl⟩
    | some k =>
     obtain ⟨htl,hte,htb⟩:=q_s ht;have hmem:r.kids.getD (k+1) 0∈r.kids:=c_P (by omega);obtain ⟨nx,h⟩:=hit m (by omega) ⟨num,[],[]⟩ [r.kids.getD (k+1) 0] rfl (fun k' hk'=>by rw [List.mem_singleton.1 hk'];exact hmem) (by simp) (at_+(K_ d.rules<|s_ r).size.toNat) (by omega)
     rw [k_a (fun _=>()) (n:=r.tags.length) (j0:=k) (r:=d_x ⟨num,[],[]⟩ (a_a (fun k p=>rdW d.rules b k.toNat p) [r.kids.getD (k+1) 0] (at_+(K_ d.rules (s_ r)).size.toNat)) nx) htl (fun j hj=>by
      have:=htb j hj
      rw [a_7 (show j<r.tags.length by omega)] at this
      rw [ix_ (show j<r.tags.length by omega),bd_some,show (r.tags[j]==num)=false by simpa using this];rfl) (by
      rw [a_7 htl] at hte
      rw [ix_ htl,bd_some,show (r.tags[k]==num)=true by simpa using hte,iP_ rfl,q_u (by omega) hsm.kids,bd_some,
       show (a_e (m+1)).impl_fileReader_items=f_b (m+1) from rfl,h]
      rfl)]
     simp only [bd_some,el_inr]
     unfold d_x c_q b_n;generalize a_a (fun k p=>rdW d.rules b k.toNat p) [r.kids.getD (k+1) 0] (at_+(K_ d.rules<|s_ r).size.toNat)=x
     rw [I]
     refine ⟨nx,?_⟩
     by_cases G:x.2.2=0
     ·rw [iP_ G,iP_ G];rfl
     ·rw [iN_ G,iN_ G]
      simp only [iN_ G];rfl
  rw [show (r.kind==7)=false by simpa using I]
  by_cases H:r.kind=8
  ·rw [H];simp only [bQ_,fT_,bF_,fF_]
   have hs:=d_d hr.kind<|.inl H
   rw [show (a_e<|m+2).impl_fileReader_option ⟨d,b⟩ r at_=h_t (m+1) (a_e<|m+1) ⟨d,b⟩ r at_ from rfl]
   unfold h_t b_N;have hhd:a_D d.rules b r at_=(match b[at_]? with | none=>.inl 1 | some c=>if 1<byteI c then .inl 4 else .inr (0,List.replicate c.toNat<|r.kids.getD 0 0,at_+1)):=by unfold a_D;rw [H];rfl
   rw [hhd,i_t (by omega) ha (by omega) (by omega)]
   by_cases hlt:at_<b.length
   ·rw [iN_ (show ¬(b.length:Int) - at_<1 by omega),gG_ hlt]
    simp only [bd2_some,Option.isSome_none,bF_,fF_]
    rw [show (1:Int).toNat=1 from rfl,m_E hlt,b_8 (by simp)]
    simp only [bd_some,List.getElem_cons_zero]
    by_cases hc:1<byteI b[at_]
    ·rw [iP_ hc,dT_ (show byteI (1:UInt8)<byteI b[at_] from hc)];exact ⟨_,rfl⟩
    ·rw [iN_ hc,dF_ (show ¬byteI (1:UInt8)<byteI b[at_] from hc)]
     simp only [bF_,fF_]
     rw [ia_ (x:=(at_:Int)) (by omega) (by omega)]
     by_cases hz:byteI b[at_]=0
     ·rw [show (byteI b[at_]==byteI (0:UInt8))=true by rw [beq_iff_eq];exact hz]
      rw [show b[at_].toNat=0 by unfold byteI at hz;omega]
      unfold b_n
      rw [H]
      exact ⟨0,rfl⟩
     ·rw [show (byteI b[at_]==byteI (0:UInt8))=false by rw [beq_eq_false_iff_ne];exact hz]
      rw [show b[at_].toNat=1 by unfold byteI at hz hc;omega]
      simp only [bF_,fF_]
      rw [show (a_e<|m+1).impl_fileReader_items=f_b (m+1) from rfl]
      obtain ⟨nx,h⟩:=hit m (by omega) zV r.kids rfl (fun k hk=>hk) (by omega) (at_+1) (by omega)
      rw [show (at_:Int)+1=((at_+1:Nat):Int) by omega,h]
      rw [show List.replicate 1 (r.kids.getD 0 0)=r.kids from (m_D hs).symm]
      unfold d_x c_q b_n;generalize a_a (fun k p=>rdW d.rules b k.toNat p) r.kids (at_+1)=x
      rw [H]
      refine ⟨nx,?_⟩
      by_cases G:x.2.2=0
      ·rw [iP_ G,iP_ G];rfl
      ·rw [iN_ G,iN_ G]
       simp only [iN_ G];rfl
   ·rw [iP_ (show (b.length:Int) - at_<1 by omega),gN_ (by omega)];exact ⟨_,rfl⟩
  rw [show (r.kind==8)=false by simpa using H]
  have O:r.kind=9:=by omega
  rw [O];simp only [bQ_,fT_,bF_,fF_]
  have hs:=d_d hr.kind<|.inr O
  rw [show (a_e<|m+2).impl_fileReader_checked ⟨d,b⟩ r at_=h_u (m+1) (a_e<|m+1) ⟨d,b⟩ r at_ from rfl]
  unfold h_u b_N
  rw [show a_D d.rules b r at_ = .inr (0,r.kids,at_) by unfold a_D;rw [O,← m_D hs];rfl]
  rw [show (a_e<|m+1).impl_fileReader_items=f_b (m+1) from rfl]
  obtain ⟨nx,h⟩:=hit m (by omega) zV r.kids rfl (fun k hk=>hk) (by omega) at_ ha
  rw [h]
  simp only
  have hx:=g_H (rd:=fun k p=>rdW d.rules b k.toNat p) (L:=b.length) r.kids at_ ha (fun k hk p hp=>by
   have:=hr.kids k hk
   exact d_e hv k.toNat (by omega) p hp)
  unfold d_x c_q b_n;generalize a_a (fun k p=>rdW d.rules b k.toNat p) r.kids at_=x at hx
  rw [O]
  by_cases G:x.2.2=0
  ·rw [iP_ G,iP_ G]
   simp only [bd3_some,Option.isSome_none,bF_,fF_,bQ_,fT_]
   rw [i_t (by omega) hx.2 (by omega) (by omega)]
   by_cases hlt:x.2.1<b.length
   ·rw [iN_ (show ¬(b.length:Int) - x.2.1<1 by omega),gG_ hlt]
    simp only [bd2_some,Option.isSome_none,bF_,fF_]
    rw [show (1:Int).toNat=1 from rfl,m_E hlt,b_8 (by simp)]
    simp only [bd_some,List.getElem_cons_zero]
    rw [d_v hx.1 (by omega),bd_some,m_o _ (by rw [f_B (by omega)];omega),bd_some,ia_ (x:=(x.2.1:Int)) (by omega) (by omega)]
    by_cases hsum:byteI b[x.2.1]=c_6 (a_i b at_ x.2.1)
    ·rw [show (byteI b[x.2.1] != c_6 (a_i b at_ x.2.1))=false by simpa using hsum,iP_ hsum];exact ⟨0,rfl⟩
    ·rw [show (byteI b[x.2.1] != c_6 (a_i b at_ x.2.1))=true by simpa using hsum,iN_ hsum];exact ⟨_,rfl⟩
   ·rw [iP_ (show (b.length:Int) - x.2.1<1 by omega),gN_ (by omega)];exact ⟨_,rfl⟩
  ·rw [iN_ G,iN_ G]
   simp only [iN_ G]
   exact ⟨_,rfl⟩
end
end Go.Vw
