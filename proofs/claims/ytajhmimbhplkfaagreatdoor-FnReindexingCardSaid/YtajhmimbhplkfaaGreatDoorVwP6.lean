
import Derived.Test.YtajhmimbhplkfaaGreatDoorVwP5
set_option linter.unusedVariables false
namespace Go.Vw
open Go.RowKit Dat
theorem k_Y {ts:List Int} {n:Int} {k:Nat} (h:a_Y ts n=some k):k<ts.length∧ts.getD k 0=n ∧ ∀ j,j<k→ts.getD j 0 ≠ n:=by
 have hlt:=j_5 h;unfold a_Y at h
 obtain ⟨hp,as,bs,hl,has⟩:=List.find?_eq_some_iff_append.1 h;refine ⟨hlt,by simpa using hp,fun j hj=>?_⟩;have hlen:as.length<ts.length:=by have:=congrArg List.length hl;simp at this;omega
 have hke:as.length=k:=by
  have h2:(List.range ts.length)[as.length]? = some k:=by rw [hl];simp
  rw [List.getElem?_range hlen] at h2
  exact Option.some.inj h2
 have hj':j<as.length:=by omega
 have h2:(List.range ts.length)[j]? = some (as[j]):=by rw [hl,List.getElem?_append_left hj'];simp
 rw [List.getElem?_range (by omega)] at h2
 have h3:=has as[j] (gE_ hj')
 rw [← Option.some.inj h2] at h3
 simpa using h3
theorem k_Z {ts:List Int} {n:Int} (h:a_Y ts n=none) : ∀ j,j<ts.length→ts.getD j 0 ≠ n:=fun j hj=>by
 have:=List.find?_eq_none.1 h j<|List.mem_range.2 hj
 simpa using this
theorem l_0 {l:List Int} (h:l.length=1):l=[l.getD 0 0]:=by
 cases l with
 | nil=>cases h
 | cons a t =>
  cases t with
  | nil=>rfl
  | cons _ _=>simp at h
theorem l_1 {b:List UInt8} {p:Nat} (h:p<b.length):b_8 b p (p+1)=[b[p]]:=by
 unfold b_8
 rw [List.take_add_one,gG_ h,Option.toList_some,List.drop_append_of_le_length (by simp;omega),List.drop_of_length_le (by simp;omega)]
 rfl
theorem o_r {l:List Int} {k:Nat} (h:k+1<l.length) (hl:l.length≤MX):slc l ((k+1:Nat):Int) (j_ (k:Int) 2)=some [l.getD (k+1) 0]:=by
 have:=MXv
 rw [ia_ (x:=(k:Int)) (by omega) (by omega),j_l (by omega) (by omega) (by omega),show ((k:Int)+2).toNat=(k+1)+1 by omega,show (((k+1:Nat):Int)).toNat=k+1 from rfl,List.take_add_one,gG_ h,Option.toList_some,List.drop_append_of_le_length (by simp;omega),List.drop_of_length_le (by simp;omega),a_v h]
 rfl
theorem o_s {α:Type} (m k:Nat) (z x:α) (h:k<m):(List.replicate k x++List.replicate (m - k) z).set k x=List.replicate (k+1) x++List.replicate (m - (k+1)) z:=by
 rw [List.set_append_right _ _ (by simp),List.length_replicate,Nat.sub_self,show m - k=(m - (k+1))+1 by omega,List.replicate_succ,List.set_cons_zero,List.replicate_succ',List.append_assoc]
 rfl
theorem o_t {ρ:Type} {ks:List Int} {x:Int} (hx:idx ks 1=some x) (m:Nat):C_ (σ:=List Int) (ρ:=ρ) (fun k239=>(fun x228=>bd (idx ks 1) fun x284=>bd (upd x228 ((k239:Nat):Int) x284) fun x300=>some<|.next x300)) m 0 (List.replicate m 0)=some (.inl<|List.replicate m x):=by
 have h:=c_i (n:=m) (σ:=List Int) (ρ:=ρ) (body:=(fun k239=>(fun x228=>bd (idx ks 1) fun x284=>bd (upd x228 ((k239:Nat):Int) x284) fun x300=>some (.next x300)))) (fun k=>List.replicate k x++List.replicate (m - k) 0) (fun j hj=>by
  rw [hx,bd_some,h_b (by simp;omega),bd_some,o_s m j 0 x hj])
 simpa using h
section
variable {d:d_} {b:List UInt8}
def c_7 (x:RR) (nx:Int):Val×Int×Option (Int×Int):=if x.2.2=0 then (x.1,(x.2.1:Int),none) else (zV,nx,some ((x.2.1:Int),x.2.2))
def c_M (v:Val) (x:List Val×Nat×Int) (nx:Int):Val×Int×Option (Int×Int):=if x.2.2=0 then (⟨v.number,v.bytes,x.1⟩,(x.2.1:Int),none) else (zV,nx,some ((x.2.1:Int),x.2.2))
theorem o_u {n:Nat} {r:g_} {ks:List Int} {i:Nat} (v:Val) (hv0:v.items=[])
  (hkk : ∀ k∈ks,0≤k∧k<(i:Int)) (h40:ks.length≤40) (ih : ∀ k,k<i → ∀ p,p≤b.length → ∃ nx,h_k n ⟨d,b⟩ k p=some (c_7 (rdW d.rules b k p) nx))
  (hle : ∀ k,k<i → ∀ p,p≤b.length→(rdW d.rules b k p).2.1≤b.length) {p:Nat} (hp:p≤b.length) :
  ∃ nx,d_T (n+1) ⟨d,b⟩ v ks p=some (c_M v (S_ (fun k p=>rdW d.rules b k.toNat p) ks p) nx):=by
 show ∃ nx,g_2 n (a_8 n) ⟨d,b⟩ v ks p=_
 unfold g_2
 obtain ⟨pe,h⟩:=j_7 (fun k p=>rdW d.rules b k.toNat p) ks b.length (fun p e c=>(zV,(p:Int),some ((e:Int),c))) (fun k341=>un2 fun x327 x329=>bd (idx ks ((k341:Nat):Int)) fun x495=>bd3 ((a_8 n).impl_fileReader_value ⟨d,b⟩ x495 x327) fun r519 r520 r521=>if r521.isSome=true then some (.ret ((⟨0,([]:List UInt8),([]:List Val)⟩:Val),x327,r521)) else bd (psh x329 r519) fun x644=>some<|.next (r520,x644))
  (fun k hlt p vs hp hv=>by
   have hkr:=hkk _<|gE_ hlt;obtain ⟨nx,hrd⟩:=ih ks[k].toNat (by omega) p hp
   rw [show ((ks[k].toNat:Nat):Int)=ks[k] by omega] at hrd
   simp only [un2]
   rw [ix_ hlt,bd_some,show (a_8 n).impl_fileReader_value ⟨d,b⟩ ks[k] p=h_k n ⟨d,b⟩ ks[k] p from rfl,hrd]
   unfold c_7;generalize rdW d.rules b ks[k].toNat p=x
   by_cases h0:x.2.2=0
   ·rw [iP_ h0,iP_ h0]
    simp only [bd3_some,Option.isSome_none,bF_,fF_]
    rw [a_P (by rw [a_B];omega)];rfl
   ·rw [iN_ h0,iN_ h0];rfl)
  (fun k hk p hp=>by have:=hkk k hk;exact hle k.toNat (by omega) p hp) ks.length 0 p [] (by omega) hp (Nat.zero_le _)
 rw [hv0,h,List.drop_zero]
 unfold c_M;generalize S_ (fun k p=>rdW d.rules b k.toNat p) ks p=x
 by_cases h0:x.2.2=0
 ·rw [iP_ h0];exact ⟨0,by rw [iP_ h0];rfl⟩
 ·rw [iN_ h0]
  exact ⟨pe,by rw [iN_ h0];rfl⟩
theorem o_v (hv:a_6 d=true) (hd:SmD d) (hb:b.length≤400) : ∀ (i:Nat),i<d.rules.length → ∀ n,3 * i+410≤n → ∀ at_,at_≤b.length → ∃ nx,h_k n ⟨d,b⟩ i at_=some (c_7 (rdW d.rules b i at_) nx):=by
 have hMX:=MXv;intro i
 induction i using Nat.strongRecOn with
 | _ i ih =>
  intro hi n hn at_ ha;have hlen:=(c_5 hv).2;obtain ⟨m,rfl⟩ : ∃ m,n=m+3:=⟨n - 3,by omega⟩
  rw [e_i hv hi ha]
  have hr:=b_m hv hi;have hal:=e_h hr.kind;have hsm:=hd.each d.rules[i] (gE_ hi);have hidx:idx d.rules (i:Int)=some d.rules[i]:=ix_ hi;generalize hrr:d.rules[i]=r at *
  have hkk:=f_b hr.kind
  show ∃ nx,g_0 (m+2) (a_8<|m+2) ⟨d,b⟩ i at_=_
  unfold g_0 rdB
  simp only
  rw [hidx,bd_some]
  have hle : ∀ k,k<i → ∀ p,p≤b.length→(rdW d.rules b k p).2.1≤b.length:=fun k hk p hp=>(c_6 hv k (by omega) p hp).2
  have hit : ∀ q,m≤q → ∀ (v:Val) (ks:List Int),v.items=[]→(∀ k∈ks,k∈r.kids)→ks.length≤40 → ∀ p,p≤b.length →
    ∃ nx,d_T (q+1) ⟨d,b⟩ v ks p=some (c_M v (S_ (fun k p=>rdW d.rules b k.toNat p) ks p) nx):=fun q hq v ks h1 h2 h3 p hp =>
   o_u (r:=r) v h1 (fun k hk=>hr.kids k<|h2 k hk) h3 (fun k hk p hp=>ih k hk (by omega) q (by omega) p hp) hle hp
  by_cases h1:r.kind=1
  ·rw [h1];simp only [bQ_,fT_]
   rw [h_3 hidx (f_8 hr.kind h1) (by omega) ha]
   cases a_7 b r at_ with
   | none=>exact ⟨_,rfl⟩
   | some n=>exact ⟨0,rfl⟩
  rw [show (r.kind==1)=false by simpa using h1]
  by_cases h2:r.kind=2
  ·rw [h2];simp only [bQ_,fT_,bF_,fF_]
   rw [n_Y (by omega) ha hsm.bytes]
   unfold c_7
   by_cases h0:(a_X b r.bytes at_).2=0
   ·rw [iP_ h0];exact ⟨0,by rw [iP_ h0];rfl⟩
   ·rw [iN_ h0];exact ⟨_,by rw [iN_ h0];rfl⟩
  rw [show (r.kind==2)=false by simpa using h2]
  by_cases h3:r.kind=3
  ·rw [h3];simp only [bQ_,fT_,bF_,fF_]
   have:=f_9 hr.kind h3
   rw [k_H (by omega) ha (by omega) (by omega)]
   unfold c_7
   by_cases h0:(a_G b at_ r.size).2.2=0
   ·rw [iP_ h0];exact ⟨0,by rw [iP_ h0];rfl⟩
   ·rw [iN_ h0];exact ⟨_,by rw [iN_ h0];rfl⟩
  rw [show (r.kind==3)=false by simpa using h3]
  by_cases h4:r.kind=4
  ·rw [h4];simp only [bQ_,fT_,bF_,fF_]
   have hs:=f_a hr.kind h4;have hq:=b_H hs.1
   rw [b_s (by omega),bd_some,h_3 hq.1 hq.2 (by omega) ha]
   cases hi:a_7 b (N_ d.rules<|E_ r) at_ with
   | none=>exact ⟨_,rfl⟩
   | some num =>
    have hrg:=b_R hq.2 hi
    simp only [bd3_some,Option.isSome_none,bF_,fF_]
    rw [k_H (by omega) (by omega) (by omega) (by omega)]
    unfold c_7
    by_cases h0:(a_G b (at_+(N_ d.rules<|E_ r).size.toNat) num).2.2=0
    ·rw [iP_ h0];exact ⟨0,by rw [iP_ h0];rfl⟩
    ·rw [iN_ h0];exact ⟨_,by rw [iN_ h0];rfl⟩
  rw [show (r.kind==4)=false by simpa using h4]
  by_cases h10:r.kind=10
  ·rw [h10];simp only [bQ_,fT_,bF_,fF_,show ((10:Int)==5)=false from rfl,show ((10:Int)==6)=false from rfl,show ((10:Int)==7)=false from rfl,show ((10:Int)==8)=false from rfl,show ((10:Int)==9)=false from rfl]
   have hb1:=j_4 hr.kind h10
   rw [b_6 (by omega),bd_some,a_v (show 0<r.bytes.length by omega),k_E _ _ _ _ (by omega) ha (by omega)]
   cases c_g b at_ r.bytes[0] with
   | none=>exact ⟨_,rfl⟩
   | some x=>exact ⟨0,rfl⟩
  rw [show (r.kind==10)=false by simpa using h10]
  by_cases h5:r.kind=5
  ·rw [h5];simp only [bQ_,fT_,bF_,fF_]
   have hs:=d_b hr.kind h5;have hq:=b_H hs.1
   rw [show (a_8<|m+2).impl_fileReader_array ⟨d,b⟩ r at_=g_1 (m+1) (a_8<|m+1) ⟨d,b⟩ r at_ from rfl]
   unfold g_1 b_v
   rw [b_s (by omega),bd_some,h_3 hq.1 hq.2 (by omega) ha]
   have hhd:a_a d.rules b r at_=(match a_7 b (N_ d.rules<|E_ r) at_ with | none=>.inl 1 | some n=>if 40<n then .inl 6 else .inr (0,List.replicate n.toNat<|r.kids.getD 1 0,at_+(N_ d.rules<|E_ r).size.toNat)):=by unfold a_a;rw [h5];rfl
   rw [hhd]
   cases hi:a_7 b (N_ d.rules<|E_ r) at_ with
   | none=>exact ⟨_,rfl⟩
   | some num =>
    have hrg:=b_R hq.2 hi
    simp only [bd3_some,Option.isSome_none,bF_,fF_]
    by_cases h40:40<num
    ·rw [dT_ h40,iP_ h40];exact ⟨_,rfl⟩
    ·rw [dF_ h40,iN_ h40]
     simp only [bF_,fF_]
     rw [l_d (by omega) (by rw [a_B];omega),bd_some,List.length_replicate]
     rw [o_t (x:=r.kids.getD 1 0) (by rw [f_g (by omega),a_v (by omega)]) num.toNat]
     simp only [bd_some,el_inl]
     rw [show (a_8<|m+1).impl_fileReader_items=d_T (m+1) from rfl]
     obtain ⟨nx,h⟩:=hit m (by omega) zV (List.replicate num.toNat<|r.kids.getD 1 0) rfl (fun k' hk'=>by rw [List.eq_of_mem_replicate hk'];exact b_A (by omega)) (by simp;omega) (at_+(N_ d.rules<|E_ r).size.toNat) (by omega)
     rw [h]
     unfold c_M c_7 a_O;generalize S_ (fun k p=>rdW d.rules b k.toNat p) (List.replicate num.toNat<|r.kids.getD 1 0) (at_+(N_ d.rules<|E_ r).size.toNat)=x
     rw [h5]
     refine ⟨nx,?_⟩
     by_cases h0:x.2.2=0
     ·rw [iP_ h0,iP_ h0];rfl
     ·rw [iN_ h0,iN_ h0]
      simp only [iN_ h0];rfl
  rw [show (r.kind==5)=false by simpa using h5]
  by_cases h6:r.kind=6
  ·rw [h6];simp only [bQ_,fT_,bF_,fF_]
   have hs:=e_g hr.kind h6
   rw [show (a_8<|m+2).impl_fileReader_items=d_T ((m+1)+1) from rfl]
   obtain ⟨nx,h⟩:=hit (m+1) (by omega) zV r.kids rfl (fun k hk=>hk) (by omega) at_ ha
   rw [h]
   rw [show a_a d.rules b r at_ = .inr (0,r.kids,at_) by unfold a_a;rw [h6];rfl]
   simp only
   unfold c_M c_7 a_O;generalize S_ (fun k p=>rdW d.rules b k.toNat p) r.kids at_=x
   rw [h6]
   refine ⟨nx,?_⟩
   by_cases h0:x.2.2=0
   ·rw [iP_ h0,iP_ h0];rfl
   ·rw [iN_ h0,iN_ h0]
    simp only [iN_ h0];rfl
  rw [show (r.kind==6)=false by simpa using h6]
  by_cases h7:r.kind=7
  ·rw [h7];simp only [bQ_,fT_,bF_,fF_]
   have hs:=d_H hr.kind h7;have hq:=b_H hs.1
   rw [show (a_8<|m+2).impl_fileReader_choice ⟨d,b⟩ r at_=g_6 (m+1) (a_8<|m+1) ⟨d,b⟩ r at_ from rfl]
   unfold g_6 b_v
   rw [b_s (by omega),bd_some,h_3 hq.1 hq.2 (by omega) ha]
   have hhd:a_a d.rules b r at_=(match a_7 b (N_ d.rules<|E_ r) at_ with | none=>.inl 1 | some n=>match a_Y r.tags n with | none=>.inl 3 | some k=>.inr (n,[r.kids.getD (k+1) 0],at_+(N_ d.rules<|E_ r).size.toNat)):=by unfold a_a;rw [h7];rfl
   rw [hhd]
   cases hi:a_7 b (N_ d.rules<|E_ r) at_ with
   | none=>exact ⟨_,rfl⟩
   | some num =>
    have hrg:=b_R hq.2 hi
    simp only [bd3_some,Option.isSome_none,bF_,fF_]
    cases ht:a_Y r.tags num with
    | none =>
     have htn:=k_Z ht
     rw [c_i (fun _=>()) (n:=r.tags.length) (fun j hj=>by
      have:=htn j hj
      rw [a_v hj] at this
      rw [ix_ hj,bd_some,show (r.tags[j]==num)=false by simpa using this];rfl)]
     exact ⟨_,rfl⟩
    | some k =>
     obtain ⟨htl,hte,htb⟩:=k_Y ht;have hmem:r.kids.getD (k+1) 0∈r.kids:=b_A (by omega);obtain ⟨nx,h⟩:=hit m (by omega) ⟨num,[],[]⟩ [r.kids.getD (k+1) 0] rfl (fun k' hk'=>by rw [List.mem_singleton.1 hk'];exact hmem) (by simp) (at_+(N_ d.rules<|E_ r).size.toNat) (by omega)
     rw [j_m (fun _=>()) (n:=r.tags.length) (j0:=k) (r:=c_M ⟨num,[],[]⟩ (S_ (fun k p=>rdW d.rules b k.toNat p) [r.kids.getD (k+1) 0] (at_+(N_ d.rules (E_ r)).size.toNat)) nx) htl (fun j hj=>by
      have:=htb j hj
      rw [a_v (show j<r.tags.length by omega)] at this
      rw [ix_ (show j<r.tags.length by omega),bd_some,show (r.tags[j]==num)=false by simpa using this];rfl) (by
      rw [a_v htl] at hte
      rw [ix_ htl,bd_some,show (r.tags[k]==num)=true by simpa using hte,iP_ rfl,o_r (by omega) hsm.kids,bd_some,
       show (a_8 (m+1)).impl_fileReader_items=d_T (m+1) from rfl,h]
      rfl)]
     simp only [bd_some,el_inr]
     unfold c_M c_7 a_O;generalize S_ (fun k p=>rdW d.rules b k.toNat p) [r.kids.getD (k+1) 0] (at_+(N_ d.rules<|E_ r).size.toNat)=x
     rw [h7]
     refine ⟨nx,?_⟩
     by_cases h0:x.2.2=0
     ·rw [iP_ h0,iP_ h0];rfl
     ·rw [iN_ h0,iN_ h0]
      simp only [iN_ h0];rfl
  rw [show (r.kind==7)=false by simpa using h7]
  by_cases h8:r.kind=8
  ·rw [h8];simp only [bQ_,fT_,bF_,fF_]
   have hs:=c_x hr.kind<|.inl h8
   rw [show (a_8<|m+2).impl_fileReader_option ⟨d,b⟩ r at_=g_7 (m+1) (a_8<|m+1) ⟨d,b⟩ r at_ from rfl]
   unfold g_7 b_v;have hhd:a_a d.rules b r at_=(match b[at_]? with | none=>.inl 1 | some c=>if 1<byteI c then .inl 4 else .inr (0,List.replicate c.toNat<|r.kids.getD 0 0,at_+1)):=by unfold a_a;rw [h8];rfl
   rw [hhd,h_2 (by omega) ha (by omega) (by omega)]
   by_cases hlt:at_<b.length
   ·rw [iN_ (show ¬ (b.length:Int) - at_<1 by omega),gG_ hlt]
    simp only [bd2_some,Option.isSome_none,bF_,fF_]
    rw [show (1:Int).toNat=1 from rfl,l_1 hlt,b_6 (by simp)]
    simp only [bd_some,List.getElem_cons_zero]
    by_cases hc:1<byteI b[at_]
    ·rw [iP_ hc,dT_ (show byteI (1:UInt8)<byteI b[at_] from hc)];exact ⟨_,rfl⟩
    ·rw [iN_ hc,dF_ (show ¬ byteI (1:UInt8)<byteI b[at_] from hc)]
     simp only [bF_,fF_]
     rw [ia_ (x:=(at_:Int)) (by omega) (by omega)]
     by_cases hz:byteI b[at_]=0
     ·rw [show (byteI b[at_]==byteI (0:UInt8))=true by rw [beq_iff_eq];exact hz]
      rw [show b[at_].toNat=0 by unfold byteI at hz;omega]
      unfold a_O
      rw [h8]
      exact ⟨0,rfl⟩
     ·rw [show (byteI b[at_]==byteI (0:UInt8))=false by rw [beq_eq_false_iff_ne];exact hz]
      rw [show b[at_].toNat=1 by unfold byteI at hz hc;omega]
      simp only [bF_,fF_]
      rw [show (a_8<|m+1).impl_fileReader_items=d_T (m+1) from rfl]
      obtain ⟨nx,h⟩:=hit m (by omega) zV r.kids rfl (fun k hk=>hk) (by omega) (at_+1) (by omega)
      rw [show (at_:Int)+1=((at_+1:Nat):Int) by omega,h]
      rw [show List.replicate 1 (r.kids.getD 0 0)=r.kids from (l_0 hs).symm]
      unfold c_M c_7 a_O;generalize S_ (fun k p=>rdW d.rules b k.toNat p) r.kids (at_+1)=x
      rw [h8]
      refine ⟨nx,?_⟩
      by_cases h0:x.2.2=0
      ·rw [iP_ h0,iP_ h0];rfl
      ·rw [iN_ h0,iN_ h0]
       simp only [iN_ h0];rfl
   ·rw [iP_ (show (b.length:Int) - at_<1 by omega),gN_ (by omega)];exact ⟨_,rfl⟩
  rw [show (r.kind==8)=false by simpa using h8]
  have h9:r.kind=9:=by omega
  rw [h9];simp only [bQ_,fT_,bF_,fF_]
  have hs:=c_x hr.kind<|.inr h9
  rw [show (a_8<|m+2).impl_fileReader_checked ⟨d,b⟩ r at_=g_8 (m+1) (a_8<|m+1) ⟨d,b⟩ r at_ from rfl]
  unfold g_8 b_v
  rw [show a_a d.rules b r at_ = .inr (0,r.kids,at_) by unfold a_a;rw [h9,← l_0 hs];rfl]
  rw [show (a_8<|m+1).impl_fileReader_items=d_T (m+1) from rfl]
  obtain ⟨nx,h⟩:=hit m (by omega) zV r.kids rfl (fun k hk=>hk) (by omega) at_ ha
  rw [h]
  simp only
  have hx:=f_c (rd:=fun k p=>rdW d.rules b k.toNat p) (L:=b.length) r.kids at_ ha (fun k hk p hp=>by
   have:=hr.kids k hk
   exact c_6 hv k.toNat (by omega) p hp)
  unfold c_M c_7 a_O;generalize S_ (fun k p=>rdW d.rules b k.toNat p) r.kids at_=x at hx
  rw [h9]
  by_cases h0:x.2.2=0
  ·rw [iP_ h0,iP_ h0]
   simp only [bd3_some,Option.isSome_none,bF_,fF_,bQ_,fT_]
   rw [h_2 (by omega) hx.2 (by omega) (by omega)]
   by_cases hlt:x.2.1<b.length
   ·rw [iN_ (show ¬ (b.length:Int) - x.2.1<1 by omega),gG_ hlt]
    simp only [bd2_some,Option.isSome_none,bF_,fF_]
    rw [show (1:Int).toNat=1 from rfl,l_1 hlt,b_6 (by simp)]
    simp only [bd_some,List.getElem_cons_zero]
    rw [d_F hx.1 (by omega),bd_some,k_B _ (by rw [d_a (by omega)];omega),bd_some,ia_ (x:=(x.2.1:Int)) (by omega) (by omega)]
    by_cases hsum:byteI b[x.2.1]=b_z (b_8 b at_ x.2.1)
    ·rw [show (byteI b[x.2.1] != b_z (b_8 b at_ x.2.1))=false by simpa using hsum,iP_ hsum];exact ⟨0,rfl⟩
    ·rw [show (byteI b[x.2.1] != b_z (b_8 b at_ x.2.1))=true by simpa using hsum,iN_ hsum];exact ⟨_,rfl⟩
   ·rw [iP_ (show (b.length:Int) - x.2.1<1 by omega),gN_ (by omega)];exact ⟨_,rfl⟩
  ·rw [iN_ h0,iN_ h0]
   simp only [iN_ h0]
   exact ⟨_,rfl⟩
end
end Go.Vw
