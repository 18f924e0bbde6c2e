
import Derived.Test.YtdgimlkkidpmmaaGreatDoorVi
namespace Go.Vw
open Go.RowKit Dat
def unpO (len:Int):Option Bt->Sum (Bt×Int) (Bt×Bool)
 | some d=>.inl (d,len)
 | none=>.inr ([],false)
def e_Z (b:Bt)(k:Nat)(out:Bt):Option (Bt×Nat) :=
 if b.getD k 0=0∨b.getD k 0=128∨k+1=b.length then none
 else if (b.getD k 0).toNat<128 then
  if b.length - (k+1)<(b.getD k 0).toNat then none else some (out++(b.drop<|k+1).take (b.getD k 0).toNat,k+1+(b.getD k 0).toNat)
 else some (out++List.replicate ((b.getD k 0).toNat - 128) (b.getD (k+1) 0),k+2)
theorem t_n (m:Nat)(c:UInt8)(t out:Bt):d_b (m+1) (c::t) out=if c=0∨c=128∨t=[] then none
  else if c.toNat<128 then
   if t.length<c.toNat then none else if 1000<(out++t.take c.toNat).length then none else d_b m (t.drop c.toNat) (out++t.take c.toNat)
  else if 1000<(out++List.replicate (c.toNat - 128) (t.getD 0 0)).length then none else d_b m (t.drop 1) (out++List.replicate (c.toNat - 128) (t.getD 0 0)):=rfl
theorem t_o {b:Bt}{k:Nat}(hk:k<b.length)(m:Nat)(out:Bt):d_b (m+1) (b.drop k) out=match e_Z b k out with
  | none=>none
  | some (o,j)=>if 1000<o.length then none else d_b m (b.drop j) o:=by
 rw [dC_ hk,t_n]
 unfold e_Z;have hg:b.getD k 0=b[k]:=by rw [gD_,gG_ hk];rfl
 have hn:(b.drop (k+1)=[]) ↔ k+1=b.length:=by rw [List.drop_eq_nil_iff];omega
 simp only [hg,hn]
 split
 .rfl
 .rename_i h1
  split
  .rw [List.length_drop]
   split
   .rfl
   .simp only [List.drop_drop]
  .have h2:(b.drop<|k+1).getD 0 0=b.getD (k+1) 0:=by
    rw [gD_,gD_,g_f,Nat.add_zero]
   rw [h2]
   simp only [List.drop_drop,show k+1+1=k+2 from rfl]
theorem t_p {b:Bt}{k:Nat}{out o:Bt}{j:Nat}(hk:k<b.length)(h:e_Z b k out=some (o,j)):k<j/\j<=b.length:=by
 unfold e_Z at h
 split at h
 .cases h
 .rename_i h1
  split at h
  .split at h
   .cases h
   .cases h;omega
  .cases h;omega
theorem m_J {step:Bt×Int->Option (Out (Bt×Int)<|Bt×Bool)}{b:Bt}
  (hs:∀(k:Nat)(out:Bt),k<b.length->out.length<=1000->step (out,(k:Int))=some (match e_Z b k out with
   | none=>.ret ([],false)
   | some (o,j)=>if 1000<o.length then .ret ([],false) else .next (o,(j:Int))))
  (he:∀out,step (out,(b.length:Int))=some (.brk (out,(b.length:Int)))):∀(m n k:Nat)(out:Bt),b.length - k<m->m<=n->k<=b.length->out.length<=1000->C_ step n (out,(k:Int))=some (unpO b.length<|d_b m (b.drop k) out)
 | 0,n,k,out,h,_,_,_=>by omega
 | m+1,0,k,out,_,h,_,_=>by omega
 | m+1,n+1,k,out,h,hn,hk,ho=>by
  unfold C_
  by_cases hlt:k<b.length
  .rw [hs k out hlt ho,t_o hlt]
   cases hu:e_Z b k out with
   | none=>rfl
   | some x =>
    obtain ⟨o,j⟩:=x;have hle:=t_p hlt hu
    simp only
    by_cases h1:1000<o.length
    .rw [iP_ h1,iP_ h1];rfl
    .rw [iN_ h1,iN_ h1]
     exact m_J hs he m n j o (by omega) (by omega) hle.2 (by omega)
  .have:k=b.length:=by omega
   subst this
   rw [he]
   simp [d_b,unpO]
theorem p_5 {x:UInt8}{b:Bt}{k m:Nat}{out:Bt}(hx:idx b (k:Int)=some x)(ho:out.length+m<=5000):t_ (σ:=Bt) (ρ:=Bt×Bool) (λ_=>(λG=>bd (idx b (k:Int)) λH=>bd (psh G H) λI=>some<|.next I)) m 0 out=some (.inl<|out++List.replicate m x):=by
 have hLIM:=W_
 have h:=d_g (σ:=Bt) (ρ:=Bt×Bool) (body:=λJ=>(λG=>bd (idx b (k:Int)) λH=>bd (psh G H) λI=>some (.next I))) (λj=>out++List.replicate j x) (n:=m) (λj hj=>by
  rw [hx,bd_some,O_ (by simp only [List.length_append,List.length_replicate];omega),bd_some,List.append_assoc,← List.replicate_succ'])
 simpa using h
theorem p_6 (c:UInt8):c.toNat<256:=c.toNat_lt
theorem p_7 {c:UInt8}{m:Nat}(hm:m<256):(byteI c==(m:Int))=decide (c=UInt8.ofNat m):=by
 rw [Bool.eq_iff_iff,beq_iff_eq,dE_]
 unfold byteI
 constructor
 .intro h
  apply UInt8.toNat_inj.1
  rw [UInt8.toNat_ofNat']
  omega
 .rintro rfl
  rw [UInt8.toNat_ofNat']
  omega
theorem p_8 {b:Bt}{k:Nat}(hk:k<b.length)(e:Bool)(he:e=decide (k+1=b.length)):(if ((byteI b[k])==0) then some true else if ((byteI b[k])==128) then some true else some e)=some (decide<|b.getD k 0=0∨b.getD k 0=128∨k+1=b.length):=by
 have hg:b.getD k 0=b[k]:=by rw [gD_,gG_ hk];rfl
 rw [hg,show (0:Int)=((0:Nat):Int) from rfl,p_7 (by omega),show (128:Int)=((128:Nat):Int) from rfl,p_7 (by omega)]
 have H:UInt8.ofNat 0=0:=rfl;have I:UInt8.ofNat 128=128:=rfl
 rw [H,I,he]
 by_cases G:b[k]=0
 .simp [G]
 .by_cases h1:b[k]=128
  .simp [h1]
  .simp [G,h1]
theorem k_z {b:Bt}{k:Nat}(hb:b.length<=ML)(hk:k<b.length):idx b (k:Int)=some b[k]/\b.getD k 0=b[k]/\d_ (k:Int) 1=((k+1:Nat):Int):=by
 have hML:=MLv;refine ⟨ix_ hk,by rw [gD_,gG_ hk];rfl,?_⟩
 rw [ia_ (by omega) (by omega)];omega
theorem t_q {b:Bt}(hb:b.length<=ML){n:Nat}(hn:b.length<n):j_A n b=some (match d_s b with | some d=>(d,true) | none=>([],false)):=by
 have hML:=MLv;have hLIM:=W_;unfold j_A;refine (congrArg (λz=>bd z _)<|m_J (b:=b) ?_ ?_ (b.length+1) n 0 [] (by omega) (by omega) (Nat.zero_le _) (by simp)).trans ?_
 .intro k out hk ho
  simp only [un2]
  obtain ⟨hi,hg,I⟩:=k_z hb hk
  rw [dT_ (show (k:Int)<(b.length:Int) by omega),iP_ rfl,hi,bd_some,I]
  rw [p_8 hk _ (by rw [Bool.eq_iff_iff,beq_iff_eq,dE_];omega),bd_some]
  unfold e_Z
  rw [hg]
  have hc:=p_6 b[k]
  by_cases G:b[k]=0∨b[k]=128∨k+1=b.length
  .rw [dT_ G,iP_ rfl,iP_ G]
  .rw [dF_ G,iN_ (by simp),iN_ G]
   by_cases h1:b[k].toNat<128
   .rw [dT_ (show byteI b[k]<128 by unfold byteI;omega),iP_ rfl,iP_ h1,a_f (by omega) (by omega)]
    by_cases h2:b.length - (k+1)<b[k].toNat
    .rw [dT_ (show (b.length:Int) - ((k+1:Nat):Int)<byteI b[k] by unfold byteI;omega),iP_ rfl,iP_ h2];rfl
    .rw [dF_ (show ¬(b.length:Int) - ((k+1:Nat):Int)<byteI b[k] by unfold byteI;omega),iN_ (by simp),iN_ h2,ia_ (x:=((k+1:Nat):Int)) (by unfold byteI;omega) (by unfold byteI;omega),show ((k+1:Nat):Int)+byteI b[k]=((k+1+b[k].toNat:Nat):Int) by unfold byteI;omega,e_Y (by omega),bd_some,a_A (by simp only [List.length_take,List.length_drop];omega),bd_some,bd_some,el_inl]
     simp only [un2]
     generalize (out++(b.drop<|k+1).take b[k].toNat)=o
     by_cases h3:1000<o.length
     .rw [dT_ (by omega),iP_ rfl,iP_ h3]
     .rw [dF_ (by omega),iN_ (by simp),iN_ h3]
   .rw [dF_ (show ¬byteI b[k]<128 by unfold byteI;omega),iN_ (by simp),iN_ h1,a_f (by unfold byteI;omega) (by unfold byteI;omega)]
    have hm:(byteI b[k] - 128).toNat=b[k].toNat - 128:=by unfold byteI;omega
    have H:k+1<b.length:=by omega
    rw [hm,p_5 (ix_ H) (by omega),bd_some,el_inl,bd_some,el_inl,ia_ (y:=1) (by omega) (by omega)]
    simp only [un2]
    rw [(k_z hb H).2.1]
    generalize (out++List.replicate (b[k].toNat - 128) b[k+1])=o
    by_cases h3:1000<o.length
    .rw [dT_ (by omega),iP_ rfl,iP_ h3]
    .rw [dF_ (by omega),iN_ (by simp),iN_ h3]
     congr 3
 .intro out
  simp only [un2]
  rw [dF_ (by omega)];rfl
 .rw [bd_some]
  unfold d_s
  rw [List.drop_zero]
  cases d_b (b.length+1) b [] <;> rfl
theorem t_r {b:Bt}(hb:b.length<=ML){n:Nat}(hn:b.length<n):j_v n b=some (match d_s b with | some d=>(d,true) | none=>([],false)):=by
 have hML:=MLv;have hLIM:=W_;unfold j_v;refine (congrArg (λz=>bd z _)<|m_J (b:=b) ?_ ?_ (b.length+1) n 0 [] (by omega) (by omega) (Nat.zero_le _) (by simp)).trans ?_
 .intro k out hk ho
  simp only [un2]
  obtain ⟨hi,hg,I⟩:=k_z hb hk
  rw [dT_ (show (k:Int)<(b.length:Int) by omega),iP_ rfl,hi,bd_some,I]
  rw [p_8 hk _ (by rw [decide_eq_decide];omega),bd_some]
  unfold e_Z
  rw [hg]
  have hc:=p_6 b[k]
  by_cases G:b[k]=0∨b[k]=128∨k+1=b.length
  .rw [dT_ G,iP_ rfl,iP_ G]
  .rw [dF_ G,iN_ (by simp),iN_ G]
   by_cases h1:b[k].toNat<128
   .rw [dF_ (show ¬128<byteI b[k] by unfold byteI;omega),iN_ (by simp),iP_ h1,ia_ (x:=((k+1:Nat):Int)) (by unfold byteI;omega) (by unfold byteI;omega),show ((k+1:Nat):Int)+byteI b[k]=((k+1+b[k].toNat:Nat):Int) by unfold byteI;omega]
    by_cases h2:b.length - (k+1)<b[k].toNat
    .rw [dT_ (show (b.length:Int)<((k+1+b[k].toNat:Nat):Int) by omega),iP_ rfl,iP_ h2];rfl
    .rw [dF_ (show ¬(b.length:Int)<((k+1+b[k].toNat:Nat):Int) by omega),iN_ (by simp),iN_ h2,e_Y (by omega),bd_some,a_A (by simp only [List.length_take,List.length_drop];omega),bd_some,bd_some,el_inl]
     simp only [un2]
     generalize (out++(b.drop<|k+1).take b[k].toNat)=o
     by_cases h3:1000<o.length
     .rw [dT_ (by omega),iP_ rfl,iP_ h3]
     .rw [dF_ (by omega),iN_ (by simp),iN_ h3]
   .have J:b[k].toNat ≠ 128:=λh=>G<|.inr<|.inl<|UInt8.toNat_inj.1 (by rw [h];rfl)
    rw [dT_ (show 128<byteI b[k] by unfold byteI;omega),iP_ rfl,iN_ h1,a_f (by unfold byteI;omega) (by unfold byteI;omega)]
    have hm:(byteI b[k] - 128).toNat=b[k].toNat - 128:=by unfold byteI;omega
    have H:k+1<b.length:=by omega
    rw [hm,p_5 (ix_ H) (by omega),bd_some,el_inl,bd_some,el_inl,ia_ (y:=2) (by omega) (by omega)]
    simp only [un2]
    rw [(k_z hb H).2.1]
    generalize (out++List.replicate (b[k].toNat - 128) b[k+1])=o
    by_cases h3:1000<o.length
    .rw [dT_ (by omega),iP_ rfl,iP_ h3]
    .rw [dF_ (by omega),iN_ (by simp),iN_ h3]
     congr 3
 .intro out
  simp only [un2]
  rw [dF_ (by omega)];rfl
 .rw [bd_some]
  unfold d_s
  rw [List.drop_zero]
  cases d_b (b.length+1) b [] <;> rfl
end Go.Vw
