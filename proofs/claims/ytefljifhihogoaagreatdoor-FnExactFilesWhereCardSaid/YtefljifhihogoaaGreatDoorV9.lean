
import Derived.Test.YtefljifhihogoaaGreatDoorV8
namespace Go.Vw
set_option linter.unusedVariables false
open Go.RowKit Dat
def unpO (len:Int):Option Bt->Sum (Bt×Int) (Bt×Bool)
 | some d=>.inl (d,len)
 | none=>.inr ([],false)
def g_c (b:Bt)(k:Nat)(out:Bt):Option (Bt×Nat) :=
 if b.getD k 0=0∨b.getD k 0=128∨k+1=b.length then none
 else if (b.getD k 0).toNat<128 then
  if b.length - (k+1)<(b.getD k 0).toNat then none else some (out++(b.drop<|k+1).take (b.getD k 0).toNat,k+1+(b.getD k 0).toNat)
 else some (out++List.replicate ((b.getD k 0).toNat - 128) (b.getD (k+1) 0),k+2)
theorem w_S (m:Nat)(c:UInt8)(t out:Bt):d_J (m+1) (c::t) out=if c=0∨c=128∨t=[] then none
  else if c.toNat<128 then
   if t.length<c.toNat then none else if 1000<(out++t.take c.toNat).length then none else d_J m (t.drop c.toNat) (out++t.take c.toNat)
  else if 1000<(out++List.replicate (c.toNat - 128) (t.getD 0 0)).length then none else d_J m (t.drop 1) (out++List.replicate (c.toNat - 128) (t.getD 0 0)):=rfl
theorem w_T {b:Bt}{k:Nat}(hk:k<b.length)(m:Nat)(out:Bt):d_J (m+1) (b.drop k) out=match g_c b k out with
  | none=>none
  | some (o,j)=>if 1000<o.length then none else d_J m (b.drop j) o:=by
 rw [dC_ hk,w_S]
 unfold g_c;have hg:b.getD k 0=b[k]:=by grind
 have hn:(b.drop (k+1)=[]) ↔ k+1=b.length:=by grind [List.drop_eq_nil_iff]
 simp only [hg,hn]
 split
 .rfl
 .rename_i h1
  split
  .grind [List.drop_drop,List.length_drop]
  simp
theorem w_U {b:Bt}{k:Nat}{out o:Bt}{j:Nat}(hk:k<b.length)(h:g_c b k out=some (o,j)):k<j/\j<=b.length:=by
 grind [g_c]
theorem o_a {step:Bt×Int->Option (Out (Bt×Int)<|Bt×Bool)}{b:Bt}
  (hs:∀(k:Nat)(out:Bt),k<b.length->out.length<=1000->step (out,(k:Int))=some (match g_c b k out with
   | none=>.ret ([],false)
   | some (o,j)=>if 1000<o.length then .ret ([],false) else .next (o,(j:Int))))
  (he:∀out,step (out,(b.length:Int))=some (.brk (out,(b.length:Int)))):∀(m n k:Nat)(out:Bt),b.length - k<m->m<=n->k<=b.length->out.length<=1000->F_ step n (out,(k:Int))=some (unpO b.length<|d_J m (b.drop k) out)
 | 0,n,k,out,h,_,_,_=>by omega
 | m+1,0,k,out,_,h,_,_=>by omega
 | m+1,n+1,k,out,h,hn,hk,ho=>by
  unfold F_
  by_cases hlt:k<b.length
  .rw [hs k out hlt ho,w_T hlt]
   cases hu:g_c b k out with
   | none=>rfl
   | some x =>
    obtain ⟨o,j⟩:=x;have hle:=w_U hlt hu
    simp only
    by_cases h1:1000<o.length
    .rw [iP_ h1,iP_ h1];rfl
    .rw [iN_ h1,iN_ h1]
     exact o_a hs he m n j o (by omega) (by omega) hle.2 (by omega)
  grind [d_J,unpO]
theorem r_G {x:UInt8}{b:Bt}{k m:Nat}{out:Bt}(hx:idx b (k:Int)=some x)(ho:out.length+m<=5000):k_ (σ:=Bt) (ρ:=Bt×Bool) (λJ=>(λG=>bd (idx b (k:Int)) λH=>bd (psh G H) λI=>some<|.next I)) m 0 out=some (.inl<|out++List.replicate m x):=by
 have hLIM:=a_7
 have h:=b_Z (σ:=Bt) (ρ:=Bt×Bool) (body:=λJ=>(λG=>bd (idx b (k:Int)) λH=>bd (psh G H) λI=>some (.next I))) (λj=>out++List.replicate j x) (n:=m) (λj hj=>by
  grind [a_,a_Z,List.length_append,List.length_replicate,List.append_assoc,List.replicate_succ'])
 grind
theorem r_H (c:UInt8):c.toNat<256:=c.toNat_lt
theorem r_I {c:UInt8}{m:Nat}(hm:m<256):(b_ c==(m:Int))=decide (c=UInt8.ofNat m):=by
 rw [QA0,QAv,dE_]
 unfold b_
 constructor
 .grind [UInt8.toNat_ofNat',UInt8.toNat_inj]
 .rintro rfl
  grind [UInt8.toNat_ofNat']
theorem r_J {b:Bt}{k:Nat}(hk:k<b.length)(e:Bool)(he:e=decide (k+1=b.length)):(if ((b_ b[k])==0) then some true else if ((b_ b[k])==128) then some true else some e)=some (decide<|b.getD k 0=0∨b.getD k 0=128∨k+1=b.length):=by
 have hg:b.getD k 0=b[k]:=by grind
 rw [hg,show (0:Int)=((0:Nat):Int) from rfl,r_I (by omega),show (128:Int)=((128:Nat):Int) from rfl,r_I (by omega)]
 grind
theorem r_K {b:Bt}{k:Nat}(hb:b.length<=ML)(hk:k<b.length):idx b (k:Int)=some b[k]/\b.getD k 0=b[k]/\e_ (k:Int) 1=((k+1:Nat):Int):=by
 grind [d_o,b_E,List.getElem?_eq_getElem,MLv]
theorem w_V {b:Bt}(hb:b.length<=ML){n:Nat}(hn:b.length<n):k_P n b=some (match e_c b with | some d=>(d,true) | none=>([],false)):=by
 have hML:=MLv;have hLIM:=a_7;unfold k_P;refine (congrArg (λz=>bd z _)<|o_a (b:=b) ?_ ?_ (b.length+1) n 0 [] (by omega) (by omega) (QAI _) (by simp)).trans ?_
 .intro k out hk ho
  simp only [un2]
  obtain ⟨hi,hg,H⟩:=r_K hb hk
  rw [dT_ (show (k:Int)<(b.length:Int) by omega),iP_ rfl,hi,a_,H]
  rw [r_J hk _ (by grind),a_]
  unfold g_c
  rw [hg]
  have hc:=r_H b[k]
  by_cases G:b[k]=0∨b[k]=128∨k+1=b.length
  .grind
  .rw [dF_ G,iN_ (by simp),iN_ G]
   by_cases h1:b[k].toNat<128
   .rw [dT_ (show b_ b[k]<128 by grind),iP_ rfl,iP_ h1,a_L (by omega) (by omega)]
    by_cases h2:b.length - (k+1)<b[k].toNat
    .rw [dT_ (show (b.length:Int) - ((k+1:Nat):Int)<b_ b[k] by grind),iP_ rfl,iP_ h2];rfl
    .rw [dF_ (show ¬(b.length:Int) - ((k+1:Nat):Int)<b_ b[k] by grind),iN_ (by simp),iN_ h2,ia_ (x:=((k+1:Nat):Int)) (by grind) (by grind),show ((k+1:Nat):Int)+b_ b[k]=((k+1+b[k].toNat:Nat):Int) by rfl,g_b (by omega),a_,c_l (by grind),a_,a_,W_]
     grind
   .rw [dF_ (show ¬b_ b[k]<128 by grind),iN_ (by simp),iN_ h1,a_L (by grind) (by grind)]
    have hm:(b_ b[k] - 128).toNat=b[k].toNat - 128:=by grind
    have I:k+1<b.length:=by omega
    rw [hm,r_G (ix_ I) (by omega),a_,W_,a_,W_,ia_ (y:=1) (by omega) (by omega)]
    grind
 .simp
 .rw [a_]
  unfold e_c
  rw [QAP]
  cases d_J (b.length+1) b [] <;> rfl
theorem w_W {b:Bt}(hb:b.length<=ML){n:Nat}(hn:b.length<n):k_F n b=some (match e_c b with | some d=>(d,true) | none=>([],false)):=by
 have hML:=MLv;have hLIM:=a_7;unfold k_F;refine (congrArg (λz=>bd z _)<|o_a (b:=b) ?_ ?_ (b.length+1) n 0 [] (by omega) (by omega) (QAI _) (by simp)).trans ?_
 .intro k out hk ho
  simp only [un2]
  obtain ⟨hi,hg,H⟩:=r_K hb hk
  rw [dT_ (show (k:Int)<(b.length:Int) by omega),iP_ rfl,hi,a_,H]
  rw [r_J hk _ (by grind),a_]
  unfold g_c
  rw [hg]
  have hc:=r_H b[k]
  by_cases G:b[k]=0∨b[k]=128∨k+1=b.length
  .grind
  .rw [dF_ G,iN_ (by simp),iN_ G]
   by_cases h1:b[k].toNat<128
   .rw [dF_ (show ¬128<b_ b[k] by grind),iN_ (by simp),iP_ h1,ia_ (x:=((k+1:Nat):Int)) (by grind) (by grind),show ((k+1:Nat):Int)+b_ b[k]=((k+1+b[k].toNat:Nat):Int) by rfl]
    by_cases h2:b.length - (k+1)<b[k].toNat
    .rw [dT_ (show (b.length:Int)<((k+1+b[k].toNat:Nat):Int) by omega),iP_ rfl,iP_ h2];rfl
    .rw [dF_ (show ¬(b.length:Int)<((k+1+b[k].toNat:Nat):Int) by omega),iN_ (by simp),iN_ h2,g_b (by omega),a_,c_l (by grind),a_,a_,W_]
     grind
   .have J:b[k].toNat ≠ 128:=λh=>G<|.inr<|.inl<|UInt8.toNat_inj.1 (by grind)
    rw [dT_ (show 128<b_ b[k] by grind),iP_ rfl,iN_ h1,a_L (by grind) (by grind)]
    have hm:(b_ b[k] - 128).toNat=b[k].toNat - 128:=by grind
    have I:k+1<b.length:=by omega
    rw [hm,r_G (ix_ I) (by omega),a_,W_,a_,W_,ia_ (y:=2) (by omega) (by omega)]
    grind
 .simp
 .rw [a_]
  unfold e_c
  rw [QAP]
  cases d_J (b.length+1) b [] <;> rfl
end Go.Vw
