
import Derived.Test.YtpjplgfnhbjjjaaGreatDoorVn
namespace Go.Vw
open Go.RowKit Dat
def goK (rs:List d_):List Str->Nat->Val->(Val->Val)->Option (Nat×Val×(Val->Val))
 | [],i,v,k=>some (i,v,k)
 | s::ss,i,v,k=>if a_Z (rs.getD i default) v.items.length s<0 then none else
   goK rs ss (J_ (rs.getD i default) v.number (a_Z (rs.getD i default) v.items.length s).toNat).toNat (v.items.getD (a_Z (rs.getD i default) v.items.length s).toNat zV)
    (λz=>k<|.mk v.number v.bytes<|v.items.set (a_Z (rs.getD i default) v.items.length s).toNat z)
def d_h (rs:List d_):List Str->Nat->Val->Val->Val
 | [],_,_,y=>y
 | s::ss,i,v,y=>.mk v.number v.bytes (v.items.set (a_Z (rs.getD i default) v.items.length s).toNat
   (d_h rs ss (J_ (rs.getD i default) v.number (a_Z (rs.getD i default) v.items.length s).toNat).toNat (v.items.getD (a_Z (rs.getD i default) v.items.length s).toNat zV) y))
theorem o_2 (rs:List d_):∀(ss:List Str)(i:Nat)(v:Val)(k:Val->Val){x:Nat×Val×(Val->Val)},goK rs ss i v k=some x->∀y,x.2.2 y=k (d_h rs ss i v y)
 | [],i,v,k,x,h,y=>by
  obtain rfl:=Option.some.inj h
  rfl
 | s::ss,i,v,k,x,h,y=>by
  unfold goK at h
  split at h
  .cases h
  .rw [o_2 rs ss _ _ _ h y];rfl
section
variable {d:c_}
theorem g_t (hv:O_ d=true){m i:Nat}{v:Val}(h:VP d.rules (m+1) i v){s:Str}(hf:¬a_Z (d.rules.getD i default) v.items.length s<0):∃(t k:Nat)(ht:t<v.items.length),a_Z (d.rules.getD i default) v.items.length s=(t:Int)/\J_ (d.rules.getD i default) v.number t=(k:Int)/\v.items.getD t zV=v.items[t]/\VP d.rules m k v.items[t]:=by
 obtain ⟨hi,hO,hK⟩:=h;obtain ⟨t,e,ht,_⟩:=l_i (show 0<=a_Z (d.rules.getD i default) v.items.length s by omega);obtain ⟨k,G,_,H⟩:=hK t ht;refine ⟨t,k,ht,e,?_,?_,H⟩
 .rw [N_ hi];exact G
 .rw [gD_,gG_ ht];rfl
theorem e_A:∀{m i:Nat}{v:Val},VP d.rules m i v->dep m v
 | 0,_,_,h=>h.elim
 | m+1,i,v,⟨hi,hO,hK⟩=>λx hx=>by
  obtain ⟨t,ht,rfl⟩:=List.mem_iff_getElem.1 hx;obtain ⟨k,_,_,G⟩:=hK t ht;exact e_A G
theorem vp_lt {m i:Nat}{v:Val}(h:VP d.rules m i v):i<d.rules.length:=by
 cases m with
 | zero=>exact h.elim
 | succ m=>exact h.1
theorem o_3 (hv:O_ d=true)(hd:SmD d){n:Nat}(hn:1000<=n){l:List Str}:∀(ss:List Str)(j m i:Nat)(v:Val)(k:Val->Val),l.drop j=ss->VP d.rules m i v ->
  n_ (σ:=(Val×(Val->Val))×Int) (ρ:=(Option<|Val×(Val->Val))×Int) (λO=>un2 λG I=>bd (idx l ((O:Nat):Int)) λV=>bd (d_c n d I G.1 V) λH=>if (decide<|H<0) then some (.ret (none,(-1))) else bd (idx G.1.items H) λW=>bd (c_5 d I G.1 H) λY=>some<|.next ((W,λz=>G.2<|.mk G.1.number G.1.bytes<|G.1.items.set H.toNat z),Y)) ss.length j ((v,k),(i:Int))
   = match goK d.rules ss i v k with | none=>some (.inr (none,-1)) | some x=>some<|.inl ((x.2.1,x.2.2),(x.1:Int))
 | [],j,m,i,v,k,hs,h=>rfl
 | s::ss,j,0,i,v,k,hs,h=>h.elim
 | s::ss,j,m+1,i,v,k,hs,h=>by
  have hi:=h.1;have hO:=h.2.1;have h40:=h_t hv hi hO
  have hjl:j<l.length:=by
   refine Nat.lt_of_not_le λhc=>?_
   rw [List.drop_of_length_le hc] at hs;cases hs
  have hs':l[j]=s/\l.drop (j+1)=ss:=by
   rw [dC_ hjl] at hs
   exact List.cons.inj hs
  rw [lC_]
  unfold n_
  simp only [un2]
  rw [ix_ hjl,bd_some,hs'.1,o_0 hv hd hi h40 s hn,bd_some]
  unfold goK
  rw [N_ hi]
  by_cases hf:a_Z d.rules[i] v.items.length s<0
  .rw [dT_ hf,iP_ rfl,iP_ hf]
  .rw [dF_ hf,iN_ (by simp),iN_ hf]
   obtain ⟨t,k',ht,J,L,e3,e4⟩:=g_t hv h (s:=s) (by rw [N_ hi];exact hf)
   rw [N_ hi] at J L
   rw [J,ix_ ht,bd_some,e_G (ix_ hi)<|b_d (a_O hv hi).kind,bd_some,tN_,L,tN_,e3]
   exact o_3 hv hd hn ss (j+1) m k' _ _ hs'.2 e4
theorem l_j (hv:O_ d=true)(hd:SmD d){n:Nat}(hn:1000<=n){l:List Str}:∀(ss:List Str)(j m i:Nat)(v:Val)(k:Val->Val),l.drop j=ss->VP d.rules m i v ->
  n_ (σ:=Int×Int×Bt×(List Val)) (ρ:=Val×Int×Bool) (λW=>un4 λI J Y L=>bd (idx l ((W:Nat):Int)) λa0=>bd (d_Y n d I (⟨J,Y,L⟩:Val) a0) λG=>if (decide<|G<0) then some (.ret ((⟨0,([]:Bt),([]:List Val)⟩:Val),(-1),false)) else bd (idx d.rules I) λa1=>bd (a_D a1 J G) λa2=>bd (idx L G) λH=>some<|.next (a2,H.number,H.bytes,H.items)) ss.length j ((i:Int),v.number,v.bytes,v.items)
   = match goK d.rules ss i v k with | none=>some (.inr ((⟨0,([]:Bt),([]:List Val)⟩:Val),(-1),false)) | some x=>some<|.inl ((x.1:Int),x.2.1.number,x.2.1.bytes,x.2.1.items)
 | [],j,m,i,v,k,hs,h=>rfl
 | s::ss,j,0,i,v,k,hs,h=>h.elim
 | s::ss,j,m+1,i,v,k,hs,h=>by
  have hi:=h.1;have hO:=h.2.1;have h40:=h_t hv hi hO
  have hjl:j<l.length:=by
   refine Nat.lt_of_not_le λhc=>?_
   rw [List.drop_of_length_le hc] at hs;cases hs
  have hs':l[j]=s/\l.drop (j+1)=ss:=by
   rw [dC_ hjl] at hs
   exact List.cons.inj hs
  rw [lC_]
  unfold n_
  simp only [un4]
  rw [ix_ hjl,bd_some,hs'.1,a_w,o_1 hv hd hi h40 s hn,bd_some]
  unfold goK
  rw [N_ hi]
  by_cases hf:a_Z d.rules[i] v.items.length s<0
  .rw [dT_ hf,iP_ rfl,iP_ hf]
  .rw [dF_ hf,iN_ (by simp),iN_ hf]
   obtain ⟨t,k',ht,O,V,e3,e4⟩:=g_t hv h (s:=s) (by rw [N_ hi];exact hf)
   rw [N_ hi] at O V
   rw [O,ix_ hi,bd_some,b_O<|b_d (a_O hv hi).kind,bd_some,ix_ ht,bd_some,tN_,V,tN_,e3]
   exact l_j hv hd hn ss (j+1) m k' _ _ hs'.2 e4
theorem o_4 (hv:O_ d=true)(hd:SmD d){part:Val}{M:Nat}(hp:dep M part)(I:vsz M part<=1100000):∀(ss:List Str)(m i:Nat)(v:Val)(k:Val->Val)(n:Nat),VP d.rules m i v->vsz m v<=1100000->m+M+1000+ss.length<=n->ss.length<=1000000000->(goK d.rules ss i v k).isSome=true->n_v n d (i:Int) v ss part=some (d_h d.rules ss i v part)
 | [],m,i,v,k,n,h,hz,hn,hl,_=>by
  obtain ⟨q,rfl⟩:∃q,n=q+1:=⟨n - 1,by omega⟩
  show g_g q (f_j q) d (i:Int) v [] part=_
  unfold g_g
  rw [show ((([]:List Str).length:Int)==0)=true from rfl,iP_ rfl,d_M M part hp I q (by omega),bd_some]
  rfl
 | s::ss,0,i,v,k,n,h,_,_,_,_=>h.elim
 | s::ss,m+1,i,v,k,n,h,hz,hn,hl,hg=>by
  have hLIM:=X_;obtain ⟨q,rfl⟩:∃q,n=q+1:=⟨n - 1,by omega⟩;have hi:=h.1;have hO:=h.2.1;have h40:=h_t hv hi hO
  rw [lC_] at hn hl
  have hz':v.bytes.length+lsz m v.items<=1100000:=hz
  show g_g q (f_j q) d (i:Int) v (s::ss) part=_
  unfold g_g
  rw [show (((s::ss).length:Int)==0)=false by simp;omega,iN_ (by simp),d_M (m+1) v (e_A h) hz q (by omega),bd_some,show idx (s::ss) 0=some s from rfl,bd_some,o_1 hv hd hi h40 s (by omega),bd_some,ix_ hi,bd_some]
  unfold goK at hg
  unfold d_h
  rw [N_ hi] at hg ⊢
  by_cases hf:a_Z d.rules[i] v.items.length s<0
  .rw [iP_ hf] at hg;cases hg
  .rw [iN_ hf] at hg
   obtain ⟨t,k',ht,H,G,J,L⟩:=g_t hv h (s:=s) (by rw [N_ hi];exact hf)
   rw [N_ hi] at H G
   rw [H,tN_,G,tN_,J] at hg
   have hsz:=d_H (m:=m)<|gE_ ht;have:=o_4 hv hd hp I ss m k' v.items[t] _ q L (by omega) (by omega) (by omega) hg
   rw [H,ix_ ht,bd_some,f_A (by omega) (by simp only [lC_];omega) (by omega),bd_some,b_O<|b_d (a_O hv hi).kind,bd_some,G]
   rw [show ((s::ss).take ((s::ss).length:Int).toNat).drop (1:Int).toNat=ss by simp]
   rw [show (f_j q).spec_l22Put d (k':Int) v.items[t] ss part=some _ from this,bd_some,l_Z ht,bd_some,tN_,G,tN_,J]
theorem d_D:∀{m M:Nat}(v:Val),m<=M->vsz m v<=vsz M v
 | 0,0,v,_=>Nat.le_refl _
 | 0,M+1,v,_=>by
  show v.bytes.length<=v.bytes.length+lsz M v.items
  omega
 | m+1,M+1,v,h=>by
  show v.bytes.length+lsz m v.items<=v.bytes.length+lsz M v.items
  have:∀l:List Val,lsz m l<=lsz M l:=λl=>by
   induction l with
   | nil=>exact Nat.le_refl _
   | cons x l ih =>
    rw [c_g,c_g]
    have:=d_D (m:=m) (M:=M) x (by omega)
    omega
  have:=this v.items
  omega
theorem l_k {m:Nat}{z:Val}{Y:Nat}:∀{l:List Val}{t:Nat}(ht:t<l.length),vsz m z<=vsz m l[t]+Y->lsz m (l.set t z)<=lsz m l+Y
 | x::l,0,ht,h=>by
  rw [List.set_cons_zero,c_g,c_g]
  simp only [List.getElem_cons_zero] at h
  omega
 | x::l,t+1,ht,h=>by
  rw [List.set_cons_succ,c_g,c_g]
  have:=l_k (m:=m) (z:=z) (Y:=Y) (l:=l) (t:=t) (by simpa using ht) (by simpa using h)
  omega
theorem o_5 (hv:O_ d=true){part:Val}{M:Nat}:∀(ss:List Str)(m p i:Nat)(v:Val)(k:Val->Val),VP d.rules p i v->m<=M->(goK d.rules ss i v k).isSome=true->vsz m (d_h d.rules ss i v part)<=vsz m v+vsz M part
 | [],m,p,i,v,k,h,hm,_=>by
  have:=d_D (m:=m) (M:=M) part hm
  show vsz m part<=_
  omega
 | s::ss,m,0,i,v,k,h,_,_=>h.elim
 | s::ss,0,p+1,i,v,k,h,hm,hg=>by
  show v.bytes.length<=v.bytes.length+_
  omega
 | s::ss,m+1,p+1,i,v,k,h,hm,hg=>by
  have hi:=h.1;unfold goK at hg
  unfold d_h
  rw [N_ hi] at hg ⊢
  by_cases hf:a_Z d.rules[i] v.items.length s<0
  .rw [iP_ hf] at hg;cases hg
  .rw [iN_ hf] at hg
   obtain ⟨t,k',ht,G,H,I,J⟩:=g_t hv h (s:=s) (by rw [N_ hi];exact hf)
   rw [N_ hi] at G H
   rw [G,tN_,H,tN_,I] at hg ⊢
   have:=o_5 hv (part:=part) (M:=M) ss m p k' v.items[t] _ J (by omega) hg;have:=l_k (m:=m) (Y:=vsz M part) ht this
   show v.bytes.length+lsz m (v.items.set t _)<=v.bytes.length+lsz m v.items+vsz M part
   omega
end
end Go.Vw
