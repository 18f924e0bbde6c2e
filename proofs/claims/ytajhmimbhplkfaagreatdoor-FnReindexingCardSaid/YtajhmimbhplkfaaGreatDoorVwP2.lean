
import Derived.Test.YtajhmimbhplkfaaGreatDoorVwP1
set_option linter.unusedVariables false
namespace Go.Vw
open Go.RowKit Dat
def b_t (n:Int) (c:UInt8):Int:=n * 256+byteI c
def d_8 (bs:List UInt8) (little:Bool):Int:=(if little=true then bs.reverse else bs).foldl b_t 0
theorem e_e {α β:Type} (f:β→α→β) (a:β) {l:List α} {k:Nat} (h:k<l.length):(l.take<|k+1).foldl f a=f ((l.take k).foldl f a) l[k]:=by
 rw [List.take_add_one,gG_ h,Option.toList_some,List.foldl_append];rfl
theorem n_Q (l:List UInt8):0≤l.foldl b_t 0∧l.foldl b_t 0<256 ^ l.length:=by
 have : ∀ k,k≤l.length→0≤(l.take k).foldl b_t 0∧(l.take k).foldl b_t 0<256 ^ k:=by
  intro k
  induction k with
  | zero=>intro _;simp
  | succ k ih =>
   intro hk;obtain ⟨h1,h2⟩:=ih (by omega)
   rw [e_e b_t 0 (show k<l.length by omega)]
   have h3:=e_1 l[k];have h4:=e_2 l[k];generalize (l.take k).foldl b_t 0=z at *
   unfold b_t
   rw [Int.pow_succ]
   omega
 have h:=this l.length<|Nat.le_refl _
 simpa using h
theorem g_X (l:List UInt8) (h:l.length≤4):0≤l.foldl b_t 0∧l.foldl b_t 0<4294967296:=by
 obtain ⟨h1,h2⟩:=n_Q l;refine ⟨h1,?_⟩;have:l.length=0∨l.length=1∨l.length=2∨l.length=3∨l.length=4:=by omega
 rcases this with h | h | h | h | h <;> rw [h] at h2 <;> omega
theorem n_R (bs:List UInt8) (e:Bool) (h:bs.length≤4):0≤d_8 bs e∧d_8 bs e<4294967296:=by
 unfold d_8
 cases e
 ·exact g_X bs h
 ·exact g_X bs.reverse (by simpa using h)
theorem k_y {bs:List UInt8} {k:Nat} (hk:k<bs.length) (hb:bs.length≤4) (e:Bool):idx bs (if e=true then I_ (I_ (bs.length:Int) 1) (k:Int) else (k:Int))=some ((if e=true then bs.reverse else bs)[k]'(by cases e <;> simpa using hk)):=by
 cases e
 ·exact ix_ hk
 ·rw [iP_ rfl,a_C (x:=(bs.length:Int)) (by omega) (by omega),a_C (by omega) (by omega),d_e (by omega) (by omega)]
  simp only [fT_]
  rw [List.getElem_reverse]
  congr 2
  omega
theorem n_S (bs:List UInt8) (e:Bool) (hb:bs.length≤4):f_z bs e=some (d_8 bs e):=by
 unfold f_z
 rw [dF_ (show ¬ (4:Int)<(bs.length:Int) by omega)]
 have hl:(if e=true then bs.reverse else bs).length=bs.length:=by cases e <;> simp
 have h:=c_i (n:=bs.length) (σ:=Int) (ρ:=Int) (body:=(fun k67=>(fun x62=>bd (α:=Int) (if e=true then some (I_ (I_ (bs.length:Int) 1) ((k67:Nat):Int)) else some ((k67:Nat):Int))<|fun x94=>bd (idx bs x94) fun x106=>some<|.next<|j_ (a_e x62 256)<|byteI x106)))
  (fun k=>((if e=true then bs.reverse else bs).take k).foldl b_t 0) (fun j hj=>by
   have hb2:=g_X ((if e=true then bs.reverse else bs).take j) (by simp;omega)
   rw [n_w,bd_some,k_y hj hb e,bd_some,e_e b_t 0 (by rw [hl];exact hj)]
   generalize (if e=true then bs.reverse else bs)[j]'(by rw [hl];exact hj)=c at *
   have h3:=e_1 c;have h4:=e_2 c
   rw [d_K (by omega) (by omega),ia_ (by omega) (by omega)]
   rfl)
 simp only [List.take_zero,List.foldl_nil] at h
 rw [h]
 simp only [bF_,fF_,bd_some,el_inl]
 unfold d_8
 rw [List.take_of_length_le (by omega)]
theorem k_z {n:Int} {c:UInt8} (h0:0≤n) (h1:n<4294967296):a_u .i64 (· ||| ·) (b_j .i64 n 8) (byteI c)=b_t n c:=by
 have e:b_j .i64 n 8=n * 256:=by
  unfold b_j
  rw [show (min (8:Int).toNat IntKind.i64.bits)=8 from rfl,IntKind.wrap_i64]
  omega
 rw [e]
 unfold a_u b_t;obtain ⟨m,rfl⟩:=Int.eq_ofNat_of_zero_le h0;have hc:=c.toNat_lt;have hm:m<4294967296:=by omega
 have e1:BitVec.ofInt IntKind.i64.bits ((m:Int) * 256)=BitVec.ofNat 64 (m * 256):=by
  rw [show ((m:Int) * 256)=((m * 256:Nat):Int) by omega];exact BitVec.ofInt_natCast 64 _
 have e2:BitVec.ofInt IntKind.i64.bits (byteI c)=BitVec.ofNat 64 c.toNat:=by
  unfold byteI;exact BitVec.ofInt_natCast 64 _
 show IntKind.i64.wrap ((BitVec.ofInt IntKind.i64.bits ((m:Int) * 256) ||| BitVec.ofInt IntKind.i64.bits (byteI c)).toNat:Int)=_
 rw [e1,e2]
 have e3:(BitVec.ofNat 64 (m * 256) ||| BitVec.ofNat 64 c.toNat).toNat=m * 256+c.toNat:=by
  rw [BitVec.toNat_or,BitVec.toNat_ofNat,BitVec.toNat_ofNat,Nat.mod_eq_of_lt (by omega),Nat.mod_eq_of_lt (by omega)]
  have:=Nat.shiftLeft_add_eq_or_of_lt (i:=8) (b:=c.toNat) (by omega) m
  rw [Nat.shiftLeft_eq] at this
  exact this.symm
 have e4:((BitVec.ofNat 64 (m * 256) ||| BitVec.ofNat 64 c.toNat:BitVec IntKind.i64.bits).toNat:Int)=(m:Int) * 256+(c.toNat:Int):=by
  rw [show (BitVec.ofNat 64 (m * 256) ||| BitVec.ofNat 64 c.toNat:BitVec IntKind.i64.bits).toNat=m * 256+c.toNat from e3];omega
 refine (congrArg IntKind.i64.wrap e4).trans ?_
 rw [IntKind.wrap_i64]
 unfold byteI
 omega
theorem k_A (bs:List UInt8) (e:Bool) (hb:bs.length≤4):e_w bs e=some (d_8 bs e):=by
 unfold e_w
 rw [dF_ (show ¬ (4:Int)<(bs.length:Int) by omega)]
 have hl:(if e=true then bs.reverse else bs).length=bs.length:=by cases e <;> simp
 have h:=c_i (n:=bs.length) (σ:=Int) (ρ:=Int) (body:=(fun k85=>(fun x80=>bd (α:=Int) (if e=true then bd (idx bs<|I_ (I_ (bs.length:Int) 1) ((k85:Nat):Int)) fun x149=>some (a_u .i64 (· ||| ·) (b_j .i64 x80 8)<|byteI x149) else bd (idx bs ((k85:Nat):Int)) fun x159=>some<|a_u .i64 (· ||| ·) (b_j .i64 x80 8)<|byteI x159)<|fun x141=>some<|.next x141)))
  (fun k=>((if e=true then bs.reverse else bs).take k).foldl b_t 0) (fun j hj=>by
   have hb2:=g_X ((if e=true then bs.reverse else bs).take j) (by simp;omega);have hbt:=k_y hj hb e
   rw [e_e b_t 0 (by rw [hl];exact hj)]
   cases e
   ·simp only [bF_,fF_] at hbt hb2 ⊢
    rw [hbt,bd_some,bd_some,k_z hb2.1 hb2.2]
   ·simp only [fT_] at hbt hb2 ⊢
    rw [hbt,bd_some,bd_some,k_z hb2.1 hb2.2])
 simp only [List.take_zero,List.foldl_nil] at h
 rw [h]
 simp only [bF_,fF_,bd_some,el_inl]
 unfold d_8
 rw [List.take_of_length_le (by omega)]
def c_3 (n:Int) (c:UInt8):Int:=n+byteI c
def b_z (bs:List UInt8):Int:=bs.foldl c_3 0 % 256
theorem j_2 (bs:List UInt8) (k:Nat) (hk:k≤bs.length):0≤(bs.take k).foldl c_3 0∧(bs.take k).foldl c_3 0≤256 * k:=by
 induction k with
 | zero=>simp
 | succ k ih =>
  obtain ⟨h1,h2⟩:=ih (by omega)
  rw [e_e c_3 0 (show k<bs.length by omega)]
  have h3:=e_1 bs[k];have h4:=e_2 bs[k];generalize (bs.take k).foldl c_3 0=z at *
  unfold c_3
  omega
theorem k_B (bs:List UInt8) (hb:bs.length≤MX):e_x bs=some (b_z bs):=by
 have hMX:MX=1048576:=rfl;unfold e_x b_z
 have h:=c_i (n:=bs.length) (σ:=Int) (ρ:=Int) (body:=(fun k48=>(fun x43=>bd (idx bs ((k48:Nat):Int)) fun x66=>some (.next (j_ x43 (byteI x66)))))) (fun k=>(bs.take k).foldl c_3 0) (fun j hj=>by
  have hbd:=j_2 bs j (by omega);have h3:=e_1 bs[j];have h4:=e_2 bs[j]
  rw [ix_ hj,bd_some,e_e c_3 0 hj,ia_ (by omega) (by omega)]
  rfl)
 simp only [List.take_zero,List.foldl_nil] at h
 rw [h]
 have hbd:=j_2 bs bs.length<|Nat.le_refl _
 rw [List.take_of_length_le (Nat.le_refl _)] at hbd ⊢
 simp only [bd_some,el_inl]
 rw [h_a hbd.1]
theorem k_C (bs:List UInt8):e_s bs=some (b_z bs):=by
 have hMX:MX=1048576:=rfl;unfold e_s b_z
 have h:=c_i (n:=bs.length) (σ:=Int) (ρ:=Int) (body:=(fun k48=>(fun x43=>bd (idx bs ((k48:Nat):Int)) fun x66=>some (.next (a_W (j_ x43 (byteI x66)) 256))))) (fun k=>(bs.take k).foldl c_3 0 % 256) (fun j hj=>by
  have hbd:=j_2 bs j (by omega);have h3:=e_1 bs[j];have h4:=e_2 bs[j]
  rw [ix_ hj,bd_some,e_e c_3 0 hj,ia_ (by omega) (by omega),h_a (by omega)]
  generalize (bs.take j).foldl c_3 0=z at *
  unfold c_3
  congr 2
  omega)
 simp only [List.take_zero,List.foldl_nil] at h
 rw [show ((0:Int) % 256)=0 from rfl] at h
 rw [h]
 rw [List.take_of_length_le (Nat.le_refl _)]
 rfl
def c_L (b:List UInt8) (t:UInt8):Nat→List UInt8→Nat→Option (List UInt8×Nat)
 | 0,_,_=>none
 | f+1,acc,p=>match b[p]? with
  | none=>none
  | some c=>if c=t then some (acc,p+1) else if c=92 then (match b[p+1]? with
    | none=>none
    | some c'=>c_L b t f (acc++[c']) (p+2)) else c_L b t f (acc++[c]) (p+1)
def g_Y (o:Option (List UInt8×Nat)):Sum (List UInt8×Int) (List UInt8×Int×Bool)→Prop:=fun s=>match o with
 | some (c,q)=>s = .inr (c,(q:Int),true)
 | none=>∃ x,s = .inl x
def c_g (b:List UInt8) (at_:Nat) (t:UInt8):Option (List UInt8×Nat):=c_L b t (b.length+1) [] at_
theorem beqB (a c:UInt8):(byteI a==byteI c)=decide (a=c):=by
 rw [Bool.eq_iff_iff];simp only [beq_iff_eq,dE_];exact o_L
theorem k_D (b:List UInt8) (t:UInt8) (hb:b.length≤MX) (step:List UInt8×Int→Option (Out (List UInt8×Int)<|List UInt8×Int×Bool))
  (hstep : ∀ acc (p:Nat),step (acc,(p:Int))=if decide ((p:Int)<(b.length:Int))=true then bd (idx b (p:Int)) fun x311=>if ((byteI x311)==(byteI t))=true then some (.ret (acc,j_ (p:Int) 1,true)) else bd (idx b (p:Int)) fun x335=>bd (α:=Sum Int<|Out ((List UInt8)×Int)<|(List UInt8)×Int×Bool) (if ((byteI x335)==(byteI (92:UInt8)))=true then if ((j_ (p:Int) 1)==(b.length:Int))=true then some (.inr<|.brk (acc,j_ (p:Int) 1)) else some (.inl<|j_ (p:Int) 1) else some (.inl (p:Int))) (el (fun x354=>bd (idx b x354) fun x380=>bd (psh acc x380) fun x406=>some<|.next (x406,j_ x354 1)) some) else some (.brk (acc,(p:Int)))) :
  ∀ f acc p,acc.length≤p→p≤b.length→b.length<p+f → ∀ n,f≤n → ∃ s,a_f step n (acc,(p:Int))=some s∧g_Y (c_L b t f acc p) s:=by
 have hMX:MX=1048576:=rfl;have hLIM:LIM=4294967296:=rfl;intro f
 induction f with
 | zero=>intro acc p _ _ h;omega
 | succ f ih =>
  intro acc p hacc hp hf n hn;obtain ⟨m,rfl⟩ : ∃ m,n=m+1:=⟨n - 1,by omega⟩;unfold a_f c_L
  rw [hstep]
  by_cases hlt:p<b.length
  ·rw [dT_ (show (p:Int)<(b.length:Int) by omega),ix_ hlt,gG_ hlt]
   simp only [fT_,bd_some,beqB]
   rw [ia_ (x:=(p:Int)) (by omega) (by omega)]
   by_cases ht:b[p]=t
   ·rw [dT_ ht,iP_ rfl,iP_ ht]
    exact ⟨_,rfl,by simp [g_Y]⟩
   ·rw [dF_ ht,iN_ (by simp),iN_ ht]
    by_cases he:b[p]=92
    ·rw [dT_ he,iP_ rfl,iP_ he]
     by_cases hl:p+1<b.length
     ·have e1:((p:Int)+1==(b.length:Int))=false:=by simp;omega
      rw [e1,gG_ hl]
      simp only [bF_,fF_,bd_some,el_inl]
      rw [show (p:Int)+1=((p+1:Nat):Int) by omega,ix_ hl,bd_some,a_P (by omega),bd_some,ia_ (by omega) (by omega)]
      obtain ⟨s,h1,h2⟩:=ih (acc++[b[p+1]]) (p+2) (by simp;omega) (by omega) (by omega) m (by omega);refine ⟨s,?_,h2⟩
      rw [← h1]
      simp only
      congr 2
     ·have e1:((p:Int)+1==(b.length:Int))=true:=by simp;omega
      rw [e1,gN_ (by omega)]
      exact ⟨_,rfl,_,rfl⟩
    ·rw [dF_ he,iN_ (by simp),iN_ he]
     simp only [bd_some,el_inl]
     rw [ix_ hlt,bd_some,a_P (by omega),bd_some,ia_ (by omega) (by omega)]
     obtain ⟨s,h1,h2⟩:=ih (acc++[b[p]]) (p+1) (by simp;omega) (by omega) (by omega) m (by omega);refine ⟨s,?_,h2⟩
     rw [← h1]
     simp only
     congr 2
  ·rw [dF_ (show ¬ (p:Int)<(b.length:Int) by omega),gN_ (by omega)]
   exact ⟨_,rfl,_,rfl⟩
def g_Z (o:Option (List UInt8×Nat)) (at_:Nat):List UInt8×Int×Bool:=match o with
 | some (c,q)=>(c,(q:Int),true)
 | none=>([],(at_:Int),false)
theorem k_E (n:Nat) (b:List UInt8) (at_:Nat) (t:UInt8) (hb:b.length≤MX) (ha:at_≤b.length) (hn:b.length+1≤n):e_y n b at_ t=some (g_Z (c_g b at_ t) at_):=by
 unfold e_y c_g
 rw [dF_ (show ¬ (at_:Int)<0 by omega),dF_ (show ¬ (b.length:Int)<(at_:Int) by omega)]
 simp only [bF_,fF_,bd_some]
 obtain ⟨s,h1,h2⟩:=k_D b t hb (un2 fun x207 x215=>if (decide<|x215<(b.length:Int))=true then bd (idx b x215) fun x311=>if ((byteI x311)==(byteI t))=true then some (.ret (x207,j_ x215 1,true)) else bd (idx b x215) fun x335=>bd (α:=Sum Int<|Out ((List UInt8)×Int)<|(List UInt8)×Int×Bool) (if ((byteI x335)==(byteI (92:UInt8)))=true then if ((j_ x215 1)==(b.length:Int))=true then some (.inr<|.brk (x207,j_ x215 1)) else some (.inl<|j_ x215 1) else some (.inl x215)) (el (fun x354=>bd (idx b x354) fun x380=>bd (psh x207 x380) fun x406=>some<|.next (x406,j_ x354 1)) some) else some (.brk (x207,x215))) (fun acc p=>rfl) (b.length+1) [] at_ (by simp) ha (by omega) n hn
 rw [h1,bd_some]
 unfold g_Y at h2
 unfold g_Z
 cases ho:c_L b t (b.length+1) [] at_ with
 | none=>rw [ho] at h2;obtain ⟨x,rfl⟩:=h2;rfl
 | some x=>rw [ho] at h2;simp only at h2;subst h2;rfl
theorem n_T (n:Nat) (b:List UInt8) (at_:Nat) (t:UInt8) (hb:b.length≤MX) (ha:at_≤b.length) (hn:b.length+1≤n):f_B n b at_ t=some (g_Z (c_g b at_ t) at_):=by
 unfold f_B c_g
 have hin:a_I (at_:Int) 0 (b.length:Int)=some true:=by
  rw [b_n,dT_ (show (0:Int)≤(at_:Int) by omega),dT_ (show (at_:Int)≤(b.length:Int) by omega)];rfl
 obtain ⟨s,h1,h2⟩:=k_D b t hb (un2 fun x210 x218=>bd (α:=Bool) (bd (a_I (at_:Int) 0 (b.length:Int)) fun r255=>if r255=true then some (decide<|x218<(b.length:Int)) else some false) (fun x246=>if x246=true then bd (idx b x218) fun x354=>if ((byteI x354)==(byteI t))=true then some (.ret (x210,j_ x218 1,true)) else bd (idx b x218) fun x382=>bd (α:=Sum Int<|Out ((List UInt8)×Int)<|(List UInt8)×Int×Bool) (if ((byteI x382)==(byteI (92:UInt8)))=true then if ((j_ x218 1)==(b.length:Int))=true then some (.inr<|.brk (x210,j_ x218 1)) else some (.inl<|j_ x218 1) else some (.inl x218)) (el (fun x403=>bd (idx b x403) fun x433=>bd (psh x210 x433) fun x460=>some<|.next (x460,j_ x403 1)) some) else some (.brk (x210,x218)))) (fun acc p=>by simp only [un2,hin,bd_some,fT_]) (b.length+1) [] at_ (by simp) ha (by omega) n hn
 rw [h1,bd_some]
 unfold g_Y at h2
 unfold g_Z
 cases ho:c_L b t (b.length+1) [] at_ with
 | none=>rw [ho] at h2;obtain ⟨x,rfl⟩:=h2;rfl
 | some x=>rw [ho] at h2;simp only at h2;subst h2;rfl
theorem h_0 {b:List UInt8} {t:UInt8} : ∀ f acc p c q,c_L b t f acc p=some (c,q)→p<q∧q≤b.length
 | 0,_,_,_,_,h=>by cases h
 | f+1,acc,p,c,q,h=>by
  unfold c_L at h
  by_cases hlt:p<b.length
  ·rw [gG_ hlt] at h
   simp only at h
   split at h
   ·cases h;omega
   ·split at h
    ·by_cases hl:p+1<b.length
     ·rw [gG_ hl] at h
      have:=h_0 f _ _ _ _ h
      omega
     ·rw [gN_ (by omega)] at h
      cases h
    ·have:=h_0 f _ _ _ _ h
     omega
  ·rw [gN_ (by omega)] at h
   cases h
end Go.Vw
