
import Derived.Test.YtelphaiofendpaaGreatDoorVwP1
namespace Go.Vw
open Go.RowKit Dat
def b_S (n:Int)(c:UInt8):Int:=n * 256+byteI c
def d_T (bs:Bt)(little:Bool):Int:=(if little then bs.reverse else bs).foldl b_S 0
theorem e_p {α β:Type}(f:β->α->β)(a:β){l:List α}{k:Nat}(h:k<l.length):(l.take<|k+1).foldl f a=f ((l.take k).foldl f a) l[k]:=by
 rw [List.take_add_one,gG_ h,Option.toList_some,List.foldl_append];rfl
theorem n_h (l:Bt):0<=l.foldl b_S 0/\l.foldl b_S 0<256 ^ l.length:=by
 have:∀k,k<=l.length->0<=(l.take k).foldl b_S 0/\(l.take k).foldl b_S 0<256 ^ k:=by
  intro k
  induction k with
  | zero=>intro _;simp
  | succ k ih =>
   intro hk;obtain ⟨h1,h2⟩:=ih (by omega)
   rw [e_p b_S 0 (show k<l.length by omega)]
   have h3:=f_t l[k];have h4:=f_u l[k];generalize (l.take k).foldl b_S 0=z at *
   unfold b_S
   rw [Int.pow_succ]
   omega
 have h:=this l.length<|Nat.le_refl _
 simpa using h
theorem j_m (l:Bt)(h:l.length<=4):0<=l.foldl b_S 0/\l.foldl b_S 0<4294967296:=by
 obtain ⟨h1,h2⟩:=n_h l;refine ⟨h1,?_⟩;have:l.length=0∨l.length=1∨l.length=2∨l.length=3∨l.length=4:=by omega
 rcases this with h | h | h | h | h <;> rw [h] at h2 <;> omega
theorem r_I (bs:Bt)(e:Bool)(h:bs.length<=4):0<=d_T bs e/\d_T bs e<4294967296:=by
 unfold d_T
 cases e
 .exact j_m bs h
 .exact j_m bs.reverse (by simpa using h)
theorem n_i {bs:Bt}{k:Nat}(hk:k<bs.length)(hb:bs.length<=4)(e:Bool):idx bs (if e then Q_ (Q_ (bs.length:Int) 1) (k:Int) else (k:Int))=some ((if e then bs.reverse else bs)[k]'(by cases e <;> simpa using hk)):=by
 cases e
 .exact ix_ hk
 .rw [iP_ rfl,b_3 (x:=(bs.length:Int)) (by omega) (by omega),b_3 (by omega) (by omega),e_u (by omega) (by omega)]
  simp only [fT_]
  rw [List.getElem_reverse]
  congr 2
  omega
theorem r_J (bs:Bt)(e:Bool)(hb:bs.length<=4):h_y bs e=some (d_T bs e):=by
 unfold h_y
 rw [dF_ (show ¬(4:Int)<(bs.length:Int) by omega)]
 have hl:(if e then bs.reverse else bs).length=bs.length:=by cases e <;> simp
 have h:=d_w (n:=bs.length) (σ:=Int) (ρ:=Int) (body:=(λG=>(λI=>bd (α:=Int) (if e then some (Q_ (Q_ (bs.length:Int) 1) ((G:Nat):Int)) else some ((G:Nat):Int))<|λJ=>bd (idx bs J) λH=>some<|.next<|i_ (a_f I 256)<|byteI H)))
  (λk=>((if e then bs.reverse else bs).take k).foldl b_S 0) (λj hj=>by
   have L:=j_m ((if e then bs.reverse else bs).take j) (by simp;omega)
   rw [r_b,bd_some,n_i hj hb e,bd_some,e_p b_S 0 (by rw [hl];exact hj)]
   generalize (if e then bs.reverse else bs)[j]'(by rw [hl];exact hj)=c at *
   have h3:=f_t c;have h4:=f_u c
   rw [d_7 (by omega) (by omega),ia_ (by omega) (by omega)]
   rfl)
 simp only [List.take_zero,List.foldl_nil] at h
 rw [h]
 simp only [bF_,fF_,bd_some,el_inl]
 unfold d_T
 rw [List.take_of_length_le (by omega)]
theorem n_j {n:Int}{c:UInt8}(G:0<=n)(h1:n<4294967296):a_B .i64 (· ||| ·) (b_Q .i64 n 8) (byteI c)=b_S n c:=by
 have e:b_Q .i64 n 8=n * 256:=by
  unfold b_Q
  rw [show (min (8:Int).toNat IntKind.i64.bits)=8 from rfl,IntKind.wrap_i64]
  omega
 rw [e]
 unfold a_B b_S;obtain ⟨m,rfl⟩:=Int.eq_ofNat_of_zero_le G;have hc:=c.toNat_lt;have hm:m<4294967296:=by omega
 have H:BitVec.ofInt IntKind.i64.bits ((m:Int) * 256)=BitVec.ofNat 64 (m * 256):=by
  rw [show ((m:Int) * 256)=((m * 256:Nat):Int) by omega];exact BitVec.ofInt_natCast 64 _
 have I:BitVec.ofInt IntKind.i64.bits (byteI c)=BitVec.ofNat 64 c.toNat:=by
  unfold byteI;exact BitVec.ofInt_natCast 64 _
 show IntKind.i64.wrap ((BitVec.ofInt IntKind.i64.bits ((m:Int) * 256) ||| BitVec.ofInt IntKind.i64.bits (byteI c)).toNat:Int)=_
 rw [H,I]
 have J:(BitVec.ofNat 64 (m * 256) ||| BitVec.ofNat 64 c.toNat).toNat=m * 256+c.toNat:=by
  rw [BitVec.toNat_or,BitVec.toNat_ofNat,BitVec.toNat_ofNat,Nat.mod_eq_of_lt (by omega),Nat.mod_eq_of_lt (by omega)]
  have:=Nat.shiftLeft_add_eq_or_of_lt (i:=8) (b:=c.toNat) (by omega) m
  rw [Nat.shiftLeft_eq] at this
  exact this.symm
 have L:((BitVec.ofNat 64 (m * 256) ||| BitVec.ofNat 64 c.toNat:BitVec IntKind.i64.bits).toNat:Int)=(m:Int) * 256+(c.toNat:Int):=by
  rw [show (BitVec.ofNat 64 (m * 256) ||| BitVec.ofNat 64 c.toNat:BitVec IntKind.i64.bits).toNat=m * 256+c.toNat from J];omega
 refine (congrArg IntKind.i64.wrap L).trans ?_
 rw [IntKind.wrap_i64]
 unfold byteI
 omega
theorem l_f (bs:Bt)(e:Bool)(hb:bs.length<=4):f_e bs e=some (d_T bs e):=by
 unfold f_e
 rw [dF_ (show ¬(4:Int)<(bs.length:Int) by omega)]
 have hl:(if e then bs.reverse else bs).length=bs.length:=by cases e <;> simp
 have h:=d_w (n:=bs.length) (σ:=Int) (ρ:=Int) (body:=(λH=>(λI=>bd (α:=Int) (if e then bd (idx bs<|Q_ (Q_ (bs.length:Int) 1) ((H:Nat):Int)) λJ=>some (a_B .i64 (· ||| ·) (b_Q .i64 I 8)<|byteI J) else bd (idx bs ((H:Nat):Int)) λL=>some<|a_B .i64 (· ||| ·) (b_Q .i64 I 8)<|byteI L)<|λO=>some<|.next O)))
  (λk=>((if e then bs.reverse else bs).take k).foldl b_S 0) (λj hj=>by
   have G:=j_m ((if e then bs.reverse else bs).take j) (by simp;omega);have hbt:=n_i hj hb e
   rw [e_p b_S 0 (by rw [hl];exact hj)]
   cases e
   .simp only [bF_,fF_] at hbt G ⊢
    rw [hbt,bd_some,bd_some,n_j G.1 G.2]
   .simp only [fT_] at hbt G ⊢
    rw [hbt,bd_some,bd_some,n_j G.1 G.2])
 simp only [List.take_zero,List.foldl_nil] at h
 rw [h]
 simp only [bF_,fF_,bd_some,el_inl]
 unfold d_T
 rw [List.take_of_length_le (by omega)]
def c_N (n:Int)(c:UInt8):Int:=n+byteI c
def c_7 (bs:Bt):Int:=bs.foldl c_N 0 % 256
theorem l_g (bs:Bt)(k:Nat)(hk:k<=bs.length):0<=(bs.take k).foldl c_N 0/\(bs.take k).foldl c_N 0<=256 * k:=by
 induction k with
 | zero=>simp
 | succ k ih =>
  obtain ⟨h1,h2⟩:=ih (by omega)
  rw [e_p c_N 0 (show k<bs.length by omega)]
  have h3:=f_t bs[k];have h4:=f_u bs[k];generalize (bs.take k).foldl c_N 0=z at *
  unfold c_N
  omega
theorem n_k (bs:Bt)(hb:bs.length<=MX):g_g bs=some (c_7 bs):=by
 have hMX:MX=1048576:=rfl;unfold g_g c_7
 have h:=d_w (n:=bs.length) (σ:=Int) (ρ:=Int) (body:=(λG=>(λH=>bd (idx bs ((G:Nat):Int)) λI=>some (.next (i_ H (byteI I)))))) (λk=>(bs.take k).foldl c_N 0) (λj hj=>by
  have hbd:=l_g bs j (by omega);have h3:=f_t bs[j];have h4:=f_u bs[j]
  rw [ix_ hj,bd_some,e_p c_N 0 hj,ia_ (by omega) (by omega)]
  rfl)
 simp only [List.take_zero,List.foldl_nil] at h
 rw [h]
 have hbd:=l_g bs bs.length<|Nat.le_refl _
 rw [List.take_of_length_le (Nat.le_refl _)] at hbd ⊢
 simp only [bd_some,el_inl]
 rw [j_G hbd.1]
theorem n_l (bs:Bt):g_8 bs=some (c_7 bs):=by
 have hMX:MX=1048576:=rfl;unfold g_8 c_7
 have h:=d_w (n:=bs.length) (σ:=Int) (ρ:=Int) (body:=(λG=>(λH=>bd (idx bs ((G:Nat):Int)) λI=>some (.next (b_2 (i_ H (byteI I)) 256))))) (λk=>(bs.take k).foldl c_N 0 % 256) (λj hj=>by
  have hbd:=l_g bs j (by omega);have h3:=f_t bs[j];have h4:=f_u bs[j]
  rw [ix_ hj,bd_some,e_p c_N 0 hj,ia_ (by omega) (by omega),j_G (by omega)]
  generalize (bs.take j).foldl c_N 0=z at *
  unfold c_N
  congr 2
  omega)
 simp only [List.take_zero,List.foldl_nil] at h
 rw [show ((0:Int) % 256)=0 from rfl] at h
 rw [h]
 rw [List.take_of_length_le (Nat.le_refl _)]
 rfl
def d_0 (b:Bt)(t:UInt8):Nat->Bt->Nat->Option (Bt×Nat)
 | 0,_,_=>none
 | f+1,acc,p=>match b[p]? with
  | none=>none
  | some c=>if c=t then some (acc,p+1) else if c=92 then (match b[p+1]? with
    | none=>none
    | some c'=>d_0 b t f (acc++[c']) (p+2)) else d_0 b t f (acc++[c]) (p+1)
def j_n (o:Option (Bt×Nat)):Sum (Bt×Int) (Bt×Int×Bool)->Prop:=λs=>match o with
 | some (c,q)=>s = .inr (c,(q:Int),true)
 | none=>∃x,s = .inl x
def c_x (b:Bt)(at_:Nat)(t:UInt8):Option (Bt×Nat):=d_0 b t (b.length+1) [] at_
theorem f_1 (a c:UInt8):(byteI a==byteI c)=decide (a=c):=by
 rw [Bool.eq_iff_iff];simp only [beq_iff_eq,dE_];exact s_R
theorem n_m (b:Bt)(t:UInt8)(hb:b.length<=MX)(step:Bt×Int->Option (Out (Bt×Int)<|Bt×Int×Bool))
  (hstep:∀acc (p:Nat),step (acc,(p:Int))=if decide ((p:Int)<(b.length:Int)) then bd (idx b (p:Int)) λI=>if ((byteI I)==(byteI t)) then some (.ret (acc,i_ (p:Int) 1,true)) else bd (idx b (p:Int)) λJ=>bd (α:=Sum Int<|Out (Bt×Int)<|Bt×Int×Bool) (if ((byteI J)==(byteI (92:UInt8))) then if ((i_ (p:Int) 1)==(b.length:Int)) then some (.inr<|.brk (acc,i_ (p:Int) 1)) else some (.inl<|i_ (p:Int) 1) else some (.inl (p:Int))) (el (λH=>bd (idx b H) λL=>bd (psh acc L) λO=>some<|.next (O,i_ H 1)) some) else some (.brk (acc,(p:Int)))) :
  ∀f acc p,acc.length<=p->p<=b.length->b.length<p+f->∀n,f<=n->∃s,a_5 step n (acc,(p:Int))=some s/\j_n (d_0 b t f acc p) s:=by
 have hMX:MX=1048576:=rfl;have hLIM:LIM=4294967296:=rfl;intro f
 induction f with
 | zero=>intro acc p _ _ h;omega
 | succ f ih =>
  intro acc p hacc hp hf n hn;obtain ⟨m,rfl⟩:∃m,n=m+1:=⟨n - 1,by omega⟩;unfold a_5 d_0
  rw [hstep]
  by_cases hlt:p<b.length
  .rw [dT_ (show (p:Int)<(b.length:Int) by omega),ix_ hlt,gG_ hlt]
   simp only [fT_,bd_some,f_1]
   rw [ia_ (x:=(p:Int)) (by omega) (by omega)]
   by_cases ht:b[p]=t
   .rw [dT_ ht,iP_ rfl,iP_ ht]
    exact ⟨_,rfl,by simp [j_n]⟩
   .rw [dF_ ht,iN_ (by simp),iN_ ht]
    by_cases he:b[p]=92
    .rw [dT_ he,iP_ rfl,iP_ he]
     by_cases hl:p+1<b.length
     .have G:((p:Int)+1==(b.length:Int))=false:=by simp;omega
      rw [G,gG_ hl]
      simp only [bF_,fF_,bd_some,el_inl]
      rw [show (p:Int)+1=((p+1:Nat):Int) by omega,ix_ hl,bd_some,a_V (by omega),bd_some,ia_ (by omega) (by omega)]
      obtain ⟨s,h1,h2⟩:=ih (acc++[b[p+1]]) (p+2) (by simp;omega) (by omega) (by omega) m (by omega);refine ⟨s,?_,h2⟩
      rw [← h1]
      simp only
      congr 2
     .have G:((p:Int)+1==(b.length:Int))=true:=by simp;omega
      rw [G,gN_ (by omega)]
      exact ⟨_,rfl,_,rfl⟩
    .rw [dF_ he,iN_ (by simp),iN_ he]
     simp only [bd_some,el_inl]
     rw [ix_ hlt,bd_some,a_V (by omega),bd_some,ia_ (by omega) (by omega)]
     obtain ⟨s,h1,h2⟩:=ih (acc++[b[p]]) (p+1) (by simp;omega) (by omega) (by omega) m (by omega);refine ⟨s,?_,h2⟩
     rw [← h1]
     simp only
     congr 2
  .rw [dF_ (show ¬(p:Int)<(b.length:Int) by omega),gN_ (by omega)]
   exact ⟨_,rfl,_,rfl⟩
def j_o (o:Option (Bt×Nat))(at_:Nat):Bt×Int×Bool:=match o with
 | some (c,q)=>(c,(q:Int),true)
 | none=>([],(at_:Int),false)
theorem n_n (n:Nat)(b:Bt)(at_:Nat)(t:UInt8)(hb:b.length<=MX)(ha:at_<=b.length)(hn:b.length+1<=n):g_h n b at_ t=some (j_o (c_x b at_ t) at_):=by
 unfold g_h c_x
 rw [dF_ (show ¬(at_:Int)<0 by omega),dF_ (show ¬(b.length:Int)<(at_:Int) by omega)]
 simp only [bF_,fF_,bd_some]
 obtain ⟨s,h1,h2⟩:=n_m b t hb (un2 λH G=>if (decide<|G<(b.length:Int)) then bd (idx b G) λJ=>if ((byteI J)==(byteI t)) then some (.ret (H,i_ G 1,true)) else bd (idx b G) λL=>bd (α:=Sum Int<|Out (Bt×Int)<|Bt×Int×Bool) (if ((byteI L)==(byteI (92:UInt8))) then if ((i_ G 1)==(b.length:Int)) then some (.inr<|.brk (H,i_ G 1)) else some (.inl<|i_ G 1) else some (.inl G)) (el (λI=>bd (idx b I) λO=>bd (psh H O) λV=>some<|.next (V,i_ I 1)) some) else some (.brk (H,G))) (λacc p=>rfl) (b.length+1) [] at_ (by simp) ha (by omega) n hn
 rw [h1,bd_some]
 unfold j_n at h2
 unfold j_o
 cases ho:d_0 b t (b.length+1) [] at_ with
 | none=>rw [ho] at h2;obtain ⟨x,rfl⟩:=h2;rfl
 | some x=>rw [ho] at h2;simp only at h2;subst h2;rfl
theorem r_K (n:Nat)(b:Bt)(at_:Nat)(t:UInt8)(hb:b.length<=MX)(ha:at_<=b.length)(hn:b.length+1<=n):h_A n b at_ t=some (j_o (c_x b at_ t) at_):=by
 unfold h_A c_x
 have hin:a_Y (at_:Int) 0 (b.length:Int)=some true:=by
  rw [b_E,dT_ (show (0:Int)<=(at_:Int) by omega),dT_ (show (at_:Int)<=(b.length:Int) by omega)];rfl
 obtain ⟨s,h1,h2⟩:=n_m b t hb (un2 λH G=>bd (α:=Bool) (bd (a_Y (at_:Int) 0 (b.length:Int)) λJ=>if J then some (decide<|G<(b.length:Int)) else some false) (λL=>if L then bd (idx b G) λO=>if ((byteI O)==(byteI t)) then some (.ret (H,i_ G 1,true)) else bd (idx b G) λV=>bd (α:=Sum Int<|Out (Bt×Int)<|Bt×Int×Bool) (if ((byteI V)==(byteI (92:UInt8))) then if ((i_ G 1)==(b.length:Int)) then some (.inr<|.brk (H,i_ G 1)) else some (.inl<|i_ G 1) else some (.inl G)) (el (λI=>bd (idx b I) λW=>bd (psh H W) λY=>some<|.next (Y,i_ I 1)) some) else some (.brk (H,G)))) (λacc p=>by simp only [un2,hin,bd_some,fT_]) (b.length+1) [] at_ (by simp) ha (by omega) n hn
 rw [h1,bd_some]
 unfold j_n at h2
 unfold j_o
 cases ho:d_0 b t (b.length+1) [] at_ with
 | none=>rw [ho] at h2;obtain ⟨x,rfl⟩:=h2;rfl
 | some x=>rw [ho] at h2;simp only at h2;subst h2;rfl
theorem j_p {b:Bt}{t:UInt8}:∀f acc p c q,d_0 b t f acc p=some (c,q)->p<q/\q<=b.length
 | 0,_,_,_,_,h=>by cases h
 | f+1,acc,p,c,q,h=>by
  unfold d_0 at h
  by_cases hlt:p<b.length
  .rw [gG_ hlt] at h
   simp only at h
   split at h
   .cases h;omega
   .split at h
    .by_cases hl:p+1<b.length
     .rw [gG_ hl] at h
      have:=j_p f _ _ _ _ h
      omega
     .rw [gN_ (by omega)] at h
      cases h
    .have:=j_p f _ _ _ _ h
     omega
  .rw [gN_ (by omega)] at h
   cases h
end Go.Vw
