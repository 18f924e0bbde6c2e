
import Derived.Test.YtnncfaaebnkcbaaGreatDoorVwP1
namespace Go.Vw
open Go.RowKit Dat
def b_J (n:Int)(c:UInt8):Int:=n * 256+byteI c
def e_3 (bs:List UInt8)(little:Bool):Int:=(if little=true then bs.reverse else bs).foldl b_J 0
theorem e_4 {α β:Type}(f:β->α->β)(a:β){l:List α}{k:Nat}(h:k<l.length):(l.take<|k+1).foldl f a=f ((l.take k).foldl f a) l[k]:=by
 rw [List.take_add_one,gG_ h,Option.toList_some,List.foldl_append];rfl
theorem q_2 (l:List UInt8):0<=l.foldl b_J 0/\l.foldl b_J 0<256 ^ l.length:=by
 have:∀k,k<=l.length->0<=(l.take k).foldl b_J 0/\(l.take k).foldl b_J 0<256 ^ k:=by
  intro k
  induction k with
  | zero=>intro _;simp
  | succ k ih =>
   intro hk;obtain ⟨h1,h2⟩:=ih (by omega)
   rw [e_4 b_J 0 (show k<l.length by omega)]
   have h3:=f_i l[k];have h4:=f_j l[k];generalize (l.take k).foldl b_J 0=z at *
   unfold b_J
   rw [Int.pow_succ]
   omega
 have h:=this l.length<|Nat.le_refl _
 simpa using h
theorem i_o (l:List UInt8)(h:l.length<=4):0<=l.foldl b_J 0/\l.foldl b_J 0<4294967296:=by
 obtain ⟨h1,h2⟩:=q_2 l;refine ⟨h1,?_⟩;have:l.length=0∨l.length=1∨l.length=2∨l.length=3∨l.length=4:=by omega
 rcases this with h | h | h | h | h <;> rw [h] at h2 <;> omega
theorem q_3 (bs:List UInt8)(e:Bool)(h:bs.length<=4):0<=e_3 bs e/\e_3 bs e<4294967296:=by
 unfold e_3
 cases e
 ·exact i_o bs h
 ·exact i_o bs.reverse (by simpa using h)
theorem m_m {bs:List UInt8}{k:Nat}(hk:k<bs.length)(hb:bs.length<=4)(e:Bool):idx bs (if e=true then q_ (q_ (bs.length:Int) 1) (k:Int) else (k:Int))=some ((if e=true then bs.reverse else bs)[k]'(by cases e <;> simpa using hk)):=by
 cases e
 ·exact ix_ hk
 ·rw [iP_ rfl,b_s (x:=(bs.length:Int)) (by omega) (by omega),b_s (by omega) (by omega),i_z (by omega) (by omega)]
  simp only [fT_]
  rw [List.getElem_reverse]
  congr 2
  omega
theorem q_4 (bs:List UInt8)(e:Bool)(hb:bs.length<=4):h_6 bs e=some (e_3 bs e):=by
 unfold h_6
 rw [dF_ (show ¬(4:Int)<(bs.length:Int) by omega)]
 have hl:(if e=true then bs.reverse else bs).length=bs.length:=by cases e <;> simp
 have h:=c_g (n:=bs.length) (σ:=Int) (ρ:=Int) (body:=(fun G=>(fun I=>bd (α:=Int) (if e=true then some (q_ (q_ (bs.length:Int) 1) ((G:Nat):Int)) else some ((G:Nat):Int))<|fun J=>bd (idx bs J) fun H=>some<|.next<|i_ (a_m I 256)<|byteI H)))
  (fun k=>((if e=true then bs.reverse else bs).take k).foldl b_J 0) (fun j hj=>by
   have L:=i_o ((if e=true then bs.reverse else bs).take j) (by simp;omega)
   rw [p_1,bd_some,m_m hj hb e,bd_some,e_4 b_J 0 (by rw [hl];exact hj)]
   generalize (if e=true then bs.reverse else bs)[j]'(by rw [hl];exact hj)=c at *
   have h3:=f_i c;have h4:=f_j c
   rw [g_K (by omega) (by omega),ia_ (by omega) (by omega)]
   rfl)
 simp only [List.take_zero,List.foldl_nil] at h
 rw [h]
 simp only [bF_,fF_,bd_some,el_inl]
 unfold e_3
 rw [List.take_of_length_le (by omega)]
theorem m_n {n:Int}{c:UInt8}(G:0<=n)(h1:n<4294967296):c_C .i64 (· ||| ·) (b_j .i64 n 8) (byteI c)=b_J n c:=by
 have e:b_j .i64 n 8=n * 256:=by
  unfold b_j
  rw [show (min (8:Int).toNat IntKind.i64.bits)=8 from rfl,IntKind.wrap_i64]
  omega
 rw [e]
 unfold c_C b_J;obtain ⟨m,rfl⟩:=Int.eq_ofNat_of_zero_le G;have hc:=c.toNat_lt;have hm:m<4294967296:=by omega
 have H:BitVec.ofInt IntKind.i64.bits ((m:Int) * 256)=BitVec.ofNat 64 (m * 256):=by
  rw [show ((m:Int) * 256)=((m * 256:Nat):Int) by omega];exact BitVec.ofInt_natCast 64 _
 have I:BitVec.ofInt IntKind.i64.bits (byteI c)=BitVec.ofNat 64 c.toNat:=by
  unfold byteI;exact BitVec.ofInt_natCast 64 _
 show IntKind.i64.wrap ((BitVec.ofInt IntKind.i64.bits ((m:Int) * 256) ||| BitVec.ofInt IntKind.i64.bits (byteI c)).toNat:Int)=_
 rw [H,I]
 have J:(BitVec.ofNat 64 (m * 256) ||| BitVec.ofNat 64 c.toNat).toNat=m * 256+c.toNat:=by
  rw [BitVec.toNat_or,BitVec.toNat_ofNat,BitVec.toNat_ofNat,Nat.mod_eq_of_lt (by omega),Nat.mod_eq_of_lt (by omega)]
  have:=Nat.shiftLeft_add_eq_or_of_lt (i:=8) (b:=c.toNat) (by omega) m
  rw [Nat.shiftLeft_eq] at this
  exact this.symm
 have L:((BitVec.ofNat 64 (m * 256) ||| BitVec.ofNat 64 c.toNat:BitVec IntKind.i64.bits).toNat:Int)=(m:Int) * 256+(c.toNat:Int):=by
  rw [show (BitVec.ofNat 64 (m * 256) ||| BitVec.ofNat 64 c.toNat:BitVec IntKind.i64.bits).toNat=m * 256+c.toNat from J];omega
 refine (congrArg IntKind.i64.wrap L).trans ?_
 rw [IntKind.wrap_i64]
 unfold byteI
 omega
theorem q_5 (bs:List UInt8)(e:Bool)(hb:bs.length<=4):h_m bs e=some (e_3 bs e):=by
 unfold h_m
 rw [dF_ (show ¬(4:Int)<(bs.length:Int) by omega)]
 have hl:(if e=true then bs.reverse else bs).length=bs.length:=by cases e <;> simp
 have h:=c_g (n:=bs.length) (σ:=Int) (ρ:=Int) (body:=(fun H=>(fun I=>bd (α:=Int) (if e=true then bd (idx bs<|q_ (q_ (bs.length:Int) 1) ((H:Nat):Int)) fun J=>some (c_C .i64 (· ||| ·) (b_j .i64 I 8)<|byteI J) else bd (idx bs ((H:Nat):Int)) fun L=>some<|c_C .i64 (· ||| ·) (b_j .i64 I 8)<|byteI L)<|fun O=>some<|.next O)))
  (fun k=>((if e=true then bs.reverse else bs).take k).foldl b_J 0) (fun j hj=>by
   have G:=i_o ((if e=true then bs.reverse else bs).take j) (by simp;omega);have hbt:=m_m hj hb e
   rw [e_4 b_J 0 (by rw [hl];exact hj)]
   cases e
   ·simp only [bF_,fF_] at hbt G ⊢
    rw [hbt,bd_some,bd_some,m_n G.1 G.2]
   ·simp only [fT_] at hbt G ⊢
    rw [hbt,bd_some,bd_some,m_n G.1 G.2])
 simp only [List.take_zero,List.foldl_nil] at h
 rw [h]
 simp only [bF_,fF_,bd_some,el_inl]
 unfold e_3
 rw [List.take_of_length_le (by omega)]
def c_p (n:Int)(c:UInt8):Int:=n+byteI c
def c_6 (bs:List UInt8):Int:=bs.foldl c_p 0 % 256
theorem j_S (bs:List UInt8)(k:Nat)(hk:k<=bs.length):0<=(bs.take k).foldl c_p 0/\(bs.take k).foldl c_p 0<=256 * k:=by
 induction k with
 | zero=>simp
 | succ k ih =>
  obtain ⟨h1,h2⟩:=ih (by omega)
  rw [e_4 c_p 0 (show k<bs.length by omega)]
  have h3:=f_i bs[k];have h4:=f_j bs[k];generalize (bs.take k).foldl c_p 0=z at *
  unfold c_p
  omega
theorem m_o (bs:List UInt8)(hb:bs.length<=MX):f_9 bs=some (c_6 bs):=by
 have hMX:MX=1048576:=rfl;unfold f_9 c_6
 have h:=c_g (n:=bs.length) (σ:=Int) (ρ:=Int) (body:=(fun G=>(fun H=>bd (idx bs ((G:Nat):Int)) fun I=>some (.next (i_ H (byteI I)))))) (fun k=>(bs.take k).foldl c_p 0) (fun j hj=>by
  have hbd:=j_S bs j (by omega);have h3:=f_i bs[j];have h4:=f_j bs[j]
  rw [ix_ hj,bd_some,e_4 c_p 0 hj,ia_ (by omega) (by omega)]
  rfl)
 simp only [List.take_zero,List.foldl_nil] at h
 rw [h]
 have hbd:=j_S bs bs.length<|Nat.le_refl _
 rw [List.take_of_length_le (Nat.le_refl _)] at hbd ⊢
 simp only [bd_some,el_inl]
 rw [i_y hbd.1]
theorem m_p (bs:List UInt8):f_P bs=some (c_6 bs):=by
 have hMX:MX=1048576:=rfl;unfold f_P c_6
 have h:=c_g (n:=bs.length) (σ:=Int) (ρ:=Int) (body:=(fun G=>(fun H=>bd (idx bs ((G:Nat):Int)) fun I=>some (.next (a_R (i_ H (byteI I)) 256))))) (fun k=>(bs.take k).foldl c_p 0 % 256) (fun j hj=>by
  have hbd:=j_S bs j (by omega);have h3:=f_i bs[j];have h4:=f_j bs[j]
  rw [ix_ hj,bd_some,e_4 c_p 0 hj,ia_ (by omega) (by omega),i_y (by omega)]
  generalize (bs.take j).foldl c_p 0=z at *
  unfold c_p
  congr 2
  omega)
 simp only [List.take_zero,List.foldl_nil] at h
 rw [show ((0:Int) % 256)=0 from rfl] at h
 rw [h]
 rw [List.take_of_length_le (Nat.le_refl _)]
 rfl
def c_L (b:List UInt8)(t:UInt8):Nat->List UInt8->Nat->Option (List UInt8×Nat)
 | 0,_,_=>none
 | f+1,acc,p=>match b[p]? with
  | none=>none
  | some c=>if c=t then some (acc,p+1) else if c=92 then (match b[p+1]? with
    | none=>none
    | some c'=>c_L b t f (acc++[c']) (p+2)) else c_L b t f (acc++[c]) (p+1)
def i_p (o:Option (List UInt8×Nat)):Sum (List UInt8×Int) (List UInt8×Int×Bool)->Prop:=fun s=>match o with
 | some (c,q)=>s = .inr (c,(q:Int),true)
 | none=>∃x,s = .inl x
def c_M (b:List UInt8)(at_:Nat)(t:UInt8):Option (List UInt8×Nat):=c_L b t (b.length+1) [] at_
theorem beqB (a c:UInt8):(byteI a==byteI c)=decide (a=c):=by
 rw [Bool.eq_iff_iff];simp only [beq_iff_eq,dE_];exact q_W
theorem m_q (b:List UInt8)(t:UInt8)(hb:b.length<=MX)(step:List UInt8×Int->Option (Out (List UInt8×Int)<|List UInt8×Int×Bool))
  (hstep:∀acc (p:Nat),step (acc,(p:Int))=if decide ((p:Int)<(b.length:Int))=true then bd (idx b (p:Int)) fun I=>if ((byteI I)==(byteI t))=true then some (.ret (acc,i_ (p:Int) 1,true)) else bd (idx b (p:Int)) fun J=>bd (α:=Sum Int<|Out ((List UInt8)×Int)<|(List UInt8)×Int×Bool) (if ((byteI J)==(byteI (92:UInt8)))=true then if ((i_ (p:Int) 1)==(b.length:Int))=true then some (.inr<|.brk (acc,i_ (p:Int) 1)) else some (.inl<|i_ (p:Int) 1) else some (.inl (p:Int))) (el (fun H=>bd (idx b H) fun L=>bd (psh acc L) fun O=>some<|.next (O,i_ H 1)) some) else some (.brk (acc,(p:Int)))) :
  ∀f acc p,acc.length<=p->p<=b.length->b.length<p+f->∀n,f<=n->∃s,H_ step n (acc,(p:Int))=some s/\i_p (c_L b t f acc p) s:=by
 have hMX:MX=1048576:=rfl;have hLIM:LIM=4294967296:=rfl;intro f
 induction f with
 | zero=>intro acc p _ _ h;omega
 | succ f ih =>
  intro acc p hacc hp hf n hn;obtain ⟨m,rfl⟩:∃m,n=m+1:=⟨n - 1,by omega⟩;unfold H_ c_L
  rw [hstep]
  by_cases hlt:p<b.length
  ·rw [dT_ (show (p:Int)<(b.length:Int) by omega),ix_ hlt,gG_ hlt]
   simp only [fT_,bd_some,beqB]
   rw [ia_ (x:=(p:Int)) (by omega) (by omega)]
   by_cases ht:b[p]=t
   ·rw [dT_ ht,iP_ rfl,iP_ ht]
    exact ⟨_,rfl,by simp [i_p]⟩
   ·rw [dF_ ht,iN_ (by simp),iN_ ht]
    by_cases he:b[p]=92
    ·rw [dT_ he,iP_ rfl,iP_ he]
     by_cases hl:p+1<b.length
     ·have G:((p:Int)+1==(b.length:Int))=false:=by simp;omega
      rw [G,gG_ hl]
      simp only [bF_,fF_,bd_some,el_inl]
      rw [show (p:Int)+1=((p+1:Nat):Int) by omega,ix_ hl,bd_some,a_Z (by omega),bd_some,ia_ (by omega) (by omega)]
      obtain ⟨s,h1,h2⟩:=ih (acc++[b[p+1]]) (p+2) (by simp;omega) (by omega) (by omega) m (by omega);refine ⟨s,?_,h2⟩
      rw [← h1]
      simp only
      congr 2
     ·have G:((p:Int)+1==(b.length:Int))=true:=by simp;omega
      rw [G,gN_ (by omega)]
      exact ⟨_,rfl,_,rfl⟩
    ·rw [dF_ he,iN_ (by simp),iN_ he]
     simp only [bd_some,el_inl]
     rw [ix_ hlt,bd_some,a_Z (by omega),bd_some,ia_ (by omega) (by omega)]
     obtain ⟨s,h1,h2⟩:=ih (acc++[b[p]]) (p+1) (by simp;omega) (by omega) (by omega) m (by omega);refine ⟨s,?_,h2⟩
     rw [← h1]
     simp only
     congr 2
  ·rw [dF_ (show ¬(p:Int)<(b.length:Int) by omega),gN_ (by omega)]
   exact ⟨_,rfl,_,rfl⟩
def i_q (o:Option (List UInt8×Nat))(at_:Nat):List UInt8×Int×Bool:=match o with
 | some (c,q)=>(c,(q:Int),true)
 | none=>([],(at_:Int),false)
theorem q_6 (n:Nat)(b:List UInt8)(at_:Nat)(t:UInt8)(hb:b.length<=MX)(ha:at_<=b.length)(hn:b.length+1<=n):h_n n b at_ t=some (i_q (c_M b at_ t) at_):=by
 unfold h_n c_M
 rw [dF_ (show ¬(at_:Int)<0 by omega),dF_ (show ¬(b.length:Int)<(at_:Int) by omega)]
 simp only [bF_,fF_,bd_some]
 obtain ⟨s,h1,h2⟩:=m_q b t hb (un2 fun H G=>if (decide<|G<(b.length:Int))=true then bd (idx b G) fun J=>if ((byteI J)==(byteI t))=true then some (.ret (H,i_ G 1,true)) else bd (idx b G) fun L=>bd (α:=Sum Int<|Out ((List UInt8)×Int)<|(List UInt8)×Int×Bool) (if ((byteI L)==(byteI (92:UInt8)))=true then if ((i_ G 1)==(b.length:Int))=true then some (.inr<|.brk (H,i_ G 1)) else some (.inl<|i_ G 1) else some (.inl G)) (el (fun I=>bd (idx b I) fun O=>bd (psh H O) fun V=>some<|.next (V,i_ I 1)) some) else some (.brk (H,G))) (fun acc p=>rfl) (b.length+1) [] at_ (by simp) ha (by omega) n hn
 rw [h1,bd_some]
 unfold i_p at h2
 unfold i_q
 cases ho:c_L b t (b.length+1) [] at_ with
 | none=>rw [ho] at h2;obtain ⟨x,rfl⟩:=h2;rfl
 | some x=>rw [ho] at h2;simp only at h2;subst h2;rfl
theorem q_7 (n:Nat)(b:List UInt8)(at_:Nat)(t:UInt8)(hb:b.length<=MX)(ha:at_<=b.length)(hn:b.length+1<=n):h_8 n b at_ t=some (i_q (c_M b at_ t) at_):=by
 unfold h_8 c_M
 have hin:a_L (at_:Int) 0 (b.length:Int)=some true:=by
  rw [b_r,dT_ (show (0:Int)<=(at_:Int) by omega),dT_ (show (at_:Int)<=(b.length:Int) by omega)];rfl
 obtain ⟨s,h1,h2⟩:=m_q b t hb (un2 fun H G=>bd (α:=Bool) (bd (a_L (at_:Int) 0 (b.length:Int)) fun J=>if J=true then some (decide<|G<(b.length:Int)) else some false) (fun L=>if L=true then bd (idx b G) fun O=>if ((byteI O)==(byteI t))=true then some (.ret (H,i_ G 1,true)) else bd (idx b G) fun V=>bd (α:=Sum Int<|Out ((List UInt8)×Int)<|(List UInt8)×Int×Bool) (if ((byteI V)==(byteI (92:UInt8)))=true then if ((i_ G 1)==(b.length:Int))=true then some (.inr<|.brk (H,i_ G 1)) else some (.inl<|i_ G 1) else some (.inl G)) (el (fun I=>bd (idx b I) fun W=>bd (psh H W) fun Y=>some<|.next (Y,i_ I 1)) some) else some (.brk (H,G)))) (fun acc p=>by simp only [un2,hin,bd_some,fT_]) (b.length+1) [] at_ (by simp) ha (by omega) n hn
 rw [h1,bd_some]
 unfold i_p at h2
 unfold i_q
 cases ho:c_L b t (b.length+1) [] at_ with
 | none=>rw [ho] at h2;obtain ⟨x,rfl⟩:=h2;rfl
 | some x=>rw [ho] at h2;simp only at h2;subst h2;rfl
theorem i_r {b:List UInt8}{t:UInt8}:∀f acc p c q,c_L b t f acc p=some (c,q)->p<q/\q<=b.length
 | 0,_,_,_,_,h=>by cases h
 | f+1,acc,p,c,q,h=>by
  unfold c_L at h
  by_cases hlt:p<b.length
  ·rw [gG_ hlt] at h
   simp only at h
   split at h
   ·cases h;omega
   ·split at h
    ·by_cases hl:p+1<b.length
     ·rw [gG_ hl] at h
      have:=i_r f _ _ _ _ h
      omega
     ·rw [gN_ (by omega)] at h
      cases h
    ·have:=i_r f _ _ _ _ h
     omega
  ·rw [gN_ (by omega)] at h
   cases h
end Go.Vw
