
import Derived.Test.YtbhbfaljeoeciaaGreatDoorVb0
namespace Go.Vw
open Go.RowKit Dat
def c_g (l:List UInt8):Prop:=∀c u,l=c::u->c=44∨c=93∨c=125∨c=62∨c=41∨c=60
theorem c_6 {l t rest:List UInt8}{p:Nat}(h:l.drop p=t++rest){j:Nat}(hj:j<t.length):∃hp:p+j<l.length,l[p+j]=t[j]:=by
 have h1:=congrArg List.length h
 rw [List.length_drop,List.length_append] at h1
 refine ⟨by omega,?_⟩;have h2:(l.drop p)[j]? = (t++rest)[j]? := by rw [h]
 rw [List.getElem?_drop,List.getElem?_append_left hj,gG_ (by omega),gG_ hj] at h2
 exact Option.some.inj h2
theorem a_D {l t rest:List UInt8}{p:Nat}(h:l.drop p=t++rest):l.drop (p+t.length)=rest:=by
 rw [← List.drop_drop,h,List.drop_left]
theorem g_u {l t rest:List UInt8}{p:Nat}(h:l.drop p=t++rest)(ht:0<t.length):p+t.length+rest.length=l.length:=by
 have h1:=congrArg List.length h
 rw [List.length_drop,List.length_append] at h1
 omega
theorem g_v {l t rest:List UInt8}{p:Nat}(h:l.drop p=t++rest)(hp:p<=l.length):p+t.length+rest.length=l.length:=by
 have h1:=congrArg List.length h
 rw [List.length_drop,List.length_append] at h1
 omega
theorem m_5 {c:UInt8}(h:c=44∨c=93∨c=125∨c=62∨c=41∨c=60):(if (decide<|(byteI (48:UInt8))<=(byteI c))=true then some (decide<|(byteI c)<=(byteI (57:UInt8))) else some false)=some false:=by
 rcases h with rfl | rfl | rfl | rfl | rfl | rfl <;> rfl
section
variable {s:Str}{p:Nat}{rest:List UInt8}{n:Nat}
theorem i_C {q j:Nat}:b_B ((Lib.decDigits q).take j)<=q/\0<=b_B ((Lib.decDigits q).take j):=by
 have hd:∀c∈(Lib.decDigits q).take j,c_D c=true:=fun c hc=>i_I<|g_z q c<|List.mem_of_mem_take hc
 have G:=(p_P _ hd).1;refine ⟨?_,G⟩
 have key:∀(l:List UInt8)(a:Int),(∀c∈l,c_D c=true)->0<=a->a<=l.foldl b_A a:=by
  intro l
  induction l with
  | nil=>intro a _ _;exact Int.le_refl _
  | cons c l ih =>
   intro a h G;have hc:=h c mS_
   rw [f_4] at hc
   simp only [aE_,dE_] at hc
   have hb:byteI c=(c.toNat:Int):=rfl;have:=ih (b_A a c) (fun c hc=>h c<|mT_ _ hc) (by unfold b_A;omega)
   rw [List.foldl_cons]
   refine Int.le_trans ?_ this;unfold b_A;omega
 have h1:b_B (Lib.decDigits q)=((Lib.decDigits q).drop j).foldl b_A (b_B<|(Lib.decDigits q).take j):=by
  unfold b_B
  rw [← List.foldl_append,List.take_append_drop]
 have h2:=key ((Lib.decDigits q).drop j) _ (fun c hc=>i_I<|g_z q c<|List.mem_of_mem_drop hc) G
 rw [← h1,k_1] at h2
 exact h2
theorem m_6 {q:Nat}(h:s.b.drop p=Lib.itoa (q:Int)++rest)(hq:q<=4294967295)(hr:c_g rest)(hs:s.b.length<=1000000000)(hn:20<=n):e_N n s (p:Int)=some ((q:Int),((p+(Lib.itoa (q:Int)).length:Nat):Int)):=by
 rw [f_b] at h ⊢
 have hl:=g_A 9 q (by omega);have hlen:=g_u h (by omega);unfold e_N;refine (congrArg (fun z=>bd z _)<|f_h (fun j=>(b_B<|(Lib.decDigits q).take j,((p+j:Nat):Int))) (s:=((q:Int),((p+(Lib.decDigits q).length:Nat):Int))) (j0:=(Lib.decDigits q).length) (by omega) (fun j hj=>?_) ?_).trans ?_
 ·obtain ⟨hp,hg⟩:=c_6 h hj;have hdg:=g_z q _<|gE_ hj;have hv:=i_C (q:=q) (j:=j+1);have G:=i_C (q:=q) (j:=j);have hb:byteI (Lib.decDigits q)[j]=((Lib.decDigits q)[j].toNat:Int):=rfl;have e:b_B ((Lib.decDigits q).take (j+1))=b_A (b_B<|(Lib.decDigits q).take j) (Lib.decDigits q)[j]:=d_M _ _ hj;unfold b_A at e
  simp only [un2]
  rw [b_j,bd_some,b_7 (by omega) (by omega),dT_ (show (0:Int)<=((p+j:Nat):Int) by omega),dT_ (show ((p+j:Nat):Int)<=(s.b.length:Int) - 1 by omega),ia_ (x:=(p:Int)) (by omega) (by omega),dT_ (show ((p+j:Nat):Int)<(p:Int)+10 by omega),ix_ hp,hg]
  simp only [Bool.and_self,fT_,bd_some]
  rw [dT_ (show byteI (48:UInt8)<=byteI (Lib.decDigits q)[j] from hdg.1),dT_ (show byteI (Lib.decDigits q)[j]<=byteI (57:UInt8) from hdg.2)]
  simp only [fT_,bd_some]
  rw [m_o (i_I hdg),e_p (by omega) (by omega),ia_ (by omega) (by omega),ia_ (by omega) (by omega),e]
  congr 3
  omega
 ·simp only [un2]
  rw [List.take_length,k_1,b_j,bd_some,b_7 (by omega) (by omega),ia_ (x:=(p:Int)) (by omega) (by omega)]
  rw [dT_ (show (0:Int)<=((p+(Lib.decDigits q).length:Nat):Int) by omega)]
  cases hrr:rest with
  | nil =>
   rw [hrr,List.length_nil] at hlen
   rw [dF_ (show ¬((p+(Lib.decDigits q).length:Nat):Int)<=(s.b.length:Int) - 1 by omega)]
   rfl
  | cons c u =>
   have hd:=a_D h
   rw [hrr] at hd
   obtain ⟨hp,hg⟩:=c_6 (t:=[c]) (rest:=u) hd (j:=0)<|Nat.zero_lt_one
   simp only [Nat.add_zero,List.getElem_cons_zero] at hp hg
   rw [dT_ (show ((p+(Lib.decDigits q).length:Nat):Int)<=(s.b.length:Int) - 1 by omega),ix_ hp,hg]
   simp only [Bool.and_self,fT_,bd_some]
   rw [m_5 (hr c u hrr)]
   cases decide (((p+(Lib.decDigits q).length:Nat):Int)<(p:Int)+10) <;> rfl
 ·rw [bd_some,el_inl]
theorem m_7 {q:Nat}(h:s.b.drop p=Lib.itoa (q:Int)++rest)(hq:q<=4294967295)(hr:c_g rest)(hs:s.b.length<=1000000000)(hn:20<=n):f_I n s (p:Int)=some ((q:Int),((p+(Lib.itoa (q:Int)).length:Nat):Int)):=by
 rw [f_b] at h ⊢
 have hl:=g_A 9 q (by omega);have hlen:=g_u h (by omega);unfold f_I
 rw [dF_ (show ¬(p:Int)<0 by omega),dF_ (show ¬(s.b.length:Int)<=(p:Int) by omega)]
 simp only [bF_,fF_,bd_some]
 refine (congrArg (fun z=>bd z _)<|f_h (fun j=>(b_B<|(Lib.decDigits q).take j,((p+j:Nat):Int))) (s:=((q:Int),((p+(Lib.decDigits q).length:Nat):Int))) (j0:=(Lib.decDigits q).length) (by omega) (fun j hj=>?_) ?_).trans ?_
 ·obtain ⟨hp,hg⟩:=c_6 h hj;have hdg:=g_z q _<|gE_ hj;have hv:=i_C (q:=q) (j:=j+1);have G:=i_C (q:=q) (j:=j);have hb:byteI (Lib.decDigits q)[j]=((Lib.decDigits q)[j].toNat:Int):=rfl;have e:b_B ((Lib.decDigits q).take (j+1))=b_A (b_B<|(Lib.decDigits q).take j) (Lib.decDigits q)[j]:=d_M _ _ hj;unfold b_A at e
  simp only [un2]
  rw [b_7 (by omega) (by omega),dT_ (show ((p+j:Nat):Int)<(s.b.length:Int) by omega),dT_ (show ((p+j:Nat):Int) - (p:Int)<10 by omega),ix_ hp,hg]
  simp only [fT_,bd_some]
  rw [dT_ (show byteI (48:UInt8)<=byteI (Lib.decDigits q)[j] from hdg.1),dT_ (show byteI (Lib.decDigits q)[j]<=byteI (57:UInt8) from hdg.2)]
  simp only [fT_,bd_some]
  rw [m_o (i_I hdg),e_p (by omega) (by omega),ia_ (by omega) (by omega),ia_ (by omega) (by omega),e]
  rfl
 ·simp only [un2]
  rw [List.take_length,k_1,b_7 (by omega) (by omega)]
  cases hrr:rest with
  | nil =>
   rw [hrr,List.length_nil] at hlen
   rw [dF_ (show ¬((p+(Lib.decDigits q).length:Nat):Int)<(s.b.length:Int) by omega)]
   rfl
  | cons c u =>
   have hd:=a_D h
   rw [hrr] at hd
   obtain ⟨hp,hg⟩:=c_6 (t:=[c]) (rest:=u) hd (j:=0)<|Nat.zero_lt_one
   simp only [Nat.add_zero,List.getElem_cons_zero] at hp hg
   rw [dT_ (show ((p+(Lib.decDigits q).length:Nat):Int)<(s.b.length:Int) by omega),ix_ hp,hg]
   simp only [fT_,bd_some]
   rw [m_5 (hr c u hrr)]
   cases decide (((p+(Lib.decDigits q).length:Nat):Int) - (p:Int)<10) <;> rfl
 ·rw [bd_some,el_inl]
theorem f_8 {a:Nat}(h:a<16):d_D (d_7.getD a 0)=some (a:Int)/\d_E (d_7.getD a 0)=some (a:Int):=by
 have:a=0∨a=1∨a=2∨a=3∨a=4∨a=5∨a=6∨a=7∨a=8∨a=9∨a=10∨a=11∨a=12∨a=13∨a=14∨a=15:=by omega
 rcases this with rfl | rfl | rfl | rfl | rfl | rfl | rfl | rfl | rfl | rfl | rfl | rfl | rfl | rfl | rfl | rfl <;> exact ⟨rfl,rfl⟩
theorem m_8 {c:UInt8}(h:c=44∨c=93∨c=125∨c=62∨c=41∨c=60):d_D c=some (-1)/\d_E c=some (-1):=by
 rcases h with rfl | rfl | rfl | rfl | rfl | rfl <;> exact ⟨rfl,rfl⟩
theorem p_u {c:UInt8}:mkB (m_ (a_f ((c.toNat / 16:Nat):Int) 16) ((c.toNat % 16:Nat):Int))=c:=by
 have hc:=c.toNat_lt
 rw [e_p (by omega) (by omega),ia_ (by omega) (by omega),← g_K,g_1]
 have hb:byteI c=(c.toNat:Int):=rfl;unfold IntKind.wrap
 simp [IntKind.bits,IntKind.signed]
 omega
theorem p_v:∀a,a<16->∀b,b<16->b_n .i64 (· ||| ·) (b_3 .i64 ((a:Nat):Int) 4) ((b:Nat):Int)=((a * 16+b:Nat):Int):=by decide +kernel
theorem p_w {c:UInt8}:mkB (b_n .i64 (· ||| ·) (b_3 .i64 ((c.toNat / 16:Nat):Int) 4) ((c.toNat % 16:Nat):Int))=c:=by
 have hc:=c.toNat_lt
 rw [p_v _ (by omega) _ (by omega),← g_K,g_1]
 have hb:byteI c=(c.toNat:Int):=rfl;unfold IntKind.wrap
 simp [IntKind.bits,IntKind.signed]
 omega
theorem j_Q {l:List UInt8}:∀{k:Nat}(h:k<l.length),∃(h1:2 * k<(a_k l).length)(h2:2 * k+1<(a_k l).length),(a_k l)[2 * k]=d_7.getD (l[k].toNat / 16) 0/\(a_k l)[2 * k+1]=d_7.getD (l[k].toNat % 16) 0:=by
 intro k h;have hl:=b_I l;refine ⟨by omega,by omega,?_⟩
 have hsp:a_k l=a_k (l.take k)++(hexC l[k]++a_k (l.drop<|k+1)):=by
  have:l=l.take k++l[k]::l.drop (k+1):=by rw [← dC_ h,List.take_append_drop]
  conv=>lhs;rw [this]
  unfold a_k
  rw [List.map_append,List.flatten_append,List.map_cons,List.flatten_cons]
 have hk:(a_k<|l.take k).length=2 * k:=by rw [b_I,List.length_take];omega
 have G:(a_k l)[2 * k]? = some (d_7.getD (l[k].toNat / 16) 0):=by
  rw [hsp,List.getElem?_append_right (by omega),hk,Nat.sub_self];rfl
 have g1:(a_k l)[2 * k+1]? = some (d_7.getD (l[k].toNat % 16) 0):=by
  rw [hsp,List.getElem?_append_right (by omega),hk,show 2 * k+1 - 2 * k=1 by omega];rfl
 rw [gG_ (by omega)] at G g1
 exact ⟨Option.some.inj G,Option.some.inj g1⟩
theorem p_x {bs:List UInt8}(hb:bs.length<=1000)(hn:1010<=n):f_A n ⟨a_k bs⟩=some (bs,true):=by
 have hLIM:=a_p;have hl:=b_I bs;unfold f_A
 simp only
 rw [hl,i_X (by omega),show (((2 * bs.length:Nat):Int) % 2 != 0)=false by simp,iN_ (by simp)]
 refine (congrArg (fun z=>bd z _)<|f_h (fun j=>(bs.take j,((2 * j:Nat):Int))) (s:=(bs,((2 * bs.length:Nat):Int))) (j0:=bs.length) (by omega) (fun j hj=>?_) ?_).trans ?_
 ·obtain ⟨h1,h2,g1,G⟩:=j_Q hj;have hc:=bs[j].toNat_lt
  simp only [un2]
  rw [dT_ (show ((2 * j:Nat):Int)<((2 * bs.length:Nat):Int) by omega),iP_ rfl,ix_ h1,bd_some,g1,(f_8 (show bs[j].toNat / 16<16 by omega)).1,bd_some,ia_ (by omega) (by omega),show ((2 * j:Nat):Int)+1=((2 * j+1:Nat):Int) by omega,ix_ h2,bd_some,G,(f_8 (show bs[j].toNat % 16<16 by omega)).1,bd_some,dF_ (show ¬((bs[j].toNat / 16:Nat):Int)<0 by omega),dF_ (show ¬((bs[j].toNat % 16:Nat):Int)<0 by omega),iN_ (by simp),bd_some,iN_ (by simp),a_X (by rw [List.length_take];omega),bd_some,p_u,ia_ (by omega) (by omega),d_r hj]
  congr 3
 ·simp only [un2]
  rw [dF_ (by omega),iN_ (by simp),List.take_length]
 ·rw [bd_some,el_inl]
theorem j_R {bs:List UInt8}(h:s.b.drop p=a_k bs++rest)(hp:p<=s.b.length)(hb:bs.length<=1000)(hr:c_g rest)(hs:s.b.length<=1000000000)(hn:1010<=n):f_B n s (p:Int)=some (bs,((p+(a_k bs).length:Nat):Int)):=by
 have hl:=b_I bs;have hlen:=g_v h hp;unfold f_B
 rw [b_j,bd_some,dT_ (show (0:Int)<=(p:Int) by omega),dT_ (show (p:Int)<=(s.b.length:Int) by omega)]
 simp only [Bool.and_self,nT_,bF_,fF_]
 refine (congrArg (fun z=>bd z _)<|f_h (fun j=>((p+2 * j:Nat):Int)) (s:=((p+(a_k bs).length:Nat):Int)) (j0:=bs.length) (by omega) (fun j hj=>?_) ?_).trans ?_
 ·obtain ⟨h1,h2,g1,I⟩:=j_Q hj;obtain ⟨G,H⟩:=c_6 h h1;obtain ⟨J,L⟩:=c_6 h h2;have hc:=bs[j].toNat_lt
  rw [ia_ (by omega) (by omega),show ((p+2 * j:Nat):Int)+1=((p+(2 * j+1):Nat):Int) by omega,dT_ (show ((p+(2 * j+1):Nat):Int)<(s.b.length:Int) by omega),ix_ G,ix_ J,H,L,g1,I]
  simp only [fT_,bd_some]
  rw [(f_8 (show bs[j].toNat / 16<16 by omega)).1,bd_some,dT_ (show (0:Int)<=((bs[j].toNat / 16:Nat):Int) by omega),iP_ rfl,(f_8 (show bs[j].toNat % 16<16 by omega)).1,bd_some,dT_ (show (0:Int)<=((bs[j].toNat % 16:Nat):Int) by omega),bd_some,iP_ rfl,ia_ (by omega) (by omega)]
  congr 2
 ·rw [hl]
  cases hrr:rest with
  | nil =>
   rw [hrr,List.length_nil] at hlen
   rw [ia_ (by omega) (by omega),dF_ (by omega)]
   rfl
  | cons c u =>
   have hd:=a_D h
   rw [hrr] at hd
   obtain ⟨G,H⟩:=c_6 (t:=[c]) (rest:=u) hd (j:=0)<|Nat.zero_lt_one
   simp only [Nat.add_zero,List.getElem_cons_zero,hl] at G H
   rw [ix_ G,H,bd_some,(m_8<|hr c u hrr).1]
   simp only [bd_some]
   cases decide (m_ ((p+2 * bs.length:Nat):Int) 1<(s.b.length:Int)) <;> rfl
 ·rw [bd_some,el_inl]
  have:b_O s (p:Int) ((p+(a_k bs).length:Nat):Int)=some ⟨a_k bs⟩:=by
   unfold b_O
   rw [e_q (by omega) (by omega) (by omega)]
   simp only [Option.map_some,tN_]
   congr 2
   rw [List.drop_take,h,show p+(a_k bs).length - p=(a_k bs).length by omega,List.take_left']
   rfl
  rw [this,bd_some,p_x hb hn];rfl
theorem j_S {bs:List UInt8}(h:s.b.drop p=a_k bs++rest)(hp:p<=s.b.length)(hb:bs.length<=1000)(hr:c_g rest)(hs:s.b.length<=1000000000)(hn:1010<=n):f_J n s (p:Int)=some (bs,((p+(a_k bs).length:Nat):Int)):=by
 have hLIM:=a_p;have hl:=b_I bs;have hlen:=g_v h hp;unfold f_J
 rw [dF_ (show ¬(p:Int)<0 by omega),dF_ (show ¬(s.b.length:Int)<(p:Int) by omega)]
 simp only [bF_,fF_,bd_some]
 refine (congrArg (fun z=>bd z _)<|f_h (fun j=>(((p+2 * j:Nat):Int),bs.take j)) (s:=(((p+(a_k bs).length:Nat):Int),bs)) (j0:=bs.length) (by omega) (fun j hj=>?_) ?_).trans ?_
 ·obtain ⟨h1,h2,g1,I⟩:=j_Q hj;obtain ⟨G,H⟩:=c_6 h h1;obtain ⟨J,L⟩:=c_6 h h2;have hc:=bs[j].toNat_lt
  simp only [un2]
  rw [ia_ (x:=((p+2 * j:Nat):Int)) (y:=1) (by omega) (by omega),show ((p+2 * j:Nat):Int)+1=((p+(2 * j+1):Nat):Int) by omega,dT_ (show ((p+(2 * j+1):Nat):Int)<(s.b.length:Int) by omega),ix_ G,ix_ J,H,L,g1,I]
  simp only [fT_,bd_some]
  rw [(f_8 (show bs[j].toNat / 16<16 by omega)).2,(f_8 (show bs[j].toNat % 16<16 by omega)).2]
  simp only [bd_some]
  rw [dT_ (show (0:Int)<=((bs[j].toNat / 16:Nat):Int) by omega),dT_ (show (0:Int)<=((bs[j].toNat % 16:Nat):Int) by omega)]
  simp only [fT_,bd_some]
  rw [a_X (by rw [List.length_take];omega),bd_some,p_w,ia_ (by omega) (by omega),d_r hj]
  congr 3
 ·simp only [un2]
  rw [hl,List.take_length]
  cases hrr:rest with
  | nil =>
   rw [hrr,List.length_nil] at hlen
   rw [ia_ (by omega) (by omega),dF_ (by omega)]
   rfl
  | cons c u =>
   have hd:=a_D h
   rw [hrr] at hd
   obtain ⟨G,H⟩:=c_6 (t:=[c]) (rest:=u) hd (j:=0)<|Nat.zero_lt_one
   simp only [Nat.add_zero,List.getElem_cons_zero,hl] at G H
   rw [ix_ G,H,bd_some,(m_8<|hr c u hrr).2]
   simp only [bd_some]
   cases decide (m_ ((p+2 * bs.length:Nat):Int) 1<(s.b.length:Int)) <;> rfl
 ·rw [bd_some,el_inl]
theorem j_T {c x:UInt8}(h:s.b.drop p=c::rest):d_k s (p:Int) x=some (c==x):=by
 obtain ⟨G,H⟩:=c_6 (t:=[c]) (rest:=rest) h (j:=0)<|Nat.zero_lt_one
 simp only [Nat.add_zero,List.getElem_cons_zero] at G H
 unfold d_k
 rw [dT_ (by omega),iP_ rfl,ix_ G,bd_some,H]
 simp only [bd_some]
 congr 1
 rw [Bool.eq_iff_iff]
 simp [g_K]
variable {d:c_}
theorem b_U {t:List UInt8}(h:s.b.drop p=t++rest)(hp:p<=s.b.length)(hs:s.b.length<=1000000000):a_H ⟨d,s,(p:Int)⟩ ⟨t⟩=some (true,((p+t.length:Nat):Int)):=by
 have hlen:=g_v h hp;unfold a_H
 simp only
 rw [b_7 (by omega) (by omega),dF_ (by omega),iN_ (by simp),ia_ (by omega) (by omega)]
 have:b_O s (p:Int) ((p:Int)+(t.length:Int))=some ⟨t⟩:=by
  unfold b_O
  rw [e_q (by omega) (by omega) (by omega)]
  simp only [Option.map_some,tN_]
  congr 2
  rw [show ((p:Int)+(t.length:Int)).toNat=p+t.length by omega,List.drop_take,h,show p+t.length - p=t.length by omega,List.take_left']
  rfl
 rw [this]
 simp only [bd_some,bN_,bF_,fF_]
 rfl
theorem j_U {c x:UInt8}(h:s.b.drop p=c::rest)(hc:c ≠ x)(hs:s.b.length<=1000000000):a_H ⟨d,s,(p:Int)⟩ ⟨[x]⟩=some (false,(p:Int)):=by
 obtain ⟨G,H⟩:=c_6 (t:=[c]) (rest:=rest) h (j:=0)<|Nat.zero_lt_one
 simp only [Nat.add_zero,List.getElem_cons_zero] at G H
 unfold a_H
 simp only [lC_,List.length_nil]
 rw [b_7 (by omega) (by omega),dF_ (by omega),iN_ (by simp),ia_ (by omega) (by omega)]
 have:b_O s (p:Int) ((p:Int)+((0+1:Nat):Int))=some ⟨[c]⟩:=by
  unfold b_O
  rw [e_q (by omega) (by omega) (by omega)]
  simp only [Option.map_some,tN_]
  congr 2
  rw [show ((p:Int)+((0+1:Nat):Int)).toNat=p+1 by omega,List.drop_take,h,show p+1 - p=1 by omega]
  rfl
 rw [this]
 simp only [bd_some]
 rw [show ([c] != [x])=true by simpa using hc]
 rfl
end
end Go.Vw
