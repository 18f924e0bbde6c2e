
import Derived.Test.YtelphaiofendpaaGreatDoorVwP68
namespace Go.Vw
open Go.RowKit Dat
section
variable {d:d_}{b:Bt}
theorem o_2 {r:g_}{ts:List Str}{k:Nat}(h:k<ts.length):(b_V r ts).take (k+1)=(b_V r ts).take k++[d_Y r ts k]:=by
 have hk:k<(b_V r ts).length:=by rw [d_Z];exact h
 rw [f_K hk,l_A]
theorem l_B {r:g_}{ts:List Str}(h6:r.kind ≠ 6)(h1:ts.length=1):c_z (b_V r ts)=(ts[0]'(by omega)).b:=by
 obtain ⟨t,rfl⟩:∃t,ts=[t]:=by
  match ts,h1 with
  | [t],_=>exact ⟨t,rfl⟩
 unfold c_z b_V d_Y
 simp [h6,Lib.join_one]
theorem o_3 {x:Int}(G:0<=x)(h:x<=4294967295):∃q:Nat,x=q/\q<=1000000000000/\(Lib.itoa x).length<=20:=by
 obtain ⟨q,rfl⟩:∃q:Nat,x=q:=⟨x.toNat,by omega⟩;exact ⟨q,rfl,by omega,r_B (by omega)⟩
theorem o_4 {s:Int}(h1:1<=s)(h4:s<=4):(256:Int) ^ s.toNat - 1<=4294967295:=by
 have:s=1∨s=2∨s=3∨s=4:=by omega
 rcases this with rfl | rfl | rfl | rfl <;> decide
theorem s_x (hv:N_ d=true)(hd:SmD d)(hb:b.length<=400):∀(i:Nat),i<d.rules.length->∀p,p<=b.length->(rdW d.rules b i p).2.2=0->∃t:Str,t.b.length<=40 * vsz i (rdW d.rules b i p).1+22/\(∀n,2 * i+60<=n->l_R n d (i:Int) (rdW d.rules b i p).1=some t)/\(∀n,2 * i+60<=n->l_T n d (i:Int) (rdW d.rules b i p).1=some t):=by
 have hLIM:=a_H;intro i
 induction i using Nat.strongRecOn with
 | ind i ih =>
  intro hi p hp hok;have hvl:=(b_e hv).2;have hr:=a_M hv hi;have hown:=l_w hv hb hi hp hok;have hit:=l_x hv hi hp hok;have hsize:=l_n (b:=b) hv i hi p hp;have hle:=b_v (b:=b) hv i hi p hp
  have hz:vsz i (rdW d.rules b i p).1<=20000:=by
   refine Nat.le_trans (hsize.2 hok) (Nat.le_trans (Nat.mul_le_mul (show 2 * i+1<=49 by omega) (show (rdW d.rules b i p).2.1 - p<=400 by omega)) (by decide))
  have hdep:=hsize.1
  -- the items' texts
  have hch:∀j,j<(rdW d.rules b i p).1.items.length->∃t:Str,∀(h:j<(rdW d.rules b i p).1.items.length),t.b.length<=40 * vsz (i - 1) (rdW d.rules b i p).1.items[j]+22/\(∀n,2 * i+58<=n->l_R n d (X_ d.rules[i] (rdW d.rules b i p).1.number j) (rdW d.rules b i p).1.items[j]=some t)/\(∀n,2 * i+58<=n->l_T n d (X_ d.rules[i] (rdW d.rules b i p).1.number j) (rdW d.rules b i p).1.items[j]=some t)/\0<=X_ d.rules[i] (rdW d.rules b i p).1.number j:=by
   intro j hj;obtain ⟨k,q,h1,h2,h3,h4,h5⟩:=hit j hj;obtain ⟨t,t1,t2,t3⟩:=ih k h2 (by omega) q h3 h4;have hdk:=(l_n (b:=b) hv k (by omega) q h3).1;refine ⟨t,λ_=>?_⟩
   rw [h1,h5,(j_v k (i - 1) _ hdk (by omega)).2]
   exact ⟨t1,λn hn=>t2 n (by omega),λn hn=>t3 n (by omega),by omega⟩
  have a7:(rdW d.rules b i p).1.bytes.length+lsz (i - 1) (rdW d.rules b i p).1.items<=vsz i (rdW d.rules b i p).1:=by
   cases i with
   | zero =>
    have h0:(rdW d.rules b 0 p).1.items=[]:=hdep
    rw [h0];simp [vsz,lsz]
   | succ i=>simp only [Nat.add_sub_cancel,vsz,lsz];exact Nat.le_refl _
  generalize (rdW d.rules b i p).1=v at *
  obtain ⟨ts,hts,hP⟩:=n_Z v.items.length hch;have hkk:=c_q hr.kind
  have hseq:d.rules[i].kind=6->d.rules[i].names.length=d.rules[i].kids.length/\∀s∈d.rules[i].names,s.b.length<=12:=λh6=>by
   obtain ⟨s1,_,_,s4⟩:=d_u hr.kind h6;exact ⟨s1.symm,λs hs=>l_H<|s4 s hs⟩
  have hkind:=hr.kind;have hsl:∀j (h:j<ts.length) (h':j<v.items.length),ts[j].b.length<=40 * vsz (i - 1) v.items[j]+22:=λj h h'=>(hP j h h').1
  have hps:=o_0 (m:=i - 1) (r:=d.rules[i]) (λh6=>(hseq h6).2) hts hsl ts.length<|Nat.le_refl _
  rw [List.take_of_length_le (by rw [d_Z];exact Nat.le_refl _),List.take_of_length_le (by omega)] at hps
  -- the reference's list, the program's items
  have hlist:∀n,2 * i+59<=n->(b_p n).spec_l10List d d.rules[i] v=some ⟨c_z<|b_V d.rules[i] ts⟩:=by
   intro n hn;obtain ⟨I,rfl⟩:∃I,n=I+1:=⟨n - 1,by omega⟩;refine s_w (n:=I) (m:=i - 1) hkk (λh6=>(hseq h6).2) (λh6=>?_) hts (by omega) hsl<|λj h h'=>(hP j h h').2.1 I (by omega);have:=(hseq h6).1
   rcases hown with ⟨h,_⟩ | ⟨h,_⟩ | ⟨h,_⟩ | ⟨h,_⟩ | ⟨h,_⟩ | ⟨h,_⟩ | ⟨h,_,_,L⟩ | ⟨h,_⟩ | ⟨h,_⟩ | ⟨h,_⟩ <;> omega
  have hone:∀n,2 * i+59<=n->∀j (h:j<ts.length),(b_4 n).impl_valueText_1 (j:Int) d (i:Int) v=some ts[j]:=by
   intro n hn j h;obtain ⟨I,rfl⟩:∃I,n=I+1:=⟨n - 1,by omega⟩
   show i_h I (b_4 I) (j:Int) d (i:Int) v=some ts[j]
   unfold i_h;have h':j<v.items.length:=by omega
   rw [ix_ h',bd_some,n_F (ix_ hi) hkk,bd_some,show (b_4 I).impl_valueText d (X_ d.rules[i] v.number j) v.items[j]=some ts[j] from (hP j h h').2.2.1 I (by omega),bd_some]
  have spec_:∀n,2 * i+60<=n->∃G,n=G+1/\2 * i+59<=G:=λn hn=>⟨n - 1,by omega,by omega⟩
  have hidx:=ix_ hi;generalize hrr:d.rules[i]=r at *
  generalize hJ:c_z (b_V r ts)=J at *
  rcases hown with ⟨h,L,a2,W,e2⟩ | ⟨h,V,W,e2⟩ | ⟨h,V,L,e2⟩ | ⟨h,V,L,a2,e2⟩ | ⟨h,V,L,e2⟩ | ⟨h,V,W,L,a2⟩ | ⟨h,V,W,L⟩ | ⟨h,L,a2,W,a3,a4⟩ | ⟨h,V,W,L⟩ | ⟨h,V,W,L⟩
  .obtain ⟨_,s1,s4⟩:=d_W hkind h;obtain ⟨q,hq,a0,a5⟩:=o_3 L<|Int.le_trans a2<|o_4 s1 s4;refine ⟨⟨Lib.itoa v.number⟩,by simp only;omega,λn hn=>?_,λn hn=>?_⟩
   .obtain ⟨G,rfl,H⟩:=spec_ n hn
    show b_8 G (b_p G) d (i:Int) v=some _
    unfold b_8
    rw [hidx,bd_some,hlist G H]
    simp only [h,Int.reduceBEq,fT_,bd_some]
    rw [hq,j_i (by omega) q a0,bd_some]
   .obtain ⟨G,rfl,H⟩:=spec_ n hn
    show b_9 G (b_4 G) d (i:Int) v=some _
    unfold b_9 c_t
    rw [hidx,bd_some]
    simp only [h,Int.reduceBEq,Nat.reduceBEq,fT_,bd_some]
    rfl
  .refine ⟨⟨[33]⟩,by simp only [lC_,List.length_nil];omega,λn hn=>?_,λn hn=>?_⟩
   .obtain ⟨G,rfl,H⟩:=spec_ n hn
    show b_8 G (b_p G) d (i:Int) v=some _
    unfold b_8
    rw [hidx,bd_some,hlist G H]
    simp only [h,Int.reduceBEq,bF_,fF_,fT_,bd_some]

   .obtain ⟨G,rfl,H⟩:=spec_ n hn
    show b_9 G (b_4 G) d (i:Int) v=some _
    unfold b_9 c_t
    rw [hidx,bd_some]
    simp only [h,Int.reduceBEq,Nat.reduceBEq,bF_,fF_,fT_,bd_some]

  .have hfx:=f_3 hkind h;refine ⟨⟨120::c_T v.bytes⟩,by have:=d_2 v.bytes;simp only [lC_];omega,λn hn=>?_,λn hn=>?_⟩
   .obtain ⟨G,rfl,H⟩:=spec_ n hn
    show b_8 G (b_p G) d (i:Int) v=some _
    unfold b_8
    rw [hidx,bd_some,hlist G H]
    simp only [h,Int.reduceBEq,bF_,fF_,bd_some]
    rw [l_y (by omega),bd_some,a_q (by simp only [lC_,List.length_nil];have:=d_2 v.bytes;omega),bd_some]
    rfl
   .obtain ⟨G,rfl,H⟩:=spec_ n hn
    show b_9 G (b_4 G) d (i:Int) v=some _
    unfold b_9 c_t
    rw [hidx,bd_some]
    simp only [h,Int.reduceBEq,Nat.reduceBEq,bF_,fF_,bd_some]
    rw [l_z (by omega),bd_some,a_q (by simp only [lC_,List.length_nil];have:=d_2 v.bytes;omega),bd_some]
    rfl
  .refine ⟨⟨120::c_T v.bytes⟩,by have:=d_2 v.bytes;simp only [lC_];omega,λn hn=>?_,λn hn=>?_⟩
   .obtain ⟨G,rfl,H⟩:=spec_ n hn
    show b_8 G (b_p G) d (i:Int) v=some _
    unfold b_8
    rw [hidx,bd_some,hlist G H]
    simp only [h,Int.reduceBEq,bF_,fF_,bd_some]
    rw [l_y (by omega),bd_some,a_q (by simp only [lC_,List.length_nil];have:=d_2 v.bytes;omega),bd_some]
    rfl
   .obtain ⟨G,rfl,H⟩:=spec_ n hn
    show b_9 G (b_4 G) d (i:Int) v=some _
    unfold b_9 c_t
    rw [hidx,bd_some]
    simp only [h,Int.reduceBEq,Nat.reduceBEq,bF_,fF_,bd_some]
    rw [l_z (by omega),bd_some,a_q (by simp only [lC_,List.length_nil];have:=d_2 v.bytes;omega),bd_some]
    rfl
  .refine ⟨⟨120::c_T v.bytes⟩,by have:=d_2 v.bytes;simp only [lC_];omega,λn hn=>?_,λn hn=>?_⟩
   .obtain ⟨G,rfl,H⟩:=spec_ n hn
    show b_8 G (b_p G) d (i:Int) v=some _
    unfold b_8
    rw [hidx,bd_some,hlist G H]
    simp only [h,Int.reduceBEq,bF_,fF_,bd_some]
    rw [l_y (by omega),bd_some,a_q (by simp only [lC_,List.length_nil];have:=d_2 v.bytes;omega),bd_some]
    rfl
   .obtain ⟨G,rfl,H⟩:=spec_ n hn
    show b_9 G (b_4 G) d (i:Int) v=some _
    unfold b_9 c_t
    rw [hidx,bd_some]
    simp only [h,Int.reduceBEq,Nat.reduceBEq,bF_,fF_,bd_some]
    rw [l_z (by omega),bd_some,a_q (by simp only [lC_,List.length_nil];have:=d_2 v.bytes;omega),bd_some]
    rfl
  .refine ⟨⟨[91]++J++[93]⟩,by simp only [List.length_append,lC_,List.length_nil];omega,λn hn=>?_,λn hn=>?_⟩
   .obtain ⟨G,rfl,H⟩:=spec_ n hn
    show b_8 G (b_p G) d (i:Int) v=some _
    unfold b_8
    rw [hidx,bd_some,hlist G H]
    simp only [h,Int.reduceBEq,bF_,fF_,fT_,bd_some]
    rw [a_q (by simp only [lC_,List.length_nil];omega),bd_some,a_q (by simp only [List.length_append,lC_,List.length_nil];omega),bd_some]
   .obtain ⟨G,rfl,H⟩:=spec_ n hn
    show b_9 G (b_4 G) d (i:Int) v=some _
    unfold b_9 c_t
    rw [hidx,bd_some]
    simp only [h,Int.reduceBEq,Nat.reduceBEq,bF_,fF_,fT_,bd_some]
    refine (congrArg (λz=>bd z _)<|f_M (λk=>(b_V r ts).take k) (n:=v.items.length) rfl<|λj hj=>?_).trans ?_
    .have hjt:j<ts.length:=by omega
     rw [hone G H j hjt,bd_some,a_V (by rw [List.length_take,d_Z];have:=h_e (i - 1) v.items;omega),bd_some,o_2 hjt]
     unfold d_Y
     rw [iN_ (by omega),a_b hjt]
    .rw [bd_some,el_inl,List.take_of_length_le (by rw [d_Z];omega),o_1 (by rw [hJ];omega),bd_some,hJ]
     rw [a_q (by simp only [lC_,List.length_nil];omega),bd_some,a_q (by simp only [List.length_append,lC_,List.length_nil];omega),bd_some]
  .have a6:=hseq h;refine ⟨⟨[123]++J++[125]⟩,by simp only [List.length_append,lC_,List.length_nil];omega,λn hn=>?_,λn hn=>?_⟩
   .obtain ⟨G,rfl,H⟩:=spec_ n hn
    show b_8 G (b_p G) d (i:Int) v=some _
    unfold b_8
    rw [hidx,bd_some,hlist G H]
    simp only [h,Int.reduceBEq,bF_,fF_,fT_,bd_some]
    rw [a_q (by simp only [lC_,List.length_nil];omega),bd_some,a_q (by simp only [List.length_append,lC_,List.length_nil];omega),bd_some]
   .obtain ⟨G,rfl,H⟩:=spec_ n hn
    show b_9 G (b_4 G) d (i:Int) v=some _
    unfold b_9 c_t
    rw [hidx,bd_some]
    simp only [h,Int.reduceBEq,Nat.reduceBEq,bF_,fF_,fT_,bd_some]
    refine (congrArg (λz=>bd z _)<|f_M (λk=>(b_V r ts).take k) (n:=r.names.length) rfl<|λj hj=>?_).trans ?_
    .have hjt:j<ts.length:=by omega
     have hjv:j<v.items.length:=by omega
     have hnl:=a6.2 _<|gE_ hj;have htl:=hsl j hjt hjv;have hvl:=j_u (m:=i - 1)<|gE_ hjv
     rw [ix_ hj,bd_some,a_q (by simp only [lC_,List.length_nil];omega),bd_some,hone G H j hjt,bd_some,a_q (by simp only [List.length_append,lC_,List.length_nil];omega),bd_some,a_V (by rw [List.length_take,d_Z];have:=h_e (i - 1) v.items;omega),bd_some,o_2 hjt]
     unfold d_Y
     rw [iP_ h,a_b hjt,a_b hj]
    .rw [bd_some,el_inl,List.take_of_length_le (by rw [d_Z];omega),o_1 (by rw [hJ];omega),bd_some,hJ]
     rw [a_q (by simp only [lC_,List.length_nil];omega),bd_some,a_q (by simp only [List.length_append,lC_,List.length_nil];omega),bd_some]
  .have Y:ts.length=1:=by omega
   have O:J=(ts[0]'(by omega)).b:=by rw [← hJ];exact l_B (by omega) Y
   have h1:=λn hn=>hone n hn 0 (by omega)
   have hl:=c_Q hkind h;obtain ⟨hint,hlim⟩:=j_C hl.1;obtain ⟨q,hq,a0,a5⟩:=o_3 L<|Int.le_trans a2 (by rw [hlim];exact o_4 hint.2.1 hint.2.2);have a8:=h_e (i - 1) v.items;have a9:=hsl 0 (by omega) (by omega);have aa:=j_u (m:=i - 1)<|gE_ (l:=v.items) (n:=0) (by omega);refine ⟨⟨Lib.itoa v.number++[60]++J++[62]⟩,by have:=congrArg List.length O;simp only [List.length_append,lC_,List.length_nil];omega,λn hn=>?_,λn hn=>?_⟩
   .obtain ⟨G,rfl,H⟩:=spec_ n hn
    show b_8 G (b_p G) d (i:Int) v=some _
    unfold b_8
    rw [hidx,bd_some,hlist G H]
    simp only [h,Int.reduceBEq,bF_,fF_,fT_,bd_some]
    have:=congrArg List.length O;unfold j_T
    rw [hq,j_i (by omega) q a0,bd_some,← hq]
    rw [a_q (by simp only [lC_,List.length_nil];omega),bd_some,a_q (by simp only [List.length_append,lC_,List.length_nil];omega),bd_some,a_q (by simp only [List.length_append,lC_,List.length_nil];omega),bd_some,bd_some]
   .obtain ⟨G,rfl,H⟩:=spec_ n hn
    show b_9 G (b_4 G) d (i:Int) v=some _
    unfold b_9 c_t
    rw [hidx,bd_some]
    simp only [h,Int.reduceBEq,Nat.reduceBEq,bF_,fF_,fT_,bd_some]
    have:=congrArg List.length O
    rw [show (b_4 G).impl_valueText_1 0 d (i:Int) v=some ts[0] from h1 G H,bd_some]
    unfold j_V i_8 k_9
    rw [bd_some,bd_some,O]
    rw [a_q (by simp only [lC_,List.length_nil];omega),bd_some,a_q (by simp only [List.length_append,lC_,List.length_nil];omega),bd_some,a_q (by simp only [List.length_append,lC_,List.length_nil];omega),bd_some,bd_some]
  .by_cases h0:v.items.length=0
   .refine ⟨⟨[45]⟩,by simp only [lC_,List.length_nil];omega,λn hn=>?_,λn hn=>?_⟩
    .obtain ⟨G,rfl,H⟩:=spec_ n hn
     show b_8 G (b_p G) d (i:Int) v=some _
     unfold b_8
     rw [hidx,bd_some,hlist G H]
     simp only [h,Int.reduceBEq,bF_,fF_,fT_,bd_some]
     rw [show ((v.items.length:Int)==0)=true by simp [h0]]
     rfl
    .obtain ⟨G,rfl,H⟩:=spec_ n hn
     show b_9 G (b_4 G) d (i:Int) v=some _
     unfold b_9 c_t
     rw [hidx,bd_some]
     simp only [h,Int.reduceBEq,Nat.reduceBEq,bF_,fF_,fT_,bd_some]
     rw [show ((v.items.length:Int)==0)=true by simp [h0]]
     rfl
   .have Y:ts.length=1:=by omega
    have O:J=(ts[0]'(by omega)).b:=by rw [← hJ];exact l_B (by omega) Y
    have h1:=λn hn=>hone n hn 0 (by omega)
    refine ⟨⟨[63]++J⟩,by simp only [List.length_append,lC_,List.length_nil];omega,λn hn=>?_,λn hn=>?_⟩
    .obtain ⟨G,rfl,H⟩:=spec_ n hn
     show b_8 G (b_p G) d (i:Int) v=some _
     unfold b_8
     rw [hidx,bd_some,hlist G H]
     simp only [h,Int.reduceBEq,bF_,fF_,fT_,bd_some]
     rw [show ((v.items.length:Int)==0)=false by simp only [beq_eq_false_iff_ne];omega,iN_ (by simp),a_q (by simp only [lC_,List.length_nil];omega),bd_some]
    .obtain ⟨G,rfl,H⟩:=spec_ n hn
     show b_9 G (b_4 G) d (i:Int) v=some _
     unfold b_9 c_t
     rw [hidx,bd_some]
     simp only [h,Int.reduceBEq,Nat.reduceBEq,bF_,fF_,fT_,bd_some]
     rw [show ((v.items.length:Int)==0)=false by simp only [beq_eq_false_iff_ne];omega,iN_ (by simp),show (b_4 G).impl_valueText_1 0 d (i:Int) v=some ts[0] from h1 G H,bd_some,a_q (by have:=congrArg List.length O;simp only [lC_,List.length_nil];omega),bd_some,O]
  .have Y:ts.length=1:=by omega
   have O:J=(ts[0]'(by omega)).b:=by rw [← hJ];exact l_B (by omega) Y
   have h1:=λn hn=>hone n hn 0 (by omega)
   refine ⟨⟨[40]++J++[41]⟩,by simp only [List.length_append,lC_,List.length_nil];omega,λn hn=>?_,λn hn=>?_⟩
   .obtain ⟨G,rfl,H⟩:=spec_ n hn
    show b_8 G (b_p G) d (i:Int) v=some _
    unfold b_8
    rw [hidx,bd_some,hlist G H]
    simp only [h,Int.reduceBEq,bF_,fF_,fT_,bd_some]
    rw [a_q (by simp only [lC_,List.length_nil];omega),bd_some,a_q (by simp only [List.length_append,lC_,List.length_nil];omega),bd_some]
   .obtain ⟨G,rfl,H⟩:=spec_ n hn
    show b_9 G (b_4 G) d (i:Int) v=some _
    unfold b_9 c_t
    rw [hidx,bd_some]
    simp only [h,Int.reduceBEq,Nat.reduceBEq,bF_,fF_,fT_,bd_some]
    have:=congrArg List.length O
    rw [show (b_4 G).impl_valueText_1 0 d (i:Int) v=some ts[0] from h1 G H,bd_some,O]
    rw [a_q (by simp only [lC_,List.length_nil];omega),bd_some,a_q (by simp only [List.length_append,lC_,List.length_nil];omega),bd_some]
theorem o_5 (hv:N_ d=true)(hd:SmD d)(hb:b.length<=400){i:Nat}(hi:i<d.rules.length){p:Nat}(hp:p<=b.length)(hok:(rdW d.rules b i p).2.2=0){n:Nat}(hn:1000<=n):∃t:Str,g_s n d (i:Int) (rdW d.rules b i p).1=some t/\g_u n d (i:Int) (rdW d.rules b i p).1=some t:=by
 have hvl:=(b_e hv).2;obtain ⟨t,_,G,H⟩:=s_x hv hd hb i hi p hp hok;refine ⟨t,?_,?_⟩
 .unfold g_s
  rw [n_V hv hd hb hi hp hok hn,bd_some,iN_ (by simp),G n (by omega),bd_some]
 .unfold g_u
  rw [s_r hv hd hb hi hp hok hn,bd_some,iN_ (by simp),H n (by omega),bd_some]
end
end Go.Vw
