
import Derived.Test.YtllmonllbkaflaaGreatDoorVn
namespace Go.Vw
open Go.RowKit Dat
section
variable {d:c_}{b:Bt}
theorem p_h {r:b_}{ts:List Str}{k:Nat}(h:k<ts.length):(b_X r ts).take (k+1)=(b_X r ts).take k++[e_v r ts k]:=by
 have hk:k<(b_X r ts).length:=by rw [e_w];exact h
 rw [g_6 hk,m_w]
theorem m_x {r:b_}{ts:List Str}(h6:r.kind ≠ 6)(h1:ts.length=1):c_Q (b_X r ts)=(ts[0]'(by omega)).b:=by
 obtain ⟨t,rfl⟩:∃t,ts=[t]:=by
  match ts,h1 with
  | [t],_=>exact ⟨t,rfl⟩
 unfold c_Q b_X e_v
 simp [h6,Lib.join_one]
theorem p_i {x:Int}(G:0<=x)(h:x<=4294967295):∃q:Nat,x=q/\q<=1000000000000/\(Lib.itoa x).length<=20:=by
 obtain ⟨q,rfl⟩:∃q:Nat,x=q:=⟨x.toNat,by omega⟩;exact ⟨q,rfl,by omega,t_6 (by omega)⟩
theorem p_j {s:Int}(h1:1<=s)(h4:s<=4):(256:Int) ^ s.toNat - 1<=4294967295:=by
 have:s=1∨s=2∨s=3∨s=4:=by omega
 rcases this with rfl | rfl | rfl | rfl <;> decide
theorem p_k (hv:D_ d=true)(hd:SmD d)(hb:b.length<=400):∀(i:Nat),i<d.rules.length->∀p,p<=b.length->(rdW d.rules b i p).2.2=0->∃t:Str,t.b.length<=40 * vsz i (rdW d.rules b i p).1+22/\(∀n,2 * i+60<=n->m_U n d (i:Int) (rdW d.rules b i p).1=some t)/\(∀n,2 * i+60<=n->m_W n d (i:Int) (rdW d.rules b i p).1=some t):=by
 have hLIM:=a_m;intro i
 induction i using Nat.strongRecOn with
 | ind i ih =>
  intro hi p hp hok;have hvl:=(b_f hv).2;have hr:=a_L hv hi;have hown:=m_s hv hb hi hp hok;have hit:=m_t hv hi hp hok;have hsize:=o_A (b:=b) hv i hi p hp;have hle:=b_M (b:=b) hv i hi p hp
  have hz:vsz i (rdW d.rules b i p).1<=20000:=by
   refine Nat.le_trans (hsize.2 hok) (Nat.le_trans (Nat.mul_le_mul (show 2 * i+1<=49 by omega) (show (rdW d.rules b i p).2.1 - p<=400 by omega)) (by decide))
  have hdep:=hsize.1
  -- the items' texts
  have hch:∀j,j<(rdW d.rules b i p).1.items.length->∃t:Str,∀(h:j<(rdW d.rules b i p).1.items.length),t.b.length<=40 * vsz (i - 1) (rdW d.rules b i p).1.items[j]+22/\(∀n,2 * i+58<=n->m_U n d (X_ d.rules[i] (rdW d.rules b i p).1.number j) (rdW d.rules b i p).1.items[j]=some t)/\(∀n,2 * i+58<=n->m_W n d (X_ d.rules[i] (rdW d.rules b i p).1.number j) (rdW d.rules b i p).1.items[j]=some t)/\0<=X_ d.rules[i] (rdW d.rules b i p).1.number j:=by
   intro j hj;obtain ⟨k,q,h1,h2,h3,h4,h5⟩:=hit j hj;obtain ⟨t,t1,t2,t3⟩:=ih k h2 (by omega) q h3 h4;have hdk:=(o_A (b:=b) hv k (by omega) q h3).1;refine ⟨t,λ_=>?_⟩
   rw [h1,h5,(k_o k (i - 1) _ hdk (by omega)).2]
   exact ⟨t1,λn hn=>t2 n (by omega),λn hn=>t3 n (by omega),by omega⟩
  have a7:(rdW d.rules b i p).1.bytes.length+lsz (i - 1) (rdW d.rules b i p).1.items<=vsz i (rdW d.rules b i p).1:=by
   cases i with
   | zero =>
    have h0:(rdW d.rules b 0 p).1.items=[]:=hdep
    rw [h0];simp [vsz,lsz]
   | succ i=>simp only [Nat.add_sub_cancel,vsz,lsz];exact Nat.le_refl _
  generalize (rdW d.rules b i p).1=v at *
  obtain ⟨ts,hts,hP⟩:=p_e v.items.length hch;have hkk:=c_F hr.kind
  have hseq:d.rules[i].kind=6->d.rules[i].names.length=d.rules[i].kids.length/\∀s∈d.rules[i].names,s.b.length<=12:=λh6=>by
   obtain ⟨s1,_,_,s4⟩:=e_2 hr.kind h6;exact ⟨s1.symm,λs hs=>m_E<|s4 s hs⟩
  have hkind:=hr.kind;have hsl:∀j (h:j<ts.length) (h':j<v.items.length),ts[j].b.length<=40 * vsz (i - 1) v.items[j]+22:=λj h h'=>(hP j h h').1
  have hps:=p_f (m:=i - 1) (r:=d.rules[i]) (λh6=>(hseq h6).2) hts hsl ts.length<|Nat.le_refl _
  rw [List.take_of_length_le (by rw [e_w];exact Nat.le_refl _),List.take_of_length_le (by omega)] at hps
  -- the reference's list, the program's items
  have hlist:∀n,2 * i+59<=n->(b_y n).spec_l10List d d.rules[i] v=some ⟨c_Q<|b_X d.rules[i] ts⟩:=by
   intro n hn;obtain ⟨I,rfl⟩:∃I,n=I+1:=⟨n - 1,by omega⟩;refine u_c (n:=I) (m:=i - 1) hkk (λh6=>(hseq h6).2) (λh6=>?_) hts (by omega) hsl<|λj h h'=>(hP j h h').2.1 I (by omega);have:=(hseq h6).1
   rcases hown with ⟨h,_⟩ | ⟨h,_⟩ | ⟨h,_⟩ | ⟨h,_⟩ | ⟨h,_⟩ | ⟨h,_⟩ | ⟨h,_,_,L⟩ | ⟨h,_⟩ | ⟨h,_⟩ | ⟨h,_⟩ <;> omega
  have hone:∀n,2 * i+59<=n->∀j (h:j<ts.length),(b_a n).impl_valueText_1 (j:Int) d (i:Int) v=some ts[j]:=by
   intro n hn j h;obtain ⟨I,rfl⟩:∃I,n=I+1:=⟨n - 1,by omega⟩
   show j_u I (b_a I) (j:Int) d (i:Int) v=some ts[j]
   unfold j_u;have h':j<v.items.length:=by omega
   rw [ix_ h',bd_some,m_m (ix_ hi) hkk,bd_some,show (b_a I).impl_valueText d (X_ d.rules[i] v.number j) v.items[j]=some ts[j] from (hP j h h').2.2.1 I (by omega),bd_some]
  have spec_:∀n,2 * i+60<=n->∃G,n=G+1/\2 * i+59<=G:=λn hn=>⟨n - 1,by omega,by omega⟩
  have hidx:=ix_ hi;generalize hrr:d.rules[i]=r at *
  generalize hJ:c_Q (b_X r ts)=J at *
  rcases hown with ⟨h,L,a2,W,e2⟩ | ⟨h,V,W,e2⟩ | ⟨h,V,L,e2⟩ | ⟨h,V,L,a2,e2⟩ | ⟨h,V,L,e2⟩ | ⟨h,V,W,L,a2⟩ | ⟨h,V,W,L⟩ | ⟨h,L,a2,W,a3,a4⟩ | ⟨h,V,W,L⟩ | ⟨h,V,W,L⟩
  .obtain ⟨_,s1,s4⟩:=e_t hkind h;obtain ⟨q,hq,a0,a5⟩:=p_i L<|Int.le_trans a2<|p_j s1 s4;refine ⟨⟨Lib.itoa v.number⟩,by simp only;omega,λn hn=>?_,λn hn=>?_⟩
   .obtain ⟨G,rfl,H⟩:=spec_ n hn
    show b_g G (b_y G) d (i:Int) v=some _
    unfold b_g
    rw [hidx,bd_some,hlist G H]
    simp only [h,Int.reduceBEq,fT_,bd_some]
    rw [hq,k_c (by omega) q a0,bd_some]
   .obtain ⟨G,rfl,H⟩:=spec_ n hn
    show b_h G (b_a G) d (i:Int) v=some _
    unfold b_h c_J
    rw [hidx,bd_some]
    simp only [h,Int.reduceBEq,Nat.reduceBEq,fT_,bd_some]
    rfl
  .refine ⟨⟨[33]⟩,by simp only [lC_,List.length_nil];omega,λn hn=>?_,λn hn=>?_⟩
   .obtain ⟨G,rfl,H⟩:=spec_ n hn
    show b_g G (b_y G) d (i:Int) v=some _
    unfold b_g
    rw [hidx,bd_some,hlist G H]
    simp only [h,Int.reduceBEq,bF_,fF_,fT_,bd_some]

   .obtain ⟨G,rfl,H⟩:=spec_ n hn
    show b_h G (b_a G) d (i:Int) v=some _
    unfold b_h c_J
    rw [hidx,bd_some]
    simp only [h,Int.reduceBEq,Nat.reduceBEq,bF_,fF_,fT_,bd_some]

  .have hfx:=g_b hkind h;refine ⟨⟨120::d_e v.bytes⟩,by have:=d_v v.bytes;simp only [lC_];omega,λn hn=>?_,λn hn=>?_⟩
   .obtain ⟨G,rfl,H⟩:=spec_ n hn
    show b_g G (b_y G) d (i:Int) v=some _
    unfold b_g
    rw [hidx,bd_some,hlist G H]
    simp only [h,Int.reduceBEq,bF_,fF_,bd_some]
    rw [m_u (by omega),bd_some,a_6 (by simp only [lC_,List.length_nil];have:=d_v v.bytes;omega),bd_some]
    rfl
   .obtain ⟨G,rfl,H⟩:=spec_ n hn
    show b_h G (b_a G) d (i:Int) v=some _
    unfold b_h c_J
    rw [hidx,bd_some]
    simp only [h,Int.reduceBEq,Nat.reduceBEq,bF_,fF_,bd_some]
    rw [m_v (by omega),bd_some,a_6 (by simp only [lC_,List.length_nil];have:=d_v v.bytes;omega),bd_some]
    rfl
  .refine ⟨⟨120::d_e v.bytes⟩,by have:=d_v v.bytes;simp only [lC_];omega,λn hn=>?_,λn hn=>?_⟩
   .obtain ⟨G,rfl,H⟩:=spec_ n hn
    show b_g G (b_y G) d (i:Int) v=some _
    unfold b_g
    rw [hidx,bd_some,hlist G H]
    simp only [h,Int.reduceBEq,bF_,fF_,bd_some]
    rw [m_u (by omega),bd_some,a_6 (by simp only [lC_,List.length_nil];have:=d_v v.bytes;omega),bd_some]
    rfl
   .obtain ⟨G,rfl,H⟩:=spec_ n hn
    show b_h G (b_a G) d (i:Int) v=some _
    unfold b_h c_J
    rw [hidx,bd_some]
    simp only [h,Int.reduceBEq,Nat.reduceBEq,bF_,fF_,bd_some]
    rw [m_v (by omega),bd_some,a_6 (by simp only [lC_,List.length_nil];have:=d_v v.bytes;omega),bd_some]
    rfl
  .refine ⟨⟨120::d_e v.bytes⟩,by have:=d_v v.bytes;simp only [lC_];omega,λn hn=>?_,λn hn=>?_⟩
   .obtain ⟨G,rfl,H⟩:=spec_ n hn
    show b_g G (b_y G) d (i:Int) v=some _
    unfold b_g
    rw [hidx,bd_some,hlist G H]
    simp only [h,Int.reduceBEq,bF_,fF_,bd_some]
    rw [m_u (by omega),bd_some,a_6 (by simp only [lC_,List.length_nil];have:=d_v v.bytes;omega),bd_some]
    rfl
   .obtain ⟨G,rfl,H⟩:=spec_ n hn
    show b_h G (b_a G) d (i:Int) v=some _
    unfold b_h c_J
    rw [hidx,bd_some]
    simp only [h,Int.reduceBEq,Nat.reduceBEq,bF_,fF_,bd_some]
    rw [m_v (by omega),bd_some,a_6 (by simp only [lC_,List.length_nil];have:=d_v v.bytes;omega),bd_some]
    rfl
  .refine ⟨⟨[91]++J++[93]⟩,by simp only [List.length_append,lC_,List.length_nil];omega,λn hn=>?_,λn hn=>?_⟩
   .obtain ⟨G,rfl,H⟩:=spec_ n hn
    show b_g G (b_y G) d (i:Int) v=some _
    unfold b_g
    rw [hidx,bd_some,hlist G H]
    simp only [h,Int.reduceBEq,bF_,fF_,fT_,bd_some]
    rw [a_6 (by simp only [lC_,List.length_nil];omega),bd_some,a_6 (by simp only [List.length_append,lC_,List.length_nil];omega),bd_some]
   .obtain ⟨G,rfl,H⟩:=spec_ n hn
    show b_h G (b_a G) d (i:Int) v=some _
    unfold b_h c_J
    rw [hidx,bd_some]
    simp only [h,Int.reduceBEq,Nat.reduceBEq,bF_,fF_,fT_,bd_some]
    refine (congrArg (λz=>bd z _)<|i_h (λk=>(b_X r ts).take k) (n:=v.items.length) rfl<|λj hj=>?_).trans ?_
    .have hjt:j<ts.length:=by omega
     rw [hone G H j hjt,bd_some,a_s (by rw [List.length_take,e_w];have:=k_n (i - 1) v.items;omega),bd_some,p_h hjt]
     unfold e_v
     rw [iN_ (by omega),Z_ hjt]
    .rw [bd_some,el_inl,List.take_of_length_le (by rw [e_w];omega),p_g (by rw [hJ];omega),bd_some,hJ]
     rw [a_6 (by simp only [lC_,List.length_nil];omega),bd_some,a_6 (by simp only [List.length_append,lC_,List.length_nil];omega),bd_some]
  .have a6:=hseq h;refine ⟨⟨[123]++J++[125]⟩,by simp only [List.length_append,lC_,List.length_nil];omega,λn hn=>?_,λn hn=>?_⟩
   .obtain ⟨G,rfl,H⟩:=spec_ n hn
    show b_g G (b_y G) d (i:Int) v=some _
    unfold b_g
    rw [hidx,bd_some,hlist G H]
    simp only [h,Int.reduceBEq,bF_,fF_,fT_,bd_some]
    rw [a_6 (by simp only [lC_,List.length_nil];omega),bd_some,a_6 (by simp only [List.length_append,lC_,List.length_nil];omega),bd_some]
   .obtain ⟨G,rfl,H⟩:=spec_ n hn
    show b_h G (b_a G) d (i:Int) v=some _
    unfold b_h c_J
    rw [hidx,bd_some]
    simp only [h,Int.reduceBEq,Nat.reduceBEq,bF_,fF_,fT_,bd_some]
    refine (congrArg (λz=>bd z _)<|i_h (λk=>(b_X r ts).take k) (n:=r.names.length) rfl<|λj hj=>?_).trans ?_
    .have hjt:j<ts.length:=by omega
     have hjv:j<v.items.length:=by omega
     have hnl:=a6.2 _<|gE_ hj;have htl:=hsl j hjt hjv;have hvl:=m_h (m:=i - 1)<|gE_ hjv
     rw [ix_ hj,bd_some,a_6 (by simp only [lC_,List.length_nil];omega),bd_some,hone G H j hjt,bd_some,a_6 (by simp only [List.length_append,lC_,List.length_nil];omega),bd_some,a_s (by rw [List.length_take,e_w];have:=k_n (i - 1) v.items;omega),bd_some,p_h hjt]
     unfold e_v
     rw [iP_ h,Z_ hjt,Z_ hj]
    .rw [bd_some,el_inl,List.take_of_length_le (by rw [e_w];omega),p_g (by rw [hJ];omega),bd_some,hJ]
     rw [a_6 (by simp only [lC_,List.length_nil];omega),bd_some,a_6 (by simp only [List.length_append,lC_,List.length_nil];omega),bd_some]
  .have Y:ts.length=1:=by omega
   have O:J=(ts[0]'(by omega)).b:=by rw [← hJ];exact m_x (by omega) Y
   have h1:=λn hn=>hone n hn 0 (by omega)
   have hl:=c_P hkind h;obtain ⟨hint,hlim⟩:=k_z hl.1;obtain ⟨q,hq,a0,a5⟩:=p_i L<|Int.le_trans a2 (by rw [hlim];exact p_j hint.2.1 hint.2.2);have a8:=k_n (i - 1) v.items;have a9:=hsl 0 (by omega) (by omega);have aa:=m_h (m:=i - 1)<|gE_ (l:=v.items) (n:=0) (by omega);refine ⟨⟨Lib.itoa v.number++[60]++J++[62]⟩,by have:=congrArg List.length O;simp only [List.length_append,lC_,List.length_nil];omega,λn hn=>?_,λn hn=>?_⟩
   .obtain ⟨G,rfl,H⟩:=spec_ n hn
    show b_g G (b_y G) d (i:Int) v=some _
    unfold b_g
    rw [hidx,bd_some,hlist G H]
    simp only [h,Int.reduceBEq,bF_,fF_,fT_,bd_some]
    have:=congrArg List.length O;unfold k_U
    rw [hq,k_c (by omega) q a0,bd_some,← hq]
    rw [a_6 (by simp only [lC_,List.length_nil];omega),bd_some,a_6 (by simp only [List.length_append,lC_,List.length_nil];omega),bd_some,a_6 (by simp only [List.length_append,lC_,List.length_nil];omega),bd_some,bd_some]
   .obtain ⟨G,rfl,H⟩:=spec_ n hn
    show b_h G (b_a G) d (i:Int) v=some _
    unfold b_h c_J
    rw [hidx,bd_some]
    simp only [h,Int.reduceBEq,Nat.reduceBEq,bF_,fF_,fT_,bd_some]
    have:=congrArg List.length O
    rw [show (b_a G).impl_valueText_1 0 d (i:Int) v=some ts[0] from h1 G H,bd_some]
    unfold k_W g_r j_F
    rw [bd_some,bd_some,O]
    rw [a_6 (by simp only [lC_,List.length_nil];omega),bd_some,a_6 (by simp only [List.length_append,lC_,List.length_nil];omega),bd_some,a_6 (by simp only [List.length_append,lC_,List.length_nil];omega),bd_some,bd_some]
  .by_cases h0:v.items.length=0
   .refine ⟨⟨[45]⟩,by simp only [lC_,List.length_nil];omega,λn hn=>?_,λn hn=>?_⟩
    .obtain ⟨G,rfl,H⟩:=spec_ n hn
     show b_g G (b_y G) d (i:Int) v=some _
     unfold b_g
     rw [hidx,bd_some,hlist G H]
     simp only [h,Int.reduceBEq,bF_,fF_,fT_,bd_some]
     rw [show ((v.items.length:Int)==0)=true by simp [h0]]
     rfl
    .obtain ⟨G,rfl,H⟩:=spec_ n hn
     show b_h G (b_a G) d (i:Int) v=some _
     unfold b_h c_J
     rw [hidx,bd_some]
     simp only [h,Int.reduceBEq,Nat.reduceBEq,bF_,fF_,fT_,bd_some]
     rw [show ((v.items.length:Int)==0)=true by simp [h0]]
     rfl
   .have Y:ts.length=1:=by omega
    have O:J=(ts[0]'(by omega)).b:=by rw [← hJ];exact m_x (by omega) Y
    have h1:=λn hn=>hone n hn 0 (by omega)
    refine ⟨⟨[63]++J⟩,by simp only [List.length_append,lC_,List.length_nil];omega,λn hn=>?_,λn hn=>?_⟩
    .obtain ⟨G,rfl,H⟩:=spec_ n hn
     show b_g G (b_y G) d (i:Int) v=some _
     unfold b_g
     rw [hidx,bd_some,hlist G H]
     simp only [h,Int.reduceBEq,bF_,fF_,fT_,bd_some]
     rw [show ((v.items.length:Int)==0)=false by simp only [beq_eq_false_iff_ne];omega,iN_ (by simp),a_6 (by simp only [lC_,List.length_nil];omega),bd_some]
    .obtain ⟨G,rfl,H⟩:=spec_ n hn
     show b_h G (b_a G) d (i:Int) v=some _
     unfold b_h c_J
     rw [hidx,bd_some]
     simp only [h,Int.reduceBEq,Nat.reduceBEq,bF_,fF_,fT_,bd_some]
     rw [show ((v.items.length:Int)==0)=false by simp only [beq_eq_false_iff_ne];omega,iN_ (by simp),show (b_a G).impl_valueText_1 0 d (i:Int) v=some ts[0] from h1 G H,bd_some,a_6 (by have:=congrArg List.length O;simp only [lC_,List.length_nil];omega),bd_some,O]
  .have Y:ts.length=1:=by omega
   have O:J=(ts[0]'(by omega)).b:=by rw [← hJ];exact m_x (by omega) Y
   have h1:=λn hn=>hone n hn 0 (by omega)
   refine ⟨⟨[40]++J++[41]⟩,by simp only [List.length_append,lC_,List.length_nil];omega,λn hn=>?_,λn hn=>?_⟩
   .obtain ⟨G,rfl,H⟩:=spec_ n hn
    show b_g G (b_y G) d (i:Int) v=some _
    unfold b_g
    rw [hidx,bd_some,hlist G H]
    simp only [h,Int.reduceBEq,bF_,fF_,fT_,bd_some]
    rw [a_6 (by simp only [lC_,List.length_nil];omega),bd_some,a_6 (by simp only [List.length_append,lC_,List.length_nil];omega),bd_some]
   .obtain ⟨G,rfl,H⟩:=spec_ n hn
    show b_h G (b_a G) d (i:Int) v=some _
    unfold b_h c_J
    rw [hidx,bd_some]
    simp only [h,Int.reduceBEq,Nat.reduceBEq,bF_,fF_,fT_,bd_some]
    have:=congrArg List.length O
    rw [show (b_a G).impl_valueText_1 0 d (i:Int) v=some ts[0] from h1 G H,bd_some,O]
    rw [a_6 (by simp only [lC_,List.length_nil];omega),bd_some,a_6 (by simp only [List.length_append,lC_,List.length_nil];omega),bd_some]
theorem p_l (hv:D_ d=true)(hd:SmD d)(hb:b.length<=400){i:Nat}(hi:i<d.rules.length){p:Nat}(hp:p<=b.length)(hok:(rdW d.rules b i p).2.2=0){n:Nat}(hn:1000<=n):∃t:Str,h_E n d (i:Int) (rdW d.rules b i p).1=some t/\f_s n d (i:Int) (rdW d.rules b i p).1=some t:=by
 have hvl:=(b_f hv).2;obtain ⟨t,_,G,H⟩:=p_k hv hd hb i hi p hp hok;refine ⟨t,?_,?_⟩
 .unfold h_E
  rw [p_a hv hd hb hi hp hok hn,bd_some,iN_ (by simp),G n (by omega),bd_some]
 .unfold f_s
  rw [u_7 hv hd hb hi hp hok hn,bd_some,iN_ (by simp),H n (by omega),bd_some]
theorem u_d (hd:SmD d){n:Nat}(hn:1048600<=n){path:Str}(hp:path.b.length<=MX):∃t:Str,d_D n d b path=some t/\k_X n d b path=some t:=by
 unfold d_D k_X
 rw [g_7 hd hn hp,o_x hd hn hp,k_m hd hn hp]
 unfold d_Z e_r
 cases hf:c_p d b path with
 | none=>exact ⟨⟨[]⟩,rfl,rfl⟩
 | some x =>
  obtain ⟨hv,hb,hi,hq,hok⟩:=i_g hf;obtain ⟨t,G,H⟩:=p_l hv hd hb hi hq hok (n:=n) (by omega);refine ⟨t,?_,?_⟩
  .rw [bd2_some,iN_ (by simp),bd2_some]
   simp only
   rw [G,bd_some]
  .rw [bd3_some,iN_ (by simp)]
   simp only
   rw [H,bd_some]
end
end Go.Vw
