
import Derived.Test.YteocmnebeeammaaGreatDoorVwP68
namespace Go.Vw
open Go.RowKit Dat
section
variable {d:d_}{b:Bt}
theorem o_l {r:b_}{ts:List Str}{k:Nat}(h:k<ts.length):(b_H r ts).take (k+1)=(b_H r ts).take k++[e_2 r ts k]:=by
 have hk:k<(b_H r ts).length:=by rw [e_3];exact h
 rw [f_7 hk,l_h]
theorem l_i {r:b_}{ts:List Str}(h6:r.kind ≠ 6)(h1:ts.length=1):c_C (b_H r ts)=(ts[0]'(by omega)).b:=by
 obtain ⟨t,rfl⟩:∃t,ts=[t]:=by
  match ts,h1 with
  | [t],_=>exact ⟨t,rfl⟩
 unfold c_C b_H e_2
 simp [h6,Lib.join_one]
theorem o_m {x:Int}(G:0<=x)(h:x<=4294967295):∃q:Nat,x=q/\q<=1000000000000/\(Lib.itoa x).length<=20:=by
 obtain ⟨q,rfl⟩:∃q:Nat,x=q:=⟨x.toNat,by omega⟩;exact ⟨q,rfl,by omega,r_D (by omega)⟩
theorem o_n {s:Int}(h1:1<=s)(h4:s<=4):(256:Int) ^ s.toNat - 1<=4294967295:=by
 have:s=1∨s=2∨s=3∨s=4:=by omega
 rcases this with rfl | rfl | rfl | rfl <;> decide
theorem o_o (hv:G_ d=true)(hd:SmD d)(hb:b.length<=400):∀(i:Nat),i<d.rules.length->∀p,p<=b.length->(rdW d.rules b i p).2.2=0->∃t:Str,t.b.length<=40 * vsz i (rdW d.rules b i p).1+22/\(∀n,2 * i+60<=n->m_f n d (i:Int) (rdW d.rules b i p).1=some t)/\(∀n,2 * i+60<=n->m_h n d (i:Int) (rdW d.rules b i p).1=some t):=by
 have hLIM:=a_L;intro i
 induction i using Nat.strongRecOn with
 | ind i ih =>
  intro hi p hp hok;have hvl:=(a_Y hv).2;have hr:=a_A hv hi;have hown:=l_d hv hb hi hp hok;have hit:=l_e hv hi hp hok;have hsize:=n_K (b:=b) hv i hi p hp;have hle:=b_B (b:=b) hv i hi p hp
  have hz:vsz i (rdW d.rules b i p).1<=20000:=by
   refine Nat.le_trans (hsize.2 hok) (Nat.le_trans (Nat.mul_le_mul (show 2 * i+1<=49 by omega) (show (rdW d.rules b i p).2.1 - p<=400 by omega)) (by decide))
  have hdep:=hsize.1
  -- the items' texts
  have hch:∀j,j<(rdW d.rules b i p).1.items.length->∃t:Str,∀(h:j<(rdW d.rules b i p).1.items.length),t.b.length<=40 * vsz (i - 1) (rdW d.rules b i p).1.items[j]+22/\(∀n,2 * i+58<=n->m_f n d (a_l d.rules[i] (rdW d.rules b i p).1.number j) (rdW d.rules b i p).1.items[j]=some t)/\(∀n,2 * i+58<=n->m_h n d (a_l d.rules[i] (rdW d.rules b i p).1.number j) (rdW d.rules b i p).1.items[j]=some t)/\0<=a_l d.rules[i] (rdW d.rules b i p).1.number j:=by
   intro j hj;obtain ⟨k,q,h1,h2,h3,h4,h5⟩:=hit j hj;obtain ⟨t,t1,t2,t3⟩:=ih k h2 (by omega) q h3 h4;have hdk:=(n_K (b:=b) hv k (by omega) q h3).1;refine ⟨t,λ_=>?_⟩
   rw [h1,h5,(j_p k (i - 1) _ hdk (by omega)).2]
   exact ⟨t1,λn hn=>t2 n (by omega),λn hn=>t3 n (by omega),by omega⟩
  have a7:(rdW d.rules b i p).1.bytes.length+lsz (i - 1) (rdW d.rules b i p).1.items<=vsz i (rdW d.rules b i p).1:=by
   cases i with
   | zero =>
    have h0:(rdW d.rules b 0 p).1.items=[]:=hdep
    rw [h0];simp [vsz,lsz]
   | succ i=>simp only [Nat.add_sub_cancel,vsz,lsz];exact Nat.le_refl _
  generalize (rdW d.rules b i p).1=v at *
  obtain ⟨ts,hts,hP⟩:=o_i v.items.length hch;have hkk:=c_q hr.kind
  have hseq:d.rules[i].kind=6->d.rules[i].names.length=d.rules[i].kids.length/\∀s∈d.rules[i].names,s.b.length<=12:=λh6=>by
   obtain ⟨s1,_,_,s4⟩:=d_C hr.kind h6;exact ⟨s1.symm,λs hs=>l_p<|s4 s hs⟩
  have hkind:=hr.kind;have hsl:∀j (h:j<ts.length) (h':j<v.items.length),ts[j].b.length<=40 * vsz (i - 1) v.items[j]+22:=λj h h'=>(hP j h h').1
  have hps:=o_j (m:=i - 1) (r:=d.rules[i]) (λh6=>(hseq h6).2) hts hsl ts.length<|Nat.le_refl _
  rw [List.take_of_length_le (by rw [e_3];exact Nat.le_refl _),List.take_of_length_le (by omega)] at hps
  -- the reference's list, the program's items
  have hlist:∀n,2 * i+59<=n->(b_o n).spec_l10List d d.rules[i] v=some ⟨c_C<|b_H d.rules[i] ts⟩:=by
   intro n hn;obtain ⟨I,rfl⟩:∃I,n=I+1:=⟨n - 1,by omega⟩;refine s_x (n:=I) (m:=i - 1) hkk (λh6=>(hseq h6).2) (λh6=>?_) hts (by omega) hsl<|λj h h'=>(hP j h h').2.1 I (by omega);have:=(hseq h6).1
   rcases hown with ⟨h,_⟩ | ⟨h,_⟩ | ⟨h,_⟩ | ⟨h,_⟩ | ⟨h,_⟩ | ⟨h,_⟩ | ⟨h,_,_,L⟩ | ⟨h,_⟩ | ⟨h,_⟩ | ⟨h,_⟩ <;> omega
  have hone:∀n,2 * i+59<=n->∀j (h:j<ts.length),(a_W n).impl_valueText_1 (j:Int) d (i:Int) v=some ts[j]:=by
   intro n hn j h;obtain ⟨I,rfl⟩:∃I,n=I+1:=⟨n - 1,by omega⟩
   show i_s I (a_W I) (j:Int) d (i:Int) v=some ts[j]
   unfold i_s;have h':j<v.items.length:=by omega
   rw [ix_ h',bd_some,l_a (ix_ hi) hkk,bd_some,show (a_W I).impl_valueText d (a_l d.rules[i] v.number j) v.items[j]=some ts[j] from (hP j h h').2.2.1 I (by omega),bd_some]
  have spec_:∀n,2 * i+60<=n->∃G,n=G+1/\2 * i+59<=G:=λn hn=>⟨n - 1,by omega,by omega⟩
  have hidx:=ix_ hi;generalize hrr:d.rules[i]=r at *
  generalize hJ:c_C (b_H r ts)=J at *
  rcases hown with ⟨h,L,a2,W,e2⟩ | ⟨h,V,W,e2⟩ | ⟨h,V,L,e2⟩ | ⟨h,V,L,a2,e2⟩ | ⟨h,V,L,e2⟩ | ⟨h,V,W,L,a2⟩ | ⟨h,V,W,L⟩ | ⟨h,L,a2,W,a3,a4⟩ | ⟨h,V,W,L⟩ | ⟨h,V,W,L⟩
  .obtain ⟨_,s1,s4⟩:=e_0 hkind h;obtain ⟨q,hq,a0,a5⟩:=o_m L<|Int.le_trans a2<|o_n s1 s4;refine ⟨⟨Lib.itoa v.number⟩,by simp only;omega,λn hn=>?_,λn hn=>?_⟩
   .obtain ⟨G,rfl,H⟩:=spec_ n hn
    show b_0 G (b_o G) d (i:Int) v=some _
    unfold b_0
    rw [hidx,bd_some,hlist G H]
    simp only [h,show ((1:Int)==1)=true from rfl,fT_,bd_some]
    rw [hq,j_e (by omega) q a0,bd_some]
   .obtain ⟨G,rfl,H⟩:=spec_ n hn
    show b_1 G (a_W G) d (i:Int) v=some _
    unfold b_1 c_w
    rw [hidx,bd_some]
    simp only [h,show ((1:Int)==1)=true from rfl,show ((1:Nat)==1)=true from rfl,fT_,bd_some]
    rfl
  .refine ⟨⟨[33]⟩,by simp only [lC_,List.length_nil];omega,λn hn=>?_,λn hn=>?_⟩
   .obtain ⟨G,rfl,H⟩:=spec_ n hn
    show b_0 G (b_o G) d (i:Int) v=some _
    unfold b_0
    rw [hidx,bd_some,hlist G H]
    simp only [h,show ((2:Int)==1)=false from rfl,show ((2:Int)==2)=true from rfl,bF_,fF_,fT_,bd_some]

   .obtain ⟨G,rfl,H⟩:=spec_ n hn
    show b_1 G (a_W G) d (i:Int) v=some _
    unfold b_1 c_w
    rw [hidx,bd_some]
    simp only [h,show ((2:Int)==1)=false from rfl,show ((2:Int)==2)=true from rfl,show ((2:Nat)==1)=false from rfl,show ((2:Nat)==2)=true from rfl,bF_,fF_,fT_,bd_some]

  .have hfx:=f_a hkind h;refine ⟨⟨120::c_X v.bytes⟩,by have:=d_e v.bytes;simp only [lC_];omega,λn hn=>?_,λn hn=>?_⟩
   .obtain ⟨G,rfl,H⟩:=spec_ n hn
    show b_0 G (b_o G) d (i:Int) v=some _
    unfold b_0
    rw [hidx,bd_some,hlist G H]
    simp only [h,show ((3:Int)==1)=false from rfl,show ((3:Int)==2)=false from rfl,show ((3:Int)==5)=false from rfl,show ((3:Int)==6)=false from rfl,show ((3:Int)==7)=false from rfl,show ((3:Int)==8)=false from rfl,show ((3:Int)==9)=false from rfl,bF_,fF_,bd_some]
    rw [l_f (by omega),bd_some,a_e (by simp only [lC_,List.length_nil];have:=d_e v.bytes;omega),bd_some]
    rfl
   .obtain ⟨G,rfl,H⟩:=spec_ n hn
    show b_1 G (a_W G) d (i:Int) v=some _
    unfold b_1 c_w
    rw [hidx,bd_some]
    simp only [h,show ((3:Int)==1)=false from rfl,show ((3:Int)==2)=false from rfl,show ((3:Int)==5)=false from rfl,show ((3:Int)==6)=false from rfl,show ((3:Int)==7)=false from rfl,show ((3:Int)==8)=false from rfl,show ((3:Int)==9)=false from rfl,show ((0:Nat)==1)=false from rfl,show ((0:Nat)==2)=false from rfl,show ((0:Nat)==5)=false from rfl,show ((0:Nat)==6)=false from rfl,show ((0:Nat)==7)=false from rfl,show ((0:Nat)==8)=false from rfl,show ((0:Nat)==9)=false from rfl,bF_,fF_,bd_some]
    rw [l_g (by omega),bd_some,a_e (by simp only [lC_,List.length_nil];have:=d_e v.bytes;omega),bd_some]
    rfl
  .refine ⟨⟨120::c_X v.bytes⟩,by have:=d_e v.bytes;simp only [lC_];omega,λn hn=>?_,λn hn=>?_⟩
   .obtain ⟨G,rfl,H⟩:=spec_ n hn
    show b_0 G (b_o G) d (i:Int) v=some _
    unfold b_0
    rw [hidx,bd_some,hlist G H]
    simp only [h,show ((4:Int)==1)=false from rfl,show ((4:Int)==2)=false from rfl,show ((4:Int)==5)=false from rfl,show ((4:Int)==6)=false from rfl,show ((4:Int)==7)=false from rfl,show ((4:Int)==8)=false from rfl,show ((4:Int)==9)=false from rfl,bF_,fF_,bd_some]
    rw [l_f (by omega),bd_some,a_e (by simp only [lC_,List.length_nil];have:=d_e v.bytes;omega),bd_some]
    rfl
   .obtain ⟨G,rfl,H⟩:=spec_ n hn
    show b_1 G (a_W G) d (i:Int) v=some _
    unfold b_1 c_w
    rw [hidx,bd_some]
    simp only [h,show ((4:Int)==1)=false from rfl,show ((4:Int)==2)=false from rfl,show ((4:Int)==5)=false from rfl,show ((4:Int)==6)=false from rfl,show ((4:Int)==7)=false from rfl,show ((4:Int)==8)=false from rfl,show ((4:Int)==9)=false from rfl,show ((0:Nat)==1)=false from rfl,show ((0:Nat)==2)=false from rfl,show ((0:Nat)==5)=false from rfl,show ((0:Nat)==6)=false from rfl,show ((0:Nat)==7)=false from rfl,show ((0:Nat)==8)=false from rfl,show ((0:Nat)==9)=false from rfl,bF_,fF_,bd_some]
    rw [l_g (by omega),bd_some,a_e (by simp only [lC_,List.length_nil];have:=d_e v.bytes;omega),bd_some]
    rfl
  .refine ⟨⟨120::c_X v.bytes⟩,by have:=d_e v.bytes;simp only [lC_];omega,λn hn=>?_,λn hn=>?_⟩
   .obtain ⟨G,rfl,H⟩:=spec_ n hn
    show b_0 G (b_o G) d (i:Int) v=some _
    unfold b_0
    rw [hidx,bd_some,hlist G H]
    simp only [h,show ((10:Int)==1)=false from rfl,show ((10:Int)==2)=false from rfl,show ((10:Int)==5)=false from rfl,show ((10:Int)==6)=false from rfl,show ((10:Int)==7)=false from rfl,show ((10:Int)==8)=false from rfl,show ((10:Int)==9)=false from rfl,bF_,fF_,bd_some]
    rw [l_f (by omega),bd_some,a_e (by simp only [lC_,List.length_nil];have:=d_e v.bytes;omega),bd_some]
    rfl
   .obtain ⟨G,rfl,H⟩:=spec_ n hn
    show b_1 G (a_W G) d (i:Int) v=some _
    unfold b_1 c_w
    rw [hidx,bd_some]
    simp only [h,show ((10:Int)==1)=false from rfl,show ((10:Int)==2)=false from rfl,show ((10:Int)==5)=false from rfl,show ((10:Int)==6)=false from rfl,show ((10:Int)==7)=false from rfl,show ((10:Int)==8)=false from rfl,show ((10:Int)==9)=false from rfl,show ((0:Nat)==1)=false from rfl,show ((0:Nat)==2)=false from rfl,show ((0:Nat)==5)=false from rfl,show ((0:Nat)==6)=false from rfl,show ((0:Nat)==7)=false from rfl,show ((0:Nat)==8)=false from rfl,show ((0:Nat)==9)=false from rfl,bF_,fF_,bd_some]
    rw [l_g (by omega),bd_some,a_e (by simp only [lC_,List.length_nil];have:=d_e v.bytes;omega),bd_some]
    rfl
  .refine ⟨⟨[91]++J++[93]⟩,by simp only [List.length_append,lC_,List.length_nil];omega,λn hn=>?_,λn hn=>?_⟩
   .obtain ⟨G,rfl,H⟩:=spec_ n hn
    show b_0 G (b_o G) d (i:Int) v=some _
    unfold b_0
    rw [hidx,bd_some,hlist G H]
    simp only [h,show ((5:Int)==1)=false from rfl,show ((5:Int)==2)=false from rfl,show ((5:Int)==5)=true from rfl,bF_,fF_,fT_,bd_some]
    rw [a_e (by simp only [lC_,List.length_nil];omega),bd_some,a_e (by simp only [List.length_append,lC_,List.length_nil];omega),bd_some]
   .obtain ⟨G,rfl,H⟩:=spec_ n hn
    show b_1 G (a_W G) d (i:Int) v=some _
    unfold b_1 c_w
    rw [hidx,bd_some]
    simp only [h,show ((5:Int)==1)=false from rfl,show ((5:Int)==2)=false from rfl,show ((5:Int)==5)=true from rfl,show ((5:Nat)==1)=false from rfl,show ((5:Nat)==2)=false from rfl,show ((5:Nat)==5)=true from rfl,bF_,fF_,fT_,bd_some]
    refine (congrArg (λz=>bd z _)<|g_Z (λk=>(b_H r ts).take k) (n:=v.items.length) rfl<|λj hj=>?_).trans ?_
    .have hjt:j<ts.length:=by omega
     rw [hone G H j hjt,bd_some,c_s (by rw [List.length_take,e_3];have:=j_o (i - 1) v.items;omega),bd_some,o_l hjt]
     unfold e_2
     rw [iN_ (by omega),Z_ hjt]
    .rw [bd_some,el_inl,List.take_of_length_le (by rw [e_3];omega),o_k (by rw [hJ];omega),bd_some,hJ]
     rw [a_e (by simp only [lC_,List.length_nil];omega),bd_some,a_e (by simp only [List.length_append,lC_,List.length_nil];omega),bd_some]
  .have a6:=hseq h;refine ⟨⟨[123]++J++[125]⟩,by simp only [List.length_append,lC_,List.length_nil];omega,λn hn=>?_,λn hn=>?_⟩
   .obtain ⟨G,rfl,H⟩:=spec_ n hn
    show b_0 G (b_o G) d (i:Int) v=some _
    unfold b_0
    rw [hidx,bd_some,hlist G H]
    simp only [h,show ((6:Int)==1)=false from rfl,show ((6:Int)==2)=false from rfl,show ((6:Int)==5)=false from rfl,show ((6:Int)==6)=true from rfl,bF_,fF_,fT_,bd_some]
    rw [a_e (by simp only [lC_,List.length_nil];omega),bd_some,a_e (by simp only [List.length_append,lC_,List.length_nil];omega),bd_some]
   .obtain ⟨G,rfl,H⟩:=spec_ n hn
    show b_1 G (a_W G) d (i:Int) v=some _
    unfold b_1 c_w
    rw [hidx,bd_some]
    simp only [h,show ((6:Int)==1)=false from rfl,show ((6:Int)==2)=false from rfl,show ((6:Int)==5)=false from rfl,show ((6:Int)==6)=true from rfl,show ((6:Nat)==1)=false from rfl,show ((6:Nat)==2)=false from rfl,show ((6:Nat)==5)=false from rfl,show ((6:Nat)==6)=true from rfl,bF_,fF_,fT_,bd_some]
    refine (congrArg (λz=>bd z _)<|g_Z (λk=>(b_H r ts).take k) (n:=r.names.length) rfl<|λj hj=>?_).trans ?_
    .have hjt:j<ts.length:=by omega
     have hjv:j<v.items.length:=by omega
     have hnl:=a6.2 _<|gE_ hj;have htl:=hsl j hjt hjv;have hvl:=l_5 (m:=i - 1)<|gE_ hjv
     rw [ix_ hj,bd_some,a_e (by simp only [lC_,List.length_nil];omega),bd_some,hone G H j hjt,bd_some,a_e (by simp only [List.length_append,lC_,List.length_nil];omega),bd_some,c_s (by rw [List.length_take,e_3];have:=j_o (i - 1) v.items;omega),bd_some,o_l hjt]
     unfold e_2
     rw [iP_ h,Z_ hjt,Z_ hj]
    .rw [bd_some,el_inl,List.take_of_length_le (by rw [e_3];omega),o_k (by rw [hJ];omega),bd_some,hJ]
     rw [a_e (by simp only [lC_,List.length_nil];omega),bd_some,a_e (by simp only [List.length_append,lC_,List.length_nil];omega),bd_some]
  .have Y:ts.length=1:=by omega
   have O:J=(ts[0]'(by omega)).b:=by rw [← hJ];exact l_i (by omega) Y
   have h1:=λn hn=>hone n hn 0 (by omega)
   have hl:=c_B hkind h;obtain ⟨hint,hlim⟩:=j_w hl.1;obtain ⟨q,hq,a0,a5⟩:=o_m L<|Int.le_trans a2 (by rw [hlim];exact o_n hint.2.1 hint.2.2);have a8:=j_o (i - 1) v.items;have a9:=hsl 0 (by omega) (by omega);have aa:=l_5 (m:=i - 1)<|gE_ (l:=v.items) (n:=0) (by omega);refine ⟨⟨Lib.itoa v.number++[60]++J++[62]⟩,by have:=congrArg List.length O;simp only [List.length_append,lC_,List.length_nil];omega,λn hn=>?_,λn hn=>?_⟩
   .obtain ⟨G,rfl,H⟩:=spec_ n hn
    show b_0 G (b_o G) d (i:Int) v=some _
    unfold b_0
    rw [hidx,bd_some,hlist G H]
    simp only [h,show ((7:Int)==1)=false from rfl,show ((7:Int)==2)=false from rfl,show ((7:Int)==5)=false from rfl,show ((7:Int)==6)=false from rfl,show ((7:Int)==7)=true from rfl,bF_,fF_,fT_,bd_some]
    have:=congrArg List.length O;unfold k_i
    rw [hq,j_e (by omega) q a0,bd_some,← hq]
    rw [a_e (by simp only [lC_,List.length_nil];omega),bd_some,a_e (by simp only [List.length_append,lC_,List.length_nil];omega),bd_some,a_e (by simp only [List.length_append,lC_,List.length_nil];omega),bd_some,bd_some]
   .obtain ⟨G,rfl,H⟩:=spec_ n hn
    show b_1 G (a_W G) d (i:Int) v=some _
    unfold b_1 c_w
    rw [hidx,bd_some]
    simp only [h,show ((7:Int)==1)=false from rfl,show ((7:Int)==2)=false from rfl,show ((7:Int)==5)=false from rfl,show ((7:Int)==6)=false from rfl,show ((7:Int)==7)=true from rfl,show ((7:Nat)==1)=false from rfl,show ((7:Nat)==2)=false from rfl,show ((7:Nat)==5)=false from rfl,show ((7:Nat)==6)=false from rfl,show ((7:Nat)==7)=true from rfl,bF_,fF_,fT_,bd_some]
    have:=congrArg List.length O
    rw [show (a_W G).impl_valueText_1 0 d (i:Int) v=some ts[0] from h1 G H,bd_some]
    unfold k_k f_n i_V
    rw [bd_some,bd_some,O]
    rw [a_e (by simp only [lC_,List.length_nil];omega),bd_some,a_e (by simp only [List.length_append,lC_,List.length_nil];omega),bd_some,a_e (by simp only [List.length_append,lC_,List.length_nil];omega),bd_some,bd_some]
  .by_cases h0:v.items.length=0
   .refine ⟨⟨[45]⟩,by simp only [lC_,List.length_nil];omega,λn hn=>?_,λn hn=>?_⟩
    .obtain ⟨G,rfl,H⟩:=spec_ n hn
     show b_0 G (b_o G) d (i:Int) v=some _
     unfold b_0
     rw [hidx,bd_some,hlist G H]
     simp only [h,show ((8:Int)==1)=false from rfl,show ((8:Int)==2)=false from rfl,show ((8:Int)==5)=false from rfl,show ((8:Int)==6)=false from rfl,show ((8:Int)==7)=false from rfl,show ((8:Int)==8)=true from rfl,bF_,fF_,fT_,bd_some]
     rw [show ((v.items.length:Int)==0)=true by simp [h0]]
     rfl
    .obtain ⟨G,rfl,H⟩:=spec_ n hn
     show b_1 G (a_W G) d (i:Int) v=some _
     unfold b_1 c_w
     rw [hidx,bd_some]
     simp only [h,show ((8:Int)==1)=false from rfl,show ((8:Int)==2)=false from rfl,show ((8:Int)==5)=false from rfl,show ((8:Int)==6)=false from rfl,show ((8:Int)==7)=false from rfl,show ((8:Int)==8)=true from rfl,show ((8:Nat)==1)=false from rfl,show ((8:Nat)==2)=false from rfl,show ((8:Nat)==5)=false from rfl,show ((8:Nat)==6)=false from rfl,show ((8:Nat)==7)=false from rfl,show ((8:Nat)==8)=true from rfl,bF_,fF_,fT_,bd_some]
     rw [show ((v.items.length:Int)==0)=true by simp [h0]]
     rfl
   .have Y:ts.length=1:=by omega
    have O:J=(ts[0]'(by omega)).b:=by rw [← hJ];exact l_i (by omega) Y
    have h1:=λn hn=>hone n hn 0 (by omega)
    refine ⟨⟨[63]++J⟩,by simp only [List.length_append,lC_,List.length_nil];omega,λn hn=>?_,λn hn=>?_⟩
    .obtain ⟨G,rfl,H⟩:=spec_ n hn
     show b_0 G (b_o G) d (i:Int) v=some _
     unfold b_0
     rw [hidx,bd_some,hlist G H]
     simp only [h,show ((8:Int)==1)=false from rfl,show ((8:Int)==2)=false from rfl,show ((8:Int)==5)=false from rfl,show ((8:Int)==6)=false from rfl,show ((8:Int)==7)=false from rfl,show ((8:Int)==8)=true from rfl,bF_,fF_,fT_,bd_some]
     rw [show ((v.items.length:Int)==0)=false by simp only [beq_eq_false_iff_ne];omega,iN_ (by simp),a_e (by simp only [lC_,List.length_nil];omega),bd_some]
    .obtain ⟨G,rfl,H⟩:=spec_ n hn
     show b_1 G (a_W G) d (i:Int) v=some _
     unfold b_1 c_w
     rw [hidx,bd_some]
     simp only [h,show ((8:Int)==1)=false from rfl,show ((8:Int)==2)=false from rfl,show ((8:Int)==5)=false from rfl,show ((8:Int)==6)=false from rfl,show ((8:Int)==7)=false from rfl,show ((8:Int)==8)=true from rfl,show ((8:Nat)==1)=false from rfl,show ((8:Nat)==2)=false from rfl,show ((8:Nat)==5)=false from rfl,show ((8:Nat)==6)=false from rfl,show ((8:Nat)==7)=false from rfl,show ((8:Nat)==8)=true from rfl,bF_,fF_,fT_,bd_some]
     rw [show ((v.items.length:Int)==0)=false by simp only [beq_eq_false_iff_ne];omega,iN_ (by simp),show (a_W G).impl_valueText_1 0 d (i:Int) v=some ts[0] from h1 G H,bd_some,a_e (by have:=congrArg List.length O;simp only [lC_,List.length_nil];omega),bd_some,O]
  .have Y:ts.length=1:=by omega
   have O:J=(ts[0]'(by omega)).b:=by rw [← hJ];exact l_i (by omega) Y
   have h1:=λn hn=>hone n hn 0 (by omega)
   refine ⟨⟨[40]++J++[41]⟩,by simp only [List.length_append,lC_,List.length_nil];omega,λn hn=>?_,λn hn=>?_⟩
   .obtain ⟨G,rfl,H⟩:=spec_ n hn
    show b_0 G (b_o G) d (i:Int) v=some _
    unfold b_0
    rw [hidx,bd_some,hlist G H]
    simp only [h,show ((9:Int)==1)=false from rfl,show ((9:Int)==2)=false from rfl,show ((9:Int)==5)=false from rfl,show ((9:Int)==6)=false from rfl,show ((9:Int)==7)=false from rfl,show ((9:Int)==8)=false from rfl,show ((9:Int)==9)=true from rfl,bF_,fF_,fT_,bd_some]
    rw [a_e (by simp only [lC_,List.length_nil];omega),bd_some,a_e (by simp only [List.length_append,lC_,List.length_nil];omega),bd_some]
   .obtain ⟨G,rfl,H⟩:=spec_ n hn
    show b_1 G (a_W G) d (i:Int) v=some _
    unfold b_1 c_w
    rw [hidx,bd_some]
    simp only [h,show ((9:Int)==1)=false from rfl,show ((9:Int)==2)=false from rfl,show ((9:Int)==5)=false from rfl,show ((9:Int)==6)=false from rfl,show ((9:Int)==7)=false from rfl,show ((9:Int)==8)=false from rfl,show ((9:Int)==9)=true from rfl,show ((9:Nat)==1)=false from rfl,show ((9:Nat)==2)=false from rfl,show ((9:Nat)==5)=false from rfl,show ((9:Nat)==6)=false from rfl,show ((9:Nat)==7)=false from rfl,show ((9:Nat)==8)=false from rfl,show ((9:Nat)==9)=true from rfl,bF_,fF_,fT_,bd_some]
    have:=congrArg List.length O
    rw [show (a_W G).impl_valueText_1 0 d (i:Int) v=some ts[0] from h1 G H,bd_some,O]
    rw [a_e (by simp only [lC_,List.length_nil];omega),bd_some,a_e (by simp only [List.length_append,lC_,List.length_nil];omega),bd_some]
theorem s_y (hv:G_ d=true)(hd:SmD d)(hb:b.length<=400){i:Nat}(hi:i<d.rules.length){p:Nat}(hp:p<=b.length)(hok:(rdW d.rules b i p).2.2=0){n:Nat}(hn:1000<=n):∃t:Str,g_B n d (i:Int) (rdW d.rules b i p).1=some t/\e_Y n d (i:Int) (rdW d.rules b i p).1=some t:=by
 have hvl:=(a_Y hv).2;obtain ⟨t,_,G,H⟩:=o_o hv hd hb i hi p hp hok;refine ⟨t,?_,?_⟩
 .unfold g_B
  rw [o_e hv hd hb hi hp hok hn,bd_some,iN_ (by simp),G n (by omega),bd_some]
 .unfold e_Y
  rw [s_s hv hd hb hi hp hok hn,bd_some,iN_ (by simp),H n (by omega),bd_some]
end
end Go.Vw
