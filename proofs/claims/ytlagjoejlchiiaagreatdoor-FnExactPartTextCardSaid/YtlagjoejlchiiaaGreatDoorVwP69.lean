
import Derived.Test.YtlagjoejlchiiaaGreatDoorVwP68
namespace Go.Vw
open Go.RowKit Dat
section
variable {d:d_}{b:List UInt8}
theorem l_J {r:b_}{ts:List Str}{k:Nat}(h:k<ts.length):(b_h r ts).take (k+1)=(b_h r ts).take k++[d_2 r ts k]:=by
 have hk:k<(b_h r ts).length:=by rw [d_6];exact h
 rw [f_p hk,j_l]
theorem j_m {r:b_}{ts:List Str}(h6:r.kind ≠ 6)(h1:ts.length=1):c_2 (b_h r ts)=(ts[0]'(by omega)).b:=by
 obtain ⟨t,rfl⟩:∃t,ts=[t]:=by
  match ts,h1 with
  | [t],_=>exact ⟨t,rfl⟩
 unfold c_2 b_h d_2
 simp [h6,Lib.join_one]
theorem l_K {x:Int}(G:0<=x)(h:x<=4294967295):∃q:Nat,x=q/\q<=1000000000000/\(Lib.itoa x).length<=20:=by
 obtain ⟨q,rfl⟩:∃q:Nat,x=q:=⟨x.toNat,by omega⟩;exact ⟨q,rfl,by omega,o_y (by omega)⟩
theorem l_L {s:Int}(h1:1<=s)(h4:s<=4):(256:Int) ^ s.toNat - 1<=4294967295:=by
 have:s=1∨s=2∨s=3∨s=4:=by omega
 rcases this with rfl | rfl | rfl | rfl <;> decide
theorem p_l (hv:N_ d=true)(hd:SmD d)(hb:b.length<=400):∀(i:Nat),i<d.rules.length->∀p,p<=b.length->(rdW d.rules b i p).2.2=0->∃t:Str,t.b.length<=40 * vsz i (rdW d.rules b i p).1+22/\(∀n,2 * i+60<=n->k_9 n d (i:Int) (rdW d.rules b i p).1=some t)/\(∀n,2 * i+60<=n->k_b n d (i:Int) (rdW d.rules b i p).1=some t):=by
 have hLIM:=b_7;intro i
 induction i using Nat.strongRecOn with
 | ind i ih =>
  intro hi p hp hok;have hvl:=(b_R hv).2;have hr:=b_2 hv hi;have hown:=j_h hv hb hi hp hok;have hit:=j_i hv hi hp hok;have hsize:=l_o (b:=b) hv i hi p hp;have hle:=b_w (b:=b) hv i hi p hp
  have hz:vsz i (rdW d.rules b i p).1<=20000:=by
   refine Nat.le_trans (hsize.2 hok) (Nat.le_trans (Nat.mul_le_mul (show 2 * i+1<=49 by omega) (show (rdW d.rules b i p).2.1 - p<=400 by omega)) (by decide))
  have hdep:=hsize.1
  -- the items' texts
  have hch:∀j,j<(rdW d.rules b i p).1.items.length->∃t:Str,∀(h:j<(rdW d.rules b i p).1.items.length),t.b.length<=40 * vsz (i - 1) (rdW d.rules b i p).1.items[j]+22/\(∀n,2 * i+58<=n->k_9 n d (a_e d.rules[i] (rdW d.rules b i p).1.number j) (rdW d.rules b i p).1.items[j]=some t)/\(∀n,2 * i+58<=n->k_b n d (a_e d.rules[i] (rdW d.rules b i p).1.number j) (rdW d.rules b i p).1.items[j]=some t)/\0<=a_e d.rules[i] (rdW d.rules b i p).1.number j:=by
   intro j hj;obtain ⟨k,q,h1,h2,h3,h4,h5⟩:=hit j hj;obtain ⟨t,t1,t2,t3⟩:=ih k h2 (by omega) q h3 h4;have hdk:=(l_o (b:=b) hv k (by omega) q h3).1;refine ⟨t,fun _=>?_⟩
   rw [h1,h5,(h_z k (i - 1) _ hdk (by omega)).2]
   exact ⟨t1,fun n hn=>t2 n (by omega),fun n hn=>t3 n (by omega),by omega⟩
  have a7:(rdW d.rules b i p).1.bytes.length+lsz (i - 1) (rdW d.rules b i p).1.items<=vsz i (rdW d.rules b i p).1:=by
   cases i with
   | zero =>
    have h0:(rdW d.rules b 0 p).1.items=[]:=hdep
    rw [h0];simp [vsz,lsz]
   | succ i=>simp only [Nat.add_sub_cancel,vsz,lsz];exact Nat.le_refl _
  generalize (rdW d.rules b i p).1=v at *
  obtain ⟨ts,hts,hP⟩:=l_G v.items.length hch;have hkk:=c_v hr.kind
  have hseq:d.rules[i].kind=6->d.rules[i].names.length=d.rules[i].kids.length/\∀s∈d.rules[i].names,s.b.length<=12:=fun h6=>by
   obtain ⟨s1,_,_,s4⟩:=d_u hr.kind h6;exact ⟨s1.symm,fun s hs=>p_y<|s4 s hs⟩
  have hkind:=hr.kind;have hsl:∀j (h:j<ts.length) (h':j<v.items.length),ts[j].b.length<=40 * vsz (i - 1) v.items[j]+22:=fun j h h'=>(hP j h h').1
  have hps:=l_H (m:=i - 1) (r:=d.rules[i]) (fun h6=>(hseq h6).2) hts hsl ts.length<|Nat.le_refl _
  rw [List.take_of_length_le (by rw [d_6];exact Nat.le_refl _),List.take_of_length_le (by omega)] at hps
  -- the reference's list, the program's items
  have hlist:∀n,2 * i+59<=n->(a_Y n).spec_l10List d d.rules[i] v=some ⟨c_2<|b_h d.rules[i] ts⟩:=by
   intro n hn;obtain ⟨I,rfl⟩:∃I,n=I+1:=⟨n - 1,by omega⟩;refine p_k (n:=I) (m:=i - 1) hkk (fun h6=>(hseq h6).2) (fun h6=>?_) hts (by omega) hsl<|fun j h h'=>(hP j h h').2.1 I (by omega);have:=(hseq h6).1
   rcases hown with ⟨h,_⟩ | ⟨h,_⟩ | ⟨h,_⟩ | ⟨h,_⟩ | ⟨h,_⟩ | ⟨h,_⟩ | ⟨h,_,_,L⟩ | ⟨h,_⟩ | ⟨h,_⟩ | ⟨h,_⟩ <;> omega
  have hone:∀n,2 * i+59<=n->∀j (h:j<ts.length),(a_B n).impl_valueText_1 (j:Int) d (i:Int) v=some ts[j]:=by
   intro n hn j h;obtain ⟨I,rfl⟩:∃I,n=I+1:=⟨n - 1,by omega⟩
   show g_S I (a_B I) (j:Int) d (i:Int) v=some ts[j]
   unfold g_S;have h':j<v.items.length:=by omega
   rw [ix_ h',bd_some,l_t (ix_ hi) hkk,bd_some,show (a_B I).impl_valueText d (a_e d.rules[i] v.number j) v.items[j]=some ts[j] from (hP j h h').2.2.1 I (by omega),bd_some]
  have spec_:∀n,2 * i+60<=n->∃G,n=G+1/\2 * i+59<=G:=fun n hn=>⟨n - 1,by omega,by omega⟩
  have hidx:=ix_ hi;generalize hrr:d.rules[i]=r at *
  generalize hJ:c_2 (b_h r ts)=J at *
  rcases hown with ⟨h,L,a2,W,e2⟩ | ⟨h,V,W,e2⟩ | ⟨h,V,L,e2⟩ | ⟨h,V,L,a2,e2⟩ | ⟨h,V,L,e2⟩ | ⟨h,V,W,L,a2⟩ | ⟨h,V,W,L⟩ | ⟨h,L,a2,W,a3,a4⟩ | ⟨h,V,W,L⟩ | ⟨h,V,W,L⟩
  ·obtain ⟨_,s1,s4⟩:=d_0 hkind h;obtain ⟨q,hq,a0,a5⟩:=l_K L<|Int.le_trans a2<|l_L s1 s4;refine ⟨⟨Lib.itoa v.number⟩,by simp only;omega,fun n hn=>?_,fun n hn=>?_⟩
   ·obtain ⟨G,rfl,H⟩:=spec_ n hn
    show a_E G (a_Y G) d (i:Int) v=some _
    unfold a_E
    rw [hidx,bd_some,hlist G H]
    simp only [h,show ((1:Int)==1)=true from rfl,fT_,bd_some]
    rw [hq,h_r (by omega) q a0,bd_some]
   ·obtain ⟨G,rfl,H⟩:=spec_ n hn
    show a_F G (a_B G) d (i:Int) v=some _
    unfold a_F b_W
    rw [hidx,bd_some]
    simp only [h,show ((1:Int)==1)=true from rfl,show ((1:Nat)==1)=true from rfl,fT_,bd_some]
    rfl
  ·refine ⟨⟨[33]⟩,by simp only [lC_,List.length_nil];omega,fun n hn=>?_,fun n hn=>?_⟩
   ·obtain ⟨G,rfl,H⟩:=spec_ n hn
    show a_E G (a_Y G) d (i:Int) v=some _
    unfold a_E
    rw [hidx,bd_some,hlist G H]
    simp only [h,show ((2:Int)==1)=false from rfl,show ((2:Int)==2)=true from rfl,bF_,fF_,fT_,bd_some]

   ·obtain ⟨G,rfl,H⟩:=spec_ n hn
    show a_F G (a_B G) d (i:Int) v=some _
    unfold a_F b_W
    rw [hidx,bd_some]
    simp only [h,show ((2:Int)==1)=false from rfl,show ((2:Int)==2)=true from rfl,show ((2:Nat)==1)=false from rfl,show ((2:Nat)==2)=true from rfl,bF_,fF_,fT_,bd_some]

  ·have hfx:=e_1 hkind h;refine ⟨⟨120::c_h v.bytes⟩,by have:=c_w v.bytes;simp only [lC_];omega,fun n hn=>?_,fun n hn=>?_⟩
   ·obtain ⟨G,rfl,H⟩:=spec_ n hn
    show a_E G (a_Y G) d (i:Int) v=some _
    unfold a_E
    rw [hidx,bd_some,hlist G H]
    simp only [h,show ((3:Int)==1)=false from rfl,show ((3:Int)==2)=false from rfl,show ((3:Int)==5)=false from rfl,show ((3:Int)==6)=false from rfl,show ((3:Int)==7)=false from rfl,show ((3:Int)==8)=false from rfl,show ((3:Int)==9)=false from rfl,bF_,fF_,bd_some]
    rw [j_j (by omega),bd_some,a_b (by simp only [lC_,List.length_nil];have:=c_w v.bytes;omega),bd_some]
    rfl
   ·obtain ⟨G,rfl,H⟩:=spec_ n hn
    show a_F G (a_B G) d (i:Int) v=some _
    unfold a_F b_W
    rw [hidx,bd_some]
    simp only [h,show ((3:Int)==1)=false from rfl,show ((3:Int)==2)=false from rfl,show ((3:Int)==5)=false from rfl,show ((3:Int)==6)=false from rfl,show ((3:Int)==7)=false from rfl,show ((3:Int)==8)=false from rfl,show ((3:Int)==9)=false from rfl,show ((0:Nat)==1)=false from rfl,show ((0:Nat)==2)=false from rfl,show ((0:Nat)==5)=false from rfl,show ((0:Nat)==6)=false from rfl,show ((0:Nat)==7)=false from rfl,show ((0:Nat)==8)=false from rfl,show ((0:Nat)==9)=false from rfl,bF_,fF_,bd_some]
    rw [j_k (by omega),bd_some,a_b (by simp only [lC_,List.length_nil];have:=c_w v.bytes;omega),bd_some]
    rfl
  ·refine ⟨⟨120::c_h v.bytes⟩,by have:=c_w v.bytes;simp only [lC_];omega,fun n hn=>?_,fun n hn=>?_⟩
   ·obtain ⟨G,rfl,H⟩:=spec_ n hn
    show a_E G (a_Y G) d (i:Int) v=some _
    unfold a_E
    rw [hidx,bd_some,hlist G H]
    simp only [h,show ((4:Int)==1)=false from rfl,show ((4:Int)==2)=false from rfl,show ((4:Int)==5)=false from rfl,show ((4:Int)==6)=false from rfl,show ((4:Int)==7)=false from rfl,show ((4:Int)==8)=false from rfl,show ((4:Int)==9)=false from rfl,bF_,fF_,bd_some]
    rw [j_j (by omega),bd_some,a_b (by simp only [lC_,List.length_nil];have:=c_w v.bytes;omega),bd_some]
    rfl
   ·obtain ⟨G,rfl,H⟩:=spec_ n hn
    show a_F G (a_B G) d (i:Int) v=some _
    unfold a_F b_W
    rw [hidx,bd_some]
    simp only [h,show ((4:Int)==1)=false from rfl,show ((4:Int)==2)=false from rfl,show ((4:Int)==5)=false from rfl,show ((4:Int)==6)=false from rfl,show ((4:Int)==7)=false from rfl,show ((4:Int)==8)=false from rfl,show ((4:Int)==9)=false from rfl,show ((0:Nat)==1)=false from rfl,show ((0:Nat)==2)=false from rfl,show ((0:Nat)==5)=false from rfl,show ((0:Nat)==6)=false from rfl,show ((0:Nat)==7)=false from rfl,show ((0:Nat)==8)=false from rfl,show ((0:Nat)==9)=false from rfl,bF_,fF_,bd_some]
    rw [j_k (by omega),bd_some,a_b (by simp only [lC_,List.length_nil];have:=c_w v.bytes;omega),bd_some]
    rfl
  ·refine ⟨⟨120::c_h v.bytes⟩,by have:=c_w v.bytes;simp only [lC_];omega,fun n hn=>?_,fun n hn=>?_⟩
   ·obtain ⟨G,rfl,H⟩:=spec_ n hn
    show a_E G (a_Y G) d (i:Int) v=some _
    unfold a_E
    rw [hidx,bd_some,hlist G H]
    simp only [h,show ((10:Int)==1)=false from rfl,show ((10:Int)==2)=false from rfl,show ((10:Int)==5)=false from rfl,show ((10:Int)==6)=false from rfl,show ((10:Int)==7)=false from rfl,show ((10:Int)==8)=false from rfl,show ((10:Int)==9)=false from rfl,bF_,fF_,bd_some]
    rw [j_j (by omega),bd_some,a_b (by simp only [lC_,List.length_nil];have:=c_w v.bytes;omega),bd_some]
    rfl
   ·obtain ⟨G,rfl,H⟩:=spec_ n hn
    show a_F G (a_B G) d (i:Int) v=some _
    unfold a_F b_W
    rw [hidx,bd_some]
    simp only [h,show ((10:Int)==1)=false from rfl,show ((10:Int)==2)=false from rfl,show ((10:Int)==5)=false from rfl,show ((10:Int)==6)=false from rfl,show ((10:Int)==7)=false from rfl,show ((10:Int)==8)=false from rfl,show ((10:Int)==9)=false from rfl,show ((0:Nat)==1)=false from rfl,show ((0:Nat)==2)=false from rfl,show ((0:Nat)==5)=false from rfl,show ((0:Nat)==6)=false from rfl,show ((0:Nat)==7)=false from rfl,show ((0:Nat)==8)=false from rfl,show ((0:Nat)==9)=false from rfl,bF_,fF_,bd_some]
    rw [j_k (by omega),bd_some,a_b (by simp only [lC_,List.length_nil];have:=c_w v.bytes;omega),bd_some]
    rfl
  ·refine ⟨⟨[91]++J++[93]⟩,by simp only [List.length_append,lC_,List.length_nil];omega,fun n hn=>?_,fun n hn=>?_⟩
   ·obtain ⟨G,rfl,H⟩:=spec_ n hn
    show a_E G (a_Y G) d (i:Int) v=some _
    unfold a_E
    rw [hidx,bd_some,hlist G H]
    simp only [h,show ((5:Int)==1)=false from rfl,show ((5:Int)==2)=false from rfl,show ((5:Int)==5)=true from rfl,bF_,fF_,fT_,bd_some]
    rw [a_b (by simp only [lC_,List.length_nil];omega),bd_some,a_b (by simp only [List.length_append,lC_,List.length_nil];omega),bd_some]
   ·obtain ⟨G,rfl,H⟩:=spec_ n hn
    show a_F G (a_B G) d (i:Int) v=some _
    unfold a_F b_W
    rw [hidx,bd_some]
    simp only [h,show ((5:Int)==1)=false from rfl,show ((5:Int)==2)=false from rfl,show ((5:Int)==5)=true from rfl,show ((5:Nat)==1)=false from rfl,show ((5:Nat)==2)=false from rfl,show ((5:Nat)==5)=true from rfl,bF_,fF_,fT_,bd_some]
    refine (congrArg (fun z=>bd z _)<|f_u (fun k=>(b_h r ts).take k) (n:=v.items.length) rfl<|fun j hj=>?_).trans ?_
    ·have hjt:j<ts.length:=by omega
     rw [hone G H j hjt,bd_some,c_N (by rw [List.length_take,d_6];have:=h_y (i - 1) v.items;omega),bd_some,l_J hjt]
     unfold d_2
     rw [iN_ (by omega),W_ hjt]
    ·rw [bd_some,el_inl,List.take_of_length_le (by rw [d_6];omega),l_I (by rw [hJ];omega),bd_some,hJ]
     rw [a_b (by simp only [lC_,List.length_nil];omega),bd_some,a_b (by simp only [List.length_append,lC_,List.length_nil];omega),bd_some]
  ·have a6:=hseq h;refine ⟨⟨[123]++J++[125]⟩,by simp only [List.length_append,lC_,List.length_nil];omega,fun n hn=>?_,fun n hn=>?_⟩
   ·obtain ⟨G,rfl,H⟩:=spec_ n hn
    show a_E G (a_Y G) d (i:Int) v=some _
    unfold a_E
    rw [hidx,bd_some,hlist G H]
    simp only [h,show ((6:Int)==1)=false from rfl,show ((6:Int)==2)=false from rfl,show ((6:Int)==5)=false from rfl,show ((6:Int)==6)=true from rfl,bF_,fF_,fT_,bd_some]
    rw [a_b (by simp only [lC_,List.length_nil];omega),bd_some,a_b (by simp only [List.length_append,lC_,List.length_nil];omega),bd_some]
   ·obtain ⟨G,rfl,H⟩:=spec_ n hn
    show a_F G (a_B G) d (i:Int) v=some _
    unfold a_F b_W
    rw [hidx,bd_some]
    simp only [h,show ((6:Int)==1)=false from rfl,show ((6:Int)==2)=false from rfl,show ((6:Int)==5)=false from rfl,show ((6:Int)==6)=true from rfl,show ((6:Nat)==1)=false from rfl,show ((6:Nat)==2)=false from rfl,show ((6:Nat)==5)=false from rfl,show ((6:Nat)==6)=true from rfl,bF_,fF_,fT_,bd_some]
    refine (congrArg (fun z=>bd z _)<|f_u (fun k=>(b_h r ts).take k) (n:=r.names.length) rfl<|fun j hj=>?_).trans ?_
    ·have hjt:j<ts.length:=by omega
     have hjv:j<v.items.length:=by omega
     have hnl:=a6.2 _<|gE_ hj;have htl:=hsl j hjt hjv;have hvl:=j_c (m:=i - 1)<|gE_ hjv
     rw [ix_ hj,bd_some,a_b (by simp only [lC_,List.length_nil];omega),bd_some,hone G H j hjt,bd_some,a_b (by simp only [List.length_append,lC_,List.length_nil];omega),bd_some,c_N (by rw [List.length_take,d_6];have:=h_y (i - 1) v.items;omega),bd_some,l_J hjt]
     unfold d_2
     rw [iP_ h,W_ hjt,W_ hj]
    ·rw [bd_some,el_inl,List.take_of_length_le (by rw [d_6];omega),l_I (by rw [hJ];omega),bd_some,hJ]
     rw [a_b (by simp only [lC_,List.length_nil];omega),bd_some,a_b (by simp only [List.length_append,lC_,List.length_nil];omega),bd_some]
  ·have Y:ts.length=1:=by omega
   have O:J=(ts[0]'(by omega)).b:=by rw [← hJ];exact j_m (by omega) Y
   have h1:=fun n hn=>hone n hn 0 (by omega)
   have hl:=c_u hkind h;obtain ⟨hint,hlim⟩:=h_E hl.1;obtain ⟨q,hq,a0,a5⟩:=l_K L<|Int.le_trans a2 (by rw [hlim];exact l_L hint.2.1 hint.2.2);have a8:=h_y (i - 1) v.items;have a9:=hsl 0 (by omega) (by omega);have aa:=j_c (m:=i - 1)<|gE_ (l:=v.items) (n:=0) (by omega);refine ⟨⟨Lib.itoa v.number++[60]++J++[62]⟩,by have:=congrArg List.length O;simp only [List.length_append,lC_,List.length_nil];omega,fun n hn=>?_,fun n hn=>?_⟩
   ·obtain ⟨G,rfl,H⟩:=spec_ n hn
    show a_E G (a_Y G) d (i:Int) v=some _
    unfold a_E
    rw [hidx,bd_some,hlist G H]
    simp only [h,show ((7:Int)==1)=false from rfl,show ((7:Int)==2)=false from rfl,show ((7:Int)==5)=false from rfl,show ((7:Int)==6)=false from rfl,show ((7:Int)==7)=true from rfl,bF_,fF_,fT_,bd_some]
    have:=congrArg List.length O;unfold i_5
    rw [hq,h_r (by omega) q a0,bd_some,← hq]
    rw [a_b (by simp only [lC_,List.length_nil];omega),bd_some,a_b (by simp only [List.length_append,lC_,List.length_nil];omega),bd_some,a_b (by simp only [List.length_append,lC_,List.length_nil];omega),bd_some,bd_some]
   ·obtain ⟨G,rfl,H⟩:=spec_ n hn
    show a_F G (a_B G) d (i:Int) v=some _
    unfold a_F b_W
    rw [hidx,bd_some]
    simp only [h,show ((7:Int)==1)=false from rfl,show ((7:Int)==2)=false from rfl,show ((7:Int)==5)=false from rfl,show ((7:Int)==6)=false from rfl,show ((7:Int)==7)=true from rfl,show ((7:Nat)==1)=false from rfl,show ((7:Nat)==2)=false from rfl,show ((7:Nat)==5)=false from rfl,show ((7:Nat)==6)=false from rfl,show ((7:Nat)==7)=true from rfl,bF_,fF_,fT_,bd_some]
    have:=congrArg List.length O
    rw [show (a_B G).impl_valueText_1 0 d (i:Int) v=some ts[0] from h1 G H,bd_some]
    unfold i_7 g_E i_H
    rw [bd_some,bd_some,O]
    rw [a_b (by simp only [lC_,List.length_nil];omega),bd_some,a_b (by simp only [List.length_append,lC_,List.length_nil];omega),bd_some,a_b (by simp only [List.length_append,lC_,List.length_nil];omega),bd_some,bd_some]
  ·by_cases h0:v.items.length=0
   ·refine ⟨⟨[45]⟩,by simp only [lC_,List.length_nil];omega,fun n hn=>?_,fun n hn=>?_⟩
    ·obtain ⟨G,rfl,H⟩:=spec_ n hn
     show a_E G (a_Y G) d (i:Int) v=some _
     unfold a_E
     rw [hidx,bd_some,hlist G H]
     simp only [h,show ((8:Int)==1)=false from rfl,show ((8:Int)==2)=false from rfl,show ((8:Int)==5)=false from rfl,show ((8:Int)==6)=false from rfl,show ((8:Int)==7)=false from rfl,show ((8:Int)==8)=true from rfl,bF_,fF_,fT_,bd_some]
     rw [show ((v.items.length:Int)==0)=true by simp [h0]]
     rfl
    ·obtain ⟨G,rfl,H⟩:=spec_ n hn
     show a_F G (a_B G) d (i:Int) v=some _
     unfold a_F b_W
     rw [hidx,bd_some]
     simp only [h,show ((8:Int)==1)=false from rfl,show ((8:Int)==2)=false from rfl,show ((8:Int)==5)=false from rfl,show ((8:Int)==6)=false from rfl,show ((8:Int)==7)=false from rfl,show ((8:Int)==8)=true from rfl,show ((8:Nat)==1)=false from rfl,show ((8:Nat)==2)=false from rfl,show ((8:Nat)==5)=false from rfl,show ((8:Nat)==6)=false from rfl,show ((8:Nat)==7)=false from rfl,show ((8:Nat)==8)=true from rfl,bF_,fF_,fT_,bd_some]
     rw [show ((v.items.length:Int)==0)=true by simp [h0]]
     rfl
   ·have Y:ts.length=1:=by omega
    have O:J=(ts[0]'(by omega)).b:=by rw [← hJ];exact j_m (by omega) Y
    have h1:=fun n hn=>hone n hn 0 (by omega)
    refine ⟨⟨[63]++J⟩,by simp only [List.length_append,lC_,List.length_nil];omega,fun n hn=>?_,fun n hn=>?_⟩
    ·obtain ⟨G,rfl,H⟩:=spec_ n hn
     show a_E G (a_Y G) d (i:Int) v=some _
     unfold a_E
     rw [hidx,bd_some,hlist G H]
     simp only [h,show ((8:Int)==1)=false from rfl,show ((8:Int)==2)=false from rfl,show ((8:Int)==5)=false from rfl,show ((8:Int)==6)=false from rfl,show ((8:Int)==7)=false from rfl,show ((8:Int)==8)=true from rfl,bF_,fF_,fT_,bd_some]
     rw [show ((v.items.length:Int)==0)=false by simp only [beq_eq_false_iff_ne];omega,iN_ (by simp),a_b (by simp only [lC_,List.length_nil];omega),bd_some]
    ·obtain ⟨G,rfl,H⟩:=spec_ n hn
     show a_F G (a_B G) d (i:Int) v=some _
     unfold a_F b_W
     rw [hidx,bd_some]
     simp only [h,show ((8:Int)==1)=false from rfl,show ((8:Int)==2)=false from rfl,show ((8:Int)==5)=false from rfl,show ((8:Int)==6)=false from rfl,show ((8:Int)==7)=false from rfl,show ((8:Int)==8)=true from rfl,show ((8:Nat)==1)=false from rfl,show ((8:Nat)==2)=false from rfl,show ((8:Nat)==5)=false from rfl,show ((8:Nat)==6)=false from rfl,show ((8:Nat)==7)=false from rfl,show ((8:Nat)==8)=true from rfl,bF_,fF_,fT_,bd_some]
     rw [show ((v.items.length:Int)==0)=false by simp only [beq_eq_false_iff_ne];omega,iN_ (by simp),show (a_B G).impl_valueText_1 0 d (i:Int) v=some ts[0] from h1 G H,bd_some,a_b (by have:=congrArg List.length O;simp only [lC_,List.length_nil];omega),bd_some,O]
  ·have Y:ts.length=1:=by omega
   have O:J=(ts[0]'(by omega)).b:=by rw [← hJ];exact j_m (by omega) Y
   have h1:=fun n hn=>hone n hn 0 (by omega)
   refine ⟨⟨[40]++J++[41]⟩,by simp only [List.length_append,lC_,List.length_nil];omega,fun n hn=>?_,fun n hn=>?_⟩
   ·obtain ⟨G,rfl,H⟩:=spec_ n hn
    show a_E G (a_Y G) d (i:Int) v=some _
    unfold a_E
    rw [hidx,bd_some,hlist G H]
    simp only [h,show ((9:Int)==1)=false from rfl,show ((9:Int)==2)=false from rfl,show ((9:Int)==5)=false from rfl,show ((9:Int)==6)=false from rfl,show ((9:Int)==7)=false from rfl,show ((9:Int)==8)=false from rfl,show ((9:Int)==9)=true from rfl,bF_,fF_,fT_,bd_some]
    rw [a_b (by simp only [lC_,List.length_nil];omega),bd_some,a_b (by simp only [List.length_append,lC_,List.length_nil];omega),bd_some]
   ·obtain ⟨G,rfl,H⟩:=spec_ n hn
    show a_F G (a_B G) d (i:Int) v=some _
    unfold a_F b_W
    rw [hidx,bd_some]
    simp only [h,show ((9:Int)==1)=false from rfl,show ((9:Int)==2)=false from rfl,show ((9:Int)==5)=false from rfl,show ((9:Int)==6)=false from rfl,show ((9:Int)==7)=false from rfl,show ((9:Int)==8)=false from rfl,show ((9:Int)==9)=true from rfl,show ((9:Nat)==1)=false from rfl,show ((9:Nat)==2)=false from rfl,show ((9:Nat)==5)=false from rfl,show ((9:Nat)==6)=false from rfl,show ((9:Nat)==7)=false from rfl,show ((9:Nat)==8)=false from rfl,show ((9:Nat)==9)=true from rfl,bF_,fF_,fT_,bd_some]
    have:=congrArg List.length O
    rw [show (a_B G).impl_valueText_1 0 d (i:Int) v=some ts[0] from h1 G H,bd_some,O]
    rw [a_b (by simp only [lC_,List.length_nil];omega),bd_some,a_b (by simp only [List.length_append,lC_,List.length_nil];omega),bd_some]
theorem p_m (hv:N_ d=true)(hd:SmD d)(hb:b.length<=400){i:Nat}(hi:i<d.rules.length){p:Nat}(hp:p<=b.length)(hok:(rdW d.rules b i p).2.2=0){n:Nat}(hn:1000<=n):∃t:Str,g_M n d (i:Int) (rdW d.rules b i p).1=some t/\g_T n d (i:Int) (rdW d.rules b i p).1=some t:=by
 have hvl:=(b_R hv).2;obtain ⟨t,_,G,H⟩:=p_l hv hd hb i hi p hp hok;refine ⟨t,?_,?_⟩
 ·unfold g_M
  rw [p_e hv hd hb hi hp hok hn,bd_some,iN_ (by simp),G n (by omega),bd_some]
 ·unfold g_T
  rw [p_f hv hd hb hi hp hok hn,bd_some,iN_ (by simp),H n (by omega),bd_some]
theorem p_n (hd:SmD d){n:Nat}(hn:1048600<=n){path:Str}(hp:path.b.length<=MX):∃t:Str,g_N n d b path=some t/\g_U n d b path=some t:=by
 unfold g_N g_U
 rw [l_l hd hn hp,o_S hd hn hp,o_R hd hn hp]
 unfold d_Z e_z
 cases hf:c_1 d b path with
 | none=>exact ⟨⟨[]⟩,rfl,rfl⟩
 | some x =>
  obtain ⟨hv,hb,hi,hq,hok⟩:=j_b hf;obtain ⟨t,G,H⟩:=p_m hv hd hb hi hq hok (n:=n) (by omega);refine ⟨t,?_,?_⟩
  ·rw [bd2_some,iN_ (by simp),bd2_some]
   simp only
   rw [G,bd_some]
  ·rw [bd3_some,iN_ (by simp)]
   simp only
   rw [H,bd_some]
theorem p_o {n:Nat}(hn:4000000<=n){path:Str}(hd:LnD d)(hb:b.length<=LEN)(hp:path.b.length<=LEN):g_V n d b path=some true:=by
 have hMX:=MXv;have hLEN:=LENv;unfold g_V
 by_cases h1:(1048576:Int)<(b.length:Int)
 ·rw [dT_ h1];rfl
 rw [dF_ h1]
 simp only [bF_,fF_]
 by_cases h3:(1048576:Int)<(path.b.length:Int)
 ·rw [dT_ h3];rfl
 rw [dF_ h3]
 obtain ⟨r,hr,G⟩:=o_g hd
 simp only [bF_,fF_]
 rw [hr,bd_some]
 by_cases h2:r<0
 ·rw [dT_ h2];rfl
 rw [dF_ h2]
 have hs:=(G.resolve_left h2).2;have hbm:b.length<=MX:=by omega
 obtain ⟨t,H,I⟩:=p_n (b:=b) hs (n:=n) (by omega) (show path.b.length<=MX by omega)
 simp only [bF_,fF_,o_k hs,k_X hbm,bd_some,H,I,o_n,k_Z,nT_,bN_]
end
end Go.Vw
