
import Derived.Test.YtefljifhihogoaaGreatDoorVy
namespace Go.Vw
set_option linter.unusedVariables false
open Go.RowKit Dat
section
variable {d:d_}{b:Bt}
theorem s_w {r:f_}{ts:List Str}{k:Nat}(h:k<ts.length):(c_k r ts).take (k+1)=(c_k r ts).take k++[f_h r ts k]:=by
 grind [c_k,h_j,o_o,g_j]
theorem o_p {r:f_}{ts:List Str}(h6:r.kind ≠ 6)(h1:ts.length=1):d_n (c_k r ts)=(ts[0]'(by omega)).b:=by
 obtain ⟨t,rfl⟩:∃t,ts=[t]:=by
  match ts,h1 with
  | [t],_=>simp
 simp_all [d_n,c_k,f_h,Lib.join_one]
theorem s_x {x:Int}(G:0<=x)(h:x<=4294967295):∃q:Nat,x=q/\q<=1000000000000/\(Lib.itoa x).length<=20:=by
 obtain ⟨q,rfl⟩:∃q:Nat,x=q:=⟨x.toNat,by omega⟩;exact ⟨q,rfl,by omega,w_4 (by omega)⟩
theorem s_y {s:Int}(h1:1<=s)(h4:s<=4):(256:Int) ^ s.toNat - 1<=4294967295:=by
 have:s=1∨s=2∨s=3∨s=4:=by omega
 grind
theorem s_z (hv:D_ d=true)(hd:SmD d)(hb:b.length<=400):∀(i:Nat),i<d.rules.length->∀p,p<=b.length->(rdW d.rules b i p).2.2=0->∃t:Str,t.b.length<=40 * vsz i (rdW d.rules b i p).1+22/\(∀n,2 * i+60<=n->p_u n d (i:Int) (rdW d.rules b i p).1=some t)/\(∀n,2 * i+60<=n->p_w n d (i:Int) (rdW d.rules b i p).1=some t):=by
 have hLIM:=a_7;intro i
 induction i using Nat.strongRecOn with
 | ind i ih =>
  intro hi p hp hok;have hvl:=(b_i hv).2;have hr:=a_P hv hi;have hown:=o_k hv hb hi hp hok;have hit:=o_l hv hi hp hok;have hsize:=r_0 (b:=b) hv i hi p hp;have hle:=c_9 (b:=b) hv i hi p hp
  have hz:vsz i (rdW d.rules b i p).1<=20000:=by
   refine QAG (hsize.2 hok) (QAG (Nat.mul_le_mul (show 2 * i+1<=49 by omega) (show (rdW d.rules b i p).2.1 - p<=400 by omega)) (by decide))
  have hdep:=hsize.1
  -- the items' texts
  have hch:∀j,j<(rdW d.rules b i p).1.items.length->∃t:Str,∀(h:j<(rdW d.rules b i p).1.items.length),t.b.length<=40 * vsz (i - 1) (rdW d.rules b i p).1.items[j]+22/\(∀n,2 * i+58<=n->p_u n d (a_n d.rules[i] (rdW d.rules b i p).1.number j) (rdW d.rules b i p).1.items[j]=some t)/\(∀n,2 * i+58<=n->p_w n d (a_n d.rules[i] (rdW d.rules b i p).1.number j) (rdW d.rules b i p).1.items[j]=some t)/\0<=a_n d.rules[i] (rdW d.rules b i p).1.number j:=by
   intro j hj;obtain ⟨k,q,h1,h2,h3,h4,h5⟩:=hit j hj;obtain ⟨t,t1,t2,t3⟩:=ih k h2 (by omega) q h3 h4;have hdk:=(r_0 (b:=b) hv k (by omega) q h3).1;refine ⟨t,λ_=>?_⟩
   grind [l_L]
  have a7:(rdW d.rules b i p).1.bytes.length+lsz (i - 1) (rdW d.rules b i p).1.items<=vsz i (rdW d.rules b i p).1:=by
   cases i with
   | zero =>
    have h0:(rdW d.rules b 0 p).1.items=[]:=hdep
    grind [vsz,lsz]
   | succ i=>simp [vsz,lsz]
  generalize (rdW d.rules b i p).1=v at *
  obtain ⟨ts,hts,hP⟩:=s_t v.items.length hch;have hkk:=d_7 hr.kind
  have hseq:d.rules[i].kind=6->d.rules[i].names.length=d.rules[i].kids.length/\∀s∈d.rules[i].names,s.b.length<=12:=λh6=>by
   obtain ⟨s1,_,_,s4⟩:=e_F hr.kind h6
   grind [o_v]
  have hkind:=hr.kind;have hsl:∀j (h:j<ts.length) (h':j<v.items.length),ts[j].b.length<=40 * vsz (i - 1) v.items[j]+22:=λj h h'=>(hP j h h').1
  have hps:=s_u (m:=i - 1) (r:=d.rules[i]) (λh6=>(hseq h6).2) hts hsl ts.length<|QAB _
  rw [QAR (by simp_all [g_j]),QAR (by omega)] at hps
  -- the reference's list, the program's items
  have hlist:∀n,2 * i+59<=n->(b_T n).spec_l10List d d.rules[i] v=some ⟨d_n<|c_k d.rules[i] ts⟩:=by
   intro n hn;obtain ⟨I,rfl⟩:∃I,n=I+1:=⟨n - 1,by omega⟩;refine y_2 (n:=I) (m:=i - 1) hkk (λh6=>(hseq h6).2) (λh6=>?_) hts (by omega) hsl<|λj h h'=>(hP j h h').2.1 I (by omega);have:=(hseq h6).1
   rcases hown with ⟨h,_⟩ | ⟨h,_⟩ | ⟨h,_⟩ | ⟨h,_⟩ | ⟨h,_⟩ | ⟨h,_⟩ | ⟨h,_,_,L⟩ | ⟨h,_⟩ | ⟨h,_⟩ | ⟨h,_⟩ <;> omega
  have hone:∀n,2 * i+59<=n->∀j (h:j<ts.length),(b_e n).impl_valueText_1 (j:Int) d (i:Int) v=some ts[j]:=by
   intro n hn j h;obtain ⟨I,rfl⟩:∃I,n=I+1:=⟨n - 1,by omega⟩
   show l_k I (b_e I) (j:Int) d (i:Int) v=some ts[j]
   unfold l_k;have h':j<v.items.length:=by omega
   rw [ix_ h',a_,n_Z (ix_ hi) hkk,a_,show (b_e I).impl_valueText d (a_n d.rules[i] v.number j) v.items[j]=some ts[j] from (hP j h h').2.2.1 I (by omega),a_]
  have spec_:∀n,2 * i+60<=n->∃G,n=G+1/\2 * i+59<=G:=λn hn=>⟨n - 1,by omega,by omega⟩
  have hidx:=ix_ hi;generalize hrr:d.rules[i]=r at *
  generalize hJ:d_n (c_k r ts)=J at *
  rcases hown with ⟨h,L,a2,W,e2⟩ | ⟨h,V,W,e2⟩ | ⟨h,V,L,e2⟩ | ⟨h,V,L,a2,e2⟩ | ⟨h,V,L,e2⟩ | ⟨h,V,W,L,a2⟩ | ⟨h,V,W,L⟩ | ⟨h,L,a2,W,a3,a4⟩ | ⟨h,V,W,L⟩ | ⟨h,V,W,L⟩
  .obtain ⟨_,s1,s4⟩:=g_f hkind h;obtain ⟨q,hq,a0,a5⟩:=s_x L<|Int.le_trans a2<|s_y s1 s4;refine ⟨⟨Lib.itoa v.number⟩,by grind,λn hn=>?_,λn hn=>?_⟩
   .obtain ⟨G,rfl,H⟩:=spec_ n hn
    show b_l G (b_T G) d (i:Int) v=some _
    unfold b_l
    rw [hidx,a_,hlist G H]
    simp only [h,Int.reduceBEq,fT_,a_]
    grind [l_C,a_]
   .obtain ⟨G,rfl,H⟩:=spec_ n hn
    show b_m G (b_e G) d (i:Int) v=some _
    unfold b_m d_c
    rw [hidx,a_]
    simp only [h,Int.reduceBEq,Nat.reduceBEq,fT_,a_]
    rfl
  .refine ⟨⟨[33]⟩,by simp,λn hn=>?_,λn hn=>?_⟩
   .obtain ⟨G,rfl,H⟩:=spec_ n hn
    show b_l G (b_T G) d (i:Int) v=some _
    simp_all [b_l,a_,a_]

   .obtain ⟨G,rfl,H⟩:=spec_ n hn
    show b_m G (b_e G) d (i:Int) v=some _
    unfold b_m d_c
    rw [hidx,a_]
    simp_all

  .have hfx:=h_p hkind h;refine ⟨⟨120::d_N v.bytes⟩,by grind [List.length_cons,e_f],λn hn=>?_,λn hn=>?_⟩
   .obtain ⟨G,rfl,H⟩:=spec_ n hn
    show b_l G (b_T G) d (i:Int) v=some _
    unfold b_l
    rw [hidx,a_,hlist G H]
    simp only [h,Int.reduceBEq,bF_,fF_,a_]
    grind [o_m,a_,a_y,List.length_cons,List.length_nil,e_f]
   .obtain ⟨G,rfl,H⟩:=spec_ n hn
    show b_m G (b_e G) d (i:Int) v=some _
    unfold b_m d_c
    rw [hidx,a_]
    simp only [h,Int.reduceBEq,Nat.reduceBEq,bF_,fF_,a_]
    grind [o_n,a_,a_y,List.length_cons,List.length_nil,e_f]
  .refine ⟨⟨120::d_N v.bytes⟩,by grind [List.length_cons,e_f],λn hn=>?_,λn hn=>?_⟩
   .obtain ⟨G,rfl,H⟩:=spec_ n hn
    show b_l G (b_T G) d (i:Int) v=some _
    unfold b_l
    rw [hidx,a_,hlist G H]
    simp only [h,Int.reduceBEq,bF_,fF_,a_]
    grind [o_m,a_,a_y,List.length_cons,List.length_nil,e_f]
   .obtain ⟨G,rfl,H⟩:=spec_ n hn
    show b_m G (b_e G) d (i:Int) v=some _
    unfold b_m d_c
    rw [hidx,a_]
    simp only [h,Int.reduceBEq,Nat.reduceBEq,bF_,fF_,a_]
    grind [o_n,a_,a_y,List.length_cons,List.length_nil,e_f]
  .refine ⟨⟨120::d_N v.bytes⟩,by grind [List.length_cons,e_f],λn hn=>?_,λn hn=>?_⟩
   .obtain ⟨G,rfl,H⟩:=spec_ n hn
    show b_l G (b_T G) d (i:Int) v=some _
    unfold b_l
    rw [hidx,a_,hlist G H]
    simp only [h,Int.reduceBEq,bF_,fF_,a_]
    grind [o_m,a_,a_y,List.length_cons,List.length_nil,e_f]
   .obtain ⟨G,rfl,H⟩:=spec_ n hn
    show b_m G (b_e G) d (i:Int) v=some _
    unfold b_m d_c
    rw [hidx,a_]
    simp only [h,Int.reduceBEq,Nat.reduceBEq,bF_,fF_,a_]
    grind [o_n,a_,a_y,List.length_cons,List.length_nil,e_f]
  .refine ⟨⟨[91]++J++[93]⟩,by grind,λn hn=>?_,λn hn=>?_⟩
   .obtain ⟨G,rfl,H⟩:=spec_ n hn
    show b_l G (b_T G) d (i:Int) v=some _
    unfold b_l
    rw [hidx,a_,hlist G H]
    simp only [h,Int.reduceBEq,bF_,fF_,fT_,a_]
    grind [a_y,List.length_cons,List.length_nil,a_,List.length_append]
   .obtain ⟨G,rfl,H⟩:=spec_ n hn
    show b_m G (b_e G) d (i:Int) v=some _
    unfold b_m d_c
    rw [hidx,a_]
    simp only [h,Int.reduceBEq,Nat.reduceBEq,bF_,fF_,fT_,a_]
    refine (congrArg (λz=>bd z _)<|j_s (λk=>(c_k r ts).take k) (n:=v.items.length) rfl<|λj hj=>?_).trans ?_
    .have hjt:j<ts.length:=by omega
     rw [hone G H j hjt,a_,a_Z (by grind),a_,s_w hjt]
     grind [f_h]
    .rw [a_,W_,QAR (by grind [g_j]),s_v (by grind),a_,hJ]
     grind [a_y,List.length_cons,List.length_nil,a_,List.length_append]
  .have a6:=hseq h;refine ⟨⟨[123]++J++[125]⟩,by grind,λn hn=>?_,λn hn=>?_⟩
   .obtain ⟨G,rfl,H⟩:=spec_ n hn
    show b_l G (b_T G) d (i:Int) v=some _
    unfold b_l
    rw [hidx,a_,hlist G H]
    simp only [h,Int.reduceBEq,bF_,fF_,fT_,a_]
    grind [a_y,List.length_cons,List.length_nil,a_,List.length_append]
   .obtain ⟨G,rfl,H⟩:=spec_ n hn
    show b_m G (b_e G) d (i:Int) v=some _
    unfold b_m d_c
    rw [hidx,a_]
    simp only [h,Int.reduceBEq,Nat.reduceBEq,bF_,fF_,fT_,a_]
    refine (congrArg (λz=>bd z _)<|j_s (λk=>(c_k r ts).take k) (n:=r.names.length) rfl<|λj hj=>?_).trans ?_
    .have hjt:j<ts.length:=by omega
     have hjv:j<v.items.length:=by omega
     have hnl:=a6.2 _<|gE_ hj;have htl:=hsl j hjt hjv;have hvl:=n_U (m:=i - 1)<|gE_ hjv
     rw [ix_ hj,a_,a_y (by grind),a_,hone G H j hjt,a_,a_y (by grind),a_,a_Z (by grind [n_T,List.length_take,g_j]),a_,s_w hjt]
     grind [f_h]
    .rw [a_,W_,QAR (by grind [g_j]),s_v (by grind),a_,hJ]
     grind [a_y,List.length_cons,List.length_nil,a_,List.length_append]
  .have Y:ts.length=1:=by omega
   have O:J=(ts[0]'(by omega)).b:=by grind [o_p]
   have h1:=λn hn=>hone n hn 0 (by omega)
   have hl:=d_m hkind h;obtain ⟨hint,hlim⟩:=m_4 hl.1;obtain ⟨q,hq,a0,a5⟩:=s_x L<|Int.le_trans a2 (by rw [hlim];exact s_y hint.2.1 hint.2.2);have a8:=n_T (i - 1) v.items;have a9:=hsl 0 (by omega) (by omega);have aa:=n_U (m:=i - 1)<|gE_ (l:=v.items) (n:=0) (by omega);refine ⟨⟨Lib.itoa v.number++[60]++J++[62]⟩,by grind,λn hn=>?_,λn hn=>?_⟩
   .obtain ⟨G,rfl,H⟩:=spec_ n hn
    show b_l G (b_T G) d (i:Int) v=some _
    unfold b_l
    rw [hidx,a_,hlist G H]
    simp only [h,Int.reduceBEq,bF_,fF_,fT_,a_]
    have:=congrArg List.length O;unfold n_a
    rw [hq,l_C (by omega) q a0,a_,← hq]
    grind [a_y,List.length_cons,List.length_nil,a_,List.length_append]
   .obtain ⟨G,rfl,H⟩:=spec_ n hn
    show b_m G (b_e G) d (i:Int) v=some _
    unfold b_m d_c
    rw [hidx,a_]
    simp only [h,Int.reduceBEq,Nat.reduceBEq,bF_,fF_,fT_,a_]
    have:=congrArg List.length O
    rw [show (b_e G).impl_valueText_1 0 d (i:Int) v=some ts[0] from h1 G H,a_]
    unfold n_c h_H l_p
    rw [a_,a_,O]
    rw [a_y (by simp only [lC_,QAD];omega),a_,a_y (by simp only [QAN,lC_,QAD];omega),a_,a_y (by simp only [QAN,lC_,QAD];omega),a_,a_]
  .by_cases h0:v.items.length=0
   .refine ⟨⟨[45]⟩,by simp only [lC_,QAD];omega,λn hn=>?_,λn hn=>?_⟩
    .obtain ⟨G,rfl,H⟩:=spec_ n hn
     show b_l G (b_T G) d (i:Int) v=some _
     unfold b_l
     rw [hidx,a_,hlist G H]
     simp only [h,Int.reduceBEq,bF_,fF_,fT_,a_]
     rw [show ((v.items.length:Int)==0)=true by simp [h0]]
     rfl
    .obtain ⟨G,rfl,H⟩:=spec_ n hn
     show b_m G (b_e G) d (i:Int) v=some _
     unfold b_m d_c
     rw [hidx,a_]
     simp only [h,Int.reduceBEq,Nat.reduceBEq,bF_,fF_,fT_,a_]
     rw [show ((v.items.length:Int)==0)=true by simp [h0]]
     rfl
   .have Y:ts.length=1:=by omega
    have O:J=(ts[0]'(by omega)).b:=by rw [← hJ];exact o_p (by omega) Y
    have h1:=λn hn=>hone n hn 0 (by omega)
    refine ⟨⟨[63]++J⟩,by simp only [QAN,lC_,QAD];omega,λn hn=>?_,λn hn=>?_⟩
    .obtain ⟨G,rfl,H⟩:=spec_ n hn
     show b_l G (b_T G) d (i:Int) v=some _
     unfold b_l
     rw [hidx,a_,hlist G H]
     simp only [h,Int.reduceBEq,bF_,fF_,fT_,a_]
     rw [show ((v.items.length:Int)==0)=false by simp only [QA9];omega,iN_ (by simp),a_y (by simp only [lC_,QAD];omega),a_]
    .obtain ⟨G,rfl,H⟩:=spec_ n hn
     show b_m G (b_e G) d (i:Int) v=some _
     unfold b_m d_c
     rw [hidx,a_]
     simp only [h,Int.reduceBEq,Nat.reduceBEq,bF_,fF_,fT_,a_]
     rw [show ((v.items.length:Int)==0)=false by simp only [QA9];omega,iN_ (by simp),show (b_e G).impl_valueText_1 0 d (i:Int) v=some ts[0] from h1 G H,a_,a_y (by have:=congrArg List.length O;simp only [lC_,QAD];omega),a_,O]
  .have Y:ts.length=1:=by omega
   have O:J=(ts[0]'(by omega)).b:=by rw [← hJ];exact o_p (by omega) Y
   have h1:=λn hn=>hone n hn 0 (by omega)
   refine ⟨⟨[40]++J++[41]⟩,by simp only [QAN,lC_,QAD];omega,λn hn=>?_,λn hn=>?_⟩
   .obtain ⟨G,rfl,H⟩:=spec_ n hn
    show b_l G (b_T G) d (i:Int) v=some _
    unfold b_l
    rw [hidx,a_,hlist G H]
    simp only [h,Int.reduceBEq,bF_,fF_,fT_,a_]
    rw [a_y (by simp only [lC_,QAD];omega),a_,a_y (by simp only [QAN,lC_,QAD];omega),a_]
   .obtain ⟨G,rfl,H⟩:=spec_ n hn
    show b_m G (b_e G) d (i:Int) v=some _
    unfold b_m d_c
    rw [hidx,a_]
    simp only [h,Int.reduceBEq,Nat.reduceBEq,bF_,fF_,fT_,a_]
    have:=congrArg List.length O
    rw [show (b_e G).impl_valueText_1 0 d (i:Int) v=some ts[0] from h1 G H,a_,O]
    rw [a_y (by simp only [lC_,QAD];omega),a_,a_y (by simp only [QAN,lC_,QAD];omega),a_]
theorem y_3 (hv:D_ d=true)(hd:SmD d)(hb:b.length<=400){i:Nat}(hi:i<d.rules.length){p:Nat}(hp:p<=b.length)(hok:(rdW d.rules b i p).2.2=0){n:Nat}(hn:1000<=n):∃t:Str,j_0 n d (i:Int) (rdW d.rules b i p).1=some t/\g_K n d (i:Int) (rdW d.rules b i p).1=some t:=by
 have hvl:=(b_i hv).2;obtain ⟨t,_,G,H⟩:=s_z hv hd hb i hi p hp hok;refine ⟨t,?_,?_⟩
 .unfold j_0
  rw [s_p hv hd hb hi hp hok hn,a_,iN_ (by simp),G n (by omega),a_]
 .unfold g_K
  rw [x_X hv hd hb hi hp hok hn,a_,iN_ (by simp),H n (by omega),a_]
end
end Go.Vw
