
import Derived.Test.YtbhbfaljeoeciaaGreatDoorVw
import Derived.Test.YtbhbfaljeoeciaaGreatDoorVj
namespace Go.Vw
open Go.RowKit Dat
def a_P (r:g_)(v:Val)(J:List UInt8):List UInt8 :=
 if r.kind=1 then Lib.itoa v.number else if r.kind=2 then [33] else if r.kind=5 then [91]++J++[93] else if r.kind=6 then [123]++J++[125] else
 if r.kind=7 then Lib.itoa v.number++[60]++J++[62] else if r.kind=8 then (if v.items.length=0 then [45] else [63]++J) else if r.kind=9 then [40]++J++[41] else 120::a_k v.bytes
def Txt (rs:List g_):Nat->Nat->Val->List UInt8->Prop
 | 0,_,_,_=>False
 | m+1,i,v,t=>∃ts:List Str,ts.length=v.items.length/\(∀j (h:j<ts.length) (h':j<v.items.length),∃k:Nat,N_ (rs.getD i default) v.number j=(k:Int)/\Txt rs m k v.items[j] ts[j].b)/\t=a_P (rs.getD i default) v (a_q<|a_6 (rs.getD i default) ts)
section
variable {d:c_}
theorem p_s (hv:a_7 d=true)(hd:SmD d):∀(m i:Nat)(v:Val),VP d.rules m i v->vsz m v<=20000->∃t:Str,t.b.length<=40 * vsz m v+22/\Txt d.rules m i v t.b/\(∀n,2 * m+60<=n->k_s n d (i:Int) v=some t)/\(∀n,2 * m+60<=n->k_u n d (i:Int) v=some t):=by
 have hLIM:=a_p;intro m
 induction m with
 | zero=>exact fun _ _ h=>h.elim
 | succ m ih =>
  rintro i v ⟨hi,hown,hit⟩ hz;have hvl:=(c_h hv).2;have hr:=b_w hv hi;have a7:v.bytes.length+lsz m v.items<=vsz (m+1) v:=Nat.le_refl _
  have hch:∀j,j<v.items.length->∃t:Str,∀(h:j<v.items.length),t.b.length<=40 * vsz m v.items[j]+22/\(∀n,2 * m+60<=n->k_s n d (N_ d.rules[i] v.number j) v.items[j]=some t)/\(∀n,2 * m+60<=n->k_u n d (N_ d.rules[i] v.number j) v.items[j]=some t)/\∃k:Nat,N_ d.rules[i] v.number j=(k:Int)/\Txt d.rules m k v.items[j] t.b:=by
   intro j hj;obtain ⟨k,h1,h2,h3⟩:=hit j hj;have hsz:=g_C (m:=m)<|gE_ hj;obtain ⟨t,t1,t2,t3,t4⟩:=ih k v.items[j] h3 (by omega);refine ⟨t,fun _=>?_⟩
   rw [h1]
   exact ⟨t1,t3,t4,k,rfl,t2⟩
  obtain ⟨ts,hts,hP⟩:=m_L v.items.length hch;have hkk:=c_i hr.kind
  have hseq:d.rules[i].kind=6->d.rules[i].names.length=d.rules[i].kids.length/\∀s∈d.rules[i].names,s.b.length<=12:=fun h6=>by
   obtain ⟨s1,_,_,s4⟩:=d_P hr.kind h6;exact ⟨s1.symm,fun s hs=>k_g<|s4 s hs⟩
  have hkind:=hr.kind;have hsl:∀j (h:j<ts.length) (h':j<v.items.length),ts[j].b.length<=40 * vsz (m) v.items[j]+22:=fun j h h'=>(hP j h h').1
  have hps:=m_M (m:=m) (r:=d.rules[i]) (fun h6=>(hseq h6).2) hts hsl ts.length<|Nat.le_refl _
  rw [List.take_of_length_le (by rw [b_c];exact Nat.le_refl _),List.take_of_length_le (by omega)] at hps
  -- the reference's list, the program's items
  have hlist:∀n,2 * m+61<=n->(b_g n).spec_l10List d d.rules[i] v=some ⟨a_q<|a_6 d.rules[i] ts⟩:=by
   intro n hn;obtain ⟨I,rfl⟩:∃I,n=I+1:=⟨n - 1,by omega⟩;refine q_o (n:=I) (m:=m) hkk (fun h6=>(hseq h6).2) (fun h6=>?_) hts (by omega) hsl<|fun j h h'=>(hP j h h').2.1 I (by omega);have:=(hseq h6).1
   rcases hown with ⟨h,_⟩ | ⟨h,_⟩ | ⟨h,_⟩ | ⟨h,_⟩ | ⟨h,_⟩ | ⟨h,_⟩ | ⟨h,_,_,L⟩ | ⟨h,_⟩ | ⟨h,_⟩ | ⟨h,_⟩ <;> omega
  have hone:∀n,2 * m+61<=n->∀j (h:j<ts.length),(a_N n).impl_valueText_1 (j:Int) d (i:Int) v=some ts[j]:=by
   intro n hn j h;obtain ⟨I,rfl⟩:∃I,n=I+1:=⟨n - 1,by omega⟩
   show h_x I (a_N I) (j:Int) d (i:Int) v=some ts[j]
   unfold h_x;have h':j<v.items.length:=by omega
   rw [ix_ h',bd_some,g_F (ix_ hi) hkk,bd_some,show (a_N I).impl_valueText d (N_ d.rules[i] v.number j) v.items[j]=some ts[j] from (hP j h h').2.2.1 I (by omega),bd_some]
  have spec_:∀n,2 * (m+1)+60<=n->∃G,n=G+1/\2 * m+61<=G:=fun n hn=>⟨n - 1,by omega,by omega⟩
  have hidx:=ix_ hi;have htx:∀t,t=a_P d.rules[i] v (a_q<|a_6 d.rules[i] ts)->Txt d.rules (m+1) i v t:=fun t ht=>⟨ts,hts,fun j h h'=>by rw [W_ hi];exact (hP j h h').2.2.2,by rw [W_ hi];exact ht⟩
  generalize hrr:d.rules[i]=r at *
  generalize hJ:a_q (a_6 r ts)=J at *
  rcases hown with ⟨h,L,a2,W,e2⟩ | ⟨h,V,W,e2⟩ | ⟨h,V,L,e2⟩ | ⟨h,V,L,a2,e2⟩ | ⟨h,V,L,e2⟩ | ⟨h,V,W,L,a2⟩ | ⟨h,V,W,L⟩ | ⟨h,L,a2,W,a3,a4⟩ | ⟨h,V,W,L⟩ | ⟨h,V,W,L⟩
  ·obtain ⟨_,s1,s4⟩:=c_u hkind h;obtain ⟨q,hq,a0,a5⟩:=m_P L<|Int.le_trans a2<|f_e s1 s4;refine ⟨⟨Lib.itoa v.number⟩,by simp only;omega,htx _ (by unfold a_P;simp [h]),fun n hn=>?_,fun n hn=>?_⟩
   ·obtain ⟨G,rfl,H⟩:=spec_ n hn
    show a_S G (b_g G) d (i:Int) v=some _
    unfold a_S
    rw [hidx,bd_some,hlist G H]
    simp only [h,Int.reduceBEq,fT_,bd_some]
    rw [hq,m_n (by omega) q a0,bd_some]
   ·obtain ⟨G,rfl,H⟩:=spec_ n hn
    show a_T G (a_N G) d (i:Int) v=some _
    unfold a_T b_M
    rw [hidx,bd_some]
    simp only [h,Int.reduceBEq,Nat.reduceBEq,fT_,bd_some]
    rfl
  ·refine ⟨⟨[33]⟩,by simp only [lC_,List.length_nil];omega,htx _ (by unfold a_P;simp [h]),fun n hn=>?_,fun n hn=>?_⟩
   ·obtain ⟨G,rfl,H⟩:=spec_ n hn
    show a_S G (b_g G) d (i:Int) v=some _
    unfold a_S
    rw [hidx,bd_some,hlist G H]
    simp only [h,Int.reduceBEq,bF_,fF_,fT_,bd_some]

   ·obtain ⟨G,rfl,H⟩:=spec_ n hn
    show a_T G (a_N G) d (i:Int) v=some _
    unfold a_T b_M
    rw [hidx,bd_some]
    simp only [h,Int.reduceBEq,Nat.reduceBEq,bF_,fF_,fT_,bd_some]

  ·have hfx:=d_u hkind h;refine ⟨⟨120::a_k v.bytes⟩,by have:=b_I v.bytes;simp only [lC_];omega,htx _ (by unfold a_P;simp [h]),fun n hn=>?_,fun n hn=>?_⟩
   ·obtain ⟨G,rfl,H⟩:=spec_ n hn
    show a_S G (b_g G) d (i:Int) v=some _
    unfold a_S
    rw [hidx,bd_some,hlist G H]
    simp only [h,Int.reduceBEq,bF_,fF_,bd_some]
    rw [k_9 (by omega),bd_some,a_g (by simp only [lC_,List.length_nil];have:=b_I v.bytes;omega),bd_some]
    rfl
   ·obtain ⟨G,rfl,H⟩:=spec_ n hn
    show a_T G (a_N G) d (i:Int) v=some _
    unfold a_T b_M
    rw [hidx,bd_some]
    simp only [h,Int.reduceBEq,Nat.reduceBEq,bF_,fF_,bd_some]
    rw [k_a (by omega),bd_some,a_g (by simp only [lC_,List.length_nil];have:=b_I v.bytes;omega),bd_some]
    rfl
  ·refine ⟨⟨120::a_k v.bytes⟩,by have:=b_I v.bytes;simp only [lC_];omega,htx _ (by unfold a_P;simp [h]),fun n hn=>?_,fun n hn=>?_⟩
   ·obtain ⟨G,rfl,H⟩:=spec_ n hn
    show a_S G (b_g G) d (i:Int) v=some _
    unfold a_S
    rw [hidx,bd_some,hlist G H]
    simp only [h,Int.reduceBEq,bF_,fF_,bd_some]
    rw [k_9 (by omega),bd_some,a_g (by simp only [lC_,List.length_nil];have:=b_I v.bytes;omega),bd_some]
    rfl
   ·obtain ⟨G,rfl,H⟩:=spec_ n hn
    show a_T G (a_N G) d (i:Int) v=some _
    unfold a_T b_M
    rw [hidx,bd_some]
    simp only [h,Int.reduceBEq,Nat.reduceBEq,bF_,fF_,bd_some]
    rw [k_a (by omega),bd_some,a_g (by simp only [lC_,List.length_nil];have:=b_I v.bytes;omega),bd_some]
    rfl
  ·refine ⟨⟨120::a_k v.bytes⟩,by have:=b_I v.bytes;simp only [lC_];omega,htx _ (by unfold a_P;simp [h]),fun n hn=>?_,fun n hn=>?_⟩
   ·obtain ⟨G,rfl,H⟩:=spec_ n hn
    show a_S G (b_g G) d (i:Int) v=some _
    unfold a_S
    rw [hidx,bd_some,hlist G H]
    simp only [h,Int.reduceBEq,bF_,fF_,bd_some]
    rw [k_9 (by omega),bd_some,a_g (by simp only [lC_,List.length_nil];have:=b_I v.bytes;omega),bd_some]
    rfl
   ·obtain ⟨G,rfl,H⟩:=spec_ n hn
    show a_T G (a_N G) d (i:Int) v=some _
    unfold a_T b_M
    rw [hidx,bd_some]
    simp only [h,Int.reduceBEq,Nat.reduceBEq,bF_,fF_,bd_some]
    rw [k_a (by omega),bd_some,a_g (by simp only [lC_,List.length_nil];have:=b_I v.bytes;omega),bd_some]
    rfl
  ·refine ⟨⟨[91]++J++[93]⟩,by simp only [List.length_append,lC_,List.length_nil];omega,htx _ (by unfold a_P;simp [h]),fun n hn=>?_,fun n hn=>?_⟩
   ·obtain ⟨G,rfl,H⟩:=spec_ n hn
    show a_S G (b_g G) d (i:Int) v=some _
    unfold a_S
    rw [hidx,bd_some,hlist G H]
    simp only [h,Int.reduceBEq,bF_,fF_,fT_,bd_some]
    rw [a_g (by simp only [lC_,List.length_nil];omega),bd_some,a_g (by simp only [List.length_append,lC_,List.length_nil];omega),bd_some]
   ·obtain ⟨G,rfl,H⟩:=spec_ n hn
    show a_T G (a_N G) d (i:Int) v=some _
    unfold a_T b_M
    rw [hidx,bd_some]
    simp only [h,Int.reduceBEq,Nat.reduceBEq,bF_,fF_,fT_,bd_some]
    refine (congrArg (fun z=>bd z _)<|d_N (fun k=>(a_6 r ts).take k) (n:=v.items.length) rfl<|fun j hj=>?_).trans ?_
    ·have hjt:j<ts.length:=by omega
     rw [hone G H j hjt,bd_some,a_X (by rw [List.length_take,b_c];have:=i_N (m) v.items;omega),bd_some,m_O hjt]
     unfold b_J
     rw [iN_ (by omega),W_ hjt]
    ·rw [bd_some,el_inl,List.take_of_length_le (by rw [b_c];omega),m_N (by rw [hJ];omega),bd_some,hJ]
     rw [a_g (by simp only [lC_,List.length_nil];omega),bd_some,a_g (by simp only [List.length_append,lC_,List.length_nil];omega),bd_some]
  ·have a6:=hseq h;refine ⟨⟨[123]++J++[125]⟩,by simp only [List.length_append,lC_,List.length_nil];omega,htx _ (by unfold a_P;simp [h]),fun n hn=>?_,fun n hn=>?_⟩
   ·obtain ⟨G,rfl,H⟩:=spec_ n hn
    show a_S G (b_g G) d (i:Int) v=some _
    unfold a_S
    rw [hidx,bd_some,hlist G H]
    simp only [h,Int.reduceBEq,bF_,fF_,fT_,bd_some]
    rw [a_g (by simp only [lC_,List.length_nil];omega),bd_some,a_g (by simp only [List.length_append,lC_,List.length_nil];omega),bd_some]
   ·obtain ⟨G,rfl,H⟩:=spec_ n hn
    show a_T G (a_N G) d (i:Int) v=some _
    unfold a_T b_M
    rw [hidx,bd_some]
    simp only [h,Int.reduceBEq,Nat.reduceBEq,bF_,fF_,fT_,bd_some]
    refine (congrArg (fun z=>bd z _)<|d_N (fun k=>(a_6 r ts).take k) (n:=r.names.length) rfl<|fun j hj=>?_).trans ?_
    ·have hjt:j<ts.length:=by omega
     have hjv:j<v.items.length:=by omega
     have hnl:=a6.2 _<|gE_ hj;have htl:=hsl j hjt hjv;have hvl:=g_C (m:=m)<|gE_ hjv
     rw [ix_ hj,bd_some,a_g (by simp only [lC_,List.length_nil];omega),bd_some,hone G H j hjt,bd_some,a_g (by simp only [List.length_append,lC_,List.length_nil];omega),bd_some,a_X (by rw [List.length_take,b_c];have:=i_N (m) v.items;omega),bd_some,m_O hjt]
     unfold b_J
     rw [iP_ h,W_ hjt,W_ hj]
    ·rw [bd_some,el_inl,List.take_of_length_le (by rw [b_c];omega),m_N (by rw [hJ];omega),bd_some,hJ]
     rw [a_g (by simp only [lC_,List.length_nil];omega),bd_some,a_g (by simp only [List.length_append,lC_,List.length_nil];omega),bd_some]
  ·have Y:ts.length=1:=by omega
   have O:J=(ts[0]'(by omega)).b:=by rw [← hJ];exact g_J (by omega) Y
   have h1:=fun n hn=>hone n hn 0 (by omega)
   have hl:=c_M hkind h;obtain ⟨hint,hlim⟩:=e_n hl.1;obtain ⟨q,hq,a0,a5⟩:=m_P L<|Int.le_trans a2 (by rw [hlim];exact f_e hint.2.1 hint.2.2);have a8:=i_N (m) v.items;have a9:=hsl 0 (by omega) (by omega);have aa:=g_C (m:=m)<|gE_ (l:=v.items) (n:=0) (by omega);refine ⟨⟨Lib.itoa v.number++[60]++J++[62]⟩,by have:=congrArg List.length O;simp only [List.length_append,lC_,List.length_nil];omega,htx _ (by unfold a_P;simp [h]),fun n hn=>?_,fun n hn=>?_⟩
   ·obtain ⟨G,rfl,H⟩:=spec_ n hn
    show a_S G (b_g G) d (i:Int) v=some _
    unfold a_S
    rw [hidx,bd_some,hlist G H]
    simp only [h,Int.reduceBEq,bF_,fF_,fT_,bd_some]
    have:=congrArg List.length O;unfold j_b
    rw [hq,m_n (by omega) q a0,bd_some,← hq]
    rw [a_g (by simp only [lC_,List.length_nil];omega),bd_some,a_g (by simp only [List.length_append,lC_,List.length_nil];omega),bd_some,a_g (by simp only [List.length_append,lC_,List.length_nil];omega),bd_some,bd_some]
   ·obtain ⟨G,rfl,H⟩:=spec_ n hn
    show a_T G (a_N G) d (i:Int) v=some _
    unfold a_T b_M
    rw [hidx,bd_some]
    simp only [h,Int.reduceBEq,Nat.reduceBEq,bF_,fF_,fT_,bd_some]
    have:=congrArg List.length O
    rw [show (a_N G).impl_valueText_1 0 d (i:Int) v=some ts[0] from h1 G H,bd_some]
    unfold j_d h_q j_D
    rw [bd_some,bd_some,O]
    rw [a_g (by simp only [lC_,List.length_nil];omega),bd_some,a_g (by simp only [List.length_append,lC_,List.length_nil];omega),bd_some,a_g (by simp only [List.length_append,lC_,List.length_nil];omega),bd_some,bd_some]
  ·by_cases h0:v.items.length=0
   ·refine ⟨⟨[45]⟩,by simp only [lC_,List.length_nil];omega,htx _ (by unfold a_P;simp [h,h0]),fun n hn=>?_,fun n hn=>?_⟩
    ·obtain ⟨G,rfl,H⟩:=spec_ n hn
     show a_S G (b_g G) d (i:Int) v=some _
     unfold a_S
     rw [hidx,bd_some,hlist G H]
     simp only [h,Int.reduceBEq,bF_,fF_,fT_,bd_some]
     rw [show ((v.items.length:Int)==0)=true by simp [h0]]
     rfl
    ·obtain ⟨G,rfl,H⟩:=spec_ n hn
     show a_T G (a_N G) d (i:Int) v=some _
     unfold a_T b_M
     rw [hidx,bd_some]
     simp only [h,Int.reduceBEq,Nat.reduceBEq,bF_,fF_,fT_,bd_some]
     rw [show ((v.items.length:Int)==0)=true by simp [h0]]
     rfl
   ·have Y:ts.length=1:=by omega
    have O:J=(ts[0]'(by omega)).b:=by rw [← hJ];exact g_J (by omega) Y
    have h1:=fun n hn=>hone n hn 0 (by omega)
    refine ⟨⟨[63]++J⟩,by simp only [List.length_append,lC_,List.length_nil];omega,htx _ (by unfold a_P;simp [h,h0]),fun n hn=>?_,fun n hn=>?_⟩
    ·obtain ⟨G,rfl,H⟩:=spec_ n hn
     show a_S G (b_g G) d (i:Int) v=some _
     unfold a_S
     rw [hidx,bd_some,hlist G H]
     simp only [h,Int.reduceBEq,bF_,fF_,fT_,bd_some]
     rw [show ((v.items.length:Int)==0)=false by simp only [beq_eq_false_iff_ne];omega,iN_ (by simp),a_g (by simp only [lC_,List.length_nil];omega),bd_some]
    ·obtain ⟨G,rfl,H⟩:=spec_ n hn
     show a_T G (a_N G) d (i:Int) v=some _
     unfold a_T b_M
     rw [hidx,bd_some]
     simp only [h,Int.reduceBEq,Nat.reduceBEq,bF_,fF_,fT_,bd_some]
     rw [show ((v.items.length:Int)==0)=false by simp only [beq_eq_false_iff_ne];omega,iN_ (by simp),show (a_N G).impl_valueText_1 0 d (i:Int) v=some ts[0] from h1 G H,bd_some,a_g (by have:=congrArg List.length O;simp only [lC_,List.length_nil];omega),bd_some,O]
  ·have Y:ts.length=1:=by omega
   have O:J=(ts[0]'(by omega)).b:=by rw [← hJ];exact g_J (by omega) Y
   have h1:=fun n hn=>hone n hn 0 (by omega)
   refine ⟨⟨[40]++J++[41]⟩,by simp only [List.length_append,lC_,List.length_nil];omega,htx _ (by unfold a_P;simp [h]),fun n hn=>?_,fun n hn=>?_⟩
   ·obtain ⟨G,rfl,H⟩:=spec_ n hn
    show a_S G (b_g G) d (i:Int) v=some _
    unfold a_S
    rw [hidx,bd_some,hlist G H]
    simp only [h,Int.reduceBEq,bF_,fF_,fT_,bd_some]
    rw [a_g (by simp only [lC_,List.length_nil];omega),bd_some,a_g (by simp only [List.length_append,lC_,List.length_nil];omega),bd_some]
   ·obtain ⟨G,rfl,H⟩:=spec_ n hn
    show a_T G (a_N G) d (i:Int) v=some _
    unfold a_T b_M
    rw [hidx,bd_some]
    simp only [h,Int.reduceBEq,Nat.reduceBEq,bF_,fF_,fT_,bd_some]
    have:=congrArg List.length O
    rw [show (a_N G).impl_valueText_1 0 d (i:Int) v=some ts[0] from h1 G H,bd_some,O]
    rw [a_g (by simp only [lC_,List.length_nil];omega),bd_some,a_g (by simp only [List.length_append,lC_,List.length_nil];omega),bd_some]
theorem p_t (hv:a_7 d=true)(hd:SmD d){m i:Nat}{v:Val}(hm:m<=25)(hV:VP d.rules m i v)(hz:vsz m v<=20000){n:Nat}(hn:1000<=n):∃t:Str,t.b.length<=40 * vsz m v+22/\Txt d.rules m i v t.b/\e_H n d (i:Int) v=some t/\e_I n d (i:Int) v=some t:=by
 obtain ⟨t,G,H,I,J⟩:=p_s hv hd m i v hV hz;obtain ⟨y,L,O,_,V⟩:=k_h hv hd (i:=(i:Int)) (v:=v) hn;have:=V i rfl hV.fuel;subst this;refine ⟨t,G,H,?_,?_⟩
 ·unfold e_H
  rw [L,bd_some,iN_ (by simp),I n (by omega),bd_some]
 ·unfold e_I
  rw [O,bd_some,iN_ (by simp),J n (by omega),bd_some]
end
end Go.Vw
