
import Derived.Test.YtbhbfaljeoeciaaGreatDoorVb2
import Derived.Test.YtbhbfaljeoeciaaGreatDoorVm
namespace Go.Vw
open Go.RowKit Dat
theorem b_5 {v:Val}{a:Int}{b:List UInt8}{c:List Val}(h1:v.number=a)(h2:v.bytes=b)(h3:v.items=c):v = .mk a b c:=by
 cases v;cases h1;cases h2;cases h3;rfl
theorem m_d {r:g_}{v:Val}{J:List UInt8} :
  (r.kind=1->a_P r v J=Lib.itoa v.number)/\(r.kind=2->a_P r v J=[33])/\(r.kind=5->a_P r v J=[91]++(J++[93]))/\(r.kind=6->a_P r v J=[123]++(J++[125]))/\(r.kind=7->a_P r v J=Lib.itoa v.number++([60]++(J++[62]))) /\
  (r.kind=8->a_P r v J=if v.items.length=0 then [45] else [63]++J)/\(r.kind=9->a_P r v J=[40]++(J++[41]))/\(r.kind=3∨r.kind=4∨r.kind=10->a_P r v J=[120]++a_k v.bytes):=by
 unfold a_P;refine ⟨fun h=>?_,fun h=>?_,fun h=>?_,fun h=>?_,fun h=>?_,fun h=>?_,fun h=>?_,fun h=>?_⟩
 case refine_8=>rcases h with h | h | h <;> simp [h]
 all_goals simp [h]
section
variable {d:c_}{s:Str}
theorem j_X (hs:s.b.length<=1000000000){n m:Nat}(hn:50<=n)(hR:j_W d s n m){r:g_}{v:Val}{ts:List Str}(hT:g_y d m r v ts)(hk:d_2 r)(G:r.kind=6->r.names.length=v.items.length/\∀x∈r.names,b_4 x=true)(H:v.items.length<=40){x:UInt8}(hx:x=93∨x=125∨x=62){u:List UInt8}{p:Nat}(hd:s.b.drop p=a_q (a_6 r ts)++x::u) :
  (b_Z<|n+1).spec_l10Items d r v.number s (p:Int) x=some (v.items,((p+(a_q<|a_6 r ts).length+1:Nat):Int)):=by
 have hlen:=i_D hd;have hl:=b_c r ts;have I:=hT.len
 show f_D n (b_Z n) d r v.number s (p:Int) x=_
 unfold f_D;have:=m_c hs hR hT hk G H hx (u:=u) (a_6 r ts) 0 p n rfl (Nat.zero_le _) hd (by omega)
 rw [List.take_zero] at this
 rw [this,bd_some,el_inl]
 simp only [un2]
 rw [show b_u 0 (a_6 r ts)=a_q (a_6 r ts) from rfl,ia_ (by omega) (by omega)]
 rfl
theorem m_e {l:List Str}(h:l.length=1):∃y,l=[y]:=List.length_eq_one_iff.1 h
theorem j_Y (hv:a_7 d=true)(hd:SmD d)(hs:s.b.length<=1000000000):∀m n,2 * m+1020<=n->j_W d s n m
 | 0,n,hn=>fun i v t rest p hV=>hV.elim
 | m+1,n,hn=>fun i v t rest p hV hT hdr hr=>by
  obtain ⟨n,rfl⟩:∃k,n=k+2:=⟨n - 2,by omega⟩;obtain ⟨c0,u0,a0,_⟩:=g_x hV hT;obtain ⟨hi,ts,hO,hP,ht⟩:=partT hV hT;have hlen:p+t.length+rest.length=s.b.length:=g_u hdr (by rw [a0];simp);have hrr:=b_w hv hi;have hkk:=c_i hrr.kind;have hkind:=hrr.kind;have W:=m_4 hv hi hO;have hR:=j_Y hv hd hs m n (by omega);have a5:=j_Y hv hd hs m (n+1) (by omega);have htl:0<t.length:=by rw [a0];simp
  obtain ⟨q1,q2,q5,q6,q7,q8,q9,qx⟩:=m_d (r:=d.rules[i]) (v:=v) (J:=a_q<|a_6 d.rules[i] ts);have hsz:=hO
  show f_C (n+1) (b_Z<|n+1) d (i:Int) s (p:Int)=_
  unfold f_C
  rw [ix_ hi,bd_some,dF_ (show ¬(s.b.length:Int)<=(p:Int) by omega),iN_ (by simp)]
  rw [ht] at hdr hlen ⊢
  generalize d.rules[i]=r at *
  have hone:∀k:Int,N_ r v.number 0=k->v.items.length=1->r.kind ≠ 6->∃(k':Nat)(y:Str)(x:Val),k=(k':Int)/\ts=[y]/\v.items=[x]/\a_q (a_6 r ts)=y.b/\VP d.rules m k' x/\Txt d.rules m k' x y.b:=by
   intro k a6 h1 h6;have hl:=hP.len;obtain ⟨k',H,I,e3⟩:=hP.it 0 (by omega) (by omega);have hj:=g_J h6 (show ts.length=1 by omega);obtain ⟨y,rfl⟩:=m_e (l:=ts) (by omega);obtain ⟨x,hx⟩:=List.length_eq_one_iff.1 h1;refine ⟨k',y,x,by omega,rfl,hx,hj,?_⟩
   simp only [hx,List.getElem_cons_zero] at I e3
   exact ⟨I,e3⟩
  rcases hsz with ⟨h,L,a2,H,I⟩ | ⟨h,G,H,I⟩ | ⟨h,G,L,I⟩ | ⟨h,G,L,a2,I⟩ | ⟨h,G,L,I⟩ | ⟨h,G,H,L,a2⟩ | ⟨h,G,H,L⟩ | ⟨h,L,a2,H,a3,a4⟩ | ⟨h,G,H,L⟩ | ⟨h,G,H,L⟩
  ·rw [q1 h] at hdr hlen ⊢
   obtain ⟨_,s1,s4⟩:=c_u hkind h;have hpow:=f_e s1 s4;obtain ⟨q,hq⟩:∃q:Nat,v.number=q:=⟨v.number.toNat,by omega⟩
   rw [hq] at hdr ⊢
   simp only [h,Int.reduceBEq,fT_]
   rw [m_6 hdr (by omega) hr hs (by omega),bd2_some,← b_5 hq H I]
  ·rw [q2 h] at hdr hlen ⊢
   simp only [h,Int.reduceBEq,bF_,fF_,fT_]
   rw [ia_ (by omega) (by omega),← b_5 G H I]
   rfl
  ·rw [qx (by omega)] at hdr hlen ⊢
   have hfx:=d_u hkind h;have h1:=a_D<|List.append_assoc _ _ _ ▸ hdr
   rw [List.length_append,lC_,List.length_nil] at hlen
   rw [lC_,List.length_nil] at h1
   simp only [h,Int.reduceBEq,bF_,fF_]
   rw [ia_ (by omega) (by omega),show (p:Int)+1=((p+(0+1):Nat):Int) by omega,j_R h1 (by omega) (by omega) hr hs (by omega),bd2_some,← b_5 G rfl I,List.length_append,lC_,List.length_nil]
   rw [Nat.add_assoc]
  ·rw [qx (by omega)] at hdr hlen ⊢
   have h1:=a_D<|List.append_assoc _ _ _ ▸ hdr
   rw [List.length_append,lC_,List.length_nil] at hlen
   rw [lC_,List.length_nil] at h1
   simp only [h,Int.reduceBEq,bF_,fF_]
   rw [ia_ (by omega) (by omega),show (p:Int)+1=((p+(0+1):Nat):Int) by omega,j_R h1 (by omega) (by omega) hr hs (by omega),bd2_some,← b_5 G rfl I,List.length_append,lC_,List.length_nil]
   rw [Nat.add_assoc]
  ·rw [qx (by omega)] at hdr hlen ⊢
   have h1:=a_D<|List.append_assoc _ _ _ ▸ hdr
   rw [List.length_append,lC_,List.length_nil] at hlen
   rw [lC_,List.length_nil] at h1
   simp only [h,Int.reduceBEq,bF_,fF_]
   rw [ia_ (by omega) (by omega),show (p:Int)+1=((p+(0+1):Nat):Int) by omega,j_R h1 (by omega) (by omega) hr hs (by omega),bd2_some,← b_5 G rfl I,List.length_append,lC_,List.length_nil]
   rw [Nat.add_assoc]
  ·rw [q5 h] at hdr hlen ⊢
   simp only [List.length_append,lC_,List.length_nil] at hlen ⊢
   have h1:=a_D<|List.append_assoc _ _ _ ▸ hdr
   rw [lC_,List.length_nil,List.append_assoc] at h1
   have:=j_X hs (by omega) hR hP hkk (fun h6=>by omega) W (.inl rfl) h1
   rw [G] at this
   simp only [h,Int.reduceBEq,bF_,fF_,fT_]
   rw [ia_ (by omega) (by omega),show (p:Int)+1=((p+(0+1):Nat):Int) by omega,this,bd2_some,← b_5 G H rfl]
   congr 3
   omega
  ·rw [q6 h] at hdr hlen ⊢
   simp only [List.length_append,lC_,List.length_nil] at hlen ⊢
   have h1:=a_D<|List.append_assoc _ _ _ ▸ hdr
   rw [lC_,List.length_nil,List.append_assoc] at h1
   obtain ⟨s1,_,_,s4⟩:=d_P hkind h;have:=j_X hs (by omega) hR hP hkk (fun h6=>⟨by omega,s4⟩) W (.inr<|.inl rfl) h1
   rw [G] at this
   simp only [h,Int.reduceBEq,bF_,fF_,fT_]
   rw [ia_ (by omega) (by omega),show (p:Int)+1=((p+(0+1):Nat):Int) by omega,this,bd2_some,← b_5 G H rfl]
   congr 3
   omega
  ·rw [q7 h] at hdr hlen ⊢
   have hl:=c_M hkind h;obtain ⟨hint,hlim⟩:=e_n hl.1;have hpow:=f_e hint.2.1 hint.2.2;obtain ⟨q,hq⟩:∃q:Nat,v.number=q:=⟨v.number.toNat,by omega⟩;have O:=hdr
   rw [List.append_assoc] at O
   have h1:=a_D O
   rw [List.append_assoc] at h1
   have h2:=a_D h1
   rw [lC_,List.length_nil,List.append_assoc] at h2
   simp only [List.length_append,lC_,List.length_nil] at hlen ⊢
   have:=j_X hs (by omega) hR hP hkk (fun h6=>by omega) W (.inr<|.inr rfl) h2
   rw [hq] at O this hlen ⊢
   have hst:c_g ([60]++(a_q (a_6 r ts)++[62])++rest):=fun c w hc=>by
    have:=(List.cons.inj hc).1
    simp [← this]
   simp only [h,Int.reduceBEq,bF_,fF_,fT_]
   rw [m_6 O (by omega) hst hs (by omega),bd2_some,ia_ (by omega) (by omega),show ((p+(Lib.itoa (q:Int)).length:Nat):Int)+1=((p+(Lib.itoa (q:Int)).length+(0+1):Nat):Int) by omega,this,bd2_some,← b_5 hq H rfl]
   congr 3
   omega
  ·rw [q8 h] at hdr hlen ⊢
   simp only [h,Int.reduceBEq,bF_,fF_,fT_]
   by_cases O:v.items.length=0
   ·rw [iP_ O] at hdr hlen ⊢
    obtain ⟨hp,hg⟩:=c_6 hdr (j:=0) (by simp)
    rw [ix_ (show p<s.b.length from hp),bd_some]
    simp only [Nat.add_zero,List.getElem_cons_zero] at hg
    rw [hg,iP_ (by rfl),ia_ (by omega) (by omega),← b_5 G H (List.length_eq_zero_iff.1 O)]
    rfl
   ·rw [iN_ O] at hdr hlen ⊢
    have hkid:N_ r v.number 0=r.kids.getD 0 0:=by unfold N_;simp [h]
    have a6:=c_7 hkind<|.inl h;obtain ⟨k',y,x,V,f2,f3,Y,f5,f6⟩:=hone _ hkid (by omega) (by omega)
    rw [Y] at hdr hlen ⊢
    have hh:=hdr
    rw [List.append_assoc] at hh
    have h1:=a_D hh
    rw [lC_,List.length_nil] at h1
    obtain ⟨hp,hg⟩:=c_6 hdr (j:=0) (by simp)
    rw [ix_ (show p<s.b.length from hp),bd_some]
    simp only [Nat.add_zero] at hg
    rw [hg,iN_ (by simp;decide),a_W (show 0<r.kids.length by omega),bd_some]
    rw [gD_,gG_ (show 0<r.kids.length by omega),Option.getD_some] at V
    simp only [List.length_append,lC_,List.length_nil] at hlen ⊢
    rw [V,ia_ (by omega) (by omega),show (p:Int)+1=((p+(0+1):Nat):Int) by omega,a5 k' x y.b rest _ f5 f6 h1 hr,bd2_some,bd_some]
    simp only [un4,g_H]
    rw [← b_5 G H f3]
    congr 3
    omega
  ·rw [q9 h] at hdr hlen ⊢
   simp only [h,Int.reduceBEq,bF_,fF_,fT_]
   have hkid:N_ r v.number 0=r.kids.getD 0 0:=by unfold N_;simp [h]
   have a6:=c_7 hkind<|.inr h;obtain ⟨k',y,x,V,f2,f3,Y,f5,f6⟩:=hone _ hkid (by omega) (by omega)
   rw [Y] at hdr hlen ⊢
   have hh:=hdr
   rw [List.append_assoc] at hh
   have h1:=a_D hh
   rw [lC_,List.length_nil,List.append_assoc] at h1
   rw [a_W (show 0<r.kids.length by omega),bd_some]
   rw [gD_,gG_ (show 0<r.kids.length by omega),Option.getD_some] at V
   have hst:c_g ([41]++rest):=fun c w hc=>by
    have:=(List.cons.inj hc).1
    simp [← this]
   simp only [List.length_append,lC_,List.length_nil] at hlen ⊢
   rw [V,ia_ (by omega) (by omega),show (p:Int)+1=((p+(0+1):Nat):Int) by omega,a5 k' x y.b _ _ f5 f6 h1 hst,bd2_some,bd_some]
   simp only [un4,g_H]
   rw [ia_ (by omega) (by omega),← b_5 G H f3]
   congr 3
   omega
end
end Go.Vw
