
import Derived.Test.YtbhbfaljeoeciaaGreatDoorVb1
namespace Go.Vw
open Go.RowKit Dat
theorem i_D {l t u:List UInt8}{c:UInt8}{p:Nat}(h:l.drop p=t++c::u):p+t.length+(u.length+1)=l.length:=by
 have h1:=congrArg List.length h
 rw [List.length_drop,List.length_append,lC_] at h1
 omega
def d_L (l:List Str):List UInt8:=(l.map (fun y=>44::y.b)).flatten
theorem j_V (x:Str)(l:List Str):d_L (x::l)=44::(x.b++d_L l):=by unfold d_L;simp
theorem g_w (x:Str)(l:List Str):a_q (x::l)=x.b++d_L l:=by
 unfold a_q d_L
 rw [List.map_cons,Lib.join_cons]
 unfold Lib.joinTail
 rw [List.map_map]
 rfl
def b_u (j:Nat)(l:List Str):List UInt8:=if j=0 then a_q l else d_L l
theorem i_E (j:Nat):b_u j []=[]:=by unfold b_u;split <;> rfl
theorem f_9 (j:Nat)(x:Str)(l:List Str):b_u j (x::l)=(if j=0 then [] else [44])++x.b++b_u (j+1) l:=by
 unfold b_u
 rw [iN_ (show ¬j+1=0 by omega)]
 split
 ·rw [g_w];rfl
 ·rw [j_V];rfl
theorem m_9 {q:Nat}:∃c u,Lib.itoa (q:Int)=c::u/\48<=byteI c/\byteI c<=57:=by
 have h:=g_z q
 rw [f_b]
 have hne:Lib.decDigits q ≠ []:=by
  rw [Lib.decDigits]
  split
  ·simp
  ·simp
 cases hd:Lib.decDigits q with
 | nil=>exact absurd hd hne
 | cons c u =>
  have:=h c (by rw [hd];exact mS_);exact ⟨c,u,rfl,this.1,this.2⟩
theorem m_a {c:UInt8}(h:48<=byteI c/\byteI c<=57):c ≠ 44/\c ≠ 93/\c ≠ 125/\c ≠ 62/\c ≠ 41/\c ≠ 45:=by
 refine ⟨?_,?_,?_,?_,?_,?_⟩ <;> (rintro rfl;revert h;decide)
theorem p_y {r:g_}{v:Val}{J:List UInt8}(h1:r.kind=1∨r.kind=7->0<=v.number):∃c u,a_P r v J=c::u/\c ≠ 44/\c ≠ 93/\c ≠ 125/\c ≠ 62/\c ≠ 41:=by
 unfold a_P
 split
 ·rename_i h
  obtain ⟨q,hq⟩:∃q:Nat,v.number=q:=⟨v.number.toNat,by have:=h1<|.inl h;omega⟩;obtain ⟨c,u,e,hc⟩:=m_9 (q:=q);have:=m_a hc
  rw [hq,e]
  exact ⟨c,u,rfl,this.1,this.2.1,this.2.2.1,this.2.2.2.1,this.2.2.2.2.1⟩
 split
 ·exact ⟨33,[],rfl,by decide,by decide,by decide,by decide,by decide⟩
 split
 ·exact ⟨91,_,rfl,by decide,by decide,by decide,by decide,by decide⟩
 split
 ·exact ⟨123,_,rfl,by decide,by decide,by decide,by decide,by decide⟩
 split
 ·rename_i h
  obtain ⟨q,hq⟩:∃q:Nat,v.number=q:=⟨v.number.toNat,by have:=h1<|.inr h;omega⟩;obtain ⟨c,u,e,hc⟩:=m_9 (q:=q);have:=m_a hc
  rw [hq,e]
  exact ⟨c,_,rfl,this.1,this.2.1,this.2.2.1,this.2.2.2.1,this.2.2.2.2.1⟩
 split
 ·split
  ·exact ⟨45,[],rfl,by decide,by decide,by decide,by decide,by decide⟩
  ·exact ⟨63,_,rfl,by decide,by decide,by decide,by decide,by decide⟩
 split
 ·exact ⟨40,_,rfl,by decide,by decide,by decide,by decide,by decide⟩
 ·exact ⟨120,_,rfl,by decide,by decide,by decide,by decide,by decide⟩
theorem p_z {rs:List g_}{r:g_}{v:Val}(h:Own rs r v):r.kind=1∨r.kind=7->0<=v.number:=by
 intro hk
 rcases h with ⟨h,a,_⟩ | ⟨h,a,_⟩ | ⟨h,a,_⟩ | ⟨h,a,_⟩ | ⟨h,a,_⟩ | ⟨h,a,_⟩ | ⟨h,a,_⟩ | ⟨h,a,_⟩ | ⟨h,a,_⟩ | ⟨h,a,_⟩ <;> omega
theorem g_x {d:c_}{m i:Nat}{v:Val}{t:List UInt8}(hV:VP d.rules m i v)(h:Txt d.rules m i v t):∃c u,t=c::u/\c ≠ 44/\c ≠ 93/\c ≠ 125/\c ≠ 62/\c ≠ 41:=by
 cases m with
 | zero=>exact h.elim
 | succ m =>
  obtain ⟨ts,_,_,rfl⟩:=h;obtain ⟨hi,hO,_⟩:=hV
  rw [W_ hi]
  exact p_y<|p_z hO
theorem p_A {s:Str}(h:b_4 s=true):∃c u,s.b=c::u/\c ≠ 125/\c ≠ 44/\c ≠ 93/\c ≠ 62:=by
 unfold b_4 at h
 simp only [aE_,dE_,Bool.not_eq_true',List.any_eq_false,List.mem_range] at h
 obtain ⟨h1,h2,_⟩:=h
 cases hs:s.b with
 | nil=>rw [hs] at h2;simp at h2
 | cons c u =>
  have:=h1 0 (by rw [hs];simp);unfold b_p at this
  refine ⟨c,u,rfl,?_,?_,?_,?_⟩ <;> (rintro rfl;apply this;simp [hs];try decide)
structure g_y (d:c_)(m:Nat)(r:g_)(v:Val)(ts:List Str):Prop where
 len:ts.length=v.items.length
 it:∀j (h:j<ts.length) (h':j<v.items.length),∃k:Nat,N_ r v.number j=(k:Int)/\VP d.rules m k v.items[j]/\Txt d.rules m k v.items[j] ts[j].b
theorem partT {d:c_}{m i:Nat}{v:Val}{t:List UInt8}(hV:VP d.rules (m+1) i v)(h:Txt d.rules (m+1) i v t):∃(hi:i<d.rules.length)(ts:List Str),Own d.rules d.rules[i] v/\g_y d m d.rules[i] v ts/\t=a_P d.rules[i] v (a_q<|a_6 d.rules[i] ts):=by
 obtain ⟨ts,h1,h2,h3⟩:=h;obtain ⟨hi,hO,hK⟩:=hV
 rw [W_ hi] at h2 h3
 refine ⟨hi,ts,hO,⟨h1,fun j a b=>?_⟩,h3⟩;obtain ⟨k,G,_,H⟩:=hK j b;obtain ⟨k',J,I⟩:=h2 j a b;have:k'=k:=by omega
 subst this;exact ⟨k',G,H,I⟩
section
variable {d:c_}{s:Str}
def j_W (d:c_)(s:Str)(n m:Nat):Prop:=∀(i:Nat)(v:Val)(t rest:List UInt8)(p:Nat),VP d.rules m i v->Txt d.rules m i v t->s.b.drop p=t++rest->c_g rest->(b_Z n).spec_l10Read d (i:Int) s (p:Int)=some (v,((p+t.length:Nat):Int))
theorem m_b {l:List Str}{j:Nat}{x:UInt8}{u:List UInt8}(hx:x=93∨x=125∨x=62):c_g (b_u (j+1) l++x::u):=by
 intro c w h
 cases l with
 | nil =>
  rw [i_E] at h
  obtain rfl:=(List.cons.inj h).1
  rcases hx with h | h | h <;> simp [h]
 | cons y l =>
  rw [f_9,iN_ (by omega)] at h
  have:=(List.cons.inj h).1;exact .inl this.symm
theorem m_c (hs:s.b.length<=1000000000){n m:Nat}(hR:j_W d s n m){r:g_}{v:Val}{ts:List Str}(hT:g_y d m r v ts)(hk:d_2 r)(V:r.kind=6->r.names.length=v.items.length/\∀x∈r.names,b_4 x=true)(ab:v.items.length<=40){x:UInt8}(hx:x=93∨x=125∨x=62){u:List UInt8}:∀(l:List Str)(j p:Nat)(f:Nat),(a_6 r ts).drop j=l->j<=ts.length->s.b.drop p=b_u j l++x::u->l.length<f ->
  U_ (σ:=Int×(List Val)) (ρ:=(List Val)×Int) (un2 fun I G=>bd (α:=Bool) (bd (d_k s I x) fun a3=>if (!a3)=true then some (decide<|I<(s.b.length:Int)) else some false) (fun a4=>if a4=true then bd (α:=Sum Int<|Out (Int×(List Val))<|(List Val)×Int) (if (decide<|0<(G.length:Int))=true then bd (d_k s I (44:UInt8)) fun L=>if (!L)=true then some (.inr<|.ret (G,m_ (s.b.length:Int) 1)) else some (.inl<|m_ I 1) else some (.inl I)) (el (fun a0=>bd (b_d r v.number (G.length:Int)) fun a1=>bd (α:=Bool) (if (decide<|a1<0)=true then some true else some (decide<|40<(G.length:Int))) (fun a5=>if a5=true then some (.ret (G,m_ (s.b.length:Int) 1)) else bd (α:=Int) (if (r.kind==6)=true then bd (idx r.names (G.length:Int)) fun O=>some (m_ (m_ a0 (O.b.length:Int)) 1) else some a0) (fun a6=>bd2 ((b_Z n).spec_l10Read d a1 s a6) fun a7 a8=>bd (psh G a7) fun a9=>some<|.next (a8,a9)))) some) else some (.brk (I,G)))) f ((p:Int),v.items.take j)=some (.inl (((p+(b_u j l).length:Nat):Int),v.items))
 | [],j,p,f,hl,hj,hd,hf=>by
  obtain ⟨f,rfl⟩:∃g,f=g+1:=⟨f - 1,by omega⟩
  have:ts.length<=j:=by
   have:=congrArg List.length hl
   rw [List.length_drop,b_c,List.length_nil] at this
   omega
  rw [i_E] at hd
  unfold U_
  simp only [un2]
  rw [j_T hd,bd_some,bQ_,iN_ (by simp),bd_some,iN_ (by simp),i_E,List.take_of_length_le (by have:=hT.len;omega)]
  rfl
 | y::l,j,p,f,hl,hj,hd,hf=>by
  have hLIM:=a_p;obtain ⟨f,rfl⟩:∃g,f=g+1:=⟨f - 1,by rw [lC_] at hf;omega⟩
  have hjt:j<ts.length:=by
   refine Nat.lt_of_not_le fun hc=>?_
   rw [List.drop_of_length_le (by rw [b_c];exact hc)] at hl;cases hl
  have hjv:j<v.items.length:=by have:=hT.len;omega
  have hy:y=b_J r ts j/\(a_6 r ts).drop (j+1)=l:=by
   rw [dC_ (by rw [b_c];exact hjt),e_o] at hl
   have:=List.cons.inj hl;exact ⟨this.1.symm,this.2⟩
  obtain ⟨k,e1,e2,e3⟩:=hT.it j hjt hjv;have hlen:=i_D hd;have hg:ts.getD j ⟨[]⟩=ts[j]:=W_ hjt;obtain ⟨c0,w0,a2,ad⟩:=g_x e2 e3
  -- the sign that comes next ends nothing
  have hnext:∃c w,b_u j (y::l)++x::u=c::w/\(c==x)=false/\(j ≠ 0->c=44):=by
   rw [f_9]
   by_cases H:j=0
   ·rw [iP_ H,hy.1]
    unfold b_J
    rw [hg]
    split
    ·rename_i h6
     obtain ⟨ae,W⟩:=V h6;have hjn:j<r.names.length:=by omega
     obtain ⟨c,w,ec,hc⟩:=p_A<|W _<|gE_ hjn
     rw [W_ hjn,ec]
     refine ⟨c,_,rfl,?_,fun h=>absurd H h⟩
     rcases hx with rfl | rfl | rfl <;> simp [hc]
    ·rw [a2]
     refine ⟨c0,_,rfl,?_,fun h=>absurd H h⟩
     rcases hx with rfl | rfl | rfl <;> simp [ad]
   ·rw [iN_ H]
    refine ⟨44,_,rfl,?_,fun _=>rfl⟩
    rcases hx with rfl | rfl | rfl <;> decide
  obtain ⟨c,w,ec,hcx,aa⟩:=hnext;have hd':=hd
  rw [ec] at hd'
  have hlt:p<s.b.length:=by
   have:=congrArg List.length hd'
   rw [List.length_drop,lC_] at this
   omega
  have hjl:(v.items.take j).length=j:=by rw [List.length_take];omega
  -- the part
  obtain ⟨q,hq⟩:∃q,q=p+(if j=0 then ([]:List UInt8) else [44]).length:=⟨_,rfl⟩
  have hdq:s.b.drop q=(b_J r ts j).b++(b_u (j+1) l++x::u):=by
   rw [f_9,hy.1,List.append_assoc,List.append_assoc] at hd
   rw [hq]
   exact a_D hd
  have hsep:∀g:Sum Int (Out (Int×(List Val))<|(List Val)×Int)->Option (Out (Int×(List Val))<|(List Val)×Int),bd (if (decide<|0<((v.items.take j).length:Int))=true then bd (d_k s (p:Int) (44:UInt8)) fun L=>if (!L)=true then some (.inr<|.ret (v.items.take j,m_ (s.b.length:Int) 1)) else some (.inl<|m_ (p:Int) 1) else some (.inl (p:Int))) g=g (.inl (q:Int)):=by
   intro g
   rw [hjl]
   by_cases H:j=0
   ·subst H
    rw [dF_ (by omega),iN_ (by simp),bd_some,hq]
    rfl
   ·rw [dT_ (by omega),iP_ rfl,j_T hd',aa H,bd_some,bQ_,iN_ (by simp),bd_some,ia_ (by omega) (by omega),hq,iN_ H]
    rfl
  obtain ⟨J,af⟩:∃J:Nat,(if (r.kind==6)=true then bd (idx r.names ((v.items.take j).length:Int)) fun O=>some (m_ (m_ (q:Int) (O.b.length:Int)) 1) else some (q:Int))=some (J:Int)/\s.b.drop J=ts[j].b++(b_u (j+1) l++x::u)/\J+ts[j].b.length=p+(b_u j (y::l)).length - (b_u (j+1) l).length:=by
   rw [f_9,hy.1]
   unfold b_J at hdq ⊢
   rw [hg] at hdq ⊢
   by_cases h6:r.kind=6
   ·obtain ⟨ae,W⟩:=V h6;have hjn:j<r.names.length:=by omega
    have hnl:=k_g<|W _<|gE_ hjn
    rw [iP_ h6,W_ hjn] at hdq
    have hlq:=g_v hdq (by rw [hq];split <;> simp <;> omega)
    simp only [List.length_append,lC_,List.length_nil] at hlq
    rw [show (r.kind==6)=true by simpa using h6,iP_ rfl,iP_ h6,hjl,ix_ hjn,bd_some,W_ hjn,ia_ (x:=(q:Int)) (by omega) (by omega),ia_ (by omega) (by omega)]
    refine ⟨q+(r.names[j].b.length+1),by congr 1,?_,?_⟩
    ·rw [List.append_assoc] at hdq
     have:=a_D hdq
     rw [List.length_append] at this
     exact this
    ·simp only [List.length_append,lC_,List.length_nil];omega
   ·rw [iN_ h6] at hdq
    rw [show (r.kind==6)=false by simpa using h6,iN_ (by simp),iN_ h6]
    refine ⟨q,rfl,hdq,?_⟩
    simp only [List.length_append];omega
  obtain ⟨g1,Y,g3⟩:=af;have ah:=g_u Y (by rw [a2];simp);have hrd:=hR k v.items[j] ts[j].b _ J e2 e3 Y (m_b hx);have hrest:=a_D Y;have:=m_c hs hR hT hk V ab hx l (j+1) (J+ts[j].b.length) f hy.2 (by omega) hrest (by rw [lC_] at hf;omega);unfold U_
  simp only [un2]
  rw [j_T hd',bd_some,hcx]
  simp only [Bool.not_false,fT_,bd_some]
  rw [dT_ (show (p:Int)<(s.b.length:Int) by omega),iP_ rfl,hsep]
  simp only [el_inl]
  rw [hjl,c_L hk,bd_some,e1,dF_ (show ¬(k:Int)<0 by omega),iN_ (by simp),dF_ (show ¬(40:Int)<(j:Int) by omega),bd_some,iN_ (by simp)]
  rw [hjl] at g1
  rw [g1,bd_some,hrd,bd2_some,a_X (by omega),bd_some,← d_r hjv]
  simp only
  rw [this]
  congr 4
  rw [f_9] at g3 ⊢
  simp only [List.length_append] at g3 ⊢
  omega
end
end Go.Vw
