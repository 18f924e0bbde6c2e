
import Derived.Test.YtpjplgfnhbjjjaaGreatDoorVb5
namespace Go.Vw
open Go.RowKit Dat
theorem r_K {v w:Val}(hc:v.number ≠ w.number∨v.bytes ≠ w.bytes∨v.items.length ≠ w.items.length∨v.items.length=0):(if (v.number != w.number) then some true else bd (some<|v.bytes==w.bytes) λI=>if (!I) then some true else if ((v.items.length:Int) != (w.items.length:Int)) then some true else some ((v.items.length:Int)==0))=some true:=by
 by_cases G:v.number=w.number
 .rw [show (v.number != w.number)=false by rw [bne_eq_false_iff_eq];exact G,iN_ (by simp),bd_some]
  by_cases H:v.bytes=w.bytes
  .rw [show (v.bytes==w.bytes)=true by simpa using H,show (!true)=false from rfl,iN_ (by simp)]
   by_cases J:v.items.length=w.items.length
   .rw [show ((v.items.length:Int) != (w.items.length:Int))=false by rw [bne_eq_false_iff_eq];omega,iN_ (by simp)]
    have:v.items.length=0:=by
     rcases hc with h | h | h | h
     .exact absurd G h
     .exact absurd H h
     .exact absurd J h
     .exact h
    rw [this];rfl
   .rw [show ((v.items.length:Int) != (w.items.length:Int))=true by rw [bne_iff_ne];omega,iP_ rfl]
  .rw [show (v.bytes==w.bytes)=false by simpa using H,show (!false)=true from rfl,iP_ rfl]
 .rw [show (v.number != w.number)=true by rw [bne_iff_ne];exact G,iP_ rfl]
theorem o_d (m:Nat){l:List Val}{j:Nat}(h:j<l.length):lsz m (l.take<|j+1)=lsz m (l.take j)+(1+vsz m l[j]):=by
 rw [d_F h]
 unfold lsz
 rw [List.map_append,List.sum_append,List.map_cons,List.map_nil,List.sum_cons,List.sum_nil]
 omega
theorem k_7 (m:Nat)(l:List Val)(j:Nat):lsz m (l.take j)<=lsz m l:=by
 unfold lsz;have h:=List.take_append_drop j l
 conv=>rhs;rw [← h]
 rw [List.map_append,List.sum_append]
 omega
section
variable {d:c_}
theorem o_e (hv:O_ d=true)(hd:SmD d):∀(m i:Nat)(v w:Val)(path:Str),VP d.rules m i v->VP d.rules m i w->vsz m w<=100000->m<=25->path.b.length+22 * m<=MX->∀n,m+2000<=n->∃l:List j_,(d_b n).spec_l24Diff d (i:Int) v w path=some l/\b_M l<=1+vsz m w/\f_t l/\(l=[] ↔ v=w)
 | 0,i,v,w,path,h,_,_,_,_,_,_=>h.elim
 | m+1,i,v,w,path,hV,hW,hz,hm,hpl,n,hn=>by
  have hMX:=MXv;have hLIM:=X_;obtain ⟨n,rfl⟩:∃k,n=k+1:=⟨n - 1,by omega⟩;have dV:=e_A hV;have dW:=e_A hW;obtain ⟨e,he,hee⟩:=l_V (m+1) v w dV
  show ∃l,d_z n (d_b n) d (i:Int) v w path=some l/\_
  unfold d_z
  rw [(he n (by omega)).1,bd_some]
  cases e with
  | true=>exact ⟨[],rfl,Nat.zero_le _,(by intro c hc;cases hc),λ_=>hee rfl,λ_=>rfl⟩
  | false =>
   have hne:v ≠ w:=by
    rintro rfl;have:=l_P (m+1) v dV n (by omega)
    rw [(he n (by omega)).1] at this
    cases this
   rw [iN_ (by simp),eqS]
   by_cases hc:v.number ≠ w.number∨v.bytes ≠ w.bytes∨v.items.length ≠ w.items.length∨v.items.length=0
   .rw [r_K hc,bd_some,iP_ rfl,d_M (m+1) w dW (by omega) n (by omega),bd_some,a_w,a_a (by simp;omega),bd_some]
    obtain ⟨I,J⟩:=d_E dW (show m+1<=25 by omega);refine ⟨_,rfl,?_,?_,λh=>(by cases h),λh=>absurd h hne⟩
    .rw [List.nil_append,i_u]
     show 1+vsz 25 w+0<=_
     omega
    .intro c hcm
     rw [List.nil_append] at hcm
     obtain rfl:=List.mem_singleton.1 hcm;exact ⟨I,by show path.b.length<=MX;omega⟩
   .have h1:v.number=w.number:=Classical.byContradiction λh=>hc<|.inl h
    have h2:v.bytes=w.bytes:=Classical.byContradiction λh=>hc<|.inr<|.inl h
    have h3:v.items.length=w.items.length:=Classical.byContradiction λh=>hc<|.inr<|.inr<|.inl h
    have h4:v.items.length ≠ 0:=λh=>hc<|.inr<|.inr<|.inr h
    obtain ⟨hi,hO,hK⟩:=hV;obtain ⟨_,_,a4⟩:=hW;have h40:=h_t hv hi hO;have hr:=a_O hv hi
    have hzl:lsz m w.items<=vsz (m+1) w:=by
     show _<=w.bytes.length+lsz m w.items
     omega
    rw [show (v.number != w.number)=false by rw [bne_eq_false_iff_eq];exact h1,iN_ (by simp),bd_some,show (v.bytes==w.bytes)=true by simpa using h2,show (!true)=false from rfl,iN_ (by simp),show ((v.items.length:Int) != (w.items.length:Int))=false by rw [bne_eq_false_iff_eq];omega,iN_ (by simp),show ((v.items.length:Int)==0)=false by rw [beq_eq_false_iff_ne];omega,bd_some,iN_ (by simp),ix_ hi,bd_some]
    rcases c_U (σ:=List j_) (ρ:=List j_) (body:=λG=>(λV=>bd (idx v.items ((G:Nat):Int)) λW=>bd (idx w.items ((G:Nat):Int)) λY=>bd (cat path (⟨[47]⟩:Str)) λa0=>bd (a_D d.rules[i] v.number ((G:Nat):Int)) λa1=>bd (c_M n d.rules[i] ((G:Nat):Int)) λa2=>bd (cat a0 a2) λa3=>bd ((d_b n).spec_l24Diff d a1 W Y a3) λL=>bd (app V L) λO=>some<|.next O))
     (λk l=>b_M l<=lsz m (w.items.take k)/\f_t l/\(l=[]->∀j (hj:j<v.items.length) (H:j<w.items.length),j<k->v.items[j]=w.items[j])) (λ_=>False) (n:=v.items.length)
     (by
      intro k l hk ⟨hl,hT,hE⟩
      left
      have hkw:k<w.items.length:=by omega
      obtain ⟨c,c1,c2,c3⟩:=hK k hk;obtain ⟨c',c1',_,c3'⟩:=a4 k hkw
      have hcc:c'=c:=by
       rw [← h1] at c1'
       omega
      subst hcc;have hsl:(D_ d.rules[i] k).b.length<=21:=i_G hr.kind k (by omega);have hzk:=d_H (m:=m)<|gE_ hkw;obtain ⟨q,e1,I,J,q3⟩:=o_e hv hd m c' v.items[k] w.items[k] ⟨path.b++[47]++(D_ d.rules[i] k).b⟩ c3 c3' (by omega) (by omega) (by simp only [List.length_append,lC_,List.length_nil];omega) n (by omega);have ht:=o_d m hkw;have hle:=k_7 m w.items<|k+1;have hll:=h_v l;have hlq:=h_v q
      rw [ix_ hk,bd_some,ix_ hkw,bd_some,a_4 (by simp only [lC_,List.length_nil];omega),bd_some,b_O<|b_d hr.kind,c1,bd_some,e_L (by omega) _ k (by omega),bd_some,a_4 (by simp only [List.length_append,lC_,List.length_nil];omega),bd_some,e1,bd_some,b_r (by omega),bd_some]
      refine ⟨_,rfl,by rw [l_n];omega,λc hc=>(List.mem_append.1 hc).elim (hT c) (J c),λhnil j hj H hjk=>?_⟩;obtain ⟨n1,n2⟩:=List.append_eq_nil_iff.1 hnil
      rcases Nat.lt_or_ge j k with h | h
      .exact hE n1 j hj H h
      .have:j=k:=by omega
       subst this
       exact q3.1 n2)
     v.items.length 0 ([]:List j_) (by omega) ⟨Nat.zero_le _,(by intro c hc;cases hc),λ_ j _ _ h=>absurd h<|Nat.not_lt_zero _⟩ with ⟨l,el,hl,hT,hE⟩ | ⟨_,_,hf⟩
    .rw [el,bd_some]
     have hle:=k_7 m w.items v.items.length;exact ⟨l,rfl,by omega,hT,λhnil=>absurd (l_U h1 h2<|List.ext_getElem h3 λj h h'=>hE hnil j h h' h) hne,λh=>absurd h hne⟩
    .exact hf.elim
theorem dv_ok (hd:SmD d){v w:Val}{n:Nat}(hn:3000<=n)(hw:dep 25 w)(hz:vsz 25 w<=100000):∃l,e_1 n d v w=some l/\b_M l<=1+vsz 25 w/\f_t l/\(b_P n d (b_e d) v=some true->b_P n d (b_e d) w=some true->(l=[] ↔ v=w)):=by
 have hMX:=MXv;unfold e_1
 rw [h_D hd,bd_some]
 obtain ⟨t,G,_,H⟩:=f_s hd (i:=b_e d) (v:=v) (n:=n) (by omega);obtain ⟨s,s1,_,s3⟩:=f_s hd (i:=b_e d) (v:=w) (n:=n) (by omega)
 rw [G,s1]
 have nil:b_M ([]:List j_)<=1+vsz 25 w/\f_t []:=⟨Nat.zero_le _,(by intro c hc;cases hc)⟩
 cases t
 .exact ⟨[],rfl,nil.1,nil.2,nofun⟩
 cases s
 .exact ⟨[],rfl,nil.1,nil.2,λ_=>nofun⟩
 obtain ⟨hv,k,hk,hkl,hV⟩:=H rfl;obtain ⟨_,k2,O,_,hW⟩:=s3 rfl;have:k2=k:=by omega
 subst this;have L:=(b_B hv).2;have hu:=d_D w (show k2+1<=25 by omega);obtain ⟨l,l1,V,I,J⟩:=o_e hv hd (k2+1) k2 v w ⟨[]⟩ hV hW (by omega) (by omega) (by simp only [List.length_nil];omega) n (by omega)
 rw [bd_some,nT_,iN_ (by simp),bd_some,bd_some,iN_ (by simp),hk]
 refine ⟨l,?_,by omega,I,λ_ _=>J⟩;refine (congrArg (λz=>bd z _) l1).trans ?_
 rw [bd_some]
end
end Go.Vw
