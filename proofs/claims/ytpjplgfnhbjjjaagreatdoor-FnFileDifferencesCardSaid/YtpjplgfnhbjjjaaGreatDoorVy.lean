
import Derived.Test.YtpjplgfnhbjjjaaGreatDoorVx
namespace Go.Vw
open Go.RowKit Dat
section
variable {d:c_}{b1 b2:Bt}
inductive e_M (d:c_)(b1 b2:Bt):Nat->Nat->Nat->Str->List j_->Prop
 | same {i p q:Nat} {path:Str} (he:∀n,1000<=n->d_v n (rdW d.rules b1 i p).1 (rdW d.rules b2 i q).1=some true/\g_n n (rdW d.rules b1 i p).1 (rdW d.rules b2 i q).1=some true):e_M d b1 b2 i p q path []
 | leaf {i p q:Nat} {path:Str} (he:∀n,1000<=n->d_v n (rdW d.rules b1 i p).1 (rdW d.rules b2 i q).1=some false/\g_n n (rdW d.rules b1 i p).1 (rdW d.rules b2 i q).1=some false)
   (hc:(rdW d.rules b1 i p).1.number ≠ (rdW d.rules b2 i q).1.number∨(rdW d.rules b1 i p).1.bytes ≠ (rdW d.rules b2 i q).1.bytes∨(rdW d.rules b1 i p).1.items.length ≠ (rdW d.rules b2 i q).1.items.length∨(rdW d.rules b1 i p).1.items.length=0)
   (hcp:∀n,1000<=n->b_Y n (rdW d.rules b2 i q).1=some (rdW d.rules b2 i q).1/\b_H n (rdW d.rules b2 i q).1=some (rdW d.rules b2 i q).1):e_M d b1 b2 i p q path [⟨path,(rdW d.rules b2 i q).1⟩]
 | node {i p q:Nat} {path:Str} (he:∀n,1000<=n->d_v n (rdW d.rules b1 i p).1 (rdW d.rules b2 i q).1=some false/\g_n n (rdW d.rules b1 i p).1 (rdW d.rules b2 i q).1=some false)
   (hi:i<d.rules.length) (h1:(rdW d.rules b1 i p).1.number=(rdW d.rules b2 i q).1.number) (h2:(rdW d.rules b1 i p).1.bytes=(rdW d.rules b2 i q).1.bytes) (h3:(rdW d.rules b1 i p).1.items.length=(rdW d.rules b2 i q).1.items.length) (h4:(rdW d.rules b1 i p).1.items.length ≠ 0)
   (h40:(rdW d.rules b1 i p).1.items.length<=40) (hpl:path.b.length+22 * i<=MX) (kid ps qs:Nat->Nat) (ls:Nat->List j_)
   (hk:∀m,m<(rdW d.rules b1 i p).1.items.length->J_ d.rules[i] (rdW d.rules b1 i p).1.number m=(kid m:Int)/\kid m<i)
   (hA:∀m (hm:m<(rdW d.rules b1 i p).1.items.length),(rdW d.rules b1 i p).1.items[m]=(rdW d.rules b1 (kid m)<|ps m).1)
   (hB:∀m (hm:m<(rdW d.rules b2 i q).1.items.length),(rdW d.rules b2 i q).1.items[m]=(rdW d.rules b2 (kid m)<|qs m).1)
   (hrec:∀m,m<(rdW d.rules b1 i p).1.items.length->e_M d b1 b2 (kid m) (ps m) (qs m) ⟨path.b++[47]++(D_ d.rules[i] m).b⟩ (ls m)) :
   e_M d b1 b2 i p q path ((List.range (rdW d.rules b1 i p).1.items.length).map ls).flatten
theorem p_4 {α:Type}(ls:Nat->List α)(n k:Nat)(hk:k<=n):(((List.range k).map ls).flatten).length<=(((List.range n).map ls).flatten).length:=by
 obtain ⟨j,rfl⟩:∃j,n=k+j:=⟨n - k,by omega⟩
 rw [List.range_add,List.map_append,List.flatten_append,List.length_append];omega
theorem i_H {α:Type}(ls:Nat->List α)(k:Nat):((List.range<|k+1).map ls).flatten=((List.range k).map ls).flatten++ls k:=by
 rw [List.range_succ,List.map_append,List.flatten_append];simp
theorem s_X (hv:O_ d=true)(hd:SmD d){i p q:Nat}{path:Str}{l:List j_}(D:e_M d b1 b2 i p q path l):l.length<=1000000->∀n,i+2000<=n->(d_b n).spec_l24Diff d (i:Int) (rdW d.rules b1 i p).1 (rdW d.rules b2 i q).1 path=some l:=by
 have hMX:=MXv;have hLIM:=X_
 induction D with
 | @same i p q path he =>
  intro hl n hn;obtain ⟨n,rfl⟩:∃k,n=k+1:=⟨n - 1,by omega⟩
  show d_z n (d_b n) d (i:Int) _ _ path=_
  unfold d_z
  rw [(he n (by omega)).1,bd_some,iP_ rfl]
 | @leaf i p q path he hc hcp =>
  intro hl n hn;obtain ⟨n,rfl⟩:∃k,n=k+1:=⟨n - 1,by omega⟩
  show d_z n (d_b n) d (i:Int) _ _ path=_
  unfold d_z
  rw [(he n (by omega)).1,bd_some,iN_ (by simp),eqS]
  generalize (rdW d.rules b1 i p).1=v at hc ⊢
  have hcp':=(hcp n (by omega)).1;generalize (rdW d.rules b2 i q).1=w at hc hcp' ⊢
  have hcond:(if (v.number != w.number) then some true else bd (some<|v.bytes==w.bytes) λI=>if (!I) then some true else if ((v.items.length:Int) != (w.items.length:Int)) then some true else some ((v.items.length:Int)==0))=some true:=by
   by_cases G:v.number=w.number
   .rw [show (v.number != w.number)=false by rw [bne_eq_false_iff_eq];exact G,iN_ (by simp),bd_some]
    by_cases H:v.bytes=w.bytes
    .rw [show (v.bytes==w.bytes)=true by simpa using H,show (!true)=false from rfl,iN_ (by simp)]
     by_cases L:v.items.length=w.items.length
     .rw [show ((v.items.length:Int) != (w.items.length:Int))=false by rw [bne_eq_false_iff_eq];omega,iN_ (by simp)]
      have:v.items.length=0:=by
       rcases hc with h | h | h | h
       .exact absurd G h
       .exact absurd H h
       .exact absurd L h
       .exact h
      rw [this];rfl
     .rw [show ((v.items.length:Int) != (w.items.length:Int))=true by rw [bne_iff_ne];omega,iP_ rfl]
    .rw [show (v.bytes==w.bytes)=false by simpa using H,show (!false)=true from rfl,iP_ rfl]
   .rw [show (v.number != w.number)=true by rw [bne_iff_ne];exact G,iP_ rfl]
  rw [hcond,bd_some,iP_ rfl,hcp',bd_some,a_w,a_a (by simp;omega),bd_some]
  rfl
 | @node i p q path he hi h1 h2 h3 h4 h40 hpl kid ps qs ls hk hA hB hrec ih =>
  intro hl n hn;obtain ⟨n,rfl⟩:∃k,n=k+1:=⟨n - 1,by omega⟩;have hr:=a_O hv hi
  show d_z n (d_b n) d (i:Int) _ _ path=_
  unfold d_z
  rw [(he n (by omega)).1,bd_some,iN_ (by simp),eqS]
  generalize hvv:(rdW d.rules b1 i p).1=v at h1 h2 h3 h4 h40 hk hA hrec ih hl ⊢
  generalize hww:(rdW d.rules b2 i q).1=w at h1 h2 h3 hB ⊢
  rw [show (v.number != w.number)=false by rw [bne_eq_false_iff_eq];exact h1,iN_ (by simp),bd_some,show (v.bytes==w.bytes)=true by simpa using h2,show (!true)=false from rfl,iN_ (by simp),show ((v.items.length:Int) != (w.items.length:Int))=false by rw [bne_eq_false_iff_eq];omega,iN_ (by simp),show ((v.items.length:Int)==0)=false by rw [beq_eq_false_iff_ne];omega,bd_some,iN_ (by simp),ix_ hi,bd_some]
  refine (congrArg (λz=>bd z _)<|c_h (λk=>((List.range k).map ls).flatten) (n:=v.items.length) rfl<|λm hm=>?_).trans ?_
  .have hsl:(D_ d.rules[i] m).b.length<=21:=i_G hr.kind m (by omega);have hflat:=p_4 ls v.items.length (m+1) (by omega)
   rw [i_H,List.length_append] at hflat
   have J:=ih m hm (by omega) n (by have:=(hk m hm).2;omega)
   rw [ix_ hm,bd_some,ix_ (show m<w.items.length by omega),bd_some,a_4 (by simp only [lC_,List.length_nil];omega),bd_some,b_O<|b_d hr.kind,(hk m hm).1,bd_some,e_L (by omega) _ m (by omega),bd_some,a_4 (by simp only [List.length_append,lC_,List.length_nil];omega),bd_some,hA m hm,hB m (by omega),J,bd_some,b_r (by omega),bd_some,i_H]
  .rw [bd_some,el_inl]
end
end Go.Vw
