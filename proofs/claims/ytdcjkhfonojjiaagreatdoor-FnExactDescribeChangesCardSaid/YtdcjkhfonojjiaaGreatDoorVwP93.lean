
import Derived.Test.YtdcjkhfonojjiaaGreatDoorVwP92
namespace Go.Vw
open Go.RowKit Dat
section
variable {d:d_}{b1 b2:List UInt8}
inductive d_i (d:d_)(b1 b2:List UInt8):Nat->Nat->Nat->Str->List A_->Prop
 | same {i p q:Nat} {path:Str} (he:∀n,1000<=n->e_S n (rdW d.rules b1 i p).1 (rdW d.rules b2 i q).1=some true/\f_3 n (rdW d.rules b1 i p).1 (rdW d.rules b2 i q).1=some true):d_i d b1 b2 i p q path []
 | leaf {i p q:Nat} {path:Str} (he:∀n,1000<=n->e_S n (rdW d.rules b1 i p).1 (rdW d.rules b2 i q).1=some false/\f_3 n (rdW d.rules b1 i p).1 (rdW d.rules b2 i q).1=some false)
   (hc:(rdW d.rules b1 i p).1.number ≠ (rdW d.rules b2 i q).1.number∨(rdW d.rules b1 i p).1.bytes ≠ (rdW d.rules b2 i q).1.bytes∨(rdW d.rules b1 i p).1.items.length ≠ (rdW d.rules b2 i q).1.items.length∨(rdW d.rules b1 i p).1.items.length=0)
   (hcp:∀n,1000<=n->h_s n (rdW d.rules b2 i q).1=some (rdW d.rules b2 i q).1/\h_J n (rdW d.rules b2 i q).1=some (rdW d.rules b2 i q).1):d_i d b1 b2 i p q path [⟨path,(rdW d.rules b2 i q).1⟩]
 | node {i p q:Nat} {path:Str} (he:∀n,1000<=n->e_S n (rdW d.rules b1 i p).1 (rdW d.rules b2 i q).1=some false/\f_3 n (rdW d.rules b1 i p).1 (rdW d.rules b2 i q).1=some false)
   (hi:i<d.rules.length) (h1:(rdW d.rules b1 i p).1.number=(rdW d.rules b2 i q).1.number) (h2:(rdW d.rules b1 i p).1.bytes=(rdW d.rules b2 i q).1.bytes) (h3:(rdW d.rules b1 i p).1.items.length=(rdW d.rules b2 i q).1.items.length) (h4:(rdW d.rules b1 i p).1.items.length ≠ 0)
   (h40:(rdW d.rules b1 i p).1.items.length<=40) (hpl:path.b.length+22 * i<=MX) (kid ps qs:Nat->Nat) (ls:Nat->List A_)
   (hk:∀m,m<(rdW d.rules b1 i p).1.items.length->a_i d.rules[i] (rdW d.rules b1 i p).1.number m=(kid m:Int)/\kid m<i)
   (hA:∀m (hm:m<(rdW d.rules b1 i p).1.items.length),(rdW d.rules b1 i p).1.items[m]=(rdW d.rules b1 (kid m)<|ps m).1)
   (hB:∀m (hm:m<(rdW d.rules b2 i q).1.items.length),(rdW d.rules b2 i q).1.items[m]=(rdW d.rules b2 (kid m)<|qs m).1)
   (hrec:∀m,m<(rdW d.rules b1 i p).1.items.length->d_i d b1 b2 (kid m) (ps m) (qs m) ⟨path.b++[47]++(T_ d.rules[i] m).b⟩ (ls m)) :
   d_i d b1 b2 i p q path ((List.range (rdW d.rules b1 i p).1.items.length).map ls).flatten
theorem m_D {α:Type}(ls:Nat->List α)(n k:Nat)(hk:k<=n):(((List.range k).map ls).flatten).length<=(((List.range n).map ls).flatten).length:=by
 obtain ⟨j,rfl⟩:∃j,n=k+j:=⟨n - k,by omega⟩
 rw [List.range_add,List.map_append,List.flatten_append,List.length_append];omega
theorem g_f {α:Type}(ls:Nat->List α)(k:Nat):((List.range<|k+1).map ls).flatten=((List.range k).map ls).flatten++ls k:=by
 rw [List.range_succ,List.map_append,List.flatten_append];simp
theorem q_z (hv:a_0 d=true)(hd:SmD d){i p q:Nat}{path:Str}{l:List A_}(D:d_i d b1 b2 i p q path l):l.length<=1000000->∀n,i+2000<=n->(c_X n).spec_l24Diff d (i:Int) (rdW d.rules b1 i p).1 (rdW d.rules b2 i q).1 path=some l:=by
 have hMX:=MXv;have hLIM:=a_D
 induction D with
 | @same i p q path he =>
  intro hl n hn;obtain ⟨n,rfl⟩:∃k,n=k+1:=⟨n - 1,by omega⟩
  show c_W n (c_X n) d (i:Int) _ _ path=_
  unfold c_W
  rw [(he n (by omega)).1,bd_some,iP_ rfl]
 | @leaf i p q path he hc hcp =>
  intro hl n hn;obtain ⟨n,rfl⟩:∃k,n=k+1:=⟨n - 1,by omega⟩
  show c_W n (c_X n) d (i:Int) _ _ path=_
  unfold c_W
  rw [(he n (by omega)).1,bd_some,iN_ (by simp),eqS]
  generalize (rdW d.rules b1 i p).1=v at hc ⊢
  have hcp':=(hcp n (by omega)).1;generalize (rdW d.rules b2 i q).1=w at hc hcp' ⊢
  have hcond:(if (v.number != w.number)=true then some true else bd (some<|v.bytes==w.bytes) fun I=>if (!I)=true then some true else if ((v.items.length:Int) != (w.items.length:Int))=true then some true else some ((v.items.length:Int)==0))=some true:=by
   by_cases G:v.number=w.number
   ·rw [show (v.number != w.number)=false by rw [bne_eq_false_iff_eq];exact G,iN_ (by simp),bd_some]
    by_cases H:v.bytes=w.bytes
    ·rw [show (v.bytes==w.bytes)=true by simpa using H,show (!true)=false from rfl,iN_ (by simp)]
     by_cases L:v.items.length=w.items.length
     ·rw [show ((v.items.length:Int) != (w.items.length:Int))=false by rw [bne_eq_false_iff_eq];omega,iN_ (by simp)]
      have:v.items.length=0:=by
       rcases hc with h | h | h | h
       ·exact absurd G h
       ·exact absurd H h
       ·exact absurd L h
       ·exact h
      rw [this];rfl
     ·rw [show ((v.items.length:Int) != (w.items.length:Int))=true by rw [bne_iff_ne];omega,iP_ rfl]
    ·rw [show (v.bytes==w.bytes)=false by simpa using H,show (!false)=true from rfl,iP_ rfl]
   ·rw [show (v.number != w.number)=true by rw [bne_iff_ne];exact G,iP_ rfl]
  rw [hcond,bd_some,iP_ rfl,hcp',bd_some,d_e,b_s (by simp;omega),bd_some]
  rfl
 | @node i p q path he hi h1 h2 h3 h4 h40 hpl kid ps qs ls hk hA hB hrec ih =>
  intro hl n hn;obtain ⟨n,rfl⟩:∃k,n=k+1:=⟨n - 1,by omega⟩;have hr:=b_8 hv hi
  show c_W n (c_X n) d (i:Int) _ _ path=_
  unfold c_W
  rw [(he n (by omega)).1,bd_some,iN_ (by simp),eqS]
  generalize hvv:(rdW d.rules b1 i p).1=v at h1 h2 h3 h4 h40 hk hA hrec ih hl ⊢
  generalize hww:(rdW d.rules b2 i q).1=w at h1 h2 h3 hB ⊢
  rw [show (v.number != w.number)=false by rw [bne_eq_false_iff_eq];exact h1,iN_ (by simp),bd_some,show (v.bytes==w.bytes)=true by simpa using h2,show (!true)=false from rfl,iN_ (by simp),show ((v.items.length:Int) != (w.items.length:Int))=false by rw [bne_eq_false_iff_eq];omega,iN_ (by simp),show ((v.items.length:Int)==0)=false by rw [beq_eq_false_iff_ne];omega,bd_some,iN_ (by simp),ix_ hi,bd_some]
  refine (congrArg (fun z=>bd z _)<|c_7 (fun k=>((List.range k).map ls).flatten) (n:=v.items.length) rfl<|fun m hm=>?_).trans ?_
  ·have hsl:(T_ d.rules[i] m).b.length<=21:=j_X hr.kind m (by omega);have hflat:=m_D ls v.items.length (m+1) (by omega)
   rw [g_f,List.length_append] at hflat
   have J:=ih m hm (by omega) n (by have:=(hk m hm).2;omega)
   rw [ix_ hm,bd_some,ix_ (show m<w.items.length by omega),bd_some,W_ (by simp only [lC_,List.length_nil];omega),bd_some,c_w<|c_8 hr.kind,(hk m hm).1,bd_some,g_e (by omega) _ m (by omega),bd_some,W_ (by simp only [List.length_append,lC_,List.length_nil];omega),bd_some,hA m hm,hB m (by omega),J,bd_some,d_T (by omega),bd_some,g_f]
  ·rw [bd_some,el_inl]
end
end Go.Vw
