
import Derived.Test.YtbhbfaljeoeciaaGreatDoorVl
import Derived.Test.YtbhbfaljeoeciaaGreatDoorVw
namespace Go.Vw
open Go.RowKit Dat
theorem q_v {β:Type}[Inhabited β]{P:Nat->β->Prop}(n:Nat)(h:∀m,m<n->∃x,P m x):∃f:Nat->β,∀m,m<n->P m (f m):=by
 refine ⟨fun m=>if h':m<n then Classical.choose (h m h') else default,fun m hm=>?_⟩
 simp only [dif_pos hm]
 exact Classical.choose_spec<|h m hm
theorem eqS (x y:List UInt8):d_e x y=some (x==y):=by
 unfold d_e
 by_cases h:x.length=y.length
 ·rw [show ((x.length:Int) != (y.length:Int))=false by rw [bne_eq_false_iff_eq];omega,iN_ (by simp)]
  by_cases hxy:x=y
  ·subst hxy
   rw [d_8 (l:=x) (p:=fun _=>false) (r:=false) (fun k hk=>by rw [ix_ hk,bd_some,bd_some];simp)]
   simp
  ·rw [show (x==y)=false by simpa using hxy]
   obtain ⟨G,H,hmin⟩:∃k,(∃h1:k<x.length,∃h2:k<y.length,x[k] ≠ y[k])/\∀j,j<k->¬(∃h1:j<x.length,∃h2:j<y.length,x[j] ≠ y[j]):=by
    have:∃k,(∃h1:k<x.length,∃h2:k<y.length,x[k] ≠ y[k]):=by
     refine Classical.byContradiction fun hn=>hxy<|List.ext_getElem h fun i h1 h2=>Classical.byContradiction fun hne=>hn ⟨i,h1,h2,hne⟩
    obtain ⟨k,hk⟩:=this
    induction k using Nat.strongRecOn with
    | _ k ih =>
     by_cases hq:∃j,j<k/\(∃h1:j<x.length,∃h2:j<y.length,x[j] ≠ y[j])
     ·obtain ⟨j,hj,hp⟩:=hq;exact ih j hj hp
     ·exact ⟨k,hk,fun j hj hp=>hq ⟨j,hj,hp⟩⟩
   obtain ⟨h1,h2,hne⟩:=H;refine (congrArg (fun z=>bd z _)<|k_k (st:=fun _=>()) (r:=false) h1 (fun j hj=>?_) ?_).trans ?_
   ·have hx:j<x.length:=by omega
    have hy:j<y.length:=by omega
    rw [ix_ hx,ix_ hy,bd_some,bd_some]
    have:x[j]=y[j]:=Classical.byContradiction fun hq=>hmin j hj ⟨hx,hy,hq⟩
    rw [this];simp
   ·rw [ix_ h1,ix_ h2,bd_some,bd_some]
    have:¬byteI x[G]=byteI y[G]:=fun hq=>hne (by
     unfold byteI at hq
     exact UInt8.toNat_inj.1 (by omega))
    rw [show (byteI x[G] != byteI y[G])=true by simpa using this];rfl
   ·rw [bd_some,el_inr]
 ·rw [show ((x.length:Int) != (y.length:Int))=true by rw [bne_iff_ne];omega,iP_ rfl]
  rw [show (x==y)=false by simpa using fun hq:x=y=>h (by rw [hq])]
theorem q_w:∀(m:Nat)(v w:Val),dep m v->∃e:Bool,∀n,m+1<=n->f_Z n v w=some e/\g_i n v w=some e:=by
 intro m
 induction m with
 | zero =>
  intro v w h;have G:v.items=[]:=h;refine ⟨!(v.number != w.number) && ((v.bytes==w.bytes) && !(((v.items.length:Nat):Int) != ((w.items.length:Nat):Int))),fun n hn=>?_⟩;obtain ⟨n,rfl⟩:∃k,n=k+1:=⟨n - 1,by omega⟩
  constructor
  ·show c_d n (c_m n) v w=_
   unfold c_d
   rw [eqS,G]
   cases (v.number != w.number) <;> cases (v.bytes==w.bytes) <;> cases ((([]:List Val).length:Int) != (w.items.length:Int)) <;> rfl
  ·show c_f n (c_q n) v w=_
   unfold c_f
   rw [g_D,G]
   cases (v.number != w.number) <;> cases (v.bytes==w.bytes) <;> cases ((([]:List Val).length:Int) != (w.items.length:Int)) <;> rfl
 | succ m ih =>
  intro v w h
  by_cases hlen:v.items.length=w.items.length
  ·have H:∀k,k<v.items.length->∃e:Bool,∀n,m+1<=n->∀(h1:k<v.items.length)(h2:k<w.items.length),f_Z n v.items[k] w.items[k]=some e/\g_i n v.items[k] w.items[k]=some e:=fun k hk=>by
    obtain ⟨e,he⟩:=ih v.items[k] (w.items[k]'(by omega)) (h _<|gE_ hk);exact ⟨e,fun n hn _ _=>he n hn⟩
   obtain ⟨f,hf⟩:=q_v v.items.length H;refine ⟨!(v.number != w.number) && ((v.bytes==w.bytes) && (List.range v.items.length).all f),fun n hn=>?_⟩;obtain ⟨n,rfl⟩:∃k,n=k+1:=⟨n - 1,by omega⟩;have hall:∀{bb:Bool},bb = !((List.range v.items.length).any fun k=>!f k)->bb=(List.range v.items.length).all f:=fun h=>by rw [h,List.all_eq_not_any_not]
   constructor
   ·show c_d n (c_m n) v w=_
    unfold c_d
    rw [eqS]
    cases (v.number != w.number) with
    | true=>rfl
    | false =>
     cases (v.bytes==w.bytes) with
     | false=>rfl
     | true =>
      rw [show ((v.items.length:Int) != (w.items.length:Int))=false by rw [bne_eq_false_iff_eq];omega]
      rw [iN_ (by simp),bd_some,show (!true)=false from rfl,iN_ (by simp),bd_some,iN_ (by simp)]
      rw [c_O (fun k=>!f k) false (fun k hk _=>by
       have:=(hf k hk n (by omega) hk (by omega)).1
       rw [ix_ hk,bd_some,ix_ (show k<w.items.length by omega),bd_some,show (c_m n).spec_EqualValues v.items[k] (w.items[k]'(by omega))=some (f k) from this,bd_some]
       cases f k <;> rfl)]
      rw [List.all_eq_not_any_not]
      cases (List.range v.items.length).any fun x=>!f x <;> rfl
   ·show c_f n (c_q n) v w=_
    unfold c_f
    rw [g_D]
    cases (v.number != w.number) with
    | true=>rfl
    | false =>
     cases (v.bytes==w.bytes) with
     | false=>rfl
     | true =>
      rw [show ((v.items.length:Int) != (w.items.length:Int))=false by rw [bne_eq_false_iff_eq];omega]
      rw [iN_ (by simp),bd_some,show (!true)=false from rfl,iN_ (by simp),bd_some,iN_ (by simp)]
      rw [c_O (fun k=>!f k) false (fun k hk _=>by
       have:=(hf k hk n (by omega) hk (by omega)).2
       rw [ix_ hk,bd_some,ix_ (show k<w.items.length by omega),bd_some,show (c_q n).impl_EqualValues v.items[k] (w.items[k]'(by omega))=some (f k) from this,bd_some]
       cases f k <;> rfl)]
      rw [List.all_eq_not_any_not]
      cases (List.range v.items.length).any fun x=>!f x <;> rfl
  ·refine ⟨false,fun n hn=>?_⟩;obtain ⟨n,rfl⟩:∃k,n=k+1:=⟨n - 1,by omega⟩
   constructor
   ·show c_d n (c_m n) v w=_
    unfold c_d
    rw [eqS,show ((v.items.length:Int) != (w.items.length:Int))=true by rw [bne_iff_ne];omega]
    cases (v.number != w.number) <;> cases (v.bytes==w.bytes) <;> rfl
   ·show c_f n (c_q n) v w=_
    unfold c_f
    rw [g_D,show ((v.items.length:Int) != (w.items.length:Int))=true by rw [bne_iff_ne];omega]
    cases (v.number != w.number) <;> cases (v.bytes==w.bytes) <;> rfl
end Go.Vw
