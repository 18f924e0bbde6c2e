
import Derived.Test.YtpjplgfnhbjjjaaGreatDoorVm
import Derived.Test.YtpjplgfnhbjjjaaGreatDoorVw
namespace Go.Vw
open Go.RowKit Dat
theorem p_3 {β:Type}[Inhabited β]{P:Nat->β->Prop}(n:Nat)(h:∀m,m<n->∃x,P m x):∃f:Nat->β,∀m,m<n->P m (f m):=by
 refine ⟨λm=>if h':m<n then Classical.choose (h m h') else default,λm hm=>?_⟩
 simp only [dif_pos hm]
 exact Classical.choose_spec<|h m hm
theorem eqS (x y:Bt):f_L x y=some (x==y):=by
 unfold f_L
 by_cases h:x.length=y.length
 .rw [show ((x.length:Int) != (y.length:Int))=false by rw [bne_eq_false_iff_eq];omega,iN_ (by simp)]
  by_cases hxy:x=y
  .subst hxy
   rw [e_P (l:=x) (p:=λ_=>false) (r:=false) (λk hk=>by rw [ix_ hk,bd_some,bd_some];simp)]
   simp
  .rw [show (x==y)=false by simpa using hxy]
   obtain ⟨G,H,hmin⟩:∃k,(∃h1:k<x.length,∃h2:k<y.length,x[k] ≠ y[k])/\∀j,j<k->¬(∃h1:j<x.length,∃h2:j<y.length,x[j] ≠ y[j]):=by
    have:∃k,(∃h1:k<x.length,∃h2:k<y.length,x[k] ≠ y[k]):=by
     refine Classical.byContradiction λhn=>hxy<|List.ext_getElem h λi h1 h2=>Classical.byContradiction λhne=>hn ⟨i,h1,h2,hne⟩
    obtain ⟨k,hk⟩:=this
    induction k using Nat.strongRecOn with
    | _ k ih =>
     by_cases hq:∃j,j<k/\(∃h1:j<x.length,∃h2:j<y.length,x[j] ≠ y[j])
     .obtain ⟨j,hj,hp⟩:=hq;exact ih j hj hp
     .exact ⟨k,hk,λj hj hp=>hq ⟨j,hj,hp⟩⟩
   obtain ⟨h1,h2,hne⟩:=H;refine (congrArg (λz=>bd z _)<|i_O (st:=λ_=>()) (r:=false) h1 (λj hj=>?_) ?_).trans ?_
   .have hx:j<x.length:=by omega
    have hy:j<y.length:=by omega
    rw [ix_ hx,ix_ hy,bd_some,bd_some]
    have:x[j]=y[j]:=Classical.byContradiction λhq=>hmin j hj ⟨hx,hy,hq⟩
    rw [this];simp
   .rw [ix_ h1,ix_ h2,bd_some,bd_some]
    have:¬byteI x[G]=byteI y[G]:=λhq=>hne (by
     unfold byteI at hq
     exact UInt8.toNat_inj.1 (by omega))
    rw [show (byteI x[G] != byteI y[G])=true by simpa using this];rfl
   .rw [bd_some,el_inr]
 .rw [show ((x.length:Int) != (y.length:Int))=true by rw [bne_iff_ne];omega,iP_ rfl]
  rw [show (x==y)=false by simpa using λhq:x=y=>h (by rw [hq])]
theorem l_U {v w:Val}(h1:v.number=w.number)(h2:v.bytes=w.bytes)(h3:v.items=w.items):v=w:=by
 cases v;cases w
 simp only [Val.number,Val.bytes,Val.items] at h1 h2 h3
 subst h1;subst h2;subst h3;rfl
theorem l_V:∀(m:Nat)(v w:Val),dep m v->∃e:Bool,(∀n,m+1<=n->d_v n v w=some e/\g_n n v w=some e)/\(e=true->v=w):=by
 intro m
 induction m with
 | zero =>
  intro v w h;have G:v.items=[]:=h;refine ⟨!(v.number != w.number) && ((v.bytes==w.bytes) && !(((v.items.length:Nat):Int) != ((w.items.length:Nat):Int))),λn hn=>?_,λhe=>?_⟩
  rotate_left
  .simp only [aE_,Bool.not_eq_true',bne_eq_false_iff_eq,beq_iff_eq] at he
   exact l_U he.1 he.2.1 (by rw [G] at he ⊢;exact (List.length_eq_zero_iff.1 (by simp at he;omega)).symm)
  obtain ⟨n,rfl⟩:∃k,n=k+1:=⟨n - 1,by omega⟩
  constructor
  .show c_O n (d_6 n) v w=_
   unfold c_O
   rw [eqS,G]
   cases (v.number != w.number) <;> cases (v.bytes==w.bytes) <;> cases ((([]:List Val).length:Int) != (w.items.length:Int)) <;> rfl
  .show e_w n (e_x n) v w=_
   unfold e_w
   rw [i_x,G]
   cases (v.number != w.number) <;> cases (v.bytes==w.bytes) <;> cases ((([]:List Val).length:Int) != (w.items.length:Int)) <;> rfl
 | succ m ih =>
  intro v w h
  by_cases hlen:v.items.length=w.items.length
  .have H:∀k,k<v.items.length->∃e:Bool,(∀n,m+1<=n->∀(h1:k<v.items.length)(h2:k<w.items.length),d_v n v.items[k] w.items[k]=some e/\g_n n v.items[k] w.items[k]=some e)/\(e=true->∀(h1:k<v.items.length)(h2:k<w.items.length),v.items[k]=w.items[k]):=λk hk=>by
    obtain ⟨e,he,I⟩:=ih v.items[k] (w.items[k]'(by omega)) (h _<|gE_ hk);exact ⟨e,λn hn _ _=>he n hn,λq _ _=>I q⟩
   obtain ⟨f,hf⟩:=p_3 v.items.length H;refine ⟨!(v.number != w.number) && ((v.bytes==w.bytes) && (List.range v.items.length).all f),λn hn=>?_,λhe=>?_⟩
   rotate_left
   .simp only [aE_,Bool.not_eq_true',bne_eq_false_iff_eq,beq_iff_eq,List.all_eq_true,List.mem_range] at he
    exact l_U he.1 he.2.1<|List.ext_getElem hlen λk h1 h2=>(hf k h1).2 (he.2.2 k h1) h1 h2
   obtain ⟨n,rfl⟩:∃k,n=k+1:=⟨n - 1,by omega⟩;have hall:∀{bb:Bool},bb = !((List.range v.items.length).any λk=>!f k)->bb=(List.range v.items.length).all f:=λh=>by rw [h,List.all_eq_not_any_not]
   constructor
   .show c_O n (d_6 n) v w=_
    unfold c_O
    rw [eqS]
    cases (v.number != w.number) with
    | true=>rfl
    | false =>
     cases (v.bytes==w.bytes) with
     | false=>rfl
     | true =>
      rw [show ((v.items.length:Int) != (w.items.length:Int))=false by rw [bne_eq_false_iff_eq];omega]
      rw [iN_ (by simp),bd_some,show (!true)=false from rfl,iN_ (by simp),bd_some,iN_ (by simp)]
      rw [e_b (λk=>!f k) false (λk hk _=>by
       have:=((hf k hk).1 n (by omega) hk (by omega)).1
       rw [ix_ hk,bd_some,ix_ (show k<w.items.length by omega),bd_some,show (d_6 n).spec_EqualValues v.items[k] (w.items[k]'(by omega))=some (f k) from this,bd_some]
       cases f k <;> rfl)]
      rw [List.all_eq_not_any_not]
      cases (List.range v.items.length).any λx=>!f x <;> rfl
   .show e_w n (e_x n) v w=_
    unfold e_w
    rw [i_x]
    cases (v.number != w.number) with
    | true=>rfl
    | false =>
     cases (v.bytes==w.bytes) with
     | false=>rfl
     | true =>
      rw [show ((v.items.length:Int) != (w.items.length:Int))=false by rw [bne_eq_false_iff_eq];omega]
      rw [iN_ (by simp),bd_some,show (!true)=false from rfl,iN_ (by simp),bd_some,iN_ (by simp)]
      rw [e_b (λk=>!f k) false (λk hk _=>by
       have:=((hf k hk).1 n (by omega) hk (by omega)).2
       rw [ix_ hk,bd_some,ix_ (show k<w.items.length by omega),bd_some,show (e_x n).impl_EqualValues v.items[k] (w.items[k]'(by omega))=some (f k) from this,bd_some]
       cases f k <;> rfl)]
      rw [List.all_eq_not_any_not]
      cases (List.range v.items.length).any λx=>!f x <;> rfl
  .refine ⟨false,λn hn=>?_,nofun⟩;obtain ⟨n,rfl⟩:∃k,n=k+1:=⟨n - 1,by omega⟩
   constructor
   .show c_O n (d_6 n) v w=_
    unfold c_O
    rw [eqS,show ((v.items.length:Int) != (w.items.length:Int))=true by rw [bne_iff_ne];omega]
    cases (v.number != w.number) <;> cases (v.bytes==w.bytes) <;> rfl
   .show e_w n (e_x n) v w=_
    unfold e_w
    rw [i_x,show ((v.items.length:Int) != (w.items.length:Int))=true by rw [bne_iff_ne];omega]
    cases (v.number != w.number) <;> cases (v.bytes==w.bytes) <;> rfl
theorem s_W:∀(m:Nat)(v w:Val),dep m v->∃e:Bool,∀n,m+1<=n->d_v n v w=some e/\g_n n v w=some e:=λm v w h=>(l_V m v w h).imp λ_ h=>h.1
end Go.Vw
