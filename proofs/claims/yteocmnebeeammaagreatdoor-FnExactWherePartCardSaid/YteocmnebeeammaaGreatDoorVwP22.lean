
import Derived.Test.YteocmnebeeammaaGreatDoorVwP21
namespace Go.Vw
open Go.RowKit Dat
abbrev zE:k_:=⟨(⟨[]⟩:Str),0,0,0⟩
section
variable {d:d_}{b:Bt}
def d_d (d:d_)(b:Bt):List Str->Nat->Nat->Option (Nat×Nat)
 | [],i,p=>some (i,p)
 | s::ss,i,p=>match b_5 d.rules b (d.rules.getD i default) p s with
  | none=>none
  | some x=>d_d d b ss x.1 x.2
theorem n_F {i:Nat}(hi:i<d.rules.length):d.rules.getD i default=d.rules[i]:=by simp [hi]
theorem j_m (hv:G_ d=true):∀(ss:List Str)(i p:Nat),i<d.rules.length->p<=b.length->∀k q,d_d d b ss i p=some (k,q)->k<d.rules.length/\q<=b.length
 | [],i,p,hi,hp,k,q,h=>by cases h;exact ⟨hi,hp⟩
 | s::ss,i,p,hi,hp,k,q,h=>by
  unfold d_d at h
  rw [n_F hi] at h
  cases hs:b_5 d.rules b d.rules[i] p s with
  | none=>rw [hs] at h;cases h
  | some x =>
   obtain ⟨k',q'⟩:=x
   rw [hs] at h
   have:=n_A hv hi hp hs;exact j_m hv ss k' q' (by omega) this.2 k q h
theorem l_3 {ρ:Type}(hv:G_ d=true){body:Nat->Int×Int->Option (Out (Int×Int) ρ)}{g:Int×Int->Option ρ}{bad:ρ}(L:List Str)
  (hb:∀j (hj:j<L.length) (i p:Nat) (hi:i<d.rules.length),p<=b.length->body j ((i:Int),(p:Int))=some (match b_5 d.rules b d.rules[i] p L[j] with | some x=>.next ((x.1:Int),(x.2:Int)) | none=>.ret bad)) :
  ∀(m j i p:Nat),j+m=L.length->i<d.rules.length->p<=b.length->bd (r_ body m j ((i:Int),(p:Int))) (el g some)=(match d_d d b (L.drop j) i p with | some x=>g ((x.1:Int),(x.2:Int)) | none=>some bad)
 | 0,j,i,p,hj,hi,hp=>by
  rw [List.drop_eq_nil_of_le (by omega)];rfl
 | m+1,j,i,p,hj,hi,hp=>by
  have hlt:j<L.length:=by omega
  rw [dC_ hlt]
  unfold d_d r_
  rw [n_F hi,hb j hlt i p hi hp]
  cases hs:b_5 d.rules b d.rules[i] p L[j] with
  | none=>rfl
  | some x =>
   obtain ⟨k,q⟩:=x;have:=n_A hv hi hp hs;exact l_3 hv L hb m (j+1) k q (by omega) (by omega) this.2
def c_o (d:d_)(b:Bt)(path:Str):Option (Nat×Nat) :=
 if (b_E path).2=true/\G_ d=true/\b.length<=400 then (match d_d d b (b_E path).1 (d.rules.length - 1) 0 with
  | none=>none
  | some x=>if (rdW d.rules b x.1 x.2).2.2=0 then some x else none) else none
def d_Y (d:d_)(b:Bt)(path:Str):k_×Bool:=match c_o d b path with
 | some x=>(⟨path,(x.1:Int),(x.2:Int),((rdW d.rules b x.1 x.2).2.1:Int)⟩,true)
 | none=>(zE,false)
def e_v (d:d_)(b:Bt)(path:Str):Val×Bool:=match c_o d b path with
 | some x=>((rdW d.rules b x.1 x.2).1,true)
 | none=>(zV,false)
theorem j_n {path:Str}{x:Nat×Nat}(h:c_o d b path=some x):G_ d=true/\b.length<=400/\x.1<d.rules.length/\x.2<=b.length/\(rdW d.rules b x.1 x.2).2.2=0:=by
 unfold c_o at h
 split at h
 .rename_i hc
  have hl:=a_Y hc.2.1
  cases hs:d_d d b (b_E path).1 (d.rules.length - 1) 0 with
  | none=>rw [hs] at h;cases h
  | some y =>
   rw [hs] at h
   simp only at h
   split at h
   .rename_i G
    cases h
    have:=j_m hc.2.1 _ _ _ (by omega) (by omega) x.1 x.2 hs;exact ⟨hc.2.1,hc.2.2,this.1,this.2,G⟩
   .cases h
 .cases h
theorem n_G {path:Str}(h:¬((b_E path).2=true/\G_ d=true/\b.length<=400)):c_o d b path=none:=iN_ h
theorem n_H {a v:Bool}{l:Nat}:(if (!a) then some true else if (!v) then some true else some (decide<|(400:Int)<(l:Int)))=some (!(a && (v && decide (l<=400)))):=by
 have e:decide ((400:Int)<(l:Int)) = !decide (l<=400):=by
  by_cases h:l<=400
  .rw [dT_ h,dF_ (by omega)];rfl
  .rw [dF_ h,dT_ (by omega)];rfl
 rw [e]
 cases a <;> cases v <;> rfl
theorem f_T (hd:SmD d){n:Nat}(hn:1048600<=n){path:Str}(hp:path.b.length<=MX):e_H n d b path=some (d_Y d b path):=by
 have hMX:=MXv;unfold e_H d_Y
 rw [k_R (by omega) hp (by omega)]
 rcases hsp:b_E path with ⟨ss,ok⟩
 simp only [bd2_some,k_L d hd,bd_some]
 rw [n_H,bd_some]
 by_cases hc:ok=true/\G_ d=true/\b.length<=400
 .obtain ⟨rfl,hv,I⟩:=hc
  rw [hv,dT_ I]
  simp only [Bool.and_self,nT_,bF_,fF_]
  have hl:=a_Y hv
  rw [j_z hd,bd_some,show b_e d=((d.rules.length - 1:Nat):Int) by unfold b_e;omega]
  have hlen:=hd
  have:=l_3 (b:=b) (bad:=((⟨(⟨[]⟩:Str),0,0,0⟩:k_),false)) hv (body:=(λL=>un2 λG H=>bd (idx ss ((L:Nat):Int)) λO=>bd3 (c_Z n d G b H O) λV W Y=>if (!Y) then some (.ret ((⟨(⟨[]⟩:Str),0,0,0⟩:k_),false)) else some (.next (V,W))))
   (g:=un2 λG H=>bd3 (d_G n d G b H) λa2 a0 a1=>if (a1 != 0) then some ((⟨(⟨[]⟩:Str),0,0,0⟩:k_),false) else some ((⟨path,G,H,a0⟩:k_),true)) ss
   (λj hj i p hi hp=>by
    simp only [un2,ix_ hj,bd_some,r_M hv hd I (show 1000<=n by omega) hi hp]
    cases b_5 d.rules b d.rules[i] p ss[j] <;> rfl) ss.length 0 (d.rules.length - 1) 0 (by omega) (by omega) (by omega)
  refine Eq.trans this ?_
  rw [List.drop_zero]
  have hf:c_o d b path=(match d_d d b ss (d.rules.length - 1) 0 with | none=>none | some x=>if (rdW d.rules b x.1 x.2).2.2=0 then some x else none):=by unfold c_o;rw [hsp,iP_ ⟨rfl,hv,I⟩]
  rw [hf]
  cases hs:d_d d b ss (d.rules.length - 1) 0 with
  | none=>rfl
  | some x =>
   have hx:=j_m hv _ _ _ (by omega) (by omega) x.1 x.2 hs
   simp only [un2]
   rw [f_b hv hd I x.1 hx.1 n (by omega) x.2 hx.2]
   unfold b_c
   simp only [bd3_some]
   by_cases J:(rdW d.rules b x.1 x.2).2.2=0
   .rw [iP_ J,J];rfl
   .rw [iN_ J,iP_ (by simpa using J)]
 .have e:(ok && (G_ d && decide (b.length<=400)))=false:=by
   cases h:(ok && (G_ d && decide (b.length<=400))) with
   | false=>rfl
   | true =>
    simp only [aE_,dE_] at h
    exact absurd h hc
  rw [e,n_G (by rw [hsp];exact hc)]
  rfl
theorem r_T (hd:SmD d){n:Nat}(hn:1048600<=n){path:Str}(hp:path.b.length<=MX):l_C n d b path=some (d_Y d b path):=by
 have hMX:=MXv;unfold l_C d_Y
 rw [n_s (by omega) hp]
 rcases hsp:b_E path with ⟨ss,ok⟩
 simp only [bd2_some,m_X n (by omega) d hd,bd_some]
 rw [n_H,bd_some]
 by_cases hc:ok=true/\G_ d=true/\b.length<=400
 .obtain ⟨rfl,hv,I⟩:=hc
  rw [hv,dT_ I]
  simp only [Bool.and_self,nT_,bF_,fF_]
  have hl:=a_Y hv
  rw [l_n hd,bd_some,show b_e d=((d.rules.length - 1:Nat):Int) by unfold b_e;omega]
  have:=l_3 (b:=b) (bad:=((⟨(⟨[]⟩:Str),0,0,0⟩:k_),false)) hv (body:=(λL=>un2 λG H=>bd (idx ss ((L:Nat):Int)) λO=>bd3 (j_S n (⟨(⟨d.rules⟩:d_),b,G,H⟩:c_9) O) λV W Y=>if (!V) then some (.ret ((⟨(⟨[]⟩:Str),0,0,0⟩:k_),false)) else some (.next (W,Y))))
   (g:=un2 λG H=>bd2 (e_9 n (⟨(⟨d.rules⟩:d_),b,G,H⟩:c_9) G) λa0 a1=>if (!a0) then some ((⟨(⟨[]⟩:Str),0,0,0⟩:k_),false) else some ((⟨path,G,H,a1⟩:k_),true)) ss
   (λj hj i p hi hp=>by
    obtain ⟨y,h1,h2⟩:=r_S hv hd I (show 500<=n by omega) hi hp ss[j]
    simp only [un2,ix_ hj,bd_some,h1]
    cases hs:b_5 d.rules b d.rules[i] p ss[j] with
    | none =>
     rw [hs] at h2
     obtain ⟨y1,y2,y3⟩:=y;have h2':y1=false:=h2;subst h2';rfl
    | some x =>
     rw [hs] at h2
     have h2':y=(true,(x.1:Int),(x.2:Int)):=h2
     subst h2';rfl) ss.length 0 (d.rules.length - 1) 0 (by omega) (by omega) (by omega)
  refine Eq.trans this ?_
  rw [List.drop_zero]
  have hf:c_o d b path=(match d_d d b ss (d.rules.length - 1) 0 with | none=>none | some x=>if (rdW d.rules b x.1 x.2).2.2=0 then some x else none):=by unfold c_o;rw [hsp,iP_ ⟨rfl,hv,I⟩]
  rw [hf]
  cases hs:d_d d b ss (d.rules.length - 1) 0 with
  | none=>rfl
  | some x =>
   have hx:=j_m hv _ _ _ (by omega) (by omega) x.1 x.2 hs
   simp only [un2]
   have hp:=j_l (n:=n) (i:=(x.1:Int)) hv hd I (by omega) hx.2 (k:=(x.1:Int)) (by omega) (by omega);refine (congrArg (λz=>bd2 z _) hp).trans ?_;unfold rdK
   simp only [bd2_some,tN_]
   by_cases J:(rdW d.rules b x.1 x.2).2.2=0
   .rw [iP_ J,J];rfl
   .rw [iN_ J,show ((rdW d.rules b x.1 x.2).2.2==0)=false by simpa using J];rfl
 .have e:(ok && (G_ d && decide (b.length<=400)))=false:=by
   cases h:(ok && (G_ d && decide (b.length<=400))) with
   | false=>rfl
   | true =>
    simp only [aE_,dE_] at h
    exact absurd h hc
  rw [e,n_G (by rw [hsp];exact hc)]
  rfl
theorem l_4 (hd:SmD d){n:Nat}(hn:1048600<=n){path:Str}(hp:path.b.length<=MX):h_V n d b path=some (e_v d b path):=by
 unfold h_V
 rw [f_T hd hn hp]
 unfold d_Y e_v
 cases hf:c_o d b path with
 | none=>rfl
 | some x =>
  obtain ⟨hv,G,h1,h2,H⟩:=j_n hf;have hl:=a_Y hv
  simp only [bd2_some,nT_,bF_,fF_]
  rw [f_b hv hd G x.1 h1 n (by omega) x.2 h2]
  rfl
theorem r_U (hd:SmD d){n:Nat}(hn:1048600<=n){path:Str}(hp:path.b.length<=MX):l_D n d b path=some ((e_v d b path).1,(match c_o d b path with | some x=>(x.1:Int) | none=>-1),(e_v d b path).2):=by
 unfold l_D
 rw [r_T hd hn hp]
 unfold d_Y e_v
 cases hf:c_o d b path with
 | none=>rfl
 | some x =>
  obtain ⟨hv,G,h1,h2,H⟩:=j_n hf
  simp only [bd2_some,nT_,bF_,fF_]
  rw [l_m hd (by omega),k_U hv G h1 h2]
  rfl
end
end Go.Vw
