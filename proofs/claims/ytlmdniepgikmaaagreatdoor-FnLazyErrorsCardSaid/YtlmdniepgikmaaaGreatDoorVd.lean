
import Derived.Test.YtlmdniepgikmaaaGreatDoorVc
namespace Go.Vw
open Go.RowKit Dat
abbrev zE:D_:=⟨(⟨[]⟩:Str),0,0,0⟩
section
variable {d:f_}{b:Bt}
def c_7 (d:f_)(b:Bt):List Str->Nat->Nat->Option (Nat×Nat)
 | [],i,p=>some (i,p)
 | s::ss,i,p=>match a_X d.rules b (d.rules.getD i default) p s with
  | none=>none
  | some x=>c_7 d b ss x.1 x.2
theorem k_U {i:Nat}(hi:i<d.rules.length):d.rules.getD i default=d.rules[i]:=by simp [hi]
theorem j_a (hv:U_ d=true):∀(ss:List Str)(i p:Nat),i<d.rules.length->p<=b.length->∀k q,c_7 d b ss i p=some (k,q)->k<d.rules.length/\q<=b.length
 | [],i,p,hi,hp,k,q,h=>by cases h;exact ⟨hi,hp⟩
 | s::ss,i,p,hi,hp,k,q,h=>by
  unfold c_7 at h
  rw [k_U hi] at h
  cases hs:a_X d.rules b d.rules[i] p s with
  | none=>rw [hs] at h;cases h
  | some x =>
   obtain ⟨k',q'⟩:=x
   rw [hs] at h
   have:=k_S hv hi hp hs;exact j_a hv ss k' q' (by omega) this.2 k q h
theorem k_V {ρ:Type}(hv:U_ d=true){body:Nat->Int×Int->Option (Out (Int×Int) ρ)}{g:Int×Int->Option ρ}{bad:ρ}(L:List Str)
  (hb:∀j (hj:j<L.length) (i p:Nat) (hi:i<d.rules.length),p<=b.length->body j ((i:Int),(p:Int))=some (match a_X d.rules b d.rules[i] p L[j] with | some x=>.next ((x.1:Int),(x.2:Int)) | none=>.ret bad)) :
  ∀(m j i p:Nat),j+m=L.length->i<d.rules.length->p<=b.length->bd (F_ body m j ((i:Int),(p:Int))) (el g some)=(match c_7 d b (L.drop j) i p with | some x=>g ((x.1:Int),(x.2:Int)) | none=>some bad)
 | 0,j,i,p,hj,hi,hp=>by
  rw [List.drop_eq_nil_of_le (by omega)];rfl
 | m+1,j,i,p,hj,hi,hp=>by
  have hlt:j<L.length:=by omega
  rw [dC_ hlt]
  unfold c_7 F_
  rw [k_U hi,hb j hlt i p hi hp]
  cases hs:a_X d.rules b d.rules[i] p L[j] with
  | none=>rfl
  | some x =>
   obtain ⟨k,q⟩:=x;have:=k_S hv hi hp hs;exact k_V hv L hb m (j+1) k q (by omega) (by omega) this.2
def b_v (d:f_)(b:Bt)(path:Str):Option (Nat×Nat) :=
 if (c_s path).2=true/\U_ d=true/\b.length<=400 then (match c_7 d b (c_s path).1 (d.rules.length - 1) 0 with
  | none=>none
  | some x=>if (rdW d.rules b x.1 x.2).2.2=0 then some x else none) else none
def e_j (d:f_)(b:Bt)(path:Str):D_×Bool:=match b_v d b path with
 | some x=>(⟨path,(x.1:Int),(x.2:Int),((rdW d.rules b x.1 x.2).2.1:Int)⟩,true)
 | none=>(zE,false)
def g_P (d:f_)(b:Bt)(path:Str):Val×Bool:=match b_v d b path with
 | some x=>((rdW d.rules b x.1 x.2).1,true)
 | none=>(zV,false)
theorem k_W {path:Str}{x:Nat×Nat}(h:b_v d b path=some x):U_ d=true/\b.length<=400/\x.1<d.rules.length/\x.2<=b.length/\(rdW d.rules b x.1 x.2).2.2=0:=by
 unfold b_v at h
 split at h
 .rename_i hc
  have hl:=b_F hc.2.1
  cases hs:c_7 d b (c_s path).1 (d.rules.length - 1) 0 with
  | none=>rw [hs] at h;cases h
  | some y =>
   rw [hs] at h
   simp only at h
   split at h
   .rename_i G
    cases h
    have:=j_a hc.2.1 _ _ _ (by omega) (by omega) x.1 x.2 hs;exact ⟨hc.2.1,hc.2.2,this.1,this.2,G⟩
   .cases h
 .cases h
theorem n_5 {path:Str}(h:¬((c_s path).2=true/\U_ d=true/\b.length<=400)):b_v d b path=none:=iN_ h
theorem n_6 {a v:Bool}{l:Nat}:(if (!a) then some true else if (!v) then some true else some (decide<|(400:Int)<(l:Int)))=some (!(a && (v && decide (l<=400)))):=by
 have e:decide ((400:Int)<(l:Int)) = !decide (l<=400):=by
  by_cases h:l<=400
  .rw [dT_ h,dF_ (by omega)];rfl
  .rw [dF_ h,dT_ (by omega)];rfl
 rw [e]
 cases a <;> cases v <;> rfl
theorem k_X (hd:SmD d){n:Nat}(hn:1048600<=n){path:Str}(hp:path.b.length<=MX):f_8 n d b path=some (e_j d b path):=by
 have hMX:=MXv;unfold f_8 e_j
 rw [m_J (by omega) hp (by omega)]
 rcases hsp:c_s path with ⟨ss,ok⟩
 simp only [bd2_some,k_I d hd,bd_some]
 rw [n_6,bd_some]
 by_cases hc:ok=true/\U_ d=true/\b.length<=400
 .obtain ⟨rfl,hv,I⟩:=hc
  rw [hv,dT_ I]
  simp only [Bool.and_self,nT_,bF_,fF_]
  have hl:=b_F hv
  rw [g_U hd,bd_some,show b_h d=((d.rules.length - 1:Nat):Int) by unfold b_h;omega]
  have hlen:=hd
  have:=k_V (b:=b) (bad:=((⟨(⟨[]⟩:Str),0,0,0⟩:D_),false)) hv (body:=(λL=>un2 λG H=>bd (idx ss ((L:Nat):Int)) λO=>bd3 (c_G n d G b H O) λV W Y=>if (!Y) then some (.ret ((⟨(⟨[]⟩:Str),0,0,0⟩:D_),false)) else some (.next (V,W))))
   (g:=un2 λG H=>bd3 (d_M n d G b H) λa2 a0 a1=>if (a1 != 0) then some ((⟨(⟨[]⟩:Str),0,0,0⟩:D_),false) else some ((⟨path,G,H,a0⟩:D_),true)) ss
   (λj hj i p hi hp=>by
    simp only [un2,ix_ hj,bd_some,r_r hv hd I (show 1000<=n by omega) hi hp]
    cases a_X d.rules b d.rules[i] p ss[j] <;> rfl) ss.length 0 (d.rules.length - 1) 0 (by omega) (by omega) (by omega)
  refine Eq.trans this ?_
  rw [List.drop_zero]
  have hf:b_v d b path=(match c_7 d b ss (d.rules.length - 1) 0 with | none=>none | some x=>if (rdW d.rules b x.1 x.2).2.2=0 then some x else none):=by unfold b_v;rw [hsp,iP_ ⟨rfl,hv,I⟩]
  rw [hf]
  cases hs:c_7 d b ss (d.rules.length - 1) 0 with
  | none=>rfl
  | some x =>
   have hx:=j_a hv _ _ _ (by omega) (by omega) x.1 x.2 hs
   simp only [un2]
   rw [f_H hv hd I x.1 hx.1 n (by omega) x.2 hx.2]
   unfold b_w
   simp only [bd3_some]
   by_cases J:(rdW d.rules b x.1 x.2).2.2=0
   .rw [iP_ J,J];rfl
   .rw [iN_ J,iP_ (by simpa using J)]
 .have e:(ok && (U_ d && decide (b.length<=400)))=false:=by
   cases h:(ok && (U_ d && decide (b.length<=400))) with
   | false=>rfl
   | true =>
    simp only [aE_,dE_] at h
    exact absurd h hc
  rw [e,n_5 (by rw [hsp];exact hc)]
  rfl
theorem k_Y (hd:SmD d){n:Nat}(hn:1048600<=n){path:Str}(hp:path.b.length<=MX):e_A n d b path=some (e_j d b path):=by
 have hMX:=MXv;unfold e_A e_j
 rw [r_m (by omega) hp]
 rcases hsp:c_s path with ⟨ss,ok⟩
 simp only [bd2_some,m_y n (by omega) d hd,bd_some]
 rw [n_6,bd_some]
 by_cases hc:ok=true/\U_ d=true/\b.length<=400
 .obtain ⟨rfl,hv,I⟩:=hc
  rw [hv,dT_ I]
  simp only [Bool.and_self,nT_,bF_,fF_]
  have hl:=b_F hv
  rw [s_d hd,bd_some,show b_h d=((d.rules.length - 1:Nat):Int) by unfold b_h;omega]
  have:=k_V (b:=b) (bad:=((⟨(⟨[]⟩:Str),0,0,0⟩:D_),false)) hv (body:=(λL=>un2 λG H=>bd (idx ss ((L:Nat):Int)) λO=>bd3 (g_1 n (⟨(⟨d.rules⟩:f_),b,G,H⟩:b_d) O) λV W Y=>if (!V) then some (.ret ((⟨(⟨[]⟩:Str),0,0,0⟩:D_),false)) else some (.next (W,Y))))
   (g:=un2 λG H=>bd2 (c_V n (⟨(⟨d.rules⟩:f_),b,G,H⟩:b_d) G) λa0 a1=>if (!a0) then some ((⟨(⟨[]⟩:Str),0,0,0⟩:D_),false) else some ((⟨path,G,H,a1⟩:D_),true)) ss
   (λj hj i p hi hp=>by
    obtain ⟨y,h1,h2⟩:=r_x hv hd I (show 500<=n by omega) hi hp ss[j]
    simp only [un2,ix_ hj,bd_some,h1]
    cases hs:a_X d.rules b d.rules[i] p ss[j] with
    | none =>
     rw [hs] at h2
     obtain ⟨y1,y2,y3⟩:=y;have h2':y1=false:=h2;subst h2';rfl
    | some x =>
     rw [hs] at h2
     have h2':y=(true,(x.1:Int),(x.2:Int)):=h2
     subst h2';rfl) ss.length 0 (d.rules.length - 1) 0 (by omega) (by omega) (by omega)
  refine Eq.trans this ?_
  rw [List.drop_zero]
  have hf:b_v d b path=(match c_7 d b ss (d.rules.length - 1) 0 with | none=>none | some x=>if (rdW d.rules b x.1 x.2).2.2=0 then some x else none):=by unfold b_v;rw [hsp,iP_ ⟨rfl,hv,I⟩]
  rw [hf]
  cases hs:c_7 d b ss (d.rules.length - 1) 0 with
  | none=>rfl
  | some x =>
   have hx:=j_a hv _ _ _ (by omega) (by omega) x.1 x.2 hs
   simp only [un2]
   have hp:=j_9 (n:=n) (i:=(x.1:Int)) hv hd I (by omega) hx.2 (k:=(x.1:Int)) (by omega) (by omega);refine (congrArg (λz=>bd2 z _) hp).trans ?_;unfold rdK
   simp only [bd2_some,tN_]
   by_cases J:(rdW d.rules b x.1 x.2).2.2=0
   .rw [iP_ J,J];rfl
   .rw [iN_ J,show ((rdW d.rules b x.1 x.2).2.2==0)=false by simpa using J];rfl
 .have e:(ok && (U_ d && decide (b.length<=400)))=false:=by
   cases h:(ok && (U_ d && decide (b.length<=400))) with
   | false=>rfl
   | true =>
    simp only [aE_,dE_] at h
    exact absurd h hc
  rw [e,n_5 (by rw [hsp];exact hc)]
  rfl
theorem n_7 (hd:SmD d){n:Nat}(hn:1048600<=n){path:Str}(hp:path.b.length<=MX):e_D n d b path=some ((g_P d b path).1,(match b_v d b path with | some x=>(x.1:Int) | none=>-1),(g_P d b path).2):=by
 unfold e_D
 rw [k_Y hd hn hp]
 unfold e_j g_P
 cases hf:b_v d b path with
 | none=>rfl
 | some x =>
  obtain ⟨hv,G,h1,h2,H⟩:=k_W hf
  simp only [bd2_some,nT_,bF_,fF_]
  rw [s_b hd (by omega),m_P hv G h1 h2]
  rfl
end
end Go.Vw
