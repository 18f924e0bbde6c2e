
import Derived.Test.YtelphaiofendpaaGreatDoorVwP21
namespace Go.Vw
open Go.RowKit Dat
abbrev zE:y_:=⟨(⟨[]⟩:Str),0,0,0⟩
section
variable {d:d_}{b:Bt}
def d_1 (d:d_)(b:Bt):List Str->Nat->Nat->Option (Nat×Nat)
 | [],i,p=>some (i,p)
 | s::ss,i,p=>match b_d d.rules b (d.rules.getD i default) p s with
  | none=>none
  | some x=>d_1 d b ss x.1 x.2
theorem n_u {i:Nat}(hi:i<d.rules.length):d.rules.getD i default=d.rules[i]:=by simp [hi]
theorem j_r (hv:N_ d=true):∀(ss:List Str)(i p:Nat),i<d.rules.length->p<=b.length->∀k q,d_1 d b ss i p=some (k,q)->k<d.rules.length/\q<=b.length
 | [],i,p,hi,hp,k,q,h=>by cases h;exact ⟨hi,hp⟩
 | s::ss,i,p,hi,hp,k,q,h=>by
  unfold d_1 at h
  rw [n_u hi] at h
  cases hs:b_d d.rules b d.rules[i] p s with
  | none=>rw [hs] at h;cases h
  | some x =>
   obtain ⟨k',q'⟩:=x
   rw [hs] at h
   have:=n_p hv hi hp hs;exact j_r hv ss k' q' (by omega) this.2 k q h
theorem l_k {ρ:Type}(hv:N_ d=true){body:Nat->Int×Int->Option (Out (Int×Int) ρ)}{g:Int×Int->Option ρ}{bad:ρ}(L:List Str)
  (hb:∀j (hj:j<L.length) (i p:Nat) (hi:i<d.rules.length),p<=b.length->body j ((i:Int),(p:Int))=some (match b_d d.rules b d.rules[i] p L[j] with | some x=>.next ((x.1:Int),(x.2:Int)) | none=>.ret bad)) :
  ∀(m j i p:Nat),j+m=L.length->i<d.rules.length->p<=b.length->bd (x_ body m j ((i:Int),(p:Int))) (el g some)=(match d_1 d b (L.drop j) i p with | some x=>g ((x.1:Int),(x.2:Int)) | none=>some bad)
 | 0,j,i,p,hj,hi,hp=>by
  rw [List.drop_eq_nil_of_le (by omega)];rfl
 | m+1,j,i,p,hj,hi,hp=>by
  have hlt:j<L.length:=by omega
  rw [dC_ hlt]
  unfold d_1 x_
  rw [n_u hi,hb j hlt i p hi hp]
  cases hs:b_d d.rules b d.rules[i] p L[j] with
  | none=>rfl
  | some x =>
   obtain ⟨k,q⟩:=x;have:=n_p hv hi hp hs;exact l_k hv L hb m (j+1) k q (by omega) (by omega) this.2
def c_p (d:d_)(b:Bt)(path:Str):Option (Nat×Nat) :=
 if (c_L path).2=true/\N_ d=true/\b.length<=400 then (match d_1 d b (c_L path).1 (d.rules.length - 1) 0 with
  | none=>none
  | some x=>if (rdW d.rules b x.1 x.2).2.2=0 then some x else none) else none
def d_U (d:d_)(b:Bt)(path:Str):y_×Bool:=match c_p d b path with
 | some x=>(⟨path,(x.1:Int),(x.2:Int),((rdW d.rules b x.1 x.2).2.1:Int)⟩,true)
 | none=>(zE,false)
def d_t (d:d_)(b:Bt)(path:Str):Val×Bool:=match c_p d b path with
 | some x=>((rdW d.rules b x.1 x.2).1,true)
 | none=>(zV,false)
theorem j_s {path:Str}{x:Nat×Nat}(h:c_p d b path=some x):N_ d=true/\b.length<=400/\x.1<d.rules.length/\x.2<=b.length/\(rdW d.rules b x.1 x.2).2.2=0:=by
 unfold c_p at h
 split at h
 .rename_i hc
  have hl:=b_e hc.2.1
  cases hs:d_1 d b (c_L path).1 (d.rules.length - 1) 0 with
  | none=>rw [hs] at h;cases h
  | some y =>
   rw [hs] at h
   simp only at h
   split at h
   .rename_i G
    cases h
    have:=j_r hc.2.1 _ _ _ (by omega) (by omega) x.1 x.2 hs;exact ⟨hc.2.1,hc.2.2,this.1,this.2,G⟩
   .cases h
 .cases h
theorem n_v {path:Str}(h:¬((c_L path).2=true/\N_ d=true/\b.length<=400)):c_p d b path=none:=iN_ h
theorem n_w {a v:Bool}{l:Nat}:(if (!a) then some true else if (!v) then some true else some (decide<|(400:Int)<(l:Int)))=some (!(a && (v && decide (l<=400)))):=by
 have e:decide ((400:Int)<(l:Int)) = !decide (l<=400):=by
  by_cases h:l<=400
  .rw [dT_ h,dF_ (by omega)];rfl
  .rw [dF_ h,dT_ (by omega)];rfl
 rw [e]
 cases a <;> cases v <;> rfl
theorem j_t (hd:SmD d){n:Nat}(hn:1048600<=n){path:Str}(hp:path.b.length<=MX):g_b n d b path=some (d_U d b path):=by
 have hMX:=MXv;unfold g_b d_U
 rw [l_d (by omega) hp (by omega)]
 rcases hsp:c_L path with ⟨ss,ok⟩
 simp only [bd2_some,l_7 d hd,bd_some]
 rw [n_w,bd_some]
 by_cases hc:ok=true/\N_ d=true/\b.length<=400
 .obtain ⟨rfl,hv,I⟩:=hc
  rw [hv,dT_ I]
  simp only [Bool.and_self,nT_,bF_,fF_]
  have hl:=b_e hv
  rw [f_V hd,bd_some,show b_f d=((d.rules.length - 1:Nat):Int) by unfold b_f;omega]
  have hlen:=hd
  have:=l_k (b:=b) (bad:=((⟨(⟨[]⟩:Str),0,0,0⟩:y_),false)) hv (body:=(λL=>un2 λG H=>bd (idx ss ((L:Nat):Int)) λO=>bd3 (d_B n d G b H O) λV W Y=>if (!Y) then some (.ret ((⟨(⟨[]⟩:Str),0,0,0⟩:y_),false)) else some (.next (V,W))))
   (g:=un2 λG H=>bd3 (d_A n d G b H) λa2 a0 a1=>if (a1 != 0) then some ((⟨(⟨[]⟩:Str),0,0,0⟩:y_),false) else some ((⟨path,G,H,a0⟩:y_),true)) ss
   (λj hj i p hi hp=>by
    simp only [un2,ix_ hj,bd_some,r_L hv hd I (show 1000<=n by omega) hi hp]
    cases b_d d.rules b d.rules[i] p ss[j] <;> rfl) ss.length 0 (d.rules.length - 1) 0 (by omega) (by omega) (by omega)
  refine Eq.trans this ?_
  rw [List.drop_zero]
  have hf:c_p d b path=(match d_1 d b ss (d.rules.length - 1) 0 with | none=>none | some x=>if (rdW d.rules b x.1 x.2).2.2=0 then some x else none):=by unfold c_p;rw [hsp,iP_ ⟨rfl,hv,I⟩]
  rw [hf]
  cases hs:d_1 d b ss (d.rules.length - 1) 0 with
  | none=>rfl
  | some x =>
   have hx:=j_r hv _ _ _ (by omega) (by omega) x.1 x.2 hs
   simp only [un2]
   rw [f_4 hv hd I x.1 hx.1 n (by omega) x.2 hx.2]
   unfold b_m
   simp only [bd3_some]
   by_cases J:(rdW d.rules b x.1 x.2).2.2=0
   .rw [iP_ J,J];rfl
   .rw [iN_ J,iP_ (by simpa using J)]
 .have e:(ok && (N_ d && decide (b.length<=400)))=false:=by
   cases h:(ok && (N_ d && decide (b.length<=400))) with
   | false=>rfl
   | true =>
    simp only [aE_,dE_] at h
    exact absurd h hc
  rw [e,n_v (by rw [hsp];exact hc)]
  rfl
theorem n_x (hd:SmD d){n:Nat}(hn:1048600<=n){path:Str}(hp:path.b.length<=MX):f_f n d b path=some (d_U d b path):=by
 have hMX:=MXv;unfold f_f d_U
 rw [r_H (by omega) hp]
 rcases hsp:c_L path with ⟨ss,ok⟩
 simp only [bd2_some,m_W n (by omega) d hd,bd_some]
 rw [n_w,bd_some]
 by_cases hc:ok=true/\N_ d=true/\b.length<=400
 .obtain ⟨rfl,hv,I⟩:=hc
  rw [hv,dT_ I]
  simp only [Bool.and_self,nT_,bF_,fF_]
  have hl:=b_e hv
  rw [s_D hd,bd_some,show b_f d=((d.rules.length - 1:Nat):Int) by unfold b_f;omega]
  have:=l_k (b:=b) (bad:=((⟨(⟨[]⟩:Str),0,0,0⟩:y_),false)) hv (body:=(λL=>un2 λG H=>bd (idx ss ((L:Nat):Int)) λO=>bd3 (g_k n (⟨(⟨d.rules⟩:d_),b,G,H⟩:b_a) O) λV W Y=>if (!V) then some (.ret ((⟨(⟨[]⟩:Str),0,0,0⟩:y_),false)) else some (.next (W,Y))))
   (g:=un2 λG H=>bd2 (d_c n (⟨(⟨d.rules⟩:d_),b,G,H⟩:b_a) G) λa0 a1=>if (!a0) then some ((⟨(⟨[]⟩:Str),0,0,0⟩:y_),false) else some ((⟨path,G,H,a1⟩:y_),true)) ss
   (λj hj i p hi hp=>by
    obtain ⟨y,h1,h2⟩:=r_R hv hd I (show 500<=n by omega) hi hp ss[j]
    simp only [un2,ix_ hj,bd_some,h1]
    cases hs:b_d d.rules b d.rules[i] p ss[j] with
    | none =>
     rw [hs] at h2
     obtain ⟨y1,y2,y3⟩:=y;have h2':y1=false:=h2;subst h2';rfl
    | some x =>
     rw [hs] at h2
     have h2':y=(true,(x.1:Int),(x.2:Int)):=h2
     subst h2';rfl) ss.length 0 (d.rules.length - 1) 0 (by omega) (by omega) (by omega)
  refine Eq.trans this ?_
  rw [List.drop_zero]
  have hf:c_p d b path=(match d_1 d b ss (d.rules.length - 1) 0 with | none=>none | some x=>if (rdW d.rules b x.1 x.2).2.2=0 then some x else none):=by unfold c_p;rw [hsp,iP_ ⟨rfl,hv,I⟩]
  rw [hf]
  cases hs:d_1 d b ss (d.rules.length - 1) 0 with
  | none=>rfl
  | some x =>
   have hx:=j_r hv _ _ _ (by omega) (by omega) x.1 x.2 hs
   simp only [un2]
   have hp:=j_q (n:=n) (i:=(x.1:Int)) hv hd I (by omega) hx.2 (k:=(x.1:Int)) (by omega) (by omega);refine (congrArg (λz=>bd2 z _) hp).trans ?_;unfold rdK
   simp only [bd2_some,tN_]
   by_cases J:(rdW d.rules b x.1 x.2).2.2=0
   .rw [iP_ J,J];rfl
   .rw [iN_ J,show ((rdW d.rules b x.1 x.2).2.2==0)=false by simpa using J];rfl
 .have e:(ok && (N_ d && decide (b.length<=400)))=false:=by
   cases h:(ok && (N_ d && decide (b.length<=400))) with
   | false=>rfl
   | true =>
    simp only [aE_,dE_] at h
    exact absurd h hc
  rw [e,n_v (by rw [hsp];exact hc)]
  rfl
theorem r_S (hd:SmD d){n:Nat}(hn:1048600<=n){path:Str}(hp:path.b.length<=MX):l_Q n d b path=some (d_t d b path):=by
 unfold l_Q
 rw [j_t hd hn hp]
 unfold d_U d_t
 cases hf:c_p d b path with
 | none=>rfl
 | some x =>
  obtain ⟨hv,G,h1,h2,H⟩:=j_s hf;have hl:=b_e hv
  simp only [bd2_some,nT_,bF_,fF_]
  rw [f_4 hv hd G x.1 h1 n (by omega) x.2 h2]
  rfl
theorem l_l (hd:SmD d){n:Nat}(hn:1048600<=n){path:Str}(hp:path.b.length<=MX):f_j n d b path=some ((d_t d b path).1,(match c_p d b path with | some x=>(x.1:Int) | none=>-1),(d_t d b path).2):=by
 unfold f_j
 rw [n_x hd hn hp]
 unfold d_U d_t
 cases hf:c_p d b path with
 | none=>rfl
 | some x =>
  obtain ⟨hv,G,h1,h2,H⟩:=j_s hf
  simp only [bd2_some,nT_,bF_,fF_]
  rw [l_E hd (by omega),j_l hv G h1 h2]
  rfl
theorem r_T (hd:SmD d){n:Nat}(hn:1048600<=n){path:Str}(hp:path.b.length<=MX):g_m n d b path=some (d_t d b path):=by
 unfold g_m
 rw [l_l hd hn hp]
 rfl
end
end Go.Vw
