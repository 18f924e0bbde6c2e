
import Derived.Test.YtllmonllbkaflaaGreatDoorVb
namespace Go.Vw
open Go.RowKit Dat
abbrev zE:g_:=⟨(⟨[]⟩:Str),0,0,0⟩
section
variable {d:c_}{b:Bt}
def d_u (d:c_)(b:Bt):List Str->Nat->Nat->Option (Nat×Nat)
 | [],i,p=>some (i,p)
 | s::ss,i,p=>match b_l d.rules b (d.rules.getD i default) p s with
  | none=>none
  | some x=>d_u d b ss x.1 x.2
theorem o_u {i:Nat}(hi:i<d.rules.length):d.rules.getD i default=d.rules[i]:=by simp [hi]
theorem k_l (hv:D_ d=true):∀(ss:List Str)(i p:Nat),i<d.rules.length->p<=b.length->∀k q,d_u d b ss i p=some (k,q)->k<d.rules.length/\q<=b.length
 | [],i,p,hi,hp,k,q,h=>by cases h;exact ⟨hi,hp⟩
 | s::ss,i,p,hi,hp,k,q,h=>by
  unfold d_u at h
  rw [o_u hi] at h
  cases hs:b_l d.rules b d.rules[i] p s with
  | none=>rw [hs] at h;cases h
  | some x =>
   obtain ⟨k',q'⟩:=x
   rw [hs] at h
   have:=o_p hv hi hp hs;exact k_l hv ss k' q' (by omega) this.2 k q h
theorem m_g {ρ:Type}(hv:D_ d=true){body:Nat->Int×Int->Option (Out (Int×Int) ρ)}{g:Int×Int->Option ρ}{bad:ρ}(L:List Str)
  (hb:∀j (hj:j<L.length) (i p:Nat) (hi:i<d.rules.length),p<=b.length->body j ((i:Int),(p:Int))=some (match b_l d.rules b d.rules[i] p L[j] with | some x=>.next ((x.1:Int),(x.2:Int)) | none=>.ret bad)) :
  ∀(m j i p:Nat),j+m=L.length->i<d.rules.length->p<=b.length->bd (p_ body m j ((i:Int),(p:Int))) (el g some)=(match d_u d b (L.drop j) i p with | some x=>g ((x.1:Int),(x.2:Int)) | none=>some bad)
 | 0,j,i,p,hj,hi,hp=>by
  rw [List.drop_eq_nil_of_le (by omega)];rfl
 | m+1,j,i,p,hj,hi,hp=>by
  have hlt:j<L.length:=by omega
  rw [dC_ hlt]
  unfold d_u p_
  rw [o_u hi,hb j hlt i p hi hp]
  cases hs:b_l d.rules b d.rules[i] p L[j] with
  | none=>rfl
  | some x =>
   obtain ⟨k,q⟩:=x;have:=o_p hv hi hp hs;exact m_g hv L hb m (j+1) k q (by omega) (by omega) this.2
def c_p (d:c_)(b:Bt)(path:Str):Option (Nat×Nat) :=
 if (b_t path).2=true/\D_ d=true/\b.length<=400 then (match d_u d b (b_t path).1 (d.rules.length - 1) 0 with
  | none=>none
  | some x=>if (rdW d.rules b x.1 x.2).2.2=0 then some x else none) else none
def d_Z (d:c_)(b:Bt)(path:Str):g_×Bool:=match c_p d b path with
 | some x=>(⟨path,(x.1:Int),(x.2:Int),((rdW d.rules b x.1 x.2).2.1:Int)⟩,true)
 | none=>(zE,false)
def e_r (d:c_)(b:Bt)(path:Str):Val×Bool:=match c_p d b path with
 | some x=>((rdW d.rules b x.1 x.2).1,true)
 | none=>(zV,false)
theorem i_g {path:Str}{x:Nat×Nat}(h:c_p d b path=some x):D_ d=true/\b.length<=400/\x.1<d.rules.length/\x.2<=b.length/\(rdW d.rules b x.1 x.2).2.2=0:=by
 unfold c_p at h
 split at h
 .rename_i hc
  have hl:=b_f hc.2.1
  cases hs:d_u d b (b_t path).1 (d.rules.length - 1) 0 with
  | none=>rw [hs] at h;cases h
  | some y =>
   rw [hs] at h
   simp only at h
   split at h
   .rename_i G
    cases h
    have:=k_l hc.2.1 _ _ _ (by omega) (by omega) x.1 x.2 hs;exact ⟨hc.2.1,hc.2.2,this.1,this.2,G⟩
   .cases h
 .cases h
theorem o_v {path:Str}(h:¬((b_t path).2=true/\D_ d=true/\b.length<=400)):c_p d b path=none:=iN_ h
theorem o_w {a v:Bool}{l:Nat}:(if (!a) then some true else if (!v) then some true else some (decide<|(400:Int)<(l:Int)))=some (!(a && (v && decide (l<=400)))):=by
 have e:decide ((400:Int)<(l:Int)) = !decide (l<=400):=by
  by_cases h:l<=400
  .rw [dT_ h,dF_ (by omega)];rfl
  .rw [dF_ h,dT_ (by omega)];rfl
 rw [e]
 cases a <;> cases v <;> rfl
theorem g_7 (hd:SmD d){n:Nat}(hn:1048600<=n){path:Str}(hp:path.b.length<=MX):f_g n d b path=some (d_Z d b path):=by
 have hMX:=MXv;unfold f_g d_Z
 rw [k_e (by omega) hp (by omega)]
 rcases hsp:b_t path with ⟨ss,ok⟩
 simp only [bd2_some,m_1 d hd,bd_some]
 rw [o_w,bd_some]
 by_cases hc:ok=true/\D_ d=true/\b.length<=400
 .obtain ⟨rfl,hv,I⟩:=hc
  rw [hv,dT_ I]
  simp only [Bool.and_self,nT_,bF_,fF_]
  have hl:=b_f hv
  rw [k_C hd,bd_some,show b_r d=((d.rules.length - 1:Nat):Int) by unfold b_r;omega]
  have hlen:=hd
  have:=m_g (b:=b) (bad:=((⟨(⟨[]⟩:Str),0,0,0⟩:g_),false)) hv (body:=(λL=>un2 λG H=>bd (idx ss ((L:Nat):Int)) λO=>bd3 (d_g n d G b H O) λV W Y=>if (!Y) then some (.ret ((⟨(⟨[]⟩:Str),0,0,0⟩:g_),false)) else some (.next (V,W))))
   (g:=un2 λG H=>bd3 (e_7 n d G b H) λa2 a0 a1=>if (a1 != 0) then some ((⟨(⟨[]⟩:Str),0,0,0⟩:g_),false) else some ((⟨path,G,H,a0⟩:g_),true)) ss
   (λj hj i p hi hp=>by
    simp only [un2,ix_ hj,bd_some,t_d hv hd I (show 1000<=n by omega) hi hp]
    cases b_l d.rules b d.rules[i] p ss[j] <;> rfl) ss.length 0 (d.rules.length - 1) 0 (by omega) (by omega) (by omega)
  refine Eq.trans this ?_
  rw [List.drop_zero]
  have hf:c_p d b path=(match d_u d b ss (d.rules.length - 1) 0 with | none=>none | some x=>if (rdW d.rules b x.1 x.2).2.2=0 then some x else none):=by unfold c_p;rw [hsp,iP_ ⟨rfl,hv,I⟩]
  rw [hf]
  cases hs:d_u d b ss (d.rules.length - 1) 0 with
  | none=>rfl
  | some x =>
   have hx:=k_l hv _ _ _ (by omega) (by omega) x.1 x.2 hs
   simp only [un2]
   rw [g_c hv hd I x.1 hx.1 n (by omega) x.2 hx.2]
   unfold b_p
   simp only [bd3_some]
   by_cases J:(rdW d.rules b x.1 x.2).2.2=0
   .rw [iP_ J,J];rfl
   .rw [iN_ J,iP_ (by simpa using J)]
 .have e:(ok && (D_ d && decide (b.length<=400)))=false:=by
   cases h:(ok && (D_ d && decide (b.length<=400))) with
   | false=>rfl
   | true =>
    simp only [aE_,dE_] at h
    exact absurd h hc
  rw [e,o_v (by rw [hsp];exact hc)]
  rfl
theorem t_k (hd:SmD d){n:Nat}(hn:1048600<=n){path:Str}(hp:path.b.length<=MX):m_S n d b path=some (d_Z d b path):=by
 have hMX:=MXv;unfold m_S d_Z
 rw [o_g (by omega) hp]
 rcases hsp:b_t path with ⟨ss,ok⟩
 simp only [bd2_some,n_W n (by omega) d hd,bd_some]
 rw [o_w,bd_some]
 by_cases hc:ok=true/\D_ d=true/\b.length<=400
 .obtain ⟨rfl,hv,I⟩:=hc
  rw [hv,dT_ I]
  simp only [Bool.and_self,nT_,bF_,fF_]
  have hl:=b_f hv
  rw [m_B hd,bd_some,show b_r d=((d.rules.length - 1:Nat):Int) by unfold b_r;omega]
  have:=m_g (b:=b) (bad:=((⟨(⟨[]⟩:Str),0,0,0⟩:g_),false)) hv (body:=(λL=>un2 λG H=>bd (idx ss ((L:Nat):Int)) λO=>bd3 (k_M n (⟨(⟨d.rules⟩:c_),b,G,H⟩:c_h) O) λV W Y=>if (!V) then some (.ret ((⟨(⟨[]⟩:Str),0,0,0⟩:g_),false)) else some (.next (W,Y))))
   (g:=un2 λG H=>bd2 (e_D n (⟨(⟨d.rules⟩:c_),b,G,H⟩:c_h) G) λa0 a1=>if (!a0) then some ((⟨(⟨[]⟩:Str),0,0,0⟩:g_),false) else some ((⟨path,G,H,a1⟩:g_),true)) ss
   (λj hj i p hi hp=>by
    obtain ⟨y,h1,h2⟩:=t_j hv hd I (show 500<=n by omega) hi hp ss[j]
    simp only [un2,ix_ hj,bd_some,h1]
    cases hs:b_l d.rules b d.rules[i] p ss[j] with
    | none =>
     rw [hs] at h2
     obtain ⟨y1,y2,y3⟩:=y;have h2':y1=false:=h2;subst h2';rfl
    | some x =>
     rw [hs] at h2
     have h2':y=(true,(x.1:Int),(x.2:Int)):=h2
     subst h2';rfl) ss.length 0 (d.rules.length - 1) 0 (by omega) (by omega) (by omega)
  refine Eq.trans this ?_
  rw [List.drop_zero]
  have hf:c_p d b path=(match d_u d b ss (d.rules.length - 1) 0 with | none=>none | some x=>if (rdW d.rules b x.1 x.2).2.2=0 then some x else none):=by unfold c_p;rw [hsp,iP_ ⟨rfl,hv,I⟩]
  rw [hf]
  cases hs:d_u d b ss (d.rules.length - 1) 0 with
  | none=>rfl
  | some x =>
   have hx:=k_l hv _ _ _ (by omega) (by omega) x.1 x.2 hs
   simp only [un2]
   have hp:=k_k (n:=n) (i:=(x.1:Int)) hv hd I (by omega) hx.2 (k:=(x.1:Int)) (by omega) (by omega);refine (congrArg (λz=>bd2 z _) hp).trans ?_;unfold rdK
   simp only [bd2_some,tN_]
   by_cases J:(rdW d.rules b x.1 x.2).2.2=0
   .rw [iP_ J,J];rfl
   .rw [iN_ J,show ((rdW d.rules b x.1 x.2).2.2==0)=false by simpa using J];rfl
 .have e:(ok && (D_ d && decide (b.length<=400)))=false:=by
   cases h:(ok && (D_ d && decide (b.length<=400))) with
   | false=>rfl
   | true =>
    simp only [aE_,dE_] at h
    exact absurd h hc
  rw [e,o_v (by rw [hsp];exact hc)]
  rfl
theorem k_m (hd:SmD d){n:Nat}(hn:1048600<=n){path:Str}(hp:path.b.length<=MX):j_6 n d b path=some (e_r d b path):=by
 unfold j_6
 rw [g_7 hd hn hp]
 unfold d_Z e_r
 cases hf:c_p d b path with
 | none=>rfl
 | some x =>
  obtain ⟨hv,G,h1,h2,H⟩:=i_g hf;have hl:=b_f hv
  simp only [bd2_some,nT_,bF_,fF_]
  rw [g_c hv hd G x.1 h1 n (by omega) x.2 h2]
  rfl
theorem o_x (hd:SmD d){n:Nat}(hn:1048600<=n){path:Str}(hp:path.b.length<=MX):m_T n d b path=some ((e_r d b path).1,(match c_p d b path with | some x=>(x.1:Int) | none=>-1),(e_r d b path).2):=by
 unfold m_T
 rw [t_k hd hn hp]
 unfold d_Z e_r
 cases hf:c_p d b path with
 | none=>rfl
 | some x =>
  obtain ⟨hv,G,h1,h2,H⟩:=i_g hf
  simp only [bd2_some,nT_,bF_,fF_]
  rw [m_A hd (by omega),m_7 hv G h1 h2]
  rfl
end
end Go.Vw
