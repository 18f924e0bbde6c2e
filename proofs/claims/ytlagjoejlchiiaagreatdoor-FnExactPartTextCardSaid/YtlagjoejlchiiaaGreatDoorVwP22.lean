
import Derived.Test.YtlagjoejlchiiaaGreatDoorVwP21
namespace Go.Vw
open Go.RowKit Dat
abbrev zE:a_p:=⟨(⟨[]⟩:Str),0,0,0⟩
section
variable {d:d_}{b:List UInt8}
def c_t (d:d_)(b:List UInt8):List Str->Nat->Nat->Option (Nat×Nat)
 | [],i,p=>some (i,p)
 | s::ss,i,p=>match a_H d.rules b (d.rules.getD i default) p s with
  | none=>none
  | some x=>c_t d b ss x.1 x.2
theorem l_i {i:Nat}(hi:i<d.rules.length):d.rules.getD i default=d.rules[i]:=by simp [hi]
theorem h_x (hv:N_ d=true):∀(ss:List Str)(i p:Nat),i<d.rules.length->p<=b.length->∀k q,c_t d b ss i p=some (k,q)->k<d.rules.length/\q<=b.length
 | [],i,p,hi,hp,k,q,h=>by cases h;exact ⟨hi,hp⟩
 | s::ss,i,p,hi,hp,k,q,h=>by
  unfold c_t at h
  rw [l_i hi] at h
  cases hs:a_H d.rules b d.rules[i] p s with
  | none=>rw [hs] at h;cases h
  | some x =>
   obtain ⟨k',q'⟩:=x
   rw [hs] at h
   have:=l_d hv hi hp hs;exact h_x hv ss k' q' (by omega) this.2 k q h
theorem j_a {ρ:Type}(hv:N_ d=true){body:Nat->Int×Int->Option (Out (Int×Int) ρ)}{g:Int×Int->Option ρ}{bad:ρ}(L:List Str)
  (hb:∀j (hj:j<L.length) (i p:Nat) (hi:i<d.rules.length),p<=b.length->body j ((i:Int),(p:Int))=some (match a_H d.rules b d.rules[i] p L[j] with | some x=>.next ((x.1:Int),(x.2:Int)) | none=>.ret bad)) :
  ∀(m j i p:Nat),j+m=L.length->i<d.rules.length->p<=b.length->bd (r_ body m j ((i:Int),(p:Int))) (el g some)=(match c_t d b (L.drop j) i p with | some x=>g ((x.1:Int),(x.2:Int)) | none=>some bad)
 | 0,j,i,p,hj,hi,hp=>by
  rw [List.drop_eq_nil_of_le (by omega)];rfl
 | m+1,j,i,p,hj,hi,hp=>by
  have hlt:j<L.length:=by omega
  rw [dC_ hlt]
  unfold c_t r_
  rw [l_i hi,hb j hlt i p hi hp]
  cases hs:a_H d.rules b d.rules[i] p L[j] with
  | none=>rfl
  | some x =>
   obtain ⟨k,q⟩:=x;have:=l_d hv hi hp hs;exact j_a hv L hb m (j+1) k q (by omega) (by omega) this.2
def c_1 (d:d_)(b:List UInt8)(path:Str):Option (Nat×Nat) :=
 if (c_L path).2=true/\N_ d=true/\b.length<=400 then (match c_t d b (c_L path).1 (d.rules.length - 1) 0 with
  | none=>none
  | some x=>if (rdW d.rules b x.1 x.2).2.2=0 then some x else none) else none
def d_Z (d:d_)(b:List UInt8)(path:Str):a_p×Bool:=match c_1 d b path with
 | some x=>(⟨path,(x.1:Int),(x.2:Int),((rdW d.rules b x.1 x.2).2.1:Int)⟩,true)
 | none=>(zE,false)
def e_z (d:d_)(b:List UInt8)(path:Str):Val×Bool:=match c_1 d b path with
 | some x=>((rdW d.rules b x.1 x.2).1,true)
 | none=>(zV,false)
theorem j_b {path:Str}{x:Nat×Nat}(h:c_1 d b path=some x):N_ d=true/\b.length<=400/\x.1<d.rules.length/\x.2<=b.length/\(rdW d.rules b x.1 x.2).2.2=0:=by
 unfold c_1 at h
 split at h
 ·rename_i hc
  have hl:=b_R hc.2.1
  cases hs:c_t d b (c_L path).1 (d.rules.length - 1) 0 with
  | none=>rw [hs] at h;cases h
  | some y =>
   rw [hs] at h
   simp only at h
   split at h
   ·rename_i G
    cases h
    have:=h_x hc.2.1 _ _ _ (by omega) (by omega) x.1 x.2 hs;exact ⟨hc.2.1,hc.2.2,this.1,this.2,G⟩
   ·cases h
 ·cases h
theorem l_j {path:Str}(h:¬((c_L path).2=true/\N_ d=true/\b.length<=400)):c_1 d b path=none:=iN_ h
theorem l_k {a v:Bool}{l:Nat}:(if (!a)=true then some true else if (!v)=true then some true else some (decide<|(400:Int)<(l:Int)))=some (!(a && (v && decide (l<=400)))):=by
 have e:decide ((400:Int)<(l:Int)) = !decide (l<=400):=by
  by_cases h:l<=400
  ·rw [dT_ h,dF_ (by omega)];rfl
  ·rw [dF_ h,dT_ (by omega)];rfl
 rw [e]
 cases a <;> cases v <;> rfl
theorem l_l (hd:SmD d){n:Nat}(hn:1048600<=n){path:Str}(hp:path.b.length<=MX):e_O n d b path=some (d_Z d b path):=by
 have hMX:=MXv;unfold e_O d_Z
 rw [o_v (by omega) hp (by omega)]
 rcases hsp:c_L path with ⟨ss,ok⟩
 simp only [bd2_some,k_U d hd,bd_some]
 rw [l_k,bd_some]
 by_cases hc:ok=true/\N_ d=true/\b.length<=400
 ·obtain ⟨rfl,hv,I⟩:=hc
  rw [hv,dT_ I]
  simp only [Bool.and_self,nT_,bF_,fF_]
  have hl:=b_R hv
  rw [p_u hd,bd_some,show d_x d=((d.rules.length - 1:Nat):Int) by unfold d_x;omega]
  have hlen:=hd
  have:=j_a (b:=b) (bad:=((⟨(⟨[]⟩:Str),0,0,0⟩:a_p),false)) hv (body:=(fun L=>un2 fun G H=>bd (idx ss ((L:Nat):Int)) fun O=>bd3 (d_E n d G b H O) fun V W Y=>if (!Y)=true then some (.ret ((⟨(⟨[]⟩:Str),0,0,0⟩:a_p),false)) else some (.next (V,W))))
   (g:=un2 fun G H=>bd3 (d_D n d G b H) fun a2 a0 a1=>if (a1 != 0)=true then some ((⟨(⟨[]⟩:Str),0,0,0⟩:a_p),false) else some ((⟨path,G,H,a0⟩:a_p),true)) ss
   (fun j hj i p hi hp=>by
    simp only [un2,ix_ hj,bd_some,o_J hv hd I (show 1000<=n by omega) hi hp]
    cases a_H d.rules b d.rules[i] p ss[j] <;> rfl) ss.length 0 (d.rules.length - 1) 0 (by omega) (by omega) (by omega)
  refine Eq.trans this ?_
  rw [List.drop_zero]
  have hf:c_1 d b path=(match c_t d b ss (d.rules.length - 1) 0 with | none=>none | some x=>if (rdW d.rules b x.1 x.2).2.2=0 then some x else none):=by unfold c_1;rw [hsp,iP_ ⟨rfl,hv,I⟩]
  rw [hf]
  cases hs:c_t d b ss (d.rules.length - 1) 0 with
  | none=>rfl
  | some x =>
   have hx:=h_x hv _ _ _ (by omega) (by omega) x.1 x.2 hs
   simp only [un2]
   rw [j_g hv hd I x.1 hx.1 n (by omega) x.2 hx.2]
   unfold b_S
   simp only [bd3_some]
   by_cases J:(rdW d.rules b x.1 x.2).2.2=0
   ·rw [iP_ J,J];rfl
   ·rw [iN_ J,iP_ (by simpa using J)]
 ·have e:(ok && (N_ d && decide (b.length<=400)))=false:=by
   cases h:(ok && (N_ d && decide (b.length<=400))) with
   | false=>rfl
   | true =>
    simp only [aE_,dE_] at h
    exact absurd h hc
  rw [e,l_j (by rw [hsp];exact hc)]
  rfl
theorem o_Q (hd:SmD d){n:Nat}(hn:1048600<=n){path:Str}(hp:path.b.length<=MX):g_q n d b path=some (d_Z d b path):=by
 have hMX:=MXv;unfold g_q d_Z
 rw [o_E (by omega) hp]
 rcases hsp:c_L path with ⟨ss,ok⟩
 simp only [bd2_some,k_T n (by omega) d hd,bd_some]
 rw [l_k,bd_some]
 by_cases hc:ok=true/\N_ d=true/\b.length<=400
 ·obtain ⟨rfl,hv,I⟩:=hc
  rw [hv,dT_ I]
  simp only [Bool.and_self,nT_,bF_,fF_]
  have hl:=b_R hv
  rw [p_t hd,bd_some,show d_x d=((d.rules.length - 1:Nat):Int) by unfold d_x;omega]
  have:=j_a (b:=b) (bad:=((⟨(⟨[]⟩:Str),0,0,0⟩:a_p),false)) hv (body:=(fun L=>un2 fun G H=>bd (idx ss ((L:Nat):Int)) fun O=>bd3 (e_W n (⟨(⟨d.rules⟩:d_),b,G,H⟩:a_G) O) fun V W Y=>if (!V)=true then some (.ret ((⟨(⟨[]⟩:Str),0,0,0⟩:a_p),false)) else some (.next (W,Y))))
   (g:=un2 fun G H=>bd2 (c_z n (⟨(⟨d.rules⟩:d_),b,G,H⟩:a_G) G) fun a0 a1=>if (!a0)=true then some ((⟨(⟨[]⟩:Str),0,0,0⟩:a_p),false) else some ((⟨path,G,H,a1⟩:a_p),true)) ss
   (fun j hj i p hi hp=>by
    obtain ⟨y,h1,h2⟩:=o_P hv hd I (show 500<=n by omega) hi hp ss[j]
    simp only [un2,ix_ hj,bd_some,h1]
    cases hs:a_H d.rules b d.rules[i] p ss[j] with
    | none =>
     rw [hs] at h2
     obtain ⟨y1,y2,y3⟩:=y;have h2':y1=false:=h2;subst h2';rfl
    | some x =>
     rw [hs] at h2
     have h2':y=(true,(x.1:Int),(x.2:Int)):=h2
     subst h2';rfl) ss.length 0 (d.rules.length - 1) 0 (by omega) (by omega) (by omega)
  refine Eq.trans this ?_
  rw [List.drop_zero]
  have hf:c_1 d b path=(match c_t d b ss (d.rules.length - 1) 0 with | none=>none | some x=>if (rdW d.rules b x.1 x.2).2.2=0 then some x else none):=by unfold c_1;rw [hsp,iP_ ⟨rfl,hv,I⟩]
  rw [hf]
  cases hs:c_t d b ss (d.rules.length - 1) 0 with
  | none=>rfl
  | some x =>
   have hx:=h_x hv _ _ _ (by omega) (by omega) x.1 x.2 hs
   simp only [un2]
   have hp:=h_w (n:=n) (i:=(x.1:Int)) hv hd I (by omega) hx.2 (k:=(x.1:Int)) (by omega) (by omega);refine (congrArg (fun z=>bd2 z _) hp).trans ?_;unfold rdK
   simp only [bd2_some,tN_]
   by_cases J:(rdW d.rules b x.1 x.2).2.2=0
   ·rw [iP_ J,J];rfl
   ·rw [iN_ J,show ((rdW d.rules b x.1 x.2).2.2==0)=false by simpa using J];rfl
 ·have e:(ok && (N_ d && decide (b.length<=400)))=false:=by
   cases h:(ok && (N_ d && decide (b.length<=400))) with
   | false=>rfl
   | true =>
    simp only [aE_,dE_] at h
    exact absurd h hc
  rw [e,l_j (by rw [hsp];exact hc)]
  rfl
theorem o_R (hd:SmD d){n:Nat}(hn:1048600<=n){path:Str}(hp:path.b.length<=MX):g_C n d b path=some (e_z d b path):=by
 unfold g_C
 rw [l_l hd hn hp]
 unfold d_Z e_z
 cases hf:c_1 d b path with
 | none=>rfl
 | some x =>
  obtain ⟨hv,G,h1,h2,H⟩:=j_b hf;have hl:=b_R hv
  simp only [bd2_some,nT_,bF_,fF_]
  rw [j_g hv hd G x.1 h1 n (by omega) x.2 h2]
  rfl
theorem o_S (hd:SmD d){n:Nat}(hn:1048600<=n){path:Str}(hp:path.b.length<=MX):g_D n d b path=some ((e_z d b path).1,(match c_1 d b path with | some x=>(x.1:Int) | none=>-1),(e_z d b path).2):=by
 unfold g_D
 rw [o_Q hd hn hp]
 unfold d_Z e_z
 cases hf:c_1 d b path with
 | none=>rfl
 | some x =>
  obtain ⟨hv,G,h1,h2,H⟩:=j_b hf
  simp only [bd2_some,nT_,bF_,fF_]
  rw [p_r hd (by omega),l_1 hv G h1 h2]
  rfl
end
end Go.Vw
