
import Derived.Test.YtcaidakkhpmcjaaGreatDoorVwP21
namespace Go.Vw
open Go.RowKit Dat
abbrev zE:k_:=⟨(⟨[]⟩:Str),0,0,0⟩
section
variable {d:b_}{b:List UInt8}
def c_B (d:b_)(b:List UInt8):List Str->Nat->Nat->Option (Nat×Nat)
 | [],i,p=>some (i,p)
 | s::ss,i,p=>match a_Q d.rules b (d.rules.getD i default) p s with
  | none=>none
  | some x=>c_B d b ss x.1 x.2
theorem m_S {i:Nat}(hi:i<d.rules.length):d.rules.getD i default=d.rules[i]:=by simp [hi]
theorem i_T (hv:F_ d=true):∀(ss:List Str)(i p:Nat),i<d.rules.length->p<=b.length->∀k q,c_B d b ss i p=some (k,q)->k<d.rules.length/\q<=b.length
 | [],i,p,hi,hp,k,q,h=>by cases h;exact ⟨hi,hp⟩
 | s::ss,i,p,hi,hp,k,q,h=>by
  unfold c_B at h
  rw [m_S hi] at h
  cases hs:a_Q d.rules b d.rules[i] p s with
  | none=>rw [hs] at h;cases h
  | some x =>
   obtain ⟨k',q'⟩:=x
   rw [hs] at h
   have:=m_N hv hi hp hs;exact i_T hv ss k' q' (by omega) this.2 k q h
theorem k_M {ρ:Type}(hv:F_ d=true){body:Nat->Int×Int->Option (Out (Int×Int) ρ)}{g:Int×Int->Option ρ}{bad:ρ}(L:List Str)
  (hb:∀j (hj:j<L.length) (i p:Nat) (hi:i<d.rules.length),p<=b.length->body j ((i:Int),(p:Int))=some (match a_Q d.rules b d.rules[i] p L[j] with | some x=>.next ((x.1:Int),(x.2:Int)) | none=>.ret bad)) :
  ∀(m j i p:Nat),j+m=L.length->i<d.rules.length->p<=b.length->bd (v_ body m j ((i:Int),(p:Int))) (el g some)=(match c_B d b (L.drop j) i p with | some x=>g ((x.1:Int),(x.2:Int)) | none=>some bad)
 | 0,j,i,p,hj,hi,hp=>by
  rw [List.drop_eq_nil_of_le (by omega)];rfl
 | m+1,j,i,p,hj,hi,hp=>by
  have hlt:j<L.length:=by omega
  rw [dC_ hlt]
  unfold c_B v_
  rw [m_S hi,hb j hlt i p hi hp]
  cases hs:a_Q d.rules b d.rules[i] p L[j] with
  | none=>rfl
  | some x =>
   obtain ⟨k,q⟩:=x;have:=m_N hv hi hp hs;exact k_M hv L hb m (j+1) k q (by omega) (by omega) this.2
def b_Z (d:b_)(b:List UInt8)(path:Str):Option (Nat×Nat) :=
 if (c_h path).2=true/\F_ d=true/\b.length<=400 then (match c_B d b (c_h path).1 (d.rules.length - 1) 0 with
  | none=>none
  | some x=>if (rdW d.rules b x.1 x.2).2.2=0 then some x else none) else none
def d_s (d:b_)(b:List UInt8)(path:Str):k_×Bool:=match b_Z d b path with
 | some x=>(⟨path,(x.1:Int),(x.2:Int),((rdW d.rules b x.1 x.2).2.1:Int)⟩,true)
 | none=>(zE,false)
def d_X (d:b_)(b:List UInt8)(path:Str):Val×Bool:=match b_Z d b path with
 | some x=>((rdW d.rules b x.1 x.2).1,true)
 | none=>(zV,false)
theorem k_N {path:Str}{x:Nat×Nat}(h:b_Z d b path=some x):F_ d=true/\b.length<=400/\x.1<d.rules.length/\x.2<=b.length/\(rdW d.rules b x.1 x.2).2.2=0:=by
 unfold b_Z at h
 split at h
 ·rename_i hc
  have hl:=a_O hc.2.1
  cases hs:c_B d b (c_h path).1 (d.rules.length - 1) 0 with
  | none=>rw [hs] at h;cases h
  | some y =>
   rw [hs] at h
   simp only at h
   split at h
   ·rename_i G
    cases h
    have:=i_T hc.2.1 _ _ _ (by omega) (by omega) x.1 x.2 hs;exact ⟨hc.2.1,hc.2.2,this.1,this.2,G⟩
   ·cases h
 ·cases h
theorem m_T {path:Str}(h:¬((c_h path).2=true/\F_ d=true/\b.length<=400)):b_Z d b path=none:=iN_ h
theorem m_U {a v:Bool}{l:Nat}:(if (!a)=true then some true else if (!v)=true then some true else some (decide<|(400:Int)<(l:Int)))=some (!(a && (v && decide (l<=400)))):=by
 have e:decide ((400:Int)<(l:Int)) = !decide (l<=400):=by
  by_cases h:l<=400
  ·rw [dT_ h,dF_ (by omega)];rfl
  ·rw [dF_ h,dT_ (by omega)];rfl
 rw [e]
 cases a <;> cases v <;> rfl
theorem i_U (hd:SmD d){n:Nat}(hn:1048600<=n){path:Str}(hp:path.b.length<=MX):e_8 n d b path=some (d_s d b path):=by
 have hMX:=MXv;unfold e_8 d_s
 rw [k_A (by omega) hp (by omega)]
 rcases hsp:c_h path with ⟨ss,ok⟩
 simp only [bd2_some,k_u d hd,bd_some]
 rw [m_U,bd_some]
 by_cases hc:ok=true/\F_ d=true/\b.length<=400
 ·obtain ⟨rfl,hv,I⟩:=hc
  rw [hv,dT_ I]
  simp only [Bool.and_self,nT_,bF_,fF_]
  have hl:=a_O hv
  rw [g_H hd,bd_some,show a_Y d=((d.rules.length - 1:Nat):Int) by unfold a_Y;omega]
  have hlen:=hd
  have:=k_M (b:=b) (bad:=((⟨(⟨[]⟩:Str),0,0,0⟩:k_),false)) hv (body:=(fun L=>un2 fun G H=>bd (idx ss ((L:Nat):Int)) fun O=>bd3 (c_q n d G b H O) fun V W Y=>if (!Y)=true then some (.ret ((⟨(⟨[]⟩:Str),0,0,0⟩:k_),false)) else some (.next (V,W))))
   (g:=un2 fun G H=>bd3 (d_b n d G b H) fun a2 a0 a1=>if (a1 != 0)=true then some ((⟨(⟨[]⟩:Str),0,0,0⟩:k_),false) else some ((⟨path,G,H,a0⟩:k_),true)) ss
   (fun j hj i p hi hp=>by
    simp only [un2,ix_ hj,bd_some,q_T hv hd I (show 1000<=n by omega) hi hp]
    cases a_Q d.rules b d.rules[i] p ss[j] <;> rfl) ss.length 0 (d.rules.length - 1) 0 (by omega) (by omega) (by omega)
  refine Eq.trans this ?_
  rw [List.drop_zero]
  have hf:b_Z d b path=(match c_B d b ss (d.rules.length - 1) 0 with | none=>none | some x=>if (rdW d.rules b x.1 x.2).2.2=0 then some x else none):=by unfold b_Z;rw [hsp,iP_ ⟨rfl,hv,I⟩]
  rw [hf]
  cases hs:c_B d b ss (d.rules.length - 1) 0 with
  | none=>rfl
  | some x =>
   have hx:=i_T hv _ _ _ (by omega) (by omega) x.1 x.2 hs
   simp only [un2]
   rw [e_A hv hd I x.1 hx.1 n (by omega) x.2 hx.2]
   unfold b_5
   simp only [bd3_some]
   by_cases J:(rdW d.rules b x.1 x.2).2.2=0
   ·rw [iP_ J,J];rfl
   ·rw [iN_ J,iP_ (by simpa using J)]
 ·have e:(ok && (F_ d && decide (b.length<=400)))=false:=by
   cases h:(ok && (F_ d && decide (b.length<=400))) with
   | false=>rfl
   | true =>
    simp only [aE_,dE_] at h
    exact absurd h hc
  rw [e,m_T (by rw [hsp];exact hc)]
  rfl
theorem m_V (hd:SmD d){n:Nat}(hn:1048600<=n){path:Str}(hp:path.b.length<=MX):f_N n d b path=some (d_s d b path):=by
 have hMX:=MXv;unfold f_N d_s
 rw [m_F (by omega) hp]
 rcases hsp:c_h path with ⟨ss,ok⟩
 simp only [bd2_some,m_j n (by omega) d hd,bd_some]
 rw [m_U,bd_some]
 by_cases hc:ok=true/\F_ d=true/\b.length<=400
 ·obtain ⟨rfl,hv,I⟩:=hc
  rw [hv,dT_ I]
  simp only [Bool.and_self,nT_,bF_,fF_]
  have hl:=a_O hv
  rw [j_1 hd,bd_some,show a_Y d=((d.rules.length - 1:Nat):Int) by unfold a_Y;omega]
  have:=k_M (b:=b) (bad:=((⟨(⟨[]⟩:Str),0,0,0⟩:k_),false)) hv (body:=(fun L=>un2 fun G H=>bd (idx ss ((L:Nat):Int)) fun O=>bd3 (f_M n (⟨(⟨d.rules⟩:b_),b,G,H⟩:a_P) O) fun V W Y=>if (!V)=true then some (.ret ((⟨(⟨[]⟩:Str),0,0,0⟩:k_),false)) else some (.next (W,Y))))
   (g:=un2 fun G H=>bd2 (c_K n (⟨(⟨d.rules⟩:b_),b,G,H⟩:a_P) G) fun a0 a1=>if (!a0)=true then some ((⟨(⟨[]⟩:Str),0,0,0⟩:k_),false) else some ((⟨path,G,H,a1⟩:k_),true)) ss
   (fun j hj i p hi hp=>by
    obtain ⟨y,h1,h2⟩:=q_Z hv hd I (show 500<=n by omega) hi hp ss[j]
    simp only [un2,ix_ hj,bd_some,h1]
    cases hs:a_Q d.rules b d.rules[i] p ss[j] with
    | none =>
     rw [hs] at h2
     obtain ⟨y1,y2,y3⟩:=y;have h2':y1=false:=h2;subst h2';rfl
    | some x =>
     rw [hs] at h2
     have h2':y=(true,(x.1:Int),(x.2:Int)):=h2
     subst h2';rfl) ss.length 0 (d.rules.length - 1) 0 (by omega) (by omega) (by omega)
  refine Eq.trans this ?_
  rw [List.drop_zero]
  have hf:b_Z d b path=(match c_B d b ss (d.rules.length - 1) 0 with | none=>none | some x=>if (rdW d.rules b x.1 x.2).2.2=0 then some x else none):=by unfold b_Z;rw [hsp,iP_ ⟨rfl,hv,I⟩]
  rw [hf]
  cases hs:c_B d b ss (d.rules.length - 1) 0 with
  | none=>rfl
  | some x =>
   have hx:=i_T hv _ _ _ (by omega) (by omega) x.1 x.2 hs
   simp only [un2]
   have hp:=i_S (n:=n) (i:=(x.1:Int)) hv hd I (by omega) hx.2 (k:=(x.1:Int)) (by omega) (by omega);refine (congrArg (fun z=>bd2 z _) hp).trans ?_;unfold rdK
   simp only [bd2_some,tN_]
   by_cases J:(rdW d.rules b x.1 x.2).2.2=0
   ·rw [iP_ J,J];rfl
   ·rw [iN_ J,show ((rdW d.rules b x.1 x.2).2.2==0)=false by simpa using J];rfl
 ·have e:(ok && (F_ d && decide (b.length<=400)))=false:=by
   cases h:(ok && (F_ d && decide (b.length<=400))) with
   | false=>rfl
   | true =>
    simp only [aE_,dE_] at h
    exact absurd h hc
  rw [e,m_T (by rw [hsp];exact hc)]
  rfl
theorem r_0 (hd:SmD d){n:Nat}(hn:1048600<=n){path:Str}(hp:path.b.length<=MX):h_E n d b path=some (d_X d b path):=by
 unfold h_E
 rw [i_U hd hn hp]
 unfold d_s d_X
 cases hf:b_Z d b path with
 | none=>rfl
 | some x =>
  obtain ⟨hv,G,h1,h2,H⟩:=k_N hf;have hl:=a_O hv
  simp only [bd2_some,nT_,bF_,fF_]
  rw [e_A hv hd G x.1 h1 n (by omega) x.2 h2]
  rfl
theorem r_1 (hd:SmD d){n:Nat}(hn:1048600<=n){path:Str}(hp:path.b.length<=MX):h_F n d b path=some ((d_X d b path).1,(match b_Z d b path with | some x=>(x.1:Int) | none=>-1),(d_X d b path).2):=by
 unfold h_F
 rw [m_V hd hn hp]
 unfold d_s d_X
 cases hf:b_Z d b path with
 | none=>rfl
 | some x =>
  obtain ⟨hv,G,h1,h2,H⟩:=k_N hf
  simp only [bd2_some,nT_,bF_,fF_]
  rw [n_j hd (by omega),m_B hv G h1 h2]
  rfl
theorem r_2 (hd:SmD d){n:Nat}(hn:1048600<=n){path:Str}(hp:path.b.length<=MX):h_G n d b path=some (d_X d b path):=by
 unfold h_G
 rw [r_1 hd hn hp]
 rfl
end
end Go.Vw
