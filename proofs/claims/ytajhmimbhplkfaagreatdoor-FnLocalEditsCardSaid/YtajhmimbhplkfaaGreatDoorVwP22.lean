
import Derived.Test.YtajhmimbhplkfaaGreatDoorVwP21
set_option linter.unusedVariables false
namespace Go.Vw
open Go.RowKit Dat
abbrev zE:K_:=⟨(⟨[]⟩:Str),0,0,0⟩
section
variable {d:f_} {b:List UInt8}
def b_U (d:f_) (b:List UInt8):List Str→Nat→Nat→Option (Nat×Nat)
 | [],i,p=>some (i,p)
 | s::ss,i,p=>match a_N d.rules b (d.rules.getD i default) p s with
  | none=>none
  | some x=>b_U d b ss x.1 x.2
theorem k_1 {i:Nat} (hi:i<d.rules.length):d.rules.getD i default=d.rules[i]:=by simp [hi]
theorem i_m (hv:S_ d=true) : ∀ (ss:List Str) (i p:Nat),i<d.rules.length→p≤b.length → ∀ k q,b_U d b ss i p=some (k,q)→k<d.rules.length∧q≤b.length
 | [],i,p,hi,hp,k,q,h=>by cases h;exact ⟨hi,hp⟩
 | s::ss,i,p,hi,hp,k,q,h=>by
  unfold b_U at h
  rw [k_1 hi] at h
  cases hs:a_N d.rules b d.rules[i] p s with
  | none=>rw [hs] at h;cases h
  | some x =>
   obtain ⟨k',q'⟩:=x
   rw [hs] at h
   have:=j_Z hv hi hp hs;exact i_m hv ss k' q' (by omega) this.2 k q h
theorem k_2 {ρ:Type} (hv:S_ d=true) {body:Nat→Int×Int→Option (Out (Int×Int) ρ)} {g:Int×Int→Option ρ} {bad:ρ} (L:List Str)
  (hb : ∀ j (hj:j<L.length) (i p:Nat) (hi:i<d.rules.length),p≤b.length→body j ((i:Int),(p:Int))=some (match a_N d.rules b d.rules[i] p L[j] with | some x=>.next ((x.1:Int),(x.2:Int)) | none=>.ret bad)) :
  ∀ (m j i p:Nat),j+m=L.length→i<d.rules.length→p≤b.length→bd (E_ body m j ((i:Int),(p:Int))) (el g some)=(match b_U d b (L.drop j) i p with | some x=>g ((x.1:Int),(x.2:Int)) | none=>some bad)
 | 0,j,i,p,hj,hi,hp=>by
  rw [List.drop_eq_nil_of_le (by omega)];rfl
 | m+1,j,i,p,hj,hi,hp=>by
  have hlt:j<L.length:=by omega
  rw [dC_ hlt]
  unfold b_U E_
  rw [k_1 hi,hb j hlt i p hi hp]
  cases hs:a_N d.rules b d.rules[i] p L[j] with
  | none=>rfl
  | some x =>
   obtain ⟨k,q⟩:=x;have:=j_Z hv hi hp hs;exact k_2 hv L hb m (j+1) k q (by omega) (by omega) this.2
def b_x (d:f_) (b:List UInt8) (path:Str):Option (Nat×Nat) :=
 if (c_J path).2=true∧S_ d=true∧b.length≤400 then (match b_U d b (c_J path).1 (d.rules.length - 1) 0 with
  | none=>none
  | some x=>if (rdW d.rules b x.1 x.2).2.2=0 then some x else none) else none
def c_6 (d:f_) (b:List UInt8) (path:Str):K_×Bool:=match b_x d b path with
 | some x=>(⟨path,(x.1:Int),(x.2:Int),((rdW d.rules b x.1 x.2).2.1:Int)⟩,true)
 | none=>(zE,false)
theorem i_n {path:Str} {x:Nat×Nat} (h:b_x d b path=some x):S_ d=true∧b.length≤400∧x.1<d.rules.length∧x.2≤b.length∧(rdW d.rules b x.1 x.2).2.2=0:=by
 unfold b_x at h
 split at h
 ·rename_i hc
  have hl:=b_V hc.2.1
  cases hs:b_U d b (c_J path).1 (d.rules.length - 1) 0 with
  | none=>rw [hs] at h;cases h
  | some y =>
   rw [hs] at h
   simp only at h
   split at h
   ·rename_i h0
    cases h
    have:=i_m hc.2.1 _ _ _ (by omega) (by omega) x.1 x.2 hs;exact ⟨hc.2.1,hc.2.2,this.1,this.2,h0⟩
   ·cases h
 ·cases h
theorem l_M {path:Str} (h : ¬ ((c_J path).2=true∧S_ d=true∧b.length≤400)):b_x d b path=none:=iN_ h
theorem l_N {a v:Bool} {l:Nat}:(if (!a)=true then some true else if (!v)=true then some true else some (decide<|(400:Int)<(l:Int)))=some (!(a && (v && decide (l≤400)))):=by
 have e:decide ((400:Int)<(l:Int)) = !decide (l≤400):=by
  by_cases h:l≤400
  ·rw [dT_ h,dF_ (by omega)];rfl
  ·rw [dF_ h,dT_ (by omega)];rfl
 rw [e]
 cases a <;> cases v <;> rfl
theorem i_o (hd:SmD d) {n:Nat} (hn:1048600≤n) {path:Str} (hp:path.b.length≤MX):e_3 n d b path=some (c_6 d b path):=by
 have hMX:=MXv;unfold e_3 c_6
 rw [p_3 (by omega) hp (by omega)]
 rcases hsp:c_J path with ⟨ss,ok⟩
 simp only [bd2_some,l_p d hd,bd_some]
 rw [l_N,bd_some]
 by_cases hc:ok=true∧S_ d=true∧b.length≤400
 ·obtain ⟨rfl,hv,hb4⟩:=hc
  rw [hv,dT_ hb4]
  simp only [Bool.and_self,nT_,bF_,fF_]
  have hl:=b_V hv
  rw [k_e hd,bd_some,show a_H d=((d.rules.length - 1:Nat):Int) by unfold a_H;omega]
  have hlen:=hd
  have:=k_2 (b:=b) (bad:=((⟨(⟨[]⟩:Str),0,0,0⟩:K_),false)) hv (body:=(fun k311=>un2 fun x304 x306=>bd (idx ss ((k311:Nat):Int)) fun x391=>bd3 (e_2 n d x304 b x306 x391) fun r416 r417 r418=>if (!r418)=true then some (.ret ((⟨(⟨[]⟩:Str),0,0,0⟩:K_),false)) else some (.next (r416,r417))))
   (g:=un2 fun x304 x306=>bd3 (d_z n d x304 b x306) fun r498 r499 r500=>if (r500 != 0)=true then some ((⟨(⟨[]⟩:Str),0,0,0⟩:K_),false) else some ((⟨path,x304,x306,r499⟩:K_),true)) ss
   (fun j hj i p hi hp=>by
    simp only [un2,ix_ hj,bd_some,p_h hv hd hb4 (show 1000≤n by omega) hi hp]
    cases a_N d.rules b d.rules[i] p ss[j] <;> rfl) ss.length 0 (d.rules.length - 1) 0 (by omega) (by omega) (by omega)
  refine Eq.trans this ?_
  rw [List.drop_zero]
  have hf:b_x d b path=(match b_U d b ss (d.rules.length - 1) 0 with | none=>none | some x=>if (rdW d.rules b x.1 x.2).2.2=0 then some x else none):=by unfold b_x;rw [hsp,iP_ ⟨rfl,hv,hb4⟩]
  rw [hf]
  cases hs:b_U d b ss (d.rules.length - 1) 0 with
  | none=>rfl
  | some x =>
   have hx:=i_m hv _ _ _ (by omega) (by omega) x.1 x.2 hs
   simp only [un2]
   rw [i_v hv hd hb4 x.1 hx.1 n (by omega) x.2 hx.2]
   unfold b_A
   simp only [bd3_some]
   by_cases h0:(rdW d.rules b x.1 x.2).2.2=0
   ·rw [iP_ h0,h0];rfl
   ·rw [iN_ h0,iP_ (by simpa using h0)]
 ·have e:(ok && (S_ d && decide (b.length≤400)))=false:=by
   cases h:(ok && (S_ d && decide (b.length≤400))) with
   | false=>rfl
   | true =>
    simp only [aE_,dE_] at h
    exact absurd h hc
  rw [e,l_M (by rw [hsp];exact hc)]
  rfl
theorem l_O (hd:SmD d) {n:Nat} (hn:1048600≤n) {path:Str} (hp:path.b.length≤MX):f_w n d b path=some (c_6 d b path):=by
 have hMX:=MXv;unfold f_w c_6
 rw [p_c (by omega) hp]
 rcases hsp:c_J path with ⟨ss,ok⟩
 simp only [bd2_some,l_o n (by omega) d hd,bd_some]
 rw [l_N,bd_some]
 by_cases hc:ok=true∧S_ d=true∧b.length≤400
 ·obtain ⟨rfl,hv,hb4⟩:=hc
  rw [hv,dT_ hb4]
  simp only [Bool.and_self,nT_,bF_,fF_]
  have hl:=b_V hv
  rw [m_h hd,bd_some,show a_H d=((d.rules.length - 1:Nat):Int) by unfold a_H;omega]
  have:=k_2 (b:=b) (bad:=((⟨(⟨[]⟩:Str),0,0,0⟩:K_),false)) hv (body:=(fun k332=>un2 fun x324 x326=>bd (idx ss ((k332:Nat):Int)) fun x410=>bd3 (f_v n (⟨(⟨d.rules⟩:f_),b,x324,x326⟩:a_Z) x410) fun r438 r441 r442=>if (!r438)=true then some (.ret ((⟨(⟨[]⟩:Str),0,0,0⟩:K_),false)) else some (.next (r441,r442))))
   (g:=un2 fun x324 x326=>bd2 (c_N n (⟨(⟨d.rules⟩:f_),b,x324,x326⟩:a_Z) x324) fun r535 r538=>if (!r535)=true then some ((⟨(⟨[]⟩:Str),0,0,0⟩:K_),false) else some ((⟨path,x324,x326,r538⟩:K_),true)) ss
   (fun j hj i p hi hp=>by
    obtain ⟨y,h1,h2⟩:=p_n hv hd hb4 (show 500≤n by omega) hi hp ss[j]
    simp only [un2,ix_ hj,bd_some,h1]
    cases hs:a_N d.rules b d.rules[i] p ss[j] with
    | none =>
     rw [hs] at h2
     obtain ⟨y1,y2,y3⟩:=y;have h2':y1=false:=h2;subst h2';rfl
    | some x =>
     rw [hs] at h2
     have h2':y=(true,(x.1:Int),(x.2:Int)):=h2
     subst h2';rfl) ss.length 0 (d.rules.length - 1) 0 (by omega) (by omega) (by omega)
  refine Eq.trans this ?_
  rw [List.drop_zero]
  have hf:b_x d b path=(match b_U d b ss (d.rules.length - 1) 0 with | none=>none | some x=>if (rdW d.rules b x.1 x.2).2.2=0 then some x else none):=by unfold b_x;rw [hsp,iP_ ⟨rfl,hv,hb4⟩]
  rw [hf]
  cases hs:b_U d b ss (d.rules.length - 1) 0 with
  | none=>rfl
  | some x =>
   have hx:=i_m hv _ _ _ (by omega) (by omega) x.1 x.2 hs
   simp only [un2]
   have hp:=i_l (n:=n) (i:=(x.1:Int)) hv hd hb4 (by omega) hx.2 (k:=(x.1:Int)) (by omega) (by omega);refine (congrArg (fun z=>bd2 z _) hp).trans ?_;unfold rdK
   simp only [bd2_some,tN_]
   by_cases h0:(rdW d.rules b x.1 x.2).2.2=0
   ·rw [iP_ h0,h0];rfl
   ·rw [iN_ h0,show ((rdW d.rules b x.1 x.2).2.2==0)=false by simpa using h0];rfl
 ·have e:(ok && (S_ d && decide (b.length≤400)))=false:=by
   cases h:(ok && (S_ d && decide (b.length≤400))) with
   | false=>rfl
   | true =>
    simp only [aE_,dE_] at h
    exact absurd h hc
  rw [e,l_M (by rw [hsp];exact hc)]
  rfl
end
end Go.Vw
