
import Derived.Test.YtaccmlhgodgkaaaGreatDoorVa
namespace Go.Vw
open Go.RowKit Dat
abbrev zE:b_H:=⟨(⟨[]⟩:Str),0,0,0⟩
section
variable {d:e_}{b:Bt}
def d_6 (d:e_)(b:Bt):List Str->Nat->Nat->Option (Nat×Nat)
 | [],i,p=>some (i,p)
 | s::ss,i,p=>match d_2 d.rules b (d.rules.getD i default) p s with
  | none=>none
  | some x=>d_6 d b ss x.1 x.2
theorem m_Z {i:Nat}(hi:i<d.rules.length):d.rules.getD i default=d.rules[i]:=by simp [hi]
theorem l_3 (hv:X_ d=true):∀(ss:List Str)(i p:Nat),i<d.rules.length->p<=b.length->∀k q,d_6 d b ss i p=some (k,q)->k<d.rules.length/\q<=b.length
 | [],i,p,hi,hp,k,q,h=>by cases h;exact ⟨hi,hp⟩
 | s::ss,i,p,hi,hp,k,q,h=>by
  unfold d_6 at h
  rw [m_Z hi] at h
  cases hs:d_2 d.rules b d.rules[i] p s with
  | none=>rw [hs] at h;cases h
  | some x =>
   obtain ⟨k',q'⟩:=x
   rw [hs] at h
   have:=m_Y hv hi hp hs;exact l_3 hv ss k' q' (by omega) this.2 k q h
theorem n_0 {ρ:Type}(hv:X_ d=true){body:Nat->Int×Int->Option (Out (Int×Int) ρ)}{g:Int×Int->Option ρ}{bad:ρ}(L:List Str)
  (hb:∀j (hj:j<L.length) (i p:Nat) (hi:i<d.rules.length),p<=b.length->body j ((i:Int),(p:Int))=some (match d_2 d.rules b d.rules[i] p L[j] with | some x=>.next ((x.1:Int),(x.2:Int)) | none=>.ret bad)) :
  ∀(m j i p:Nat),j+m=L.length->i<d.rules.length->p<=b.length->bd (D_ body m j ((i:Int),(p:Int))) (el g some)=(match d_6 d b (L.drop j) i p with | some x=>g ((x.1:Int),(x.2:Int)) | none=>some bad)
 | 0,j,i,p,hj,hi,hp=>by
  rw [List.drop_eq_nil_of_le (by omega)];rfl
 | m+1,j,i,p,hj,hi,hp=>by
  have hlt:j<L.length:=by omega
  rw [dC_ hlt]
  unfold d_6 D_
  rw [m_Z hi,hb j hlt i p hi hp]
  cases hs:d_2 d.rules b d.rules[i] p L[j] with
  | none=>rfl
  | some x =>
   obtain ⟨k,q⟩:=x;have:=m_Y hv hi hp hs;exact n_0 hv L hb m (j+1) k q (by omega) (by omega) this.2
def d_u (d:e_)(b:Bt)(path:Str):Option (Nat×Nat) :=
 if (c_p path).2=true/\X_ d=true/\b.length<=400 then (match d_6 d b (c_p path).1 (d.rules.length - 1) 0 with
  | none=>none
  | some x=>if (rdW d.rules b x.1 x.2).2.2=0 then some x else none) else none
def locP (d:e_)(b:Bt)(path:Str):b_H×Bool:=match d_u d b path with
 | some x=>(⟨path,(x.1:Int),(x.2:Int),((rdW d.rules b x.1 x.2).2.1:Int)⟩,true)
 | none=>(zE,false)
def j_n (d:e_)(b:Bt)(path:Str):Val×Bool:=match d_u d b path with
 | some x=>((rdW d.rules b x.1 x.2).1,true)
 | none=>(zV,false)
theorem q_U {path:Str}{x:Nat×Nat}(h:d_u d b path=some x):X_ d=true/\b.length<=400/\x.1<d.rules.length/\x.2<=b.length/\(rdW d.rules b x.1 x.2).2.2=0:=by
 unfold d_u at h
 split at h
 .rename_i hc
  have hl:=b_W hc.2.1
  cases hs:d_6 d b (c_p path).1 (d.rules.length - 1) 0 with
  | none=>rw [hs] at h;cases h
  | some y =>
   rw [hs] at h
   simp only at h
   split at h
   .rename_i G
    cases h
    have:=l_3 hc.2.1 _ _ _ (by omega) (by omega) x.1 x.2 hs;exact ⟨hc.2.1,hc.2.2,this.1,this.2,G⟩
   .cases h
 .cases h
theorem q_V {path:Str}(h:¬((c_p path).2=true/\X_ d=true/\b.length<=400)):d_u d b path=none:=iN_ h
theorem q_W {a v:Bool}{l:Nat}:(if (!a) then some true else if (!v) then some true else some (decide<|(400:Int)<(l:Int)))=some (!(a && (v && decide (l<=400)))):=by
 have e:decide ((400:Int)<(l:Int)) = !decide (l<=400):=by
  by_cases h:l<=400
  .rw [dT_ h,dF_ (by omega)];rfl
  .rw [dF_ h,dT_ (by omega)];rfl
 rw [e]
 cases a <;> cases v <;> rfl
theorem q_X (hd:SmD d){n:Nat}(hn:1048600<=n){path:Str}(hp:path.b.length<=MX):h_X n d b path=some (locP d b path):=by
 have hMX:=MXv;unfold h_X locP
 rw [k_X (by omega) hp (by omega)]
 rcases hsp:c_p path with ⟨ss,ok⟩
 simp only [bd2_some,m_p d hd,bd_some]
 rw [q_W,bd_some]
 by_cases hc:ok=true/\X_ d=true/\b.length<=400
 .obtain ⟨rfl,hv,I⟩:=hc
  rw [hv,dT_ I]
  simp only [Bool.and_self,nT_,bF_,fF_]
  have hl:=b_W hv
  rw [h_C hd,bd_some,show b_3 d=((d.rules.length - 1:Nat):Int) by unfold b_3;omega]
  have hlen:=hd
  have:=n_0 (b:=b) (bad:=((⟨(⟨[]⟩:Str),0,0,0⟩:b_H),false)) hv (body:=(λL=>un2 λG H=>bd (idx ss ((L:Nat):Int)) λO=>bd3 (d_A n d G b H O) λV W Y=>if (!Y) then some (.ret ((⟨(⟨[]⟩:Str),0,0,0⟩:b_H),false)) else some (.next (V,W))))
   (g:=un2 λG H=>bd3 (e_8 n d G b H) λa2 a0 a1=>if (a1 != 0) then some ((⟨(⟨[]⟩:Str),0,0,0⟩:b_H),false) else some ((⟨path,G,H,a0⟩:b_H),true)) ss
   (λj hj i p hi hp=>by
    simp only [un2,ix_ hj,bd_some,m_X hv hd I (show 1000<=n by omega) hi hp]
    cases d_2 d.rules b d.rules[i] p ss[j] <;> rfl) ss.length 0 (d.rules.length - 1) 0 (by omega) (by omega) (by omega)
  refine Eq.trans this ?_
  rw [List.drop_zero]
  have hf:d_u d b path=(match d_6 d b ss (d.rules.length - 1) 0 with | none=>none | some x=>if (rdW d.rules b x.1 x.2).2.2=0 then some x else none):=by unfold d_u;rw [hsp,iP_ ⟨rfl,hv,I⟩]
  rw [hf]
  cases hs:d_6 d b ss (d.rules.length - 1) 0 with
  | none=>rfl
  | some x =>
   have hx:=l_3 hv _ _ _ (by omega) (by omega) x.1 x.2 hs
   simp only [un2]
   rw [h_z hv hd I x.1 hx.1 n (by omega) x.2 hx.2]
   unfold b_M
   simp only [bd3_some]
   by_cases J:(rdW d.rules b x.1 x.2).2.2=0
   .rw [iP_ J,J];rfl
   .rw [iN_ J,iP_ (by simpa using J)]
 .have e:(ok && (X_ d && decide (b.length<=400)))=false:=by
   cases h:(ok && (X_ d && decide (b.length<=400))) with
   | false=>rfl
   | true =>
    simp only [aE_,dE_] at h
    exact absurd h hc
  rw [e,q_V (by rw [hsp];exact hc)]
  rfl
theorem q_Y (hd:SmD d){n:Nat}(hn:1048600<=n){path:Str}(hp:path.b.length<=MX):i_h n d b path=some (j_n d b path):=by
 unfold i_h
 rw [q_X hd hn hp]
 unfold locP j_n
 cases hf:d_u d b path with
 | none=>rfl
 | some x =>
  obtain ⟨hv,G,h1,h2,H⟩:=q_U hf;have hl:=b_W hv
  simp only [bd2_some,nT_,bF_,fF_]
  rw [h_z hv hd G x.1 h1 n (by omega) x.2 h2]
  rfl
end
end Go.Vw
