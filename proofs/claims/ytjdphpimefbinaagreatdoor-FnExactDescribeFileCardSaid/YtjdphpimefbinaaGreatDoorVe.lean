
import Derived.Test.YtjdphpimefbinaaGreatDoorVd
namespace Go.Vw
open Go.RowKit Dat
abbrev zE:k_:=⟨(⟨[]⟩:Str),0,0,0⟩
section
variable {d:c_}{b:Bt}
def d_6 (d:c_)(b:Bt):List Str->Nat->Nat->Option (Nat×Nat)
 | [],i,p=>some (i,p)
 | s::ss,i,p=>match b_a d.rules b (d.rules.getD i default) p s with
  | none=>none
  | some x=>d_6 d b ss x.1 x.2
theorem o_m {i:Nat}(hi:i<d.rules.length):d.rules.getD i default=d.rules[i]:=by simp [hi]
theorem k_f (hv:G_ d=true):∀(ss:List Str)(i p:Nat),i<d.rules.length->p<=b.length->∀k q,d_6 d b ss i p=some (k,q)->k<d.rules.length/\q<=b.length
 | [],i,p,hi,hp,k,q,h=>by cases h;exact ⟨hi,hp⟩
 | s::ss,i,p,hi,hp,k,q,h=>by
  unfold d_6 at h
  rw [o_m hi] at h
  cases hs:b_a d.rules b d.rules[i] p s with
  | none=>rw [hs] at h;cases h
  | some x =>
   obtain ⟨k',q'⟩:=x
   rw [hs] at h
   have:=o_h hv hi hp hs;exact k_f hv ss k' q' (by omega) this.2 k q h
theorem m_7 {ρ:Type}(hv:G_ d=true){body:Nat->Int×Int->Option (Out (Int×Int) ρ)}{g:Int×Int->Option ρ}{bad:ρ}(L:List Str)
  (hb:∀j (hj:j<L.length) (i p:Nat) (hi:i<d.rules.length),p<=b.length->body j ((i:Int),(p:Int))=some (match b_a d.rules b d.rules[i] p L[j] with | some x=>.next ((x.1:Int),(x.2:Int)) | none=>.ret bad)) :
  ∀(m j i p:Nat),j+m=L.length->i<d.rules.length->p<=b.length->bd (v_ body m j ((i:Int),(p:Int))) (el g some)=(match d_6 d b (L.drop j) i p with | some x=>g ((x.1:Int),(x.2:Int)) | none=>some bad)
 | 0,j,i,p,hj,hi,hp=>by
  rw [List.drop_eq_nil_of_le (by omega)];rfl
 | m+1,j,i,p,hj,hi,hp=>by
  have hlt:j<L.length:=by omega
  rw [dC_ hlt]
  unfold d_6 v_
  rw [o_m hi,hb j hlt i p hi hp]
  cases hs:b_a d.rules b d.rules[i] p L[j] with
  | none=>rfl
  | some x =>
   obtain ⟨k,q⟩:=x;have:=o_h hv hi hp hs;exact m_7 hv L hb m (j+1) k q (by omega) (by omega) this.2
def c_o (d:c_)(b:Bt)(path:Str):Option (Nat×Nat) :=
 if (c_M path).2=true/\G_ d=true/\b.length<=400 then (match d_6 d b (c_M path).1 (d.rules.length - 1) 0 with
  | none=>none
  | some x=>if (rdW d.rules b x.1 x.2).2.2=0 then some x else none) else none
def e_B (d:c_)(b:Bt)(path:Str):k_×Bool:=match c_o d b path with
 | some x=>(⟨path,(x.1:Int),(x.2:Int),((rdW d.rules b x.1 x.2).2.1:Int)⟩,true)
 | none=>(zE,false)
def f_l (d:c_)(b:Bt)(path:Str):Val×Bool:=match c_o d b path with
 | some x=>((rdW d.rules b x.1 x.2).1,true)
 | none=>(zV,false)
theorem k_g {path:Str}{x:Nat×Nat}(h:c_o d b path=some x):G_ d=true/\b.length<=400/\x.1<d.rules.length/\x.2<=b.length/\(rdW d.rules b x.1 x.2).2.2=0:=by
 unfold c_o at h
 split at h
 .rename_i hc
  have hl:=a_T hc.2.1
  cases hs:d_6 d b (c_M path).1 (d.rules.length - 1) 0 with
  | none=>rw [hs] at h;cases h
  | some y =>
   rw [hs] at h
   simp only at h
   split at h
   .rename_i G
    cases h
    have:=k_f hc.2.1 _ _ _ (by omega) (by omega) x.1 x.2 hs;exact ⟨hc.2.1,hc.2.2,this.1,this.2,G⟩
   .cases h
 .cases h
theorem o_n {path:Str}(h:¬((c_M path).2=true/\G_ d=true/\b.length<=400)):c_o d b path=none:=iN_ h
theorem o_o {a v:Bool}{l:Nat}:(if (!a) then some true else if (!v) then some true else some (decide<|(400:Int)<(l:Int)))=some (!(a && (v && decide (l<=400)))):=by
 have e:decide ((400:Int)<(l:Int)) = !decide (l<=400):=by
  by_cases h:l<=400
  .rw [dT_ h,dF_ (by omega)];rfl
  .rw [dF_ h,dT_ (by omega)];rfl
 rw [e]
 cases a <;> cases v <;> rfl
theorem k_h (hd:SmD d){n:Nat}(hn:1048600<=n){path:Str}(hp:path.b.length<=MX):e_L n d b path=some (e_B d b path):=by
 have hMX:=MXv;unfold e_L e_B
 rw [o_1 (by omega) hp (by omega)]
 rcases hsp:c_M path with ⟨ss,ok⟩
 simp only [bd2_some,l_U d hd,bd_some]
 rw [o_o,bd_some]
 by_cases hc:ok=true/\G_ d=true/\b.length<=400
 .obtain ⟨rfl,hv,I⟩:=hc
  rw [hv,dT_ I]
  simp only [Bool.and_self,nT_,bF_,fF_]
  have hl:=a_T hv
  rw [h_D hd,bd_some,show a_I d=((d.rules.length - 1:Nat):Int) by unfold a_I;omega]
  have hlen:=hd
  have:=m_7 (b:=b) (bad:=((⟨(⟨[]⟩:Str),0,0,0⟩:k_),false)) hv (body:=(λL=>un2 λG H=>bd (idx ss ((L:Nat):Int)) λO=>bd3 (c_R n d G b H O) λV W Y=>if (!Y) then some (.ret ((⟨(⟨[]⟩:Str),0,0,0⟩:k_),false)) else some (.next (V,W))))
   (g:=un2 λG H=>bd3 (c_Q n d G b H) λa2 a0 a1=>if (a1 != 0) then some ((⟨(⟨[]⟩:Str),0,0,0⟩:k_),false) else some ((⟨path,G,H,a0⟩:k_),true)) ss
   (λj hj i p hi hp=>by
    simp only [un2,ix_ hj,bd_some,t_d hv hd I (show 1000<=n by omega) hi hp]
    cases b_a d.rules b d.rules[i] p ss[j] <;> rfl) ss.length 0 (d.rules.length - 1) 0 (by omega) (by omega) (by omega)
  refine Eq.trans this ?_
  rw [List.drop_zero]
  have hf:c_o d b path=(match d_6 d b ss (d.rules.length - 1) 0 with | none=>none | some x=>if (rdW d.rules b x.1 x.2).2.2=0 then some x else none):=by unfold c_o;rw [hsp,iP_ ⟨rfl,hv,I⟩]
  rw [hf]
  cases hs:d_6 d b ss (d.rules.length - 1) 0 with
  | none=>rfl
  | some x =>
   have hx:=k_f hv _ _ _ (by omega) (by omega) x.1 x.2 hs
   simp only [un2]
   rw [e_F hv hd I x.1 hx.1 n (by omega) x.2 hx.2]
   unfold a_Y
   simp only [bd3_some]
   by_cases J:(rdW d.rules b x.1 x.2).2.2=0
   .rw [iP_ J,J];rfl
   .rw [iN_ J,iP_ (by simpa using J)]
 .have e:(ok && (G_ d && decide (b.length<=400)))=false:=by
   cases h:(ok && (G_ d && decide (b.length<=400))) with
   | false=>rfl
   | true =>
    simp only [aE_,dE_] at h
    exact absurd h hc
  rw [e,o_n (by rw [hsp];exact hc)]
  rfl
theorem t_j (hd:SmD d){n:Nat}(hn:1048600<=n){path:Str}(hp:path.b.length<=MX):i_r n d b path=some (e_B d b path):=by
 have hMX:=MXv;unfold i_r e_B
 rw [t_8 (by omega) hp]
 rcases hsp:c_M path with ⟨ss,ok⟩
 simp only [bd2_some,n_H n (by omega) d hd,bd_some]
 rw [o_o,bd_some]
 by_cases hc:ok=true/\G_ d=true/\b.length<=400
 .obtain ⟨rfl,hv,I⟩:=hc
  rw [hv,dT_ I]
  simp only [Bool.and_self,nT_,bF_,fF_]
  have hl:=a_T hv
  rw [h_C hd,bd_some,show a_I d=((d.rules.length - 1:Nat):Int) by unfold a_I;omega]
  have:=m_7 (b:=b) (bad:=((⟨(⟨[]⟩:Str),0,0,0⟩:k_),false)) hv (body:=(λL=>un2 λG H=>bd (idx ss ((L:Nat):Int)) λO=>bd3 (g_z n (⟨(⟨d.rules⟩:c_),b,G,H⟩:b_7) O) λV W Y=>if (!V) then some (.ret ((⟨(⟨[]⟩:Str),0,0,0⟩:k_),false)) else some (.next (W,Y))))
   (g:=un2 λG H=>bd2 (d_e n (⟨(⟨d.rules⟩:c_),b,G,H⟩:b_7) G) λa0 a1=>if (!a0) then some ((⟨(⟨[]⟩:Str),0,0,0⟩:k_),false) else some ((⟨path,G,H,a1⟩:k_),true)) ss
   (λj hj i p hi hp=>by
    obtain ⟨y,h1,h2⟩:=t_i hv hd I (show 500<=n by omega) hi hp ss[j]
    simp only [un2,ix_ hj,bd_some,h1]
    cases hs:b_a d.rules b d.rules[i] p ss[j] with
    | none =>
     rw [hs] at h2
     obtain ⟨y1,y2,y3⟩:=y;have h2':y1=false:=h2;subst h2';rfl
    | some x =>
     rw [hs] at h2
     have h2':y=(true,(x.1:Int),(x.2:Int)):=h2
     subst h2';rfl) ss.length 0 (d.rules.length - 1) 0 (by omega) (by omega) (by omega)
  refine Eq.trans this ?_
  rw [List.drop_zero]
  have hf:c_o d b path=(match d_6 d b ss (d.rules.length - 1) 0 with | none=>none | some x=>if (rdW d.rules b x.1 x.2).2.2=0 then some x else none):=by unfold c_o;rw [hsp,iP_ ⟨rfl,hv,I⟩]
  rw [hf]
  cases hs:d_6 d b ss (d.rules.length - 1) 0 with
  | none=>rfl
  | some x =>
   have hx:=k_f hv _ _ _ (by omega) (by omega) x.1 x.2 hs
   simp only [un2]
   have hp:=k_d (n:=n) (i:=(x.1:Int)) hv hd I (by omega) hx.2 (k:=(x.1:Int)) (by omega) (by omega);refine (congrArg (λz=>bd2 z _) hp).trans ?_;unfold rdK
   simp only [bd2_some,tN_]
   by_cases J:(rdW d.rules b x.1 x.2).2.2=0
   .rw [iP_ J,J];rfl
   .rw [iN_ J,show ((rdW d.rules b x.1 x.2).2.2==0)=false by simpa using J];rfl
 .have e:(ok && (G_ d && decide (b.length<=400)))=false:=by
   cases h:(ok && (G_ d && decide (b.length<=400))) with
   | false=>rfl
   | true =>
    simp only [aE_,dE_] at h
    exact absurd h hc
  rw [e,o_n (by rw [hsp];exact hc)]
  rfl
theorem t_k (hd:SmD d){n:Nat}(hn:1048600<=n){path:Str}(hp:path.b.length<=MX):i_E n d b path=some (f_l d b path):=by
 unfold i_E
 rw [k_h hd hn hp]
 unfold e_B f_l
 cases hf:c_o d b path with
 | none=>rfl
 | some x =>
  obtain ⟨hv,G,h1,h2,H⟩:=k_g hf;have hl:=a_T hv
  simp only [bd2_some,nT_,bF_,fF_]
  rw [e_F hv hd G x.1 h1 n (by omega) x.2 h2]
  rfl
theorem t_l (hd:SmD d){n:Nat}(hn:1048600<=n){path:Str}(hp:path.b.length<=MX):i_F n d b path=some ((f_l d b path).1,(match c_o d b path with | some x=>(x.1:Int) | none=>-1),(f_l d b path).2):=by
 unfold i_F
 rw [t_j hd hn hp]
 unfold e_B f_l
 cases hf:c_o d b path with
 | none=>rfl
 | some x =>
  obtain ⟨hv,G,h1,h2,H⟩:=k_g hf
  simp only [bd2_some,nT_,bF_,fF_]
  rw [o_V hd (by omega),m_3 hv G h1 h2]
  rfl
end
end Go.Vw
