
import Derived.Test.YtefljifhihogoaaGreatDoorVr
namespace Go.Vw
set_option linter.unusedVariables false
open Go.RowKit Dat
abbrev zE:j_:=⟨(⟨[]⟩:Str),0,0,0⟩
section
variable {d:d_}{b:Bt}
def e_b (d:d_)(b:Bt):List Str->Nat->Nat->Option (Nat×Nat)
 | [],i,p=>some (i,p)
 | s::ss,i,p=>match b_v d.rules b (d.rules.getD i default) p s with
  | none=>none
  | some x=>e_b d b ss x.1 x.2
theorem q_V {i:Nat}(hi:i<d.rules.length):d.rules.getD i default=d.rules[i]:=by grind
theorem l_J (hv:D_ d=true):∀(ss:List Str)(i p:Nat),i<d.rules.length->p<=b.length->∀k q,e_b d b ss i p=some (k,q)->k<d.rules.length/\q<=b.length
 | [],i,p,hi,hp,k,q,h=>by cases h;omega
 | s::ss,i,p,hi,hp,k,q,h=>by
  unfold e_b at h
  rw [q_V hi] at h
  cases hs:b_v d.rules b d.rules[i] p s with
  | none=>grind
  | some x =>
   obtain ⟨k',q'⟩:=x
   rw [hs] at h
   have:=q_Q hv hi hp hs;exact l_J hv ss k' q' (by omega) this.2 k q h
theorem n_R {ρ:Type}(hv:D_ d=true){body:Nat->Int×Int->Option (Out (Int×Int) ρ)}{g:Int×Int->Option ρ}{bad:ρ}(L:List Str)
  (hb:∀j (hj:j<L.length) (i p:Nat) (hi:i<d.rules.length),p<=b.length->body j ((i:Int),(p:Int))=some (match b_v d.rules b d.rules[i] p L[j] with | some x=>.next ((x.1:Int),(x.2:Int)) | none=>.ret bad)) :
  ∀(m j i p:Nat),j+m=L.length->i<d.rules.length->p<=b.length->bd (k_ body m j ((i:Int),(p:Int))) (el g some)=(match e_b d b (L.drop j) i p with | some x=>g ((x.1:Int),(x.2:Int)) | none=>some bad)
 | 0,j,i,p,hj,hi,hp=>by
  rw [QBH (by omega)];rfl
 | m+1,j,i,p,hj,hi,hp=>by
  have hlt:j<L.length:=by omega
  rw [dC_ hlt]
  unfold e_b k_
  rw [q_V hi,hb j hlt i p hi hp]
  cases hs:b_v d.rules b d.rules[i] p L[j] with
  | none=>rfl
  | some x =>
   obtain ⟨k,q⟩:=x;have:=q_Q hv hi hp hs;exact n_R hv L hb m (j+1) k q (by omega) (by omega) this.2
def c_Z (d:d_)(b:Bt)(path:Str):Option (Nat×Nat) :=
 if (c_h path).2=true/\D_ d=true/\b.length<=400 then (match e_b d b (c_h path).1 (d.rules.length - 1) 0 with
  | none=>none
  | some x=>if (rdW d.rules b x.1 x.2).2.2=0 then some x else none) else none
def f_e (d:d_)(b:Bt)(path:Str):j_×Bool:=match c_Z d b path with
 | some x=>(⟨path,(x.1:Int),(x.2:Int),((rdW d.rules b x.1 x.2).2.1:Int)⟩,true)
 | none=>(zE,false)
def g_2 (d:d_)(b:Bt)(path:Str):Val×Bool:=match c_Z d b path with
 | some x=>((rdW d.rules b x.1 x.2).1,true)
 | none=>(zV,false)
theorem l_K {path:Str}{x:Nat×Nat}(h:c_Z d b path=some x):D_ d=true/\b.length<=400/\x.1<d.rules.length/\x.2<=b.length/\(rdW d.rules b x.1 x.2).2.2=0:=by
 unfold c_Z at h
 split at h
 .rename_i hc
  have hl:=b_i hc.2.1
  cases hs:e_b d b (c_h path).1 (d.rules.length - 1) 0 with
  | none=>grind
  | some y =>
   rw [hs] at h
   simp only at h
   split at h
   .rename_i G
    cases h
    have:=l_J hc.2.1 _ _ _ (by omega) (by omega) x.1 x.2 hs
    grind
   grind
 grind
theorem q_W {path:Str}(h:¬((c_h path).2=true/\D_ d=true/\b.length<=400)):c_Z d b path=none:=iN_ h
theorem q_X {a v:Bool}{l:Nat}:(if (!a) then some true else if (!v) then some true else some (decide<|(400:Int)<(l:Int)))=some (!(a && (v && decide (l<=400)))):=by
 grind [decide]
theorem i_6 (hd:SmD d){n:Nat}(hn:1048600<=n){path:Str}(hp:path.b.length<=MX):g_r n d b path=some (f_e d b path):=by
 have hMX:=MXv;unfold g_r f_e
 rw [n_C (by omega) hp (by omega)]
 rcases hsp:c_h path with ⟨ss,ok⟩
 simp only [a_b,l_z d hd,a_]
 rw [q_X,a_]
 by_cases hc:ok=true/\D_ d=true/\b.length<=400
 .obtain ⟨rfl,hv,I⟩:=hc
  rw [hv,dT_ I]
  simp only [QAQ,nT_,bF_,fF_]
  have hl:=b_i hv
  rw [m_7 hd,a_,show b_D d=((d.rules.length - 1:Nat):Int) by grind [b_D]]
  have hlen:=hd
  have:=n_R (b:=b) (bad:=((⟨(⟨[]⟩:Str),0,0,0⟩:j_),false)) hv (body:=(λJ=>un2 λG H=>bd (idx ss ((J:Nat):Int)) λL=>bd3 (d_P n d G b H L) λO V W=>if (!W) then some (.ret ((⟨(⟨[]⟩:Str),0,0,0⟩:j_),false)) else some (.next (O,V))))
   (g:=un2 λG H=>bd3 (e_L n d G b H) λa1 Y a0=>if (a0 != 0) then some ((⟨(⟨[]⟩:Str),0,0,0⟩:j_),false) else some ((⟨path,G,H,Y⟩:j_),true)) ss
   (λj hj i p hi hp=>by
    simp only [un2,ix_ hj,a_,w_a hv hd I (show 1000<=n by omega) hi hp]
    cases b_v d.rules b d.rules[i] p ss[j] <;> rfl) ss.length 0 (d.rules.length - 1) 0 (by omega) (by omega) (by omega)
  refine Eq.trans this ?_
  rw [QAP]
  have hf:c_Z d b path=(match e_b d b ss (d.rules.length - 1) 0 with | none=>none | some x=>if (rdW d.rules b x.1 x.2).2.2=0 then some x else none):=by unfold c_Z;grind
  rw [hf]
  cases hs:e_b d b ss (d.rules.length - 1) 0 with
  | none=>rfl
  | some x =>
   have hx:=l_J hv _ _ _ (by omega) (by omega) x.1 x.2 hs
   simp only [un2]
   rw [h_q hv hd I x.1 hx.1 n (by omega) x.2 hx.2]
   unfold b_B
   simp only [a_E]
   grind
 .have e:(ok && (D_ d && decide (b.length<=400)))=false:=by
   grind
  grind [q_W]
theorem w_h (hd:SmD d){n:Nat}(hn:1048600<=n){path:Str}(hp:path.b.length<=MX):o_J n d b path=some (f_e d b path):=by
 have hMX:=MXv;unfold o_J f_e
 rw [q_I (by omega) hp]
 rcases hsp:c_h path with ⟨ss,ok⟩
 simp only [a_b,n_x n (by omega) d hd,a_]
 rw [q_X,a_]
 by_cases hc:ok=true/\D_ d=true/\b.length<=400
 .obtain ⟨rfl,hv,I⟩:=hc
  rw [hv,dT_ I]
  simp only [QAQ,nT_,bF_,fF_]
  have hl:=b_i hv
  rw [o_t hd,a_,show b_D d=((d.rules.length - 1:Nat):Int) by grind [b_D]]
  have:=n_R (b:=b) (bad:=((⟨(⟨[]⟩:Str),0,0,0⟩:j_),false)) hv (body:=(λJ=>un2 λG H=>bd (idx ss ((J:Nat):Int)) λL=>bd3 (m_n n (⟨(⟨d.rules⟩:d_),b,G,H⟩:c_G) L) λO V W=>if (!O) then some (.ret ((⟨(⟨[]⟩:Str),0,0,0⟩:j_),false)) else some (.next (V,W))))
   (g:=un2 λG H=>bd2 (f_o n (⟨(⟨d.rules⟩:d_),b,G,H⟩:c_G) G) λY a0=>if (!Y) then some ((⟨(⟨[]⟩:Str),0,0,0⟩:j_),false) else some ((⟨path,G,H,a0⟩:j_),true)) ss
   (λj hj i p hi hp=>by
    obtain ⟨y,h1,h2⟩:=w_g hv hd I (show 500<=n by omega) hi hp ss[j]
    simp only [un2,ix_ hj,a_,h1]
    cases hs:b_v d.rules b d.rules[i] p ss[j] with
    | none =>
     rw [hs] at h2
     obtain ⟨y1,y2,y3⟩:=y;have h2':y1=false:=h2
     simp_all
    | some x =>
     rw [hs] at h2
     have h2':y=(true,(x.1:Int),(x.2:Int)):=h2
     simp_all) ss.length 0 (d.rules.length - 1) 0 (by omega) (by omega) (by omega)
  refine Eq.trans this ?_
  rw [QAP]
  have hf:c_Z d b path=(match e_b d b ss (d.rules.length - 1) 0 with | none=>none | some x=>if (rdW d.rules b x.1 x.2).2.2=0 then some x else none):=by unfold c_Z;grind
  rw [hf]
  cases hs:e_b d b ss (d.rules.length - 1) 0 with
  | none=>rfl
  | some x =>
   have hx:=l_J hv _ _ _ (by omega) (by omega) x.1 x.2 hs
   simp only [un2]
   have hp:=l_I (n:=n) (i:=(x.1:Int)) hv hd I (by omega) hx.2 (k:=(x.1:Int)) (by omega) (by omega);refine (congrArg (λz=>bd2 z _) hp).trans ?_;unfold rdK
   simp only [a_b,tN_]
   grind
 .have e:(ok && (D_ d && decide (b.length<=400)))=false:=by
   grind
  grind [q_W]
theorem n_S (hd:SmD d){n:Nat}(hn:1048600<=n){path:Str}(hp:path.b.length<=MX):k_o n d b path=some (g_2 d b path):=by
 unfold k_o
 rw [i_6 hd hn hp]
 unfold f_e g_2
 cases hf:c_Z d b path with
 | none=>rfl
 | some x =>
  obtain ⟨hv,G,h1,h2,H⟩:=l_K hf;have hl:=b_i hv
  simp only [a_b,nT_,bF_,fF_]
  rw [h_q hv hd G x.1 h1 n (by omega) x.2 h2]
  rfl
theorem w_i (hd:SmD d){n:Nat}(hn:1048600<=n){path:Str}(hp:path.b.length<=MX):o_L n d b path=some ((g_2 d b path).1,(match c_Z d b path with | some x=>(x.1:Int) | none=>-1),(g_2 d b path).2):=by
 unfold o_L
 rw [w_h hd hn hp]
 unfold f_e g_2
 cases hf:c_Z d b path with
 | none=>rfl
 | some x =>
  obtain ⟨hv,G,h1,h2,H⟩:=l_K hf
  simp only [a_b,nT_,bF_,fF_]
  rw [o_s hd (by omega),n_F hv G h1 h2]
  rfl
end
end Go.Vw
