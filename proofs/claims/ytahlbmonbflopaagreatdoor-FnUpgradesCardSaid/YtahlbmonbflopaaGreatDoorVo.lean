
import Derived.Test.YtahlbmonbflopaaGreatDoorVn
namespace Go.Vw
open Go.RowKit Dat
def SV (j:Nat):Nat:=[5,30,155,780,3905,19530,97655].getD j 488280
def GV (j:Nat):Nat:=[6,37,193,974,4880,24411,122067,610348,610349].getD j 610350
def SQ (j:Nat):Nat:=[64,260,1044,4180,16724].getD j 66900
def GQ (j:Nat):Nat:=[65,326,1371,5552,22277].getD j 89178
theorem j_v {T:List Nat}{z N:Nat}(hN:T.length<=N)(hT:∀a,a<=N->∀b,b<=N->a<=b->T.getD a z<=T.getD b z)(i j:Nat)(h:i<=j):T.getD i z<=T.getD j z:=by
 have ext:∀k,T.getD k z=T.getD (min k N) z:=λk=>by
  by_cases hk:k<=N
  .rw [Nat.min_eq_left hk]
  .rw [Nat.min_eq_right (by omega),gD_,gD_,gN_ (by omega),gN_ (by omega)]
 rw [ext i,ext j]
 exact hT _ (Nat.min_le_right _ _) _ (Nat.min_le_right _ _) (by omega)
theorem j_w {d:c_}(hv:R_ d=true){j:Nat}(hj:j<d.rules.length)(hk:0<(d.rules[j]).kids.length):0<j:=by
 have:=(a_S hv hj).kids _ (gE_ hk)
 omega
theorem wg_wv {d:c_}(hv:R_ d=true)(hw:WV d):WG d SV GV:=by
 have hf:=hw.few;have hS:∀i j,i<=j->SV i<=SV j:=j_v (N:=8) (by decide) (by decide);have hG:∀i j,i<=j->GV i<=GV j:=j_v (N:=10) (by decide) (by decide)
 have seven:∀j (hj:j<d.rules.length),(d.rules[j]).kind ≠ 8->j<=7:=λj hj hk=>by
  by_cases h:8<=j
  .exact absurd (hw.opt j hj h) hk
  .omega
 refine ⟨λj hj hk=>?_,λj hj hk=>?_,λj hj hk=>?_,λj H hj=>?_,by decide,hS,hG,Nat.le_trans (hG _ 10 (by omega)) (by decide)⟩
 .have:=hw.fix j hj hk;have h1:=hS 0 j<|Nat.zero_le _;have h2:=hG 0 j<|Nat.zero_le _;have I:SV 0=5:=rfl;have J:GV 0=6:=rfl
  omega
 .have h5:=hw.seq j hj hk;have G:=seven j hj (by omega);have hp:=j_w hv hj (by have:=(d_t (a_S hv hj).kind hk).2.1;omega);have hm:=Nat.mul_le_mul_right (1+SV (j - 1)) h5;have ht:∀j,j<=7->0<j->5 * (1+SV (j - 1))<=SV j/\GV (j - 1)+5 * (1+SV (j - 1))+1<=GV j:=by decide
  have:=ht j G hp
  omega
 .have G:=seven j hj (by omega)
  have hp:=j_w hv hj (by
   rcases hk with hk | hk
   .have:=c_6 (a_S hv hj).kind hk;omega
   .have:=b_F (a_S hv hj).kind (.inr hk);omega)
  have ht:∀j,j<=7->0<j->1+SV (j - 1)<=SV j:=by decide
  exact ht j G hp
 .have ht:∀j,j<=9->0<j->GV (j - 1)+1<=GV j:=by decide
  exact ht j (by omega) H
theorem wg_any {d:c_}(hv:R_ d=true)(hw:e_2 d):WG d SQ GQ:=by
 have hf:=hw.2.1;have hS:∀i j,i<=j->SQ i<=SQ j:=j_v (N:=6) (by decide) (by decide);have hG:∀i j,i<=j->GQ i<=GQ j:=j_v (N:=6) (by decide) (by decide);refine ⟨λj hj hk=>?_,λj hj hk=>?_,λj hj hk=>?_,λj G hj=>?_,by decide,hS,hG,Nat.le_trans (hG _ 6 (by omega)) (by decide)⟩
 .have:=d_s (a_S hv hj).kind hk;have h1:=hS 0 j<|Nat.zero_le _;have h2:=hG 0 j<|Nat.zero_le _;have H:SQ 0=64:=rfl;have I:GQ 0=65:=rfl
  omega
 .have hs:=d_t (a_S hv hj).kind hk;have h4:(d.rules[j]).kids.length<=4:=by have:=hw.2.2 _<|gE_ hj;omega
  have hp:=j_w hv hj (by omega);have hm:=Nat.mul_le_mul_right (1+SQ (j - 1)) h4;have ht:∀j,j<=5->0<j->4 * (1+SQ (j - 1))<=SQ j/\GQ (j - 1)+4 * (1+SQ (j - 1))+1<=GQ j:=by decide
  have:=ht j (by omega) hp
  omega
 .have hp:=j_w hv hj (by
   rcases hk with hk | hk
   .have:=c_6 (a_S hv hj).kind hk;omega
   .have:=b_F (a_S hv hj).kind (.inr hk);omega)
  have ht:∀j,j<=5->0<j->1+SQ (j - 1)<=SQ j:=by decide
  exact ht j (by omega) hp
 .have ht:∀j,j<=5->0<j->GQ (j - 1)+1<=GQ j:=by decide
  exact ht j (by omega) G
end Go.Vw
