
import Derived.Test.YtefljifhihogoaaGreatDoorVp
import Derived.Test.YtefljifhihogoaaGreatDoorVb1
namespace Go.Vw
set_option linter.unusedVariables false
open Go.RowKit Dat
def whF (a:H_)(p t:Str)(f:o_):List Str:=if decide (0<((whP (i_g a f) f.data p t).length:Int)) then [f.name] else []
theorem n_A (a:H_)(p t:Str)(f:o_):(whF a p t f).length<=1:=by grind [whF]
theorem v_N {a:H_}(h:SmA a){p:Str}(t:Str)(hp:p.b.length<=MX){n:Nat}(hn:1060100<=n):i_Z n a p t=some ((c_7 a).flatMap (whF a p t)):=by
 have hLIM:=a_7;unfold i_Z
 rw [x_l h hn,a_]
 have hl:=s_c a;unfold n_9 n_8 m_H
 rw [x_D (n_A a p t) hl (λk hk c hc=>by
  obtain ⟨h1,h2⟩:=s_f h<|gE_ hk
  rw [ix_ hk,a_,h1,a_,y_6 (by omega) h2 hp,a_,a_]
  unfold whF
  cases decide (0<((whP (i_g a (c_7 a)[k]) (c_7 a)[k].data p t).length:Int)) with
  | false=>simp
  | true=>simp only [fT_,a_];grind [a_Z,a_])]
 rfl
theorem v_O {a:H_}(h:SmA a){p:Str}(t:Str)(hp:p.b.length<=MX){n:Nat}(hn:1060100<=n):l_c n a p t=some ((c_7 a).flatMap (whF a p t)):=by
 have hLIM:=a_7;have hML:=MLv;unfold l_c
 rw [x_m h hn,a_,x_k h hn]
 obtain ⟨l,hle,I,a3⟩:=x_J h
 rw [hle]
 obtain ⟨k,hk⟩:=x_E (n:=n) (l:=l) (ok:=c_q a) (n_A a p t) (λh=>(I h).1) (step:=un2 λH G=>bd (α:=Bool) (if (decide<|G<(l.length:Int)) then bd (some<|c_q a) λJ=>some J else some false) (λL=>if L then bd (idx l G) λO=>bd (idx a.registry.versions O.version) λV=>bd (idx l G) λW=>bd (i_k n V W.data p t) λY=>bd (α:=List Str) (if (decide<|0<(Y.length:Int)) then bd (idx l G) λa0=>bd (psh H a0.name) λa1=>some a1 else some H) (λa2=>some<|.next (a2,e_ G 1)) else some (.brk (H,G))))
  (λk hk c hok hc=>by
   obtain ⟨_,hl⟩:=I hok;obtain ⟨h1,h2⟩:=s_f h (f:=l[k]) (by grind)
   simp only [un2]
   rw [dT_ (show (k:Int)<(l.length:Int) by omega),iP_ rfl,a_,a_,hok,iP_ rfl,ix_ hk,a_,h1,a_,a_,y_5 (by omega) h2 hp,a_,ia_ (by omega) (by omega)]
   unfold whF
   cases decide (0<((whP (i_g a l[k]) l[k].data p t).length:Int)) with
   | false=>simp
   | true=>simp only [fT_];grind [a_,a_Z])
  (λc k hk=>by
   simp only [un2]
   by_cases hkl:(k:Int)<(l.length:Int)
   .rcases hk with hk | hk
    .simp_all
    .omega
   simp_all [dF_]) (by omega)
 grind [c_q,x_K,a_,W_]
theorem v_P {n:Nat}(hn:4000000<=n){a:H_}{p t:Str}(ha:LnA a)(hp:p.b.length<=LEN)(ht:t.b.length<=LEN):l_d n a p t=some true:=by
 have hMX:=MXv;unfold l_d
 by_cases h3:(1048576:Int)<(p.b.length:Int)
 .grind
 by_cases h4:(1048576:Int)<(t.b.length:Int)
 .grind
 rw [dF_ h3,dF_ h4]
 obtain ⟨r,hr,G⟩:=x_w ha
 simp only [bF_,fF_]
 rw [hr,a_]
 by_cases h2:r<0
 .grind
 rw [dF_ h2]
 obtain ⟨_,hs,hb,hm⟩:=G.resolve_left h2;have hpm:p.b.length<=MX:=by omega
 simp only [bF_,fF_,x_y hs hb,a_,v_O hs t hpm (show 1060100<=n by omega),v_N hs t hpm (show 1060100<=n by omega),x_A,q_k,nT_]
 have hu:=m_2 (n_A a p t)<|c_7 a;have hf:=s_c a;generalize (c_7 a).flatMap (whF a p t)=u at *
 have hx:=x_B n a 1
 rw [x_C hs (by omega) (by omega) (by omega)]
 simp only [a_E]
 rw [dF_ (by omega)]
 simp only [bF_,fF_,a_]
 rw [q_p (by omega) (by omega) (by omega) (by omega)]
 simp only [a_b]
 rw [x_o (by omega) (by omega) (by omega)]
 simp only [a_]
 grind
end Go.Vw
