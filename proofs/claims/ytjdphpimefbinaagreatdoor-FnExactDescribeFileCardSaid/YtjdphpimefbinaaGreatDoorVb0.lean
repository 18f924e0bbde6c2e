
import Derived.Test.YtjdphpimefbinaaGreatDoorVz
import Derived.Test.YtjdphpimefbinaaGreatDoorVx
import Derived.Test.YtjdphpimefbinaaGreatDoorVs
import Derived.Test.YtjdphpimefbinaaGreatDoorVy
namespace Go.Vw
open Go.RowKit Dat
section
variable {d:c_}{b:Bt}
theorem u_0 {n:Nat}(hn:1048600<=n)(hd:SmD d){e:k_}(he:e∈a_D d b):∃t:Str,t.b.length<=1000000/\g_J n d b e.path=some t/\i_U n d b e.path=some t:=by
 obtain ⟨i,p,heq,hi,hp,hok,hf⟩:=o_Y hd he;obtain ⟨hv,hb,_,_,_⟩:=k_g hf;have hps:=m_b he;have hsz:=m_a (b:=b) hv i hi p hp;have hle:=a_X (b:=b) hv i hi p hp;have hlen:=(a_T hv).2
 have hz:vsz i (rdW d.rules b i p).1<=20000:=by
  refine Nat.le_trans (hsz.2 hok) (Nat.le_trans (Nat.mul_le_mul (show 2 * i+1<=49 by omega) (show (rdW d.rules b i p).2.1 - p<=400 by omega)) (by decide))
 obtain ⟨t,I,G,H⟩:=t_M hv hd hb i hi p hp hok;refine ⟨t,by omega,?_,?_⟩
 .unfold g_J k_N
  rw [k_h hd hn hps,t_k hd hn hps]
  unfold e_B f_l
  rw [hf,bd2_some,iN_ (by simp),bd2_some]
  simp only
  rw [t_F hv hd hb hi hp hok (by omega),bd_some,iN_ (by simp),G n (by omega),bd_some,bd_some]
 .unfold i_U k_P
  rw [t_l hd hn hps]
  unfold f_l
  rw [hf,bd3_some,iN_ (by simp)]
  simp only
  rw [t_G hv hd hb hi hp hok (by omega),bd_some,iN_ (by simp),H n (by omega),bd_some,bd_some]
def entT (e:k_):Bt:=((((if e.path.b=[] then [46] else e.path.b)++[32])++Lib.itoa e.start)++[45])++Lib.itoa e.end_
theorem u_1 {n:Nat}(hn:30<=n){e:k_}(hp:e.path.b.length<=MX){p q:Nat}(h1:e.start=p)(h2:e.end_=q)(L:p<=1000)(O:q<=1000):f_B n e=some ⟨entT e⟩/\g_T e=some ⟨entT e⟩/\(entT e).length<=MX+100:=by
 have hLIM:=a_G;have hMX:=MXv;have ip:=h_E p (by omega);have iq:=h_E q (by omega)
 have hpt:(if e.path.b=[] then ([46]:Bt) else e.path.b).length<=MX:=by
  split
  .simp only [lC_,List.length_nil];omega
  .exact hp
 unfold f_B g_T i_Z c_T f_W entT
 rw [h1,h2,k_s hn p (by omega),k_s hn q (by omega)]
 have hc:(if (e.path.b==([]:Bt)) then some (⟨[46]⟩:Str) else some e.path)=some ⟨if e.path.b=[] then [46] else e.path.b⟩:=by
  by_cases h:e.path.b=[]
  .rw [iP_ h,iP_ (by simpa using h)]
  .rw [iN_ h,iN_ (by simpa using h)]
 simp only [hc,bd_some]
 generalize (if e.path.b=[] then ([46]:Bt) else e.path.b)=x at hpt
 have G:cat ⟨x⟩ ⟨[32]⟩=some ⟨x++[32]⟩:=P_ (by simp only [lC_,List.length_nil];omega);have H:cat ⟨x++[32]⟩ ⟨Lib.itoa (p:Int)⟩=some ⟨(x++[32])++Lib.itoa (p:Int)⟩:=P_ (by simp only [List.length_append,lC_,List.length_nil];omega);have I:cat ⟨(x++[32])++Lib.itoa (p:Int)⟩ ⟨[45]⟩=some ⟨((x++[32])++Lib.itoa (p:Int))++[45]⟩:=P_ (by simp only [List.length_append,lC_,List.length_nil];omega);have J:cat ⟨((x++[32])++Lib.itoa (p:Int))++[45]⟩ ⟨Lib.itoa (q:Int)⟩=some ⟨(((x++[32])++Lib.itoa (p:Int))++[45])++Lib.itoa (q:Int)⟩:=P_ (by simp only [List.length_append,lC_,List.length_nil];omega);refine ⟨?_,?_,?_⟩
 .simp only [G,H,I,J,bd_some]
 .simp only [G,H,I,J,bd_some]
 .simp only [List.length_append,lC_,List.length_nil];omega
def f_p (k:Int):Bool:=k==1 || k==2 || k==3 || k==4 || k==10
theorem u_2 {e:k_}{i:Nat}(h:e.rule=i)(hi:i<d.rules.length):g_V d [e]=some (if f_p d.rules[i].kind then [e] else []):=by
 have hLIM:=a_G;unfold g_V j_0
 have h1:g_U e d=some (f_p d.rules[i].kind):=by
  unfold g_U c_S f_p
  rw [h,dT_ (show (0:Int)<=(i:Int) by omega),iP_ rfl,dT_ (show (i:Int)<(d.rules.length:Int) by omega),bd_some,bd_some,ix_ hi]
  simp only [bd_some,nT_,bF_,fF_]
  generalize d.rules[i].kind=k
  cases h1:k==1 <;> cases h2:k==2 <;> cases h3:k==3 <;> cases h4:k==4 <;> cases h5:k==10 <;> rfl
 refine (congrArg (λz=>bd (bd z _) _)<|b_A (σ:=List k_) (ρ:=List k_) (λj=>if j=0 then [] else if f_p d.rules[i].kind then [e] else []) (n:=1)<|λj hj=>?_).trans ?_
 .obtain rfl:j=0:=by omega
  have hx:idx [e] (((0:Nat):Nat):Int)=some e:=rfl
  simp only [hx,bd_some,h1]
  cases f_p d.rules[i].kind
  .rfl
  .simp only [fT_]
   rw [c_c (by simp;omega)]
   rfl
 .rw [bd_some,el_inl,bd_some];rfl
end
end Go.Vw
