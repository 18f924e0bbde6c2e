
import Derived.Test.YtahlbmonbflopaaGreatDoorVv
import Derived.Test.YtahlbmonbflopaaGreatDoorVw
import Derived.Test.YtahlbmonbflopaaGreatDoorVx
namespace Go.Vw
open Go.RowKit Dat
theorem q_g {d:c_}(hv:R_ d=true){k:Nat}(hk:a_X d=(k:Int)){v:Val}{e:Bt}(hV:VP d.rules (k+1) k v)(hP:Prt d.rules (k+1) k v e)(he:e.length<=400):okF d e=true:=by
 have hki:=vp_lt hV;have hrd:=m_C hv he (k+1) k v e [] 0 hV hP (by simp)<|Nat.zero_le _
 rw [Nat.zero_add] at hrd
 have hV':b_O d (a_X d) e 0=(v,(e.length:Int),0):=by
  unfold b_O
  rw [iP_ (by unfold okV b_j;rw [hv,hk];simp;omega),hk]
  show c_8 (rdW d.rules e k 0)=_
  rw [hrd]
  rfl
 unfold okF c_x
 rw [hV',iN_ (by simp)]
 rfl
theorem q_h {a b:c_}{S g:Nat->Nat}(hda:SmD a)(hvb:R_ b=true)(hdb:SmD b)(hw:WG b S g){f:Bt}(hok:okF a f=true){n:Nat}(hn:3000<=n) :
  ∃w:Bt×Bool,g_J n a b f=some w/\g_E n a b f=some w/\w.1.length<=400/\(w.2=true->okF b w.1=true):=by
 obtain ⟨hva,hlen,hl,hroot,G,e,_⟩:=m_w hok;have L:(c_x a f).2.2=0:=by unfold okF at hok;simpa using hok
 have hla:=(b_X hva).2;have hlb:=b_X hvb;have hrb:a_X b=((b.rules.length - 1:Nat):Int):=by unfold a_X;omega
 have hS:=r_h hva hda hlen hl (Nat.zero_le _) G (n:=n) (by omega);have hI:=r_i hva hda hlen hl (Nat.zero_le _) G (n:=n) (by omega);obtain ⟨y,O,_,Y,_⟩:=n_B hva hda (i:=((a.rules.length - 1:Nat):Int)) (v:=(rdW a.rules f (a.rules.length - 1) 0).1) (n:=n) (by omega);have hy:y=true:=by rw [hS] at O;exact (Option.some.inj O).symm
 obtain ⟨k,hk,hkl,hV⟩:=Y hy;obtain rfl:a.rules.length - 1=k:=by omega
 have hc:=cst_rd hva (a.rules.length - 1) hl 0 (Nat.zero_le _) G;have hle:=(d_7 (b:=f) hva (a.rules.length - 1) hl 0<|Nat.zero_le _).2;obtain ⟨w,H,I,J,w4⟩:=q_f hva hvb hdb hw (a.rules.length - 1+(b.rules.length - 1)+1) (a.rules.length - 1) (b.rules.length - 1) _ _ (by omega) (by omega) hV
 rw [← e] at hS hI hc H I J
 have hir:b_j b ((b.rules.length - 1:Nat):Int)=true:=by unfold b_j;simp;omega
 unfold g_J g_E
 rw [n_z hda (by omega),n_y hda (by omega)]
 generalize c_x a f=rf at *
 obtain ⟨v,p,c⟩:=rf
 simp only at L hS hI H I J hc
 subst L
 have hms:h_N n a (a_X a) b (a_X b) v=some (w.1,w.2):=by
  unfold h_N
  rw [hroot,hrb,hS,bd_some,iN_ (by simp),h_4 b hdb,hvb,hir,bd_some,bd_some,iN_ (by simp),H n (by omega),bd2_some]
 have hmi:h_J n a (a_X a) b (a_X b) v=some (w.1,w.2):=by
  unfold h_J
  rw [hroot,hrb,i_e n (by omega) b hdb,hvb,hir,bd_some,iN_ (by simp),hI,bd_some,bd_some,iN_ (by simp)]
  rw [show f_v n ⟨⟨a.rules⟩,⟨b.rules⟩⟩ ((a.rules.length - 1:Nat):Int) ((b.rules.length - 1:Nat):Int) v=some (w.1,w.2) from I n (by omega),bd2_some]
 simp only [bd3_some,bN_,bF_,fF_]
 rw [j_S hda,j_R hda,bd_some,bd_some,j_S hdb,j_R hdb,bd_some,bd_some,hms,hmi]
 simp only [bd2_some,bd_some,un4,e_U]
 cases W:w.2 with
 | false=>exact ⟨([],false),rfl,rfl,Nat.zero_le _,nofun⟩
 | true =>
  obtain ⟨u,u1,u2,V,u4⟩:=p_R hdb (v:=w.1) (n:=n) (by omega) (λm _=>by
   have h1:=(J W).2 _ _ hc m;have h2:((rdW a.rules f (a.rules.length - 1) 0).2.1 - 0) * g (b.rules.length - 1)<=400 * 611000:=Nat.mul_le_mul (by omega) hw.top
   omega)
  simp only [nT_,bF_,fF_]
  rw [u1,u2]
  obtain ⟨o,ok⟩:=u;refine ⟨(o,ok),rfl,rfl,V,λhok=>?_⟩;obtain ⟨_,k,k1,k2,k3⟩:=u4 hok;exact q_g hvb k1 k2 k3 V
end Go.Vw
