
import Derived.Test.YtjdphpimefbinaaGreatDoorVb1
import Derived.Test.YtjdphpimefbinaaGreatDoorVa
namespace Go.Vw
open Go.RowKit Dat
section
variable {d:c_}{b:Bt}
theorem p_3 {k:Int}(h1:1<=k)(h2:k<=10):bd (α:=Bool) (if (k==5) then some (k==5) else bd (α:=Bool) (if (k==6) then some (k==6) else bd (α:=Bool) (if (k==7) then some (k==7) else bd (α:=Bool) (if (k==8) then some (k==8) else some (k==9)) (λG=>some G)) (λH=>some H)) (λI=>some I)) (λz=>some z)=some (!f_p k):=by
 have:k=1∨k=2∨k=3∨k=4∨k=5∨k=6∨k=7∨k=8∨k=9∨k=10:=by omega
 rcases this with rfl | rfl | rfl | rfl | rfl | rfl | rfl | rfl | rfl | rfl <;> rfl
theorem bd_id {α β:Type}(z:Option α)(f:α->Option β):bd z f=bd (bd z λy=>some y) f:=by cases z <;> rfl
def h_H (n:Nat)(d:c_)(b:Bt)(l:List k_)(k:Nat)(acc:List Str):Option (Out (List Str)<|List Str) :=
 bd (idx l ((k:Nat):Int)) λa3=>bd (idx d.rules a3.rule) λG=>bd (idx l ((k:Nat):Int)) λa4=>bd (f_B n a4) λa5=>bd (cat a5 (⟨[32]⟩:Str)) λa6=>bd (cat a6 G.name) λH=>bd (α:=Bool) (if (G.kind==5) then some (G.kind==5) else bd (α:=Bool) (if (G.kind==6) then some (G.kind==6) else bd (α:=Bool) (if (G.kind==7) then some (G.kind==7) else bd (α:=Bool) (if (G.kind==8) then some (G.kind==8) else some (G.kind==9)) (λI=>some I)) (λJ=>some J)) (λL=>some L)) (λO=>bd (α:=Str) (if O then some H else bd (cat H (⟨[32]⟩:Str)) λV=>bd (idx l ((k:Nat):Int)) λW=>bd (g_J n d b W.path) λY=>bd (cat V Y) λa0=>some a0)<|λa1=>bd (psh acc a1) λa2=>some<|.next a2)
theorem u_a {n:Nat}(hn:1048600<=n)(hd:SmD d){k:Nat}(hk:k<(a_D d b).length):∃t:Str,e_n n (a_D d b) ((k:Nat):Int) d b=some t/\∀acc:List Str,acc.length<=20000->h_H n d b (a_D d b) k acc=some (.next<|acc++[t]):=by
 have hMX:=MXv;have hLIM:=a_G;have he:(a_D d b)[k]∈a_D d b:=gE_ hk;obtain ⟨i,p,heq,hi,hp,hok,hf⟩:=o_Y hd he;obtain ⟨hv,hb,_,_,_⟩:=k_g hf;have hps:=m_b he;have hle:=a_X (b:=b) hv i hi p hp;obtain ⟨t,ht,O,V⟩:=u_0 (n:=n) hn hd he;have J:(a_D d b)[k].rule=(i:Int):=congrArg k_.rule heq;have W:(a_D d b)[k].start=(p:Int):=congrArg k_.start heq;have Y:(a_D d b)[k].end_=(((rdW d.rules b i p).2.1:Nat):Int):=congrArg k_.end_ heq;obtain ⟨H,L,f3⟩:=u_1 (n:=n) (by omega) hps W Y (by omega) (by omega);have hlf:=u_2 (d:=d) J hi;have hkd:=d_E (a_r hv hi).kind;have hnm:=(a_r hv hi).name
 have hnl:d.rules[i].name.b.length<=12:=by
  unfold a_W at hnm
  simp only [aE_,dE_] at hnm
  omega
 generalize entT (a_D d b)[k]=E at H L f3
 have hx:=ix_ hk;have I:cat ⟨E⟩ ⟨[32]⟩=some ⟨E++[32]⟩:=P_ (by simp only [lC_,List.length_nil];omega);have G:cat ⟨E++[32]⟩ d.rules[i].name=some ⟨(E++[32])++d.rules[i].name.b⟩:=P_ (by simp only [List.length_append,lC_,List.length_nil];omega);have hri:idx d.rules (a_D d b)[k].rule=some d.rules[i]:=by rw [J,ix_ hi]
 have hF:((E++[32])++d.rules[i].name.b).length<=MX+200:=by simp only [List.length_append,lC_,List.length_nil];omega
 unfold e_n
 simp only [hx,hri,bd_some,L,I,G,hlf]
 generalize hFe:(E++[32])++d.rules[i].name.b=F at hF G
 cases hl:f_p d.rules[i].kind
 .refine ⟨⟨F⟩,rfl,λacc ha=>?_⟩;unfold h_H
  simp only [hx,hri,bd_some,H,I,G]
  rw [bd_id,p_3 hkd.1 hkd.2,hl,bd_some]
  rw [show (!false)=true from rfl,iP_ rfl,bd_some,c_c (by omega),bd_some]
 .refine ⟨⟨F++([32]++t.b)⟩,?_,λacc ha=>?_⟩
  .rw [iP_ rfl,show ((([(a_D d b)[k]]:List k_).length:Int)==1)=true from rfl,iP_ rfl,V,bd_some,P_ (by simp only [lC_,List.length_nil];omega),bd_some,P_ (by simp only [List.length_append,lC_,List.length_nil];omega),bd_some,bd_some]
  .unfold h_H
   simp only [hx,hri,bd_some,H,I,G]
   rw [bd_id,p_3 hkd.1 hkd.2,hl,bd_some]
   rw [show (!true)=false from rfl,iN_ (by simp),P_ (by simp only [lC_,List.length_nil];omega),bd_some,O,bd_some,P_ (by simp only [List.length_append,lC_,List.length_nil];omega),bd_some,bd_some,c_c (by omega),bd_some,List.append_assoc]
theorem p_4 {α β:Type}{f:α->Option β}:∀(l:List α)(m:List β),m.length=l.length->(∀k (h:k<l.length) (h':k<m.length),f l[k]=some m[k])->c_C f l=some m
 | [],m,h,_=>by
  obtain rfl:=List.length_eq_zero_iff.1 h;rfl
 | x::l,[],h,_=>by simp at h
 | x::l,y::m,h,hf=>by
  have G:=hf 0 (by simp) (by simp);have:=p_4 l m (by simpa using h)<|λk h1 h2=>hf (k+1) (by simpa using h1) (by simpa using h2);unfold c_C
  rw [show f x=some y from G,bd_some,this,bd_some]
theorem u_b {n:Nat}(hn:1048600<=n)(hd:SmD d):∃u:List Str,u.length<=20000/\f_D n d b=some u/\g_R n d b=some u:=by
 have hLIM:=a_G;have hil:=s_K (d:=d) (b:=b);unfold f_D g_R
 rw [s_v hd (by omega),s_u hd (by omega),bd2_some,bd2_some]
 cases ho:okF d b
 .obtain ⟨x,x1,x2,x3,x4,x5,x6⟩:=u_7 (b:=b) hd (n:=n) (by omega);obtain ⟨p,hp,G⟩:=u_6 d b
  have hc:x.code ≠ 0:=λh=>by
   rw [x3] at h
   unfold okF at ho
   rw [h] at ho;cases ho
  obtain ⟨t,H,I⟩:=u_9 (n:=n) hd (by omega) hc (x4.trans hp) G x5 x6;refine ⟨[t],by simp,?_,?_⟩
  .rw [show (!false)=true from rfl,iP_ rfl,x1,bd_some,H,bd_some]
  .rw [show (!false)=true from rfl,iP_ rfl,x2,bd_some,I,bd_some,c_c (by simp;omega),bd_some]
   rfl
 .obtain ⟨u,hu,hP⟩:=m_j (P:=λk t=>k<(a_D d b).length->e_n n (a_D d b) ((k:Nat):Int) d b=some t/\∀acc:List Str,acc.length<=20000->h_H n d b (a_D d b) k acc=some (.next (acc++[t]))) (a_D d b).length (λk hk=>by
   obtain ⟨t,h⟩:=u_a hn hd hk
   exact ⟨t,λ_=>h⟩)
  refine ⟨u,by omega,?_,?_⟩
  .rw [show (!true)=false from rfl,iN_ (by simp)]
   unfold j_1
   rw [p_4 (List.range (a_D d b).length) u (by rw [hu,List.length_range]) (λk h h'=>by
    rw [List.getElem_range];exact (hP k h' (by omega)).1),bd_some,iP_ (by omega),bd_some]
  .rw [show (!true)=false from rfl,iN_ (by simp)]
   refine (congrArg (λz=>bd z _)<|s_L (body:=λk acc=>h_H n d b (a_D d b) k acc) (λk=>u.take k) (n:=(a_D d b).length) rfl<|λk hk=>?_).trans ?_
   .have hku:k<u.length:=by omega
    rw [(hP k hku hk).2 _ (by rw [List.length_take];omega),List.take_add_one,gG_ hku];rfl
   .rw [bd_some,el_inl,← hu,List.take_length]
theorem u_c {n:Nat}(hn:4000000<=n)(hd:LnD d)(hb:b.length<=LEN):g_W n d b=some true:=by
 have hMX:=MXv;have hLEN:=LENv;unfold g_W
 by_cases h1:(1048576:Int)<(b.length:Int)
 .rw [dT_ h1];rfl
 rw [dF_ h1]
 obtain ⟨r,hr,G⟩:=s_z hd
 simp only [bF_,fF_]
 rw [hr,bd_some]
 by_cases h2:r<0
 .rw [dT_ h2];rfl
 rw [dF_ h2]
 have hs:=(G.resolve_left h2).2;have hbm:b.length<=MX:=by omega
 obtain ⟨u,hcl,H,I⟩:=u_b (b:=b) (n:=n) (by omega) hs
 simp only [bF_,fF_,s_D hs,n_O hbm,bd_some,H,I]
 simp only [bF_,fF_,bd_some,n_R,s_F,n_Q,nT_]
 obtain ⟨k',l',hm,J,L⟩:=s_J (n:=n) hs (by omega)
 rw [hm]
 simp only [bd2_some]
 rw [n_T (by omega) (by omega) (by omega)]
 simp only [bd2_some]
 rw [dF_ (by omega)]
 simp only [bF_,fF_,bd_some]
 rw [n_V (by omega) (by omega) (by omega) (by omega)]
 simp only [bd2_some]
 rw [t_2 (by omega) (by omega) (by omega)]
 simp only [bd_some]
 rw [dF_ (show ¬1+((u.length:Nat):Int)<0 by omega)]
 simp only [bF_,fF_,bN_]
end
end Go.Vw
