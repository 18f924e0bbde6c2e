
import Derived.Test.YtaccmlhgodgkaaaGreatDoorVx
import Derived.Test.YtaccmlhgodgkaaaGreatDoorVy
namespace Go.Vw
open Go.RowKit Dat
section
variable {d:e_}{b:Bt}
theorem q_j {s t:Str}(h:s.b=t.b):s=t:=by cases s;cases t;cases h;rfl
theorem m_D (hv:X_ d=true)(hd:SmD d)(hb:b.length<=400):∀(ss:List Str)(m i p:Nat)(k:Val->Val){x:Nat×Val×(Val->Val)},i<d.rules.length->p<=b.length->(rdW d.rules b i p).2.2=0->VP d.rules m i (rdW d.rules b i p).1->goK d.rules ss i (rdW d.rules b i p).1 k=some x->∃q,d_6 d b ss i p=some (x.1,q)/\q<=b.length/\(rdW d.rules b x.1 q).2.2=0/\(rdW d.rules b x.1 q).1=x.2.1
 | [],m,i,p,k,x,hi,hp,hok,hV,hg=>by
  obtain rfl:=Option.some.inj hg;exact ⟨p,rfl,hp,hok,rfl⟩
 | s::ss,0,i,p,k,x,hi,hp,hok,hV,hg=>hV.elim
 | s::ss,m+1,i,p,k,x,hi,hp,hok,hV,hg=>by
  unfold goK at hg
  by_cases hf:a_D (d.rules.getD i default) (rdW d.rules b i p).1.items.length s<0
  .rw [iP_ hf] at hg;cases hg
  .rw [iN_ hf] at hg
   obtain ⟨t,k',ht,I,G,J,H⟩:=f_m hv hV hf;obtain ⟨t',L,O,f3,_⟩:=j_g (show 0<=a_D (d.rules.getD i default) (rdW d.rules b i p).1.items.length s by omega);have htt:t'=t:=by omega
   subst htt
   rw [I,tN_,G,tN_,J] at hg
   obtain ⟨ks,e,h⟩:=l_b hv hi hp hok;have hl:=j_x h.ch;have hm:t'<ks.length:=by omega
   obtain ⟨S,_⟩:=q_H hv hd hb hi hp hok h hm
   rw [a_9 hi] at f3 G
   rw [q_j f3] at S
   have hkt:ks[t'].toNat=k':=by
    have:=h.item t' hm
    omega
   have hpos:=k_Z h.ch t' hm;have hval:=n_l h.ch t' hm ht;have hk:=(b_t hv hi).kids _ (h.kids _<|gE_ hm)
   rw [hkt] at S hpos hval
   have hst:=S 1000<|Nat.le_refl _
   rw [m_X hv hd hb (Nat.le_refl _) hi hp s] at hst
   rw [hval] at H hg
   have hq:d_2 d.rules b d.rules[i] p s=some (k',c_3 (enP d b) ks (a_L d.rules d.rules[i] p) t'):=by
    cases hs:d_2 d.rules b d.rules[i] p s with
    | none=>rw [hs] at hst;unfold outS at hst;simp at hst
    | some y =>
     rw [hs] at hst
     unfold outS at hst
     simp only [oI_,Prod.mk.injEq] at hst
     exact congrArg some<|Prod.ext (by omega) (by omega)
   unfold d_6
   rw [a_9 hi,hq]
   exact m_D hv hd hb ss m k' _ _ (by omega) hpos.1 hpos.2 H hg
theorem m_E:∀(ss:List Str)(m i:Nat)(v y:Val)(k k2:Val->Val){x:Nat×Val×(Val->Val)},X_ d=true->VP d.rules m i v->goK d.rules ss i v k=some x->∃f,goK d.rules ss i (c_2 d.rules ss i v y) k2=some (x.1,y,f)
 | [],m,i,v,y,k,k2,x,hv,hV,hg=>by
  obtain rfl:=Option.some.inj hg;exact ⟨k2,rfl⟩
 | s::ss,0,i,v,y,k,k2,x,hv,hV,hg=>hV.elim
 | s::ss,m+1,i,v,y,k,k2,x,hv,hV,hg=>by
  unfold goK at hg
  by_cases hf:a_D (d.rules.getD i default) v.items.length s<0
  .rw [iP_ hf] at hg;cases hg
  .rw [iN_ hf] at hg
   obtain ⟨t,k',ht,G,H,I,J⟩:=f_m hv hV hf
   rw [G,tN_,H,tN_,I] at hg
   have hp:c_2 d.rules (s::ss) i v y = .mk v.number v.bytes (v.items.set t<|c_2 d.rules ss k' v.items[t] y):=by
    show Val.mk v.number v.bytes (v.items.set (a_D (d.rules.getD i default) v.items.length s).toNat (c_2 d.rules ss (Q_ (d.rules.getD i default) v.number (a_D (d.rules.getD i default) v.items.length s).toNat).toNat (v.items.getD (a_D (d.rules.getD i default) v.items.length s).toNat zV) y))=_
    rw [G,tN_,H,tN_,I]
   have hu:∀l:List Val,l.length=v.items.length->goK d.rules (s::ss) i (.mk v.number v.bytes l) k2=goK d.rules ss k' (l.getD t zV) (λz=>k2<|.mk v.number v.bytes<|l.set t z):=λl hl=>by
    show (if a_D (d.rules.getD i default) l.length s<0 then none else goK d.rules ss (Q_ (d.rules.getD i default) v.number (a_D (d.rules.getD i default) l.length s).toNat).toNat (l.getD (a_D (d.rules.getD i default) l.length s).toNat zV) (λz=>k2<|.mk v.number v.bytes<|l.set (a_D (d.rules.getD i default) l.length s).toNat z))=_
    rw [hl,iN_ hf,G,tN_,H,tN_]
   rw [hp,hu _<|List.length_set ..]
   have:(v.items.set t<|c_2 d.rules ss k' v.items[t] y).getD t zV=c_2 d.rules ss k' v.items[t] y:=by
    rw [gD_,List.getElem?_set_self ht];rfl
   rw [this]
   exact m_E ss m k' v.items[t] y _ _ hv J hg
theorem q_k (hd:SmD d)(hb:b.length<=MX){part:Val}{path:Str}{M n:Nat}(hM:25<=M)(hp:dep M part)(W:vsz M part<=1100000)(hpath:path.b.length<=MX)(hn:M+MX+1100<=n) :
  ∃w:Bt×Bool,h_1 n d b path part=some w/\h_8 n d b path part=some w/\(w.2=false->w.1=b)/\(w.2=true->okF d w.1=true/\j_n d w.1 path=(part,true)):=by
 have hMX:=MXv;obtain ⟨h1,h2⟩:=q_e (d:=d) (b:=b);obtain ⟨w,L,O,Y⟩:=q_b hd hM hp W h1 h2 hpath hn;unfold h_1 h_8
 rw [n_j hd (by omega),r_x hd (by omega)]
 generalize b_N d b=rf at *
 obtain ⟨V,p0,I⟩:=rf;obtain ⟨v,ok⟩:=w
 simp only [bd3_some] at L O ⊢
 rw [L,O,r_1 hb]
 simp only [bd2_some,bd_some]
 by_cases J:I=0
 .subst J
  cases ok
  .exact ⟨(b,false),rfl,rfl,λ_=>rfl,nofun⟩
  .obtain ⟨hsz,ss,k,x,hsp,hroot,hV,hg,hw⟩:=Y rfl;obtain ⟨y,y1,y2,H,y4⟩:=q_c hd (n:=n) (v:=v) (by omega) hsz
   rw [y1,y2]
   obtain ⟨o,ok⟩:=y
   cases ok
   .exact ⟨(b,false),rfl,rfl,λ_=>rfl,nofun⟩
   .refine ⟨(o,true),rfl,rfl,nofun,λ_=>?_⟩;obtain ⟨hv,k2,a0,G,hP⟩:=y4 rfl
    simp only at hw H hP G
    subst hw;have hkk:k2=k:=by omega
    subst hkk;have hki:=k_N G;have hrd:=m_C hv H (k2+1) k2 _ o [] 0 G hP (by simp)<|Nat.zero_le _
    rw [Nat.zero_add] at hrd
    have hkr:d.rules.length - 1=k2:=by unfold b_3 at hroot;omega
    have hV':b_D d (b_3 d) o 0=(c_2 d.rules ss k2 V part,(o.length:Int),0):=by
     unfold b_D
     rw [iP_ (by unfold okV b_f;rw [hv,hroot];simp;omega),hroot]
     show b_M (rdW d.rules o k2 0)=_
     rw [hrd]
     rfl
    refine ⟨?_,?_⟩
    .unfold okF b_N
     rw [hV',iN_ (by simp)]
     rfl
    .obtain ⟨f,hf⟩:=m_E ss (k2+1) k2 V part _ (λy=>y) hv hV hg;obtain ⟨q,q1,q2,q3,q4⟩:=m_D hv hd H ss (k2+1) k2 0 (λy=>y) (x:=(x.1,part,f)) hki (Nat.zero_le _) (by rw [hrd]) (by rw [hrd];exact G) (by rw [hrd];exact hf)
     have hfp:d_u d o path=some (x.1,q):=by
      unfold d_u
      rw [iP_ ⟨by rw [hsp],hv,H⟩,hsp,hkr]
      simp only
      rw [q1]
      simp only
      rw [iP_ q3]
     unfold j_n
     rw [hfp]
     simp only
     rw [q4]
 .rw [show (I != 0)=true by simpa using J,show (I==0)=false by simpa using J]
  exact ⟨(b,false),rfl,rfl,λ_=>rfl,nofun⟩
end
end Go.Vw
