
import Derived.Test.YtahlbmonbflopaaGreatDoorVr
namespace Go.Vw
open Go.RowKit Dat
structure SeqP (x y:b_)(v:Val)(D:Nat->Val)(M:Nat->Nat->Val×Bool)(PW:Nat->Val×Bool):Prop where
 nx:x.kids.length=x.names.length
 ny:y.kids.length=y.names.length
 sx:x.names.length<=8
 sy:y.names.length<=8
 nv:v.items.length=x.names.length
 inj:∀i j (hi:i<x.names.length) (hj:j<x.names.length),x.names[i]=x.names[j]->i=j
 pw:∀q (hq:q<y.names.length),(∃k,∃hk:k<x.names.length,x.names[k]=y.names[q]/\PW q=M q k)∨((∀k (hk:k<x.names.length),x.names[k] ≠ y.names[q])/\PW q=(D q,true))
section
variable {a b:c_}{x y:b_}{v:Val}{D:Nat->Val}{M:Nat->Nat->Val×Bool}{PW:Nat->Val×Bool}
theorem ne_b {s t:Str}:(s.b != t.b)=true ↔ s ≠ t:=by
 rw [bne_iff_ne,Ne,str_b]
def pv (v:Val):Int×Bt×(List Val):=(v.number,v.bytes,v.items)
theorem q_6 {rec:e_l}(h:SeqP x y v D M PW){q:Nat}(hq:q<y.names.length){o:Option Int}(ho:∀hq':q<y.kids.length,o=some y.kids[q])
  (hM:∀k (hk:k<x.kids.length) (hq':q<y.kids.length) (hk':k<v.items.length),rec.spec_l30Migrate a x.kids[k] b y.kids[q] v.items[k]=some (M q k)) {β:Type} {f:Int×Bt×(List Val)->Option β} {g:Val×Bool->Option β} :
  bd (y_ (σ:=Int×Bt×(List Val)) (ρ:=Val×Bool) (λG=>un3 λJ L O=>bd (α:=Sum (Int×Bt×(List Val))<|Out (Int×Bt×(List Val))<|Val×Bool) (bd (idx x.names ((G:Nat):Int)) λV=>bd (idx y.names ((q:Nat):Int)) λW=>if (V.b != W.b) then some (.inl (J,L,O)) else bd (α:=Int×Bt×(List Val)×Bool) (bd (idx x.kids ((G:Nat):Int)) λY=>bd o λa0=>bd (idx v.items ((G:Nat):Int)) λa1=>bd2 (rec.spec_l30Migrate a Y b a0 a1) λH a2=>some (H.number,H.bytes,H.items,a2)) (un4 λa3 a4 a5 a6=>if (!a6) then some (.inr<|.ret ((⟨0,([]:Bt),([]:List Val)⟩:Val),false)) else some (.inl (a3,a4,a5))))<|el (un3 λa7 a8 a9=>some<|.next (a7,a8,a9)) some) x.names.length 0<|pv<|D q) (el f g)=if (PW q).2 then f (pv (PW q).1) else g ((⟨0,[],[]⟩:Val),false):=by
 have h1:=h.nx;have h2:=h.ny;have h3:=h.nv
 rcases h.pw q hq with ⟨I,aa,he,hP⟩ | ⟨hno,hP⟩
 .rcases c_u (σ:=Int×Bt×(List Val)) (ρ:=Val×Bool) (body:=λG=>un3 λJ L O=>bd (α:=Sum (Int×Bt×(List Val))<|Out (Int×Bt×(List Val))<|Val×Bool) (bd (idx x.names ((G:Nat):Int)) λV=>bd (idx y.names ((q:Nat):Int)) λW=>if (V.b != W.b) then some (.inl (J,L,O)) else bd (α:=Int×Bt×(List Val)×Bool) (bd (idx x.kids ((G:Nat):Int)) λY=>bd o λa0=>bd (idx v.items ((G:Nat):Int)) λa1=>bd2 (rec.spec_l30Migrate a Y b a0 a1) λH a2=>some (H.number,H.bytes,H.items,a2)) (un4 λa3 a4 a5 a6=>if (!a6) then some (.inr<|.ret ((⟨0,([]:Bt),([]:List Val)⟩:Val),false)) else some (.inl (a3,a4,a5))))<|el (un3 λa7 a8 a9=>some<|.next (a7,a8,a9)) some)
   (λk s=>s=(if k<=I then pv (D q) else pv (M q I).1)/\(I<k->(M q I).2=true)) (λr=>r=((⟨0,[],[]⟩:Val),false)/\(M q I).2=false) (n:=x.names.length) (λk s hk ⟨hs,hok⟩=>by
    obtain ⟨s1,s2,s3⟩:=s
    simp only [un3]
    rw [ix_ hk,bd_some,ix_ hq,bd_some]
    by_cases hkk:k=I
    .subst hkk
     rw [iN_ (by rw [ne_b];exact λhh=>hh he),ix_ (by omega),bd_some,ho (by omega),bd_some,ix_ (by omega),bd_some,hM k (by omega) (by omega) (by omega)]
     cases hw:(M q k).2
     .right
      rw [show M q k=((M q k).1,false) by rw [← hw],bd2_some,bd_some]
      exact ⟨_,rfl,rfl,rfl⟩
     .left
      rw [show M q k=((M q k).1,true) by rw [← hw],bd2_some,bd_some]
      exact ⟨_,rfl,by rw [iN_ (by omega)];rfl,λ_=>rfl⟩
    .left
     rw [iP_ (ne_b.2 λhh=>hkk<|h.inj k I hk aa<|hh.trans he.symm),bd_some,el_inl]
     refine ⟨_,rfl,?_,λhh=>hok (by omega)⟩
     rw [hs]
     by_cases hlt:k<=I
     .rw [iP_ hlt,iP_ (by omega)]
     .rw [iN_ hlt,iN_ (by omega)]) x.names.length 0 (pv (D q)) (by omega) ⟨by rw [iP_ (Nat.zero_le _)],λhh=>by omega⟩ with ⟨s,e,hs,hok⟩ | ⟨r,e,rfl,hf⟩
  .rw [e,bd_some,el_inl,hs,iN_ (by omega),hP,iP_<|hok (by omega)]
  .rw [e,bd_some,el_inr,hP,iN_ (by rw [hf];simp)]
 .have:=e_X (σ:=Int×Bt×(List Val)) (ρ:=Val×Bool) (n:=x.names.length) (s:=pv (D q)) (body:=λG=>(un3 λJ L O=>bd (α:=Sum (Int×Bt×(List Val)) (Out (Int×Bt×(List Val)) (Val×Bool))) (bd (idx x.names ((G:Nat):Int)) λV=>bd (idx y.names ((q:Nat):Int)) λW=>if (V.b != W.b) then some (.inl (J,L,O)) else bd (α:=Int×Bt×(List Val)×Bool) (bd (idx x.kids ((G:Nat):Int)) λY=>bd o λa0=>bd (idx v.items ((G:Nat):Int)) λa1=>bd2 (rec.spec_l30Migrate a Y b a0 a1) λH a2=>some (H.number,H.bytes,H.items,a2)) (un4 λa3 a4 a5 a6=>if (!a6) then some (.inr (.ret ((⟨0,([]:Bt),([]:List Val)⟩:Val),false))) else some (.inl (a3,a4,a5)))) (el (un3 λa7 a8 a9=>some (.next (a7,a8,a9))) some))) (λ_=>pv (D q)) rfl (λk hk=>by
   unfold pv
   simp only [un3]
   rw [ix_ hk,bd_some,ix_ hq,bd_some,iP_ (ne_b.2 (hno k hk)),bd_some,el_inl])
  rw [this,bd_some,el_inl,hP,iP_ rfl]
theorem q_7 {rec:e_l}(h:SeqP x y v D M PW){n:Nat}
  (hD:∀q (hq:q<y.kids.length),g_g n b y.kids[q]=some (D q))
  (hM:∀q k (hk:k<x.kids.length) (hq':q<y.kids.length) (hk':k<v.items.length),rec.spec_l30Migrate a x.kids[k] b y.kids[q] v.items[k]=some (M q k)) :
  ((∀j,j<y.names.length->(PW j).2=true)/\d_O n rec a x b y v=some ((⟨0,[],a_Q PW y.names.length⟩:Val),true))∨((∃j,j<y.names.length/\(PW j).2=false)/\d_O n rec a x b y v=some ((⟨0,[],[]⟩:Val),false)):=by
 have h2:=h.ny;have G:=h.sy;unfold d_O;refine gather' (P:=λo=>((∀j,j<y.names.length->(PW j).2=true)/\o=some ((⟨0,[],a_Q PW y.names.length⟩:Val),true))∨((∃j,j<y.names.length/\(PW j).2=false)/\o=some ((⟨0,[],[]⟩:Val),false))) PW (λ_=>((⟨0,[],[]⟩:Val),false)) (λq hq=>?_) (λha=>.inl ⟨ha,rfl⟩)<|λk hk hf=>.inr ⟨⟨k,hk,hf⟩,rfl⟩
 rw [ix_ (by omega),bd_some,hD q (by omega),bd_some,bd_some]
 refine (q_6 h hq (λ_=>rfl)<|λk hk hq' hk'=>hM q k hk hq' hk').trans ?_;unfold pv
 simp only [un3,e_U]
 rw [j_z (by omega),bd_some]
 split <;> rfl
theorem q_8 {m:b_D}{rec:f_u}(h:SeqP x y v D M PW){n:Nat}
  (hD:∀q (hq:q<y.kids.length),e_i n ⟨m.b.rules⟩ y.kids[q]=some (D q))
  (hM:∀q k (hk:k<x.kids.length) (hq':q<y.kids.length) (hk':k<v.items.length),rec.impl_migrator_value m x.kids[k] y.kids[q] v.items[k]=some (M q k)) :
  ((∀j,j<y.names.length->(PW j).2=true)/\d_N n rec m x y v=some ((⟨0,[],a_Q PW y.names.length⟩:Val),true))∨((∃j,j<y.names.length/\(PW j).2=false)/\d_N n rec m x y v=some ((⟨0,[],[]⟩:Val),false)):=by
 have h1:=h.nx;have h2:=h.ny;have h3:=h.nv;have G:=h.sy;unfold d_N;refine gather' (P:=λo=>((∀j,j<y.names.length->(PW j).2=true)/\o=some ((⟨0,[],a_Q PW y.names.length⟩:Val),true))∨((∃j,j<y.names.length/\(PW j).2=false)/\o=some ((⟨0,[],[]⟩:Val),false))) PW (λ_=>((⟨0,[],[]⟩:Val),false)) (λq hq=>?_) (λha=>.inl ⟨ha,rfl⟩)<|λk hk hf=>.inr ⟨⟨k,hk,hf⟩,rfl⟩
 rw [ix_ hq,bd_some]
 have hp:=j_z (W:=PW) (k:=q) (by omega)
 rcases q_5 x.names y.names[q] with ⟨k,hk,he,e⟩ | ⟨hno,e⟩
 .have hP:PW q=M q k:=by
   rcases h.pw q hq with ⟨k',hk',he',hP⟩ | ⟨hno,_⟩
   .rw [hP,h.inj k k' hk hk'<|he.trans he'.symm]
   .exact absurd he<|hno k hk
  rw [e,bd_some,dF_ (by omega),iN_ (by simp),ix_ (by omega),bd_some,ix_ (by omega),bd_some,ix_ (by omega),bd_some,hM q k (by omega) (by omega) (by omega),← hP]
  cases hw:(PW q).2
  .rw [show PW q=((PW q).1,false) by rw [← hw],bd2_some,bd_some];rfl
  .rw [show PW q=((PW q).1,true) by rw [← hw],bd2_some,bd_some]
   simp only [un4,nT_,bF_,fF_,e_U,fT_]
   rw [hp]
   rfl
 .have hP:PW q=(D q,true):=by
   rcases h.pw q hq with ⟨k',hk',he',hP⟩ | ⟨_,hP⟩
   .exact absurd he'<|hno k' hk'
   .exact hP
  rw [hP] at hp
  rw [e,bd_some,dT_ (by decide),iP_ rfl,ix_ (by omega),bd_some,hD q (by omega),bd_some,hp,bd_some,hP]
  rfl
end
end Go.Vw
