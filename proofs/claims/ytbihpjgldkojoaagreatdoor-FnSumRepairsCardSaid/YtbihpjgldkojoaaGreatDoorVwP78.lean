
import Derived.Test.YtbihpjgldkojoaaGreatDoorVwP77
namespace Go.Vw
open Go.RowKit Dat
theorem m_y {σ ρ:Type}{f g:Nat->σ->Option (Out σ ρ)}(I:σ->Prop)(h:∀k s,I s->(∃s',f k s=some (.next s')/\g k s=some (.next s')/\I s')∨(f k s=some (.brk s)/\g k s=some (.brk s))):∀(n k:Nat)(s:σ),I s->∃s',G_ f n k s=some (.inl s')/\G_ g n k s=some (.inl s')/\I s'
 | 0,k,s,hs=>⟨s,rfl,rfl,hs⟩
 | n+1,k,s,hs=>by
  unfold G_
  rcases h k s hs with ⟨s',G,H,h'⟩ | ⟨G,H⟩
  .rw [G,H];exact m_y I h n (k+1) s' h'
  .rw [G,H];exact ⟨s,rfl,rfl,hs⟩
theorem q_s (l:Bt):0<=a_J l/\a_J l<256:=by unfold a_J;omega
theorem q_t {k:Int}(G:0<=k)(h:k<256):byteI (mkB k)=k:=by
 obtain ⟨m,rfl⟩:∃m:Nat,k=m:=⟨k.toNat,by omega⟩
 have:mkB (m:Int)=UInt8.ofNat m:=by
  unfold mkB
  rw [IntKind.wrap_u8]
  congr 1
  omega
 rw [this];exact g_z (by omega)
section
variable {d:g_}{b:Bt}
theorem k_z (hd:SmD d){n:Nat}(hn:500<=n):d_q n d b=some ((a_l d b).2.1,(a_l d b).2.2):=by
 unfold d_q
 rw [m_D hd hn]
 rcases a_l d b with ⟨v,p,c⟩
 rfl
theorem q_u:(a_Q d (b_4 d) b 0).2.2=0->(a_Q d (b_4 d) b 0).2.1<=(b.length:Int):=λh=>by
 unfold a_Q at *
 split at h
 .rename_i ho
  rw [iP_ ho]
  obtain ⟨hv,hb,i,p,h1,h2,hi,hp⟩:=e_6 ho;unfold b_E;have:=(b_D (b:=b) hv i hi p hp).2
  rw [h1,h2]
  simp only [tN_];omega
 .cases h
theorem m_z (hd:SmD d){n:Nat}(hn:500<=n):f_k n d b=some ((a_l d b).2.1,(a_l d b).2.2):=by
 unfold f_k
 rw [i_X hd,bd_some,k_B hd hn,bd2_some]
 unfold a_l;have he:=q_u (d:=d) (b:=b);generalize a_Q d (b_4 d) b 0=x at *
 obtain ⟨v,p,c⟩:=x
 simp only at he ⊢
 by_cases G:c=0
 .subst G;have:=he rfl
  by_cases h1:p<(b.length:Int)
  .have hne:¬((⟨p,0⟩:P_)=⟨(b.length:Int),0⟩):=λh=>by
    injection h with h2;omega
   rw [dF_ hne,iP_ (show (0:Int)=0/\p<(b.length:Int) from ⟨rfl,h1⟩)];rfl
  .have:p=(b.length:Int):=by omega
   rw [this,dT_ rfl,iN_ (show ¬((0:Int)=0/\(b.length:Int)<(b.length:Int)) by omega)];rfl
 .have hne:¬((⟨p,c⟩:P_)=⟨(b.length:Int),0⟩):=λh=>by
   injection h with h2 h3;exact G h3
  rw [dF_ hne,iN_ (show ¬(c=0/\p<(b.length:Int)) from λh=>G h.1)]
  rw [show (!false)=true from rfl,iP_ rfl,bd_some,show (c==0)=false by simpa using G];rfl
theorem i_W (hv:a_2 d=true)(hb:b.length<=400):a_Q d (b_4 d) b 0=b_E (rdW d.rules b (d.rules.length - 1) 0):=by
 have hl:=c_e hv;have:=k_f (d:=d) (b:=b) hv hb (i:=d.rules.length - 1) (p:=0) (by omega) (by omega)
 rw [← this]
 unfold b_4
 rw [show ((d.rules.length:Int) - 1)=((d.rules.length - 1:Nat):Int) by omega]
 rfl
theorem m_A (hd:SmD d)(h5:(a_l d b).2.2=5):a_2 d=true/\b.length<=400/\∃ss j st,f_u d b (d.rules.length - 1) 0 ss j st (rdW d.rules b (d.rules.length - 1) 0).2.1/\(a_l d b).2.1=((rdW d.rules b (d.rules.length - 1) 0).2.1:Int):=by
 have hc:(a_Q d (b_4 d) b 0).2.2=5/\a_l d b=a_Q d (b_4 d) b 0:=by
  unfold a_l at h5 ⊢
  split at h5
  .cases h5
  .rename_i h;rw [iN_ h];exact ⟨h5,rfl⟩
 have ho:okV d b (b_4 d) 0=true:=by
  have:=hc.1;unfold a_Q at this
  split at this
  .assumption
  .cases this
 obtain ⟨hv,hb,_⟩:=e_6 ho;have hl:=c_e hv;have hr:=i_W (b:=b) hv hb;have h6:=hc.1
 rw [hr] at h6
 obtain ⟨ss,j,st,S⟩:=q_q (b:=b) hv hd hb (d.rules.length - 1) (by omega) 0 (by omega) h6;exact ⟨hv,hb,ss,j,st,S,by rw [hc.2,hr];rfl⟩
theorem q_v {q:Nat}(hq:q<b.length)(c:UInt8):b_C b (b.set q c) q:=⟨by omega,by rw [List.length_set];omega,by rw [List.take_set_of_le (Nat.le_refl q)]⟩
theorem q_w (hd:SmD d)(hv:a_2 d=true)(hb:b.length<=400){ss:List Str}{j st q:Nat}(S:f_u d b (d.rules.length - 1) 0 ss j st q)(c:UInt8):if byteI c=a_J (piece b st q) then ((a_l d<|b.set q c).2.1 ≠ (q:Int)∨(a_l d<|b.set q c).2.2 ≠ 5) else ((a_l d<|b.set q c).2.1=(q:Int)/\(a_l d<|b.set q c).2.2=5):=by
 have hl:=c_e hv;have hA:=q_v S.lt c;have hc:(b.set q c)[q]? = some c:=by rw [List.getElem?_set_self S.lt]
 have hr:=i_W (b:=b.set q c) hv (by rw [List.length_set];exact hb)
 split
 .rename_i he
  have h:=S.other _ c hA hc he
  left
  have hp:(a_l d<|b.set q c).2.1=(a_Q d (b_4 d) (b.set q c) 0).2.1:=by
   unfold a_l;split <;> rfl
  rw [hp,hr]
  unfold b_E
  simp only
  omega
 .rename_i he
  have h:=S.same _ c hA hc he;unfold a_l
  rw [hr]
  unfold b_E
  rw [h]
  simp
theorem q_x (hd:SmD d){n:Nat}(hn:500<=n)(hv:a_2 d=true)(hb:b.length<=400){ss:List Str}{j st q:Nat}(S:f_u d b (d.rules.length - 1) 0 ss j st q):f_i n d b (q:Int)=some (mkB<|a_J<|piece b st q):=by
 have hLIM:=a_w;have hs:=q_s<|piece b st q;unfold f_i
 have hbody:∀k:Nat,k<256->(λG=>(λ(_:Unit)=>bd (app ([]:Bt) b) λH=>bd (upd H (q:Int)<|mkB ((G:Nat):Int)) λI=>bd2 (d_q n d I) λJ L=>bd (α:=Bool) (if (J != (q:Int)) then some true else some (L != 5)) (λO=>if O then some (.ret<|mkB ((G:Nat):Int)) else some (.next ()))):Nat->Unit->Option (Out Unit UInt8)) k ()=if (k:Int)=a_J (piece b st q) then some (.ret<|mkB ((k:Nat):Int)) else some (.next ()):=λk hk=>by
  have ht:=q_w hd hv hb S<|mkB (k:Int)
  rw [q_t (by omega) (by omega)] at ht
  simp only
  rw [b_I (by simp;omega),bd_some,List.nil_append,g_O S.lt,bd_some,k_z hd hn,bd2_some]
  by_cases he:(k:Int)=a_J (piece b st q)
  .rw [iP_ he] at ht ⊢
   by_cases hq:(a_l d<|b.set q<|mkB (k:Int)).2.1=(q:Int)
   .have h5:=ht.resolve_left<|λh=>h hq
    rw [hq]
    rw [show ((q:Int) != (q:Int))=false by simp,iN_ (by simp),bd_some,show ((a_l d<|b.set q<|mkB (k:Int)).2.2 != 5)=true by simpa using h5,iP_ rfl]
   .rw [show ((a_l d<|b.set q<|mkB (k:Int)).2.1 != (q:Int))=true by simpa using hq,iP_ rfl,bd_some,iP_ rfl]
  .rw [iN_ he] at ht ⊢
   rw [ht.1,ht.2]
   rw [show ((q:Int) != (q:Int))=false by simp,iN_ (by simp),bd_some]
   rfl
 have h:=g_P (σ:=Unit) (ρ:=UInt8) (body:=(λG=>(λ(_:Unit)=>bd (app ([]:Bt) b) λH=>bd (upd H (q:Int)<|mkB ((G:Nat):Int)) λI=>bd2 (d_q n d I) λJ L=>bd (α:=Bool) (if (J != (q:Int)) then some true else some (L != 5)) (λO=>if O then some (.ret<|mkB ((G:Nat):Int)) else some (.next ()))))) (λ_=>()) (r:=mkB<|a_J<|piece b st q) (n:=256) (j0:=(a_J<|piece b st q).toNat) (by omega)
  (λk hk=>(hbody k (by omega)).trans (iN_ (by omega)))
  ((hbody (a_J<|piece b st q).toNat (by omega)).trans ((iP_ (by omega)).trans (by rw [show (((a_J<|piece b st q).toNat:Nat):Int)=a_J (piece b st q) by omega])))
 refine (congrArg (λz=>bd z _) h).trans ?_
 rfl
theorem m_B (hv:a_2 d=true):b_4 d=((d.rules.length - 1:Nat):Int):=by
 have:=c_e hv;unfold b_4;omega
theorem q_y (hd:SmD d){n:Nat}(hn:1000<=n):∃x,f_l n d b=some x/\x.code=(a_l d b).2.2/\x.position=(a_l d b).2.1/\((a_l d b).2.2=5->∀(ss:List Str)(j st q:Nat),a_2 d=true->b.length<=400->f_u d b (d.rules.length - 1) 0 ss j st q->x.path=⟨b_N ss⟩):=by
 have hMX:=MXv;unfold f_l
 rw [m_z hd (by omega),bd2_some,i_X hd,bd_some]
 generalize hq:(a_l d b).2.1=J;generalize hc:(a_l d b).2.2=c
 by_cases G:c=8
 .rw [G]
  exact ⟨_,rfl,rfl,rfl,λh=>by cases h⟩
 rw [show (c==8)=false by simpa using G]
 by_cases H:c=0
 .rw [H]
  exact ⟨_,rfl,rfl,rfl,λh=>by cases h⟩
 by_cases I:c=7
 .rw [I]
  exact ⟨_,rfl,rfl,rfl,λh=>by cases h⟩
 rw [show (c==0)=false by simpa using H,show (c==7)=false by simpa using I]
 have ho:okV d b (b_4 d) 0=true:=by
  by_cases h:okV d b (b_4 d) 0=true
  .exact h
  .exfalso
   unfold a_l a_Q at hc
   rw [iN_ h] at hc
   simp at hc
   exact G hc.symm
 obtain ⟨hv,hb,_⟩:=e_6 ho;have hl:=c_e hv
 simp only [bF_,fF_,bd_some]
 rw [m_B hv]
 by_cases h5:c=5
 .obtain ⟨_,_,ss,j,st,S,_⟩:=m_A (b:=b) hd<|hc.trans h5;have ht:=S.tr ⟨[]⟩ (by have:=S.len;simp only [List.length_nil];omega) n (by omega) ⟨[]⟩ 0
  rw [show (((0:Nat):Nat):Int)=0 from rfl] at ht
  rw [show (a_Z n).impl_tracer_part=i_s n from rfl] at ht
  rw [show (⟨⟨d.rules⟩,b,⟨[]⟩,0⟩:b_v)=⟨d,b,⟨[]⟩,0⟩ from rfl,ht]
  refine ⟨_,rfl,rfl,rfl,λ_ ss' j' st' q' _ _ S'=>?_⟩;have ht':=S'.tr ⟨[]⟩ (by have:=S'.len;simp only [List.length_nil];omega) n (by omega) ⟨[]⟩ 0
  rw [show (((0:Nat):Nat):Int)=0 from rfl] at ht'
  rw [show (a_Z n).impl_tracer_part=i_s n from rfl,ht] at ht'
  exact (Prod.mk.inj<|Option.some.inj ht').1
 .obtain ⟨x,hx⟩:=q_r (b:=b) hv hd hb (d.rules.length - 1) (by omega) 0 (by omega) ⟨[]⟩ (by simp only [List.length_nil];omega) n (by omega) ⟨[]⟩ 0
  rw [show (((0:Nat):Nat):Int)=0 from rfl] at hx
  rw [show (a_Z n).impl_tracer_part=i_s n from rfl] at hx
  rw [show (⟨⟨d.rules⟩,b,⟨[]⟩,0⟩:b_v)=⟨d,b,⟨[]⟩,0⟩ from rfl,hx]
  exact ⟨_,rfl,rfl,rfl,λh=>absurd h h5⟩
theorem q_z (hd:SmD d)(hv:a_2 d=true)(hb:b.length<=400){n:Nat}(hn:1000<=n){ss:List Str}{j st q:Nat}(S:f_u d b (d.rules.length - 1) 0 ss j st q):f_m n d b ⟨b_N ss⟩=some ((st:Int),true):=by
 have hMX:=MXv;have hl:=c_e hv;have hj:=l_N ss S.good;have hlen:=S.len;unfold f_m
 rw [p_H (by omega) (by simp only;omega),p_B ss S.good,bd2_some,i_X hd,bd_some,m_B hv]
 have key:∀(m t i p:Nat),t+m=ss.length->i<d.rules.length->p<=b.length->∀k s,locL d b (ss.drop t) i p=some (k,s)->G_ (σ:=Bool×Int×Int) (ρ:=Int×Bool) (λI=>un3 λJ G H=>bd (idx ss ((I:Nat):Int)) λL=>bd (α:=Bool×Int×Int) (if J then bd3 (f_J n (⟨(⟨d.rules⟩:g_),b,G,H⟩:b_h) L) λO V W=>some (O,V,W) else some (false,G,H))<|un3 λY a0 a1=>some<|.next (Y,a0,a1)) m t (true,(i:Int),(p:Int))=some (.inl (true,(k:Int),(s:Int))):=by
  intro m
  induction m with
  | zero =>
   intro t i p ht hi hp k s h
   rw [List.drop_eq_nil_of_le (by omega)] at h
   cases h;rfl
  | succ m ih =>
   intro t i p ht hi hp k s h;have htl:t<ss.length:=by omega
   rw [dC_ htl] at h
   unfold locL at h
   rw [m_4 hi] at h
   obtain ⟨y,h1,h2⟩:=p_R hv hd hb (show 500<=n by omega) hi hp ss[t]
   cases hs:b_m d.rules b d.rules[i] p ss[t] with
   | none=>rw [hs] at h;cases h
   | some x =>
    rw [hs] at h h2
    have h2':y=(true,(x.1:Int),(x.2:Int)):=h2;have hx:=p_M hv hi hp (k:=x.1) (q:=x.2) hs;unfold G_
    simp only [un3]
    rw [ix_ htl,bd_some,iP_ trivial,h1,h2']
    exact ih (t+1) x.1 x.2 (by omega) (by omega) hx.2 k s h
 have:=key ss.length 0 (d.rules.length - 1) 0 (by omega) (by omega) (by omega) j st (by rw [List.drop_zero];exact S.loc);refine (congrArg (λz=>bd z _) this).trans ?_
 rfl
def e_D (d:g_)(b x:Bt):Bt×Bool:=if okF d x then (x,true) else (b,false)
theorem q_A (hd:SmD d)(hb:b.length<=MX){n:Nat}(hn:1000<=n):∃x:Bt,f_j n d b=some (e_D d b x)/\f_n n d b=some (e_D d b x)/\x.length=b.length:=by
 have hMX:=MXv;have hLIM:=a_w;unfold f_j f_n
 rw [b_I (by simp;omega),bd_some,bd_some,List.nil_append]
 obtain ⟨x,e1,e2,hx⟩:=m_y (σ:=Bt) (ρ:=Bt×Bool) (f:=(λa5=>(λH=>bd2 (d_q n d H) λL V=>if (V != 5) then some (.brk H) else bd (f_i n d H L) λW=>bd (upd H L W) λG=>some<|.next G)))
  (g:=(λa6=>(λG=>bd (f_l n d G) λI=>if (I.code != 5) then some (.brk G) else bd2 (f_m n d G I.path) λY a0=>bd (α:=Int) (if a0 then some Y else some 0)<|λa1=>bd (slc G a1 I.position) λa2=>bd (e_d a2) λa3=>bd (upd G I.position<|mkB a3) λa4=>some<|.next a4)))
  (λx=>x.length=b.length) (λk s hs=>by
   obtain ⟨y,hy,O,y2,y3⟩:=q_y (b:=s) hd hn
   by_cases h5:(a_l d s).2.2=5
   .left
    obtain ⟨hv,J,ss,j,st,S,hpos⟩:=m_A (b:=s) hd h5;generalize (rdW d.rules s (d.rules.length - 1) 0).2.1=q at *
    refine ⟨s.set q<|mkB<|a_J<|piece s st q,?_,?_,by rw [List.length_set];exact hs⟩
    .rw [k_z hd (by omega),bd2_some,h5,iN_ (by simp),hpos,q_x hd (by omega) hv J S,bd_some,g_O S.lt,bd_some]
    .rw [hy,bd_some,O,h5,iN_ (by simp),y3 h5 ss j st q hv J S,q_z hd hv J hn S,bd2_some,iP_ rfl,bd_some,y2,hpos,c_d S.le<|Nat.le_of_lt S.lt,bd_some,k_h _ (by rw [c_J (Nat.le_of_lt S.lt)];have:=S.lt;omega),bd_some,g_O S.lt,bd_some]
   .right
    refine ⟨?_,?_⟩
    .rw [k_z hd (by omega),bd2_some,iP_ (by simpa using h5)]
    .rw [hy,bd_some,O,iP_ (by simpa using h5)]) 400 0 b rfl
 have ho:c_L n d x=some (okF d x):=k_d hd (by omega);have ho':f_L n d x=some (okF d x):=p_Y hd (by omega);refine ⟨x,?_,?_,hx⟩
 .refine (congrArg (λz=>bd z _) e1).trans ?_
  rw [bd_some,el_inl,ho,bd_some]
  unfold e_D
  cases okF d x <;> rfl
 .refine (congrArg (λz=>bd z _) e2).trans ?_
  rw [bd_some,el_inl,ho',bd_some]
  unfold e_D
  cases okF d x <;> rfl
end
end Go.Vw
