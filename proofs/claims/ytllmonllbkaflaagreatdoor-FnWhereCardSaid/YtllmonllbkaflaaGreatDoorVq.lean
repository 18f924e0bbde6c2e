
import Derived.Test.YtllmonllbkaflaaGreatDoorV8
import Derived.Test.YtllmonllbkaflaaGreatDoorV9
import Derived.Test.YtllmonllbkaflaaGreatDoorVp
namespace Go.Vw
open Go.RowKit Dat
section
variable {d:c_}{b:Bt}
structure o_D (d:c_)(b:Bt)(n:Nat)(e:g_)(i p:Nat):Prop where
 path:e.path.b.length<=n
 rule:e.rule=i
 start:e.start=p
 end_:e.end_=((rdW d.rules b i p).2.1:Nat)
 hi:i<d.rules.length
 hp:p<=b.length
 ok:(rdW d.rules b i p).2.2=0
theorem placed (hv:D_ d=true):∀(i:Nat),i<d.rules.length->∀(at_:Nat)(path:Str)(e:g_),at_<=b.length->(rdW d.rules b i at_).2.2=0->e∈ixW d.rules b i at_ path->∃i' p',o_D d b (path.b.length+22 * i) e i' p':=by
 intro i
 induction i using Nat.strongRecOn with
 | _ i ih =>
  intro hi at_ path x ha hok hx;obtain ⟨ks,e,h⟩:=e_x hv hi ha hok
  rw [i_q hv hi h path] at hx
  rcases List.mem_cons.1 hx with rfl | hx
  .exact ⟨i,at_,Nat.le_add_right _ _,rfl,rfl,rfl,hi,ha,hok⟩
  .obtain ⟨m,hm,hx⟩:=m_6 _ _ _ hx;have hr:=a_L hv hi;have hkr:=hr.kids _<|h.kids _<|gE_ hm;have hP:=k_f h.ch m hm;have G:=h.small;obtain ⟨i',p',L⟩:=ih ks[m].toNat (by omega) (by omega) _ _ x hP.1 hP.2 hx;have hl:=m_H (d:=d) (path:=path) (j:=0+m) hr.kind (by omega);exact ⟨i',p',by have:=L.path;omega,L.rule,L.start,L.end_,L.hi,L.hp,L.ok⟩
theorem t_m {e:g_}(he:e∈a_X d b):D_ d=true/\b.length<=400/\∃i p,o_D d b 1000 e i p:=by
 have hok:okF d b=true:=by
  cases h:okF d b with
  | true=>rfl
  | false=>unfold a_X at he;rw [h] at he;cases he
 unfold a_X at he
 rw [iP_ hok] at he
 obtain ⟨hv,hb,h1,_,h2,_⟩:=i_c hok;have hl:=(b_f hv).2;obtain ⟨i,p,L⟩:=placed hv _ h1 0 ⟨[]⟩ e (Nat.zero_le _) h2 he;have:=L.path
 simp only [List.length_nil] at this
 exact ⟨hv,hb,i,p,by omega,L.rule,L.start,L.end_,L.hi,L.hp,L.ok⟩
end
def d_7 (s:Str):Bool:=c_5 s || (s.b==[35] || s.b==[46,46])
def g_a (s:Str):Option (List Str):=match s.b with
 | []=>some []
 | c::r=>if c=47/\(W_ 47 r []).all d_7 then some (W_ 47 r []) else none
def Pats (o:Option (List Str))(y:List Str×Bool):Prop:=match o with
 | some l=>y=(l,true)
 | none=>y.2=false
theorem o_E {ρ:Type}{bad:ρ}{f:Str->Bool}{l:List Str}{step:Int->Option (Out Int ρ)}(h1:∀j (hj:j<l.length),1<=j->step (j:Int)=if f l[j] then some (.next ((j+1:Nat):Int)) else some (.ret bad))(h2:step (l.length:Int)=some (.brk (l.length:Int))) :
  ∀(m j n:Nat),j+m=l.length->1<=j->m<n->V_ step n (j:Int)=some (if (l.drop j).all f then .inl (l.length:Int) else .inr bad)
 | 0,j,n,hj,_,hn=>by
  obtain ⟨n,rfl⟩:∃m,n=m+1:=⟨n - 1,by omega⟩;have:j=l.length:=by omega
  subst this;unfold V_
  rw [h2,List.drop_length];rfl
 | m+1,j,n,hj,G,hn=>by
  obtain ⟨n,rfl⟩:∃m,n=m+1:=⟨n - 1,by omega⟩;have hlt:j<l.length:=by omega
  unfold V_
  rw [h1 j hlt G,dC_ hlt,List.all_cons]
  cases f l[j] with
  | true=>simp only [fT_,Bool.true_and];exact o_E h1 h2 m (j+1) n (by omega) (by omega) (by omega)
  | false=>rfl
theorem o_F {s:Str}{c:UInt8}{r:Bt}(h:s.b=c::r):(c=47->W_ 47 s.b []=⟨[]⟩::W_ 47 r [])/\(c ≠ 47->∃t q,W_ 47 s.b []=⟨c::t⟩::q):=by
 refine ⟨λhc=>by rw [h,W_,iP_ hc],λhc=>?_⟩;obtain ⟨t,q,e⟩:=m_9 47 r [c];exact ⟨t,q,by rw [h,W_,iN_ hc,List.nil_append,e];rfl⟩
theorem t_n {n:Nat}(hn:30<=n){s:Str}(hs:s.b.length<=MX)(W:s.b.length+2<=n):∃y,j_c n s=some y/\Pats (g_a s) y:=by
 have hMX:=MXv;unfold j_c g_a
 by_cases H:s.b=[]
 .rw [H];exact ⟨_,rfl,rfl⟩
 rw [show (s.b==(⟨[]⟩:Str).b)=false by simpa using H,o_7 hs W]
 simp only [bF_,fF_,bd_some]
 obtain ⟨c,r,hcr⟩:∃c r,s.b=c::r:=by cases h:s.b with | nil=>exact absurd h H | cons c r=>exact ⟨c,r,rfl⟩
 have hl:=d_Y 47 s.b [];obtain ⟨g1,Y⟩:=o_F hcr
 rw [hcr]
 simp only
 rw [← hcr]
 generalize hL:W_ 47 s.b []=l at *
 have hloop:=o_E (ρ:=(List Str)×Bool) (bad:=(([]:List Str),false)) (f:=d_7) (l:=l) (step:=λG=>if (decide<|G<(l.length:Int)) then bd (α:=Bool) (bd (idx l G) λI=>bd (e_A n I) λJ=>if (!J) then bd (idx l G) λL=>if (L.b != (⟨[35]⟩:Str).b) then bd (idx l G) λO=>some (O.b != (⟨[46,46]⟩:Str).b) else some false else some false) (λV=>if V then some (.ret (([]:List Str),false)) else some (.next<|d_ G 1)) else some (.brk G))
  (λj hj _=>by
   rw [dT_ (show (j:Int)<(l.length:Int) by omega)]
   simp only [fT_,ix_ hj,bd_some,k_d hn]
   rw [ia_ (x:=(j:Int)) (by omega) (by omega)]
   unfold d_7
   cases c_5 l[j] with
   | true=>rfl
   | false =>
    simp only [Bool.not_false,fT_,Bool.false_or]
    by_cases h1:l[j].b=[35]
    .rw [h1];rfl
    .rw [show (l[j].b != [35])=true by simpa using h1,show (l[j].b==[35])=false by simpa using h1]
     simp only [fT_,bd_some,Bool.false_or]
     by_cases h2:l[j].b=[46,46]
     .rw [h2];rfl
     .rw [show (l[j].b != [46,46])=true by simpa using h2,show (l[j].b==[46,46])=false by simpa using h2];rfl)
  (by rw [dF_ (by omega)];rfl) (l.length - 1) 1 n (by omega) (Nat.le_refl _) (by omega)
 simp only [Int.natCast_one] at hloop
 rw [hloop]
 by_cases hc:c=47
 .rw [g1 hc]
  have ht:=(d_Y 47 r []).1;have hlen:(W_ 47 r []).length<l.length:=by rw [g1 hc];simp
  generalize W_ 47 r []=t at *
  simp only [List.drop_succ_cons,List.drop_zero,bd_some,hc,true_and]
  by_cases ha:t.all d_7=true
  .rw [iP_ ha,iP_ ha]
   simp only [el_inl]
   rw [show slc ((⟨[]⟩:Str)::t) 1 (((⟨[]⟩:Str)::t).length:Int)=some t by rw [e_z (by omega) (by simp;omega) (by omega)];simp]
   rw [bd_some,a_M (by simp),bd_some]
   simp only [List.getElem_cons_zero,bQ_,fT_,bd_some,un2]
   rw [dT_ (by simp;omega)]
   exact ⟨_,rfl,rfl⟩
  .rw [iN_ ha,iN_ ha]
   exact ⟨_,rfl,rfl⟩
 .obtain ⟨t,q,e⟩:=Y hc
  rw [iN_ (show ¬(c=47/\(W_ 47 r []).all d_7=true) from λh=>hc h.1),e]
  simp only [List.drop_succ_cons,List.drop_zero,bd_some]
  by_cases ha:q.all d_7=true
  .rw [iP_ ha]
   simp only [el_inl]
   rw [show slc ((⟨c::t⟩:Str)::q) 1 (((⟨c::t⟩:Str)::q).length:Int)=some q by rw [e_z (by omega) (by simp;omega) (by omega)];simp]
   rw [bd_some,a_M (by simp),bd_some]
   exact ⟨_,rfl,rfl⟩
  .rw [iN_ ha]
   exact ⟨_,rfl,rfl⟩
theorem t_o {n:Nat}(hn:30<=n)(s:Str):g_t n s=some (d_7 s):=by
 unfold g_t d_7
 rw [o_e hn]
 simp only [bd_some]
 cases c_5 s <;> simp only [bF_,fF_,fT_,bd_some,Bool.true_or,Bool.false_or]
 cases (s.b==[35]) <;> simp only [bF_,fF_,fT_,bd_some,Bool.true_or,Bool.false_or]
theorem t_p {n:Nat}(hn:30<=n){s:Str}(hs:s.b.length<=MX):∃y,j_g n s=some y/\Pats (g_a s) y:=by
 have hMX:=MXv;unfold j_g k_P g_a
 by_cases G:s.b=[]
 .rw [G];exact ⟨_,rfl,rfl⟩
 rw [show (s.b==(⟨[]⟩:Str).b)=false by simpa using G]
 obtain ⟨c,r,hcr⟩:∃c r,s.b=c::r:=by cases h:s.b with | nil=>exact absurd h G | cons c r=>exact ⟨c,r,rfl⟩
 have hl:=d_Y 47 s.b [];obtain ⟨g1,_⟩:=o_F hcr
 rw [o_f hs,a_M (by rw [hcr];simp)]
 simp only [bF_,fF_,bd_some]
 have H:s.b[0]'(by rw [hcr];simp)=c:=by simp [hcr]
 rw [H,show (byteI c != byteI (47:UInt8)) = !decide (c=47) by unfold bne;rw [f_5],hcr]
 simp only
 by_cases hc:c=47
 .rw [← hcr,g1 hc]
  rw [g1 hc] at hl
  clear g1
  have J:=(d_Y 47 r []).1;generalize W_ 47 r []=l at *
  rw [dT_ hc]
  simp only [nT_,bF_,fF_,hc,true_and]
  rw [show slc ((⟨[]⟩:Str)::l) 1 (((⟨[]⟩:Str)::l).length:Int)=some l by rw [e_z (by omega) (by simp;omega) (by omega)];simp]
  rw [bd_some,m_a<|t_o hn,bd_some,iP_ (by rw [a_m];have:=hl.2;rw [lC_] at this;omega)]
  have I:(l.map d_7).all id=l.all d_7:=by rw [List.all_map];rfl
  rw [I]
  by_cases ha:l.all d_7=true
  .rw [iP_ ha,iP_ ha];exact ⟨_,rfl,rfl⟩
  .rw [iN_ ha,iN_ ha];exact ⟨_,rfl,rfl⟩
 .rw [dF_ hc,iN_ (show ¬(c=47/\(W_ 47 r []).all d_7=true) from λh=>hc h.1)]
  exact ⟨_,rfl,rfl⟩
end Go.Vw
