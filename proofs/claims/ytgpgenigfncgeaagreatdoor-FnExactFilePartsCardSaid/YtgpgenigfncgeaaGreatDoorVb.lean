
import Derived.Test.YtgpgenigfncgeaaGreatDoorV9
import Derived.Test.YtgpgenigfncgeaaGreatDoorVa
import Derived.Test.YtgpgenigfncgeaaGreatDoorV7
namespace Go.Vw
open Go.RowKit Dat
section
variable {d:f_}{b:Bt}
structure p_0 (d:f_)(b:Bt)(n:Nat)(e:l_)(i p:Nat):Prop where
 path:e.path.b.length<=n
 rule:e.rule=i
 start:e.start=p
 end_:e.end_=((rdW d.rules b i p).2.1:Nat)
 hi:i<d.rules.length
 hp:p<=b.length
 ok:(rdW d.rules b i p).2.2=0
theorem placed (hv:a_9 d=true):∀(i:Nat),i<d.rules.length->∀(at_:Nat)(path:Str)(e:l_),at_<=b.length->(rdW d.rules b i at_).2.2=0->e∈ixW d.rules b i at_ path->∃i' p',p_0 d b (path.b.length+22 * i) e i' p':=by
 intro i
 induction i using Nat.strongRecOn with
 | _ i ih =>
  intro hi at_ path x ha hok hx;obtain ⟨ks,e,h⟩:=g_D hv hi ha hok
  rw [l_2 hv hi h path] at hx
  rcases List.mem_cons.1 hx with rfl | hx
  .exact ⟨i,at_,Nat.le_add_right _ _,rfl,rfl,rfl,hi,ha,hok⟩
  .obtain ⟨m,hm,hx⟩:=o_P _ _ _ hx;have hr:=c_2 hv hi;have hkr:=hr.kids _<|h.kids _<|gE_ hm;have hP:=o_O h.ch m hm;have G:=h.small;obtain ⟨i',p',L⟩:=ih ks[m].toNat (by omega) (by omega) _ _ x hP.1 hP.2 hx;have hl:=n_a (d:=d) (path:=path) (j:=0+m) hr.kind (by omega);exact ⟨i',p',by have:=L.path;omega,L.rule,L.start,L.end_,L.hi,L.hp,L.ok⟩
theorem t_R {e:l_}(he:e∈b_z d b):a_9 d=true/\b.length<=400/\∃i p,p_0 d b 1000 e i p:=by
 have hok:okF d b=true:=by
  cases h:okF d b with
  | true=>rfl
  | false=>unfold b_z at he;rw [h] at he;cases he
 unfold b_z at he
 rw [iP_ hok] at he
 obtain ⟨hv,hb,h1,_,h2,_⟩:=k_C hok;have hl:=(c_J hv).2;obtain ⟨i,p,L⟩:=placed hv _ h1 0 ⟨[]⟩ e (Nat.zero_le _) h2 he;have:=L.path
 simp only [List.length_nil] at this
 exact ⟨hv,hb,i,p,by omega,L.rule,L.start,L.end_,L.hi,L.hp,L.ok⟩
end
def d_7 (s:Str):Bool:=c_w s || (s.b==[35] || s.b==[46,46])
def f_z (s:Str):Option (List Str):=match s.b with
 | []=>some []
 | c::r=>if c=47/\(a_e 47 r []).all d_7 then some (a_e 47 r []) else none
def Pats (o:Option (List Str))(y:List Str×Bool):Prop:=match o with
 | some l=>y=(l,true)
 | none=>y.2=false
theorem p_1 {ρ:Type}{bad:ρ}{f:Str->Bool}{l:List Str}{step:Int->Option (Out Int ρ)}(h1:∀j (hj:j<l.length),1<=j->step (j:Int)=if f l[j] then some (.next ((j+1:Nat):Int)) else some (.ret bad))(h2:step (l.length:Int)=some (.brk (l.length:Int))) :
  ∀(m j n:Nat),j+m=l.length->1<=j->m<n->I_ step n (j:Int)=some (if (l.drop j).all f then .inl (l.length:Int) else .inr bad)
 | 0,j,n,hj,_,hn=>by
  obtain ⟨n,rfl⟩:∃m,n=m+1:=⟨n - 1,by omega⟩;have:j=l.length:=by omega
  subst this;unfold I_
  rw [h2,List.drop_length];rfl
 | m+1,j,n,hj,h,hn=>by
  obtain ⟨n,rfl⟩:∃m,n=m+1:=⟨n - 1,by omega⟩;have hlt:j<l.length:=by omega
  unfold I_
  rw [h1 j hlt h,dC_ hlt,List.all_cons]
  cases f l[j] with
  | true=>simp only [fT_,Bool.true_and];exact p_1 h1 h2 m (j+1) n (by omega) (by omega) (by omega)
  | false=>rfl
theorem p_2 {s:Str}{c:UInt8}{r:Bt}(h:s.b=c::r):(c=47->a_e 47 s.b []=⟨[]⟩::a_e 47 r [])/\(c ≠ 47->∃t q,a_e 47 s.b []=⟨c::t⟩::q):=by
 refine ⟨λhc=>by rw [h,a_e,iP_ hc],λhc=>?_⟩;obtain ⟨t,q,e⟩:=m_z 47 r [c];exact ⟨t,q,by rw [h,a_e,iN_ hc,List.nil_append,e];rfl⟩
theorem t_S {n:Nat}(hn:30<=n){s:Str}(hs:s.b.length<=MX)(W:s.b.length+2<=n):∃y,i_Y n s=some y/\Pats (f_z s) y:=by
 have hMX:=MXv;unfold i_Y f_z
 by_cases H:s.b=[]
 .rw [H];exact ⟨_,rfl,rfl⟩
 rw [show (s.b==(⟨[]⟩:Str).b)=false by simpa using H,o_N hs W]
 simp only [bF_,fF_,bd_some]
 obtain ⟨c,r,hcr⟩:∃c r,s.b=c::r:=by cases h:s.b with | nil=>exact absurd h H | cons c r=>exact ⟨c,r,rfl⟩
 have hl:=e_0 47 s.b [];obtain ⟨g1,Y⟩:=p_2 hcr
 rw [hcr]
 simp only
 rw [← hcr]
 generalize hL:a_e 47 s.b []=l at *
 have hloop:=p_1 (ρ:=(List Str)×Bool) (bad:=(([]:List Str),false)) (f:=d_7) (l:=l) (step:=λG=>if (decide<|G<(l.length:Int)) then bd (α:=Bool) (bd (idx l G) λI=>bd (e_z n I) λJ=>if (!J) then bd (idx l G) λL=>if (L.b != (⟨[35]⟩:Str).b) then bd (idx l G) λO=>some (O.b != (⟨[46,46]⟩:Str).b) else some false else some false) (λV=>if V then some (.ret (([]:List Str),false)) else some (.next<|b_ G 1)) else some (.brk G))
  (λj hj _=>by
   rw [dT_ (show (j:Int)<(l.length:Int) by omega)]
   simp only [fT_,ix_ hj,bd_some,k_D hn]
   rw [ia_ (x:=(j:Int)) (by omega) (by omega)]
   unfold d_7
   cases c_w l[j] with
   | true=>rfl
   | false =>
    simp only [Bool.not_false,fT_,Bool.false_or]
    by_cases h1:l[j].b=[35]
    .rw [h1];rfl
    .rw [show (l[j].b != [35])=true by simpa using h1,show (l[j].b==[35])=false by simpa using h1]
     simp only [fT_,bd_some,Bool.false_or]
     by_cases h2:l[j].b=[46,46]
     .rw [h2];rfl
     .rw [show (l[j].b != [46,46])=true by simpa using h2,show (l[j].b==[46,46])=false by simpa using h2];rfl)
  (by rw [dF_ (by omega)];rfl) (l.length - 1) 1 n (by omega) (Nat.le_refl _) (by omega)
 simp only [Int.natCast_one] at hloop
 rw [hloop]
 by_cases hc:c=47
 .rw [g1 hc]
  have ht:=(e_0 47 r []).1;have hlen:(a_e 47 r []).length<l.length:=by rw [g1 hc];simp
  generalize a_e 47 r []=t at *
  simp only [List.drop_succ_cons,List.drop_zero,bd_some,hc,true_and]
  by_cases ha:t.all d_7=true
  .rw [iP_ ha,iP_ ha]
   simp only [el_inl]
   rw [show slc ((⟨[]⟩:Str)::t) 1 (((⟨[]⟩:Str)::t).length:Int)=some t by rw [d_e (by omega) (by simp;omega) (by omega)];simp]
   rw [bd_some,b_W (by simp),bd_some]
   simp only [List.getElem_cons_zero,bQ_,fT_,bd_some,un2]
   rw [dT_ (by simp;omega)]
   exact ⟨_,rfl,rfl⟩
  .rw [iN_ ha,iN_ ha]
   exact ⟨_,rfl,rfl⟩
 .obtain ⟨t,q,e⟩:=Y hc
  rw [iN_ (show ¬(c=47/\(a_e 47 r []).all d_7=true) from λh=>hc h.1),e]
  simp only [List.drop_succ_cons,List.drop_zero,bd_some]
  by_cases ha:q.all d_7=true
  .rw [iP_ ha]
   simp only [el_inl]
   rw [show slc ((⟨c::t⟩:Str)::q) 1 (((⟨c::t⟩:Str)::q).length:Int)=some q by rw [d_e (by omega) (by simp;omega) (by omega)];simp]
   rw [bd_some,b_W (by simp),bd_some]
   exact ⟨_,rfl,rfl⟩
  .rw [iN_ ha]
   exact ⟨_,rfl,rfl⟩
theorem t_T {n:Nat}(hn:30<=n)(s:Str):f_T n s=some (d_7 s):=by
 unfold f_T d_7
 rw [o_S hn]
 simp only [bd_some]
 cases c_w s <;> simp only [bF_,fF_,fT_,bd_some,Bool.true_or,Bool.false_or]
 cases (s.b==[35]) <;> simp only [bF_,fF_,fT_,bd_some,Bool.true_or,Bool.false_or]
theorem t_U {n:Nat}(hn:30<=n){s:Str}(hs:s.b.length<=MX):∃y,j_2 n s=some y/\Pats (f_z s) y:=by
 have hMX:=MXv;unfold j_2 l_k f_z
 by_cases G:s.b=[]
 .rw [G];exact ⟨_,rfl,rfl⟩
 rw [show (s.b==(⟨[]⟩:Str).b)=false by simpa using G]
 obtain ⟨c,r,hcr⟩:∃c r,s.b=c::r:=by cases h:s.b with | nil=>exact absurd h G | cons c r=>exact ⟨c,r,rfl⟩
 have hl:=e_0 47 s.b [];obtain ⟨g1,_⟩:=p_2 hcr
 rw [o_T hs,b_W (by rw [hcr];simp)]
 simp only [bF_,fF_,bd_some]
 have H:s.b[0]'(by rw [hcr];simp)=c:=by simp [hcr]
 rw [H,show (byteI c != byteI (47:UInt8)) = !decide (c=47) by unfold bne;rw [g_t],hcr]
 simp only
 by_cases hc:c=47
 .rw [← hcr,g1 hc]
  rw [g1 hc] at hl
  clear g1
  have J:=(e_0 47 r []).1;generalize a_e 47 r []=l at *
  rw [dT_ hc]
  simp only [nT_,bF_,fF_,hc,true_and]
  rw [show slc ((⟨[]⟩:Str)::l) 1 (((⟨[]⟩:Str)::l).length:Int)=some l by rw [d_e (by omega) (by simp;omega) (by omega)];simp]
  rw [bd_some,m_A<|t_T hn,bd_some,iP_ (by rw [a_o];have:=hl.2;rw [lC_] at this;omega)]
  have I:(l.map d_7).all id=l.all d_7:=by rw [List.all_map];rfl
  rw [I]
  by_cases ha:l.all d_7=true
  .rw [iP_ ha,iP_ ha];exact ⟨_,rfl,rfl⟩
  .rw [iN_ ha,iN_ ha];exact ⟨_,rfl,rfl⟩
 .rw [dF_ hc,iN_ (show ¬(c=47/\(a_e 47 r []).all d_7=true) from λh=>hc h.1)]
  exact ⟨_,rfl,rfl⟩
end Go.Vw
