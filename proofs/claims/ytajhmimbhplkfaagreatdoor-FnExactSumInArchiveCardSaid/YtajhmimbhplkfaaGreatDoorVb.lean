
import Derived.Test.YtajhmimbhplkfaaGreatDoorV9
import Derived.Test.YtajhmimbhplkfaaGreatDoorVa
import Derived.Test.YtajhmimbhplkfaaGreatDoorV7
namespace Go.Vw
open Go.RowKit Dat
section
variable {d:e_}{b:List UInt8}
structure n_Y (d:e_)(b:List UInt8)(n:Nat)(e:m_)(i p:Nat):Prop where
 path:e.path.b.length<=n
 rule:e.rule=i
 start:e.start=p
 end_:e.end_=((rdW d.rules b i p).2.1:Nat)
 hi:i<d.rules.length
 hp:p<=b.length
 ok:(rdW d.rules b i p).2.2=0
theorem placed (hv:a_4 d=true):∀(i:Nat),i<d.rules.length->∀(at_:Nat)(path:Str)(e:m_),at_<=b.length->(rdW d.rules b i at_).2.2=0->e∈ixW d.rules b i at_ path->∃i' p',n_Y d b (path.b.length+22 * i) e i' p':=by
 intro i
 induction i using Nat.strongRecOn with
 | _ i ih =>
  intro hi at_ path x ha hok hx;obtain ⟨ks,e,h⟩:=g_k hv hi ha hok
  rw [k_j hv hi h path] at hx
  rcases List.mem_cons.1 hx with rfl | hx
  ·exact ⟨i,at_,Nat.le_add_right _ _,rfl,rfl,rfl,hi,ha,hok⟩
  ·obtain ⟨m,hm,hx⟩:=n_P _ _ _ hx;have hr:=b_R hv hi;have hkr:=hr.kids _<|h.kids _<|gE_ hm;have hP:=n_O h.ch m hm;have G:=h.small;obtain ⟨i',p',L⟩:=ih ks[m].toNat (by omega) (by omega) _ _ x hP.1 hP.2 hx;have hl:=m_6 (d:=d) (path:=path) (j:=0+m) hr.kind (by omega);exact ⟨i',p',by have:=L.path;omega,L.rule,L.start,L.end_,L.hi,L.hp,L.ok⟩
theorem n_Z {e:m_}(he:e∈b_0 d b):a_4 d=true/\b.length<=400/\∃i p,n_Y d b 1000 e i p:=by
 have hok:okF d b=true:=by
  cases h:okF d b with
  | true=>rfl
  | false=>unfold b_0 at he;rw [h] at he;cases he
 unfold b_0 at he
 rw [iP_ hok] at he
 obtain ⟨hv,hb,h1,_,h2,_⟩:=j_Q hok;have hl:=(c_D hv).2;obtain ⟨i,p,L⟩:=placed hv _ h1 0 ⟨[]⟩ e (Nat.zero_le _) h2 he;have:=L.path
 simp only [List.length_nil] at this
 exact ⟨hv,hb,i,p,by omega,L.rule,L.start,L.end_,L.hi,L.hp,L.ok⟩
end
def c_W (s:Str):Bool:=c_q s || (s.b==[35] || s.b==[46,46])
def f_p (s:Str):Option (List Str):=match s.b with
 | []=>some []
 | c::r=>if c=47/\(a_f 47 r []).all c_W=true then some (a_f 47 r []) else none
def Pats (o:Option (List Str))(y:List Str×Bool):Prop:=match o with
 | some l=>y=(l,true)
 | none=>y.2=false
theorem o_0 {ρ:Type}{bad:ρ}{f:Str->Bool}{l:List Str}{step:Int->Option (Out Int ρ)}(h1:∀j (hj:j<l.length),1<=j->step (j:Int)=if f l[j]=true then some (.next ((j+1:Nat):Int)) else some (.ret bad))(h2:step (l.length:Int)=some (.brk (l.length:Int))) :
  ∀(m j n:Nat),j+m=l.length->1<=j->m<n->O_ step n (j:Int)=some (if (l.drop j).all f=true then .inl (l.length:Int) else .inr bad)
 | 0,j,n,hj,_,hn=>by
  obtain ⟨n,rfl⟩:∃m,n=m+1:=⟨n - 1,by omega⟩;have:j=l.length:=by omega
  subst this;unfold O_
  rw [h2,List.drop_length];rfl
 | m+1,j,n,hj,h,hn=>by
  obtain ⟨n,rfl⟩:∃m,n=m+1:=⟨n - 1,by omega⟩;have hlt:j<l.length:=by omega
  unfold O_
  rw [h1 j hlt h,dC_ hlt,List.all_cons]
  cases f l[j] with
  | true=>simp only [fT_,Bool.true_and];exact o_0 h1 h2 m (j+1) n (by omega) (by omega) (by omega)
  | false=>rfl
theorem o_1 {s:Str}{c:UInt8}{r:List UInt8}(h:s.b=c::r):(c=47->a_f 47 s.b []=⟨[]⟩::a_f 47 r [])/\(c ≠ 47->∃t q,a_f 47 s.b []=⟨c::t⟩::q):=by
 refine ⟨fun hc=>by rw [h,a_f,iP_ hc],fun hc=>?_⟩;obtain ⟨t,q,e⟩:=l_v 47 r [c];exact ⟨t,q,by rw [h,a_f,iN_ hc,List.nil_append,e];rfl⟩
theorem s_m {n:Nat}(hn:30<=n){s:Str}(hs:s.b.length<=MX)(W:s.b.length+2<=n):∃y,i_A n s=some y/\Pats (f_p s) y:=by
 have hMX:=MXv;unfold i_A f_p
 by_cases H:s.b=[]
 ·rw [H];exact ⟨_,rfl,rfl⟩
 rw [show (s.b==(⟨[]⟩:Str).b)=false by simpa using H,n_N hs W]
 simp only [bF_,fF_,bd_some]
 obtain ⟨c,r,hcr⟩:∃c r,s.b=c::r:=by cases h:s.b with | nil=>exact absurd h H | cons c r=>exact ⟨c,r,rfl⟩
 have hl:=d_J 47 s.b [];obtain ⟨g1,Y⟩:=o_1 hcr
 rw [hcr]
 simp only
 rw [← hcr]
 generalize hL:a_f 47 s.b []=l at *
 have hloop:=o_0 (ρ:=(List Str)×Bool) (bad:=(([]:List Str),false)) (f:=c_W) (l:=l) (step:=fun G=>if (decide<|G<(l.length:Int))=true then bd (α:=Bool) (bd (idx l G) fun I=>bd (e_r n I) fun J=>if (!J)=true then bd (idx l G) fun L=>if (L.b != (⟨[35]⟩:Str).b)=true then bd (idx l G) fun O=>some (O.b != (⟨[46,46]⟩:Str).b) else some false else some false) (fun V=>if V=true then some (.ret (([]:List Str),false)) else some (.next<|b_ G 1)) else some (.brk G))
  (fun j hj _=>by
   rw [dT_ (show (j:Int)<(l.length:Int) by omega)]
   simp only [fT_,ix_ hj,bd_some,j_R hn]
   rw [ia_ (x:=(j:Int)) (by omega) (by omega)]
   unfold c_W
   cases c_q l[j] with
   | true=>rfl
   | false =>
    simp only [Bool.not_false,fT_,Bool.false_or]
    by_cases h1:l[j].b=[35]
    ·rw [h1];rfl
    ·rw [show (l[j].b != [35])=true by simpa using h1,show (l[j].b==[35])=false by simpa using h1]
     simp only [fT_,bd_some,Bool.false_or]
     by_cases h2:l[j].b=[46,46]
     ·rw [h2];rfl
     ·rw [show (l[j].b != [46,46])=true by simpa using h2,show (l[j].b==[46,46])=false by simpa using h2];rfl)
  (by rw [dF_ (by omega)];rfl) (l.length - 1) 1 n (by omega) (Nat.le_refl _) (by omega)
 simp only [Int.natCast_one] at hloop
 rw [hloop]
 by_cases hc:c=47
 ·rw [g1 hc]
  have ht:=(d_J 47 r []).1;have hlen:(a_f 47 r []).length<l.length:=by rw [g1 hc];simp
  generalize a_f 47 r []=t at *
  simp only [List.drop_succ_cons,List.drop_zero,bd_some,hc,true_and]
  by_cases ha:t.all c_W=true
  ·rw [iP_ ha,iP_ ha]
   simp only [el_inl]
   rw [show slc ((⟨[]⟩:Str)::t) 1 (((⟨[]⟩:Str)::t).length:Int)=some t by rw [d_7 (by omega) (by simp;omega) (by omega)];simp]
   rw [bd_some,b_S (by simp),bd_some]
   simp only [List.getElem_cons_zero,bQ_,fT_,bd_some,un2]
   rw [dT_ (by simp;omega)]
   exact ⟨_,rfl,rfl⟩
  ·rw [iN_ ha,iN_ ha]
   exact ⟨_,rfl,rfl⟩
 ·obtain ⟨t,q,e⟩:=Y hc
  rw [iN_ (show ¬(c=47/\(a_f 47 r []).all c_W=true) from fun h=>hc h.1),e]
  simp only [List.drop_succ_cons,List.drop_zero,bd_some]
  by_cases ha:q.all c_W=true
  ·rw [iP_ ha]
   simp only [el_inl]
   rw [show slc ((⟨c::t⟩:Str)::q) 1 (((⟨c::t⟩:Str)::q).length:Int)=some q by rw [d_7 (by omega) (by simp;omega) (by omega)];simp]
   rw [bd_some,b_S (by simp),bd_some]
   exact ⟨_,rfl,rfl⟩
  ·rw [iN_ ha]
   exact ⟨_,rfl,rfl⟩
theorem s_n {n:Nat}(hn:30<=n)(s:Str):f_M n s=some (c_W s):=by
 unfold f_M c_W
 rw [n_S hn]
 simp only [bd_some]
 cases c_q s <;> simp only [bF_,fF_,fT_,bd_some,Bool.true_or,Bool.false_or]
 cases (s.b==[35]) <;> simp only [bF_,fF_,fT_,bd_some,Bool.true_or,Bool.false_or]
theorem s_o {n:Nat}(hn:30<=n){s:Str}(hs:s.b.length<=MX):∃y,i_F n s=some y/\Pats (f_p s) y:=by
 have hMX:=MXv;unfold i_F k_T f_p
 by_cases G:s.b=[]
 ·rw [G];exact ⟨_,rfl,rfl⟩
 rw [show (s.b==(⟨[]⟩:Str).b)=false by simpa using G]
 obtain ⟨c,r,hcr⟩:∃c r,s.b=c::r:=by cases h:s.b with | nil=>exact absurd h G | cons c r=>exact ⟨c,r,rfl⟩
 have hl:=d_J 47 s.b [];obtain ⟨g1,_⟩:=o_1 hcr
 rw [n_T hs,b_S (by rw [hcr];simp)]
 simp only [bF_,fF_,bd_some]
 have H:s.b[0]'(by rw [hcr];simp)=c:=by simp [hcr]
 rw [H,show (byteI c != byteI (47:UInt8)) = !decide (c=47) by unfold bne;rw [g_b],hcr]
 simp only
 by_cases hc:c=47
 ·rw [← hcr,g1 hc]
  rw [g1 hc] at hl
  clear g1
  have J:=(d_J 47 r []).1;generalize a_f 47 r []=l at *
  rw [dT_ hc]
  simp only [nT_,bF_,fF_,hc,true_and]
  rw [show slc ((⟨[]⟩:Str)::l) 1 (((⟨[]⟩:Str)::l).length:Int)=some l by rw [d_7 (by omega) (by simp;omega) (by omega)];simp]
  rw [bd_some,l_w<|s_n hn,bd_some,iP_ (by rw [a_u];have:=hl.2;rw [lC_] at this;omega)]
  have I:(l.map c_W).all id=l.all c_W:=by rw [List.all_map];rfl
  rw [I]
  by_cases ha:l.all c_W=true
  ·rw [iP_ ha,iP_ ha];exact ⟨_,rfl,rfl⟩
  ·rw [iN_ ha,iN_ ha];exact ⟨_,rfl,rfl⟩
 ·rw [dF_ hc,iN_ (show ¬(c=47/\(a_f 47 r []).all c_W=true) from fun h=>hc h.1)]
  exact ⟨_,rfl,rfl⟩
end Go.Vw
