
import Derived.Test.YtefljifhihogoaaGreatDoorVk
import Derived.Test.YtefljifhihogoaaGreatDoorVl
namespace Go.Vw
set_option linter.unusedVariables false
open Go.RowKit Dat
section
variable {d:d_}{b:Bt}
structure r_3 (d:d_)(b:Bt)(n:Nat)(e:j_)(i p:Nat):Prop where
 path:e.path.b.length<=n
 rule:e.rule=i
 start:e.start=p
 end_:e.end_=((rdW d.rules b i p).2.1:Nat)
 hi:i<d.rules.length
 hp:p<=b.length
 ok:(rdW d.rules b i p).2.2=0
theorem placed (hv:D_ d=true):∀(i:Nat),i<d.rules.length->∀(at_:Nat)(path:Str)(e:j_),at_<=b.length->(rdW d.rules b i at_).2.2=0->e∈ixW d.rules b i at_ path->∃i' p',r_3 d b (path.b.length+22 * i) e i' p':=by
 intro i
 induction i using Nat.strongRecOn with
 | _ i ih =>
  intro hi at_ path x ha hok hx;obtain ⟨ks,e,h⟩:=f_i hv hi ha hok
  rw [j_C hv hi h path] at hx
  rcases QAV.1 hx with rfl | hx
  .exact ⟨i,at_,Nat.le_add_right _ _,rfl,rfl,rfl,hi,ha,hok⟩
  .obtain ⟨m,hm,hx⟩:=n_E _ _ _ hx;have hr:=a_P hv hi;have hkr:=hr.kids _<|h.kids _<|gE_ hm;have hP:=l_E h.ch m hm;have G:=h.small;obtain ⟨i',p',L⟩:=ih ks[m].toNat (by omega) (by omega) _ _ x hP.1 hP.2 hx;have hl:=o_y (d:=d) (path:=path) (j:=0+m) hr.kind (by omega);exact ⟨i',p',by have:=L.path;omega,L.rule,L.start,L.end_,L.hi,L.hp,L.ok⟩
theorem w_k {e:j_}(he:e∈b_4 d b):D_ d=true/\b.length<=400/\∃i p,r_3 d b 1000 e i p:=by
 have hok:okF d b=true:=by
  grind [okF,b_4]
 unfold b_4 at he
 rw [iP_ hok] at he
 obtain ⟨hv,hb,h1,_,h2,_⟩:=j_n hok;have hl:=(b_i hv).2;obtain ⟨i,p,L⟩:=placed hv _ h1 0 ⟨[]⟩ e (QAI _) h2 he;have:=L.path
 simp only [QAD] at this
 exact ⟨hv,hb,i,p,by omega,L.rule,L.start,L.end_,L.hi,L.hp,L.ok⟩
end
def d_E (s:Str):Bool:=c_n s || (s.b==[35] || s.b==[46,46])
def h_l (s:Str):Option (List Str):=match s.b with
 | []=>some []
 | c::r=>if c=47/\(a_6 47 r []).all d_E then some (a_6 47 r []) else none
def Pats (o:Option (List Str))(y:List Str×Bool):Prop:=match o with
 | some l=>y=(l,true)
 | none=>y.2=false
theorem r_4 {ρ:Type}{bad:ρ}{f:Str->Bool}{l:List Str}{step:Int->Option (Out Int ρ)}(h1:∀j (hj:j<l.length),1<=j->step (j:Int)=if f l[j] then some (.next ((j+1:Nat):Int)) else some (.ret bad))(h2:step (l.length:Int)=some (.brk (l.length:Int))) :
  ∀(m j n:Nat),j+m=l.length->1<=j->m<n->F_ step n (j:Int)=some (if (l.drop j).all f then .inl (l.length:Int) else .inr bad)
 | 0,j,n,hj,_,hn=>by
  obtain ⟨n,rfl⟩:∃m,n=m+1:=⟨n - 1,by omega⟩
  grind [F_]
 | m+1,j,n,hj,G,hn=>by
  obtain ⟨n,rfl⟩:∃m,n=m+1:=⟨n - 1,by omega⟩;have hlt:j<l.length:=by omega
  unfold F_
  rw [h1 j hlt G,dC_ hlt,List.all_cons]
  cases f l[j] with
  | true=>simp only [fT_,QAE];exact r_4 h1 h2 m (j+1) n (by omega) (by omega) (by omega)
  | false=>rfl
theorem r_5 {s:Str}{c:UInt8}{r:Bt}(h:s.b=c::r):(c=47->a_6 47 s.b []=⟨[]⟩::a_6 47 r [])/\(c ≠ 47->∃t q,a_6 47 s.b []=⟨c::t⟩::q):=by
 refine ⟨λhc=>by grind [a_6],λhc=>?_⟩;obtain ⟨t,q,e⟩:=n_H 47 r [c]
 grind [a_6]
theorem w_l {n:Nat}(hn:30<=n){s:Str}(hs:s.b.length<=MX)(V:s.b.length+2<=n):∃y,k_t n s=some y/\Pats (h_l s) y:=by
 have hMX:=MXv;unfold k_t h_l
 by_cases W:s.b=[]
 .rw [W];exact ⟨_,rfl,rfl⟩
 rw [show (s.b==(⟨[]⟩:Str).b)=false by grind,q_z hs V]
 simp only [bF_,fF_,a_]
 obtain ⟨c,r,hcr⟩:∃c r,s.b=c::r:=by cases h:s.b with | nil=>grind | cons c r=>simp
 have hl:=e_C 47 s.b [];obtain ⟨g1,Y⟩:=r_5 hcr
 rw [hcr]
 simp only
 rw [← hcr]
 generalize hL:a_6 47 s.b []=l at *
 have hloop:=r_4 (ρ:=(List Str)×Bool) (bad:=(([]:List Str),false)) (f:=d_E) (l:=l) (step:=λG=>if (decide<|G<(l.length:Int)) then bd (α:=Bool) (bd (idx l G) λH=>bd (f_k n H) λI=>if (!I) then bd (idx l G) λJ=>if (J.b != (⟨[35]⟩:Str).b) then bd (idx l G) λL=>some (L.b != (⟨[46,46]⟩:Str).b) else some false else some false) (λO=>if O then some (.ret (([]:List Str),false)) else some (.next<|e_ G 1)) else some (.brk G))
  (λj hj _=>by
   rw [dT_ (show (j:Int)<(l.length:Int) by omega)]
   simp only [fT_,ix_ hj,a_,l_D hn]
   rw [ia_ (x:=(j:Int)) (by omega) (by omega)]
   unfold d_E
   cases c_n l[j] with
   | true=>rfl
   | false =>
    simp only [QBE,fT_,QAg]
    by_cases h1:l[j].b=[35]
    .simp_all
    simp_all)
  (by simp) (l.length - 1) 1 n (by omega) (QAB _) (by omega)
 simp only [Int.natCast_one] at hloop
 rw [hloop]
 by_cases hc:c=47
 .rw [g1 hc]
  have ht:=(e_C 47 r []).1;have hlen:(a_6 47 r []).length<l.length:=by grind
  generalize a_6 47 r []=t at *
  simp only [List.drop_succ_cons,QAP,a_,hc,true_and]
  by_cases ha:t.all d_E=true
  .rw [iP_ ha,iP_ ha]
   simp only [W_]
   rw [show slc ((⟨[]⟩:Str)::t) 1 (((⟨[]⟩:Str)::t).length:Int)=some t by rw [d_O (by omega) (by grind) (by omega)];simp]
   rw [a_,b_j (by simp),a_]
   simp only [QAw,bQ_,fT_,a_,un2]
   rw [dT_ (by grind)]
   exact ⟨_,rfl,rfl⟩
  .rw [iN_ ha,iN_ ha]
   exact ⟨_,rfl,rfl⟩
 .obtain ⟨t,q,e⟩:=Y hc
  rw [iN_ (show ¬(c=47/\(a_6 47 r []).all d_E=true) from λh=>hc h.1),e]
  simp only [List.drop_succ_cons,QAP,a_]
  by_cases ha:q.all d_E=true
  .rw [iP_ ha]
   simp only [W_]
   rw [show slc ((⟨c::t⟩:Str)::q) 1 (((⟨c::t⟩:Str)::q).length:Int)=some q by rw [d_O (by omega) (by grind) (by omega)];simp]
   rw [a_,b_j (by simp),a_]
   exact ⟨_,rfl,rfl⟩
  .rw [iN_ ha]
   exact ⟨_,rfl,rfl⟩
theorem w_m {n:Nat}(hn:30<=n)(s:Str):h_J n s=some (d_E s):=by
 unfold h_J d_E
 rw [q_G hn]
 simp only [a_]
 cases c_n s <;> simp only [bF_,fF_,fT_,a_,QBO,QAg]
 cases (s.b==[35]) <;> simp only [bF_,fF_,fT_,a_,QBO,QAg]
theorem w_n {n:Nat}(hn:30<=n){s:Str}(hs:s.b.length<=MX):∃y,k_x n s=some y/\Pats (h_l s) y:=by
 have hMX:=MXv;unfold k_x m_t h_l
 by_cases H:s.b=[]
 .rw [H];exact ⟨_,rfl,rfl⟩
 rw [show (s.b==(⟨[]⟩:Str).b)=false by grind]
 obtain ⟨c,r,hcr⟩:∃c r,s.b=c::r:=by cases h:s.b with | nil=>grind | cons c r=>simp
 have hl:=e_C 47 s.b [];obtain ⟨g1,_⟩:=r_5 hcr
 rw [q_H hs,b_j (by grind)]
 simp only [bF_,fF_,a_]
 have G:s.b[0]'(by grind)=c:=by grind
 rw [G,show (b_ c != b_ (47:UInt8)) = !decide (c=47) by simp_all [bne,h_k],hcr]
 simp only
 by_cases hc:c=47
 .rw [← hcr,g1 hc]
  rw [g1 hc] at hl
  clear g1
  have J:=(e_C 47 r []).1;generalize a_6 47 r []=l at *
  rw [dT_ hc]
  simp only [nT_,bF_,fF_,hc,true_and]
  rw [show slc ((⟨[]⟩:Str)::l) 1 (((⟨[]⟩:Str)::l).length:Int)=some l by rw [d_O (by omega) (by omega) (by omega)];simp]
  rw [a_,n_I<|w_m hn,a_,iP_ (by grind [List.length_cons,a_7])]
  have I:(l.map d_E).all id=l.all d_E:=by simp
  rw [I]
  by_cases ha:l.all d_E=true
  .rw [iP_ ha,iP_ ha];exact ⟨_,rfl,rfl⟩
  .rw [iN_ ha,iN_ ha];exact ⟨_,rfl,rfl⟩
 .rw [dF_ hc,iN_ (show ¬(c=47/\(a_6 47 r []).all d_E=true) from λh=>hc h.1)]
  exact ⟨_,rfl,rfl⟩
end Go.Vw
