
import Derived.Test.YtadehdicfeopeaaGreatDoorVwP16
namespace Go.Vw
open Go.RowKit Dat
def b_W (ss:List Str):List UInt8:=ss.flatMap (fun s=>47::s.b)
inductive g_1 (d:d_)(b:List UInt8):Nat->Nat->List Str->Nat->Nat->Prop
 | nil (i p:Nat):g_1 d b i p [] i p
 | cons {i p i' p' k q:Nat} {s:Str} {ss:List Str} (h:l_u d b i p s k q) (hr:g_1 d b k q ss i' p'):g_1 d b i p (s::ss) i' p'
structure p_h (d:d_)(b:List UInt8)(path:Str)(i p:Nat)(e:u_)(ss:List Str)(i' p':Nat):Prop where
 path:e.path.b=path.b++b_W ss
 good:∀s∈ss,c_z s
 rule:e.rule=i'
 start:e.start=p'
 end_:e.end_=((rdW d.rules b i' p').2.1:Nat)
 reach:g_1 d b i p ss i' p'
 len:ss.length+i'<=i
 hi:i'<d.rules.length
 hp:p'<=b.length
 ok:(rdW d.rules b i' p').2.2=0
section
variable {d:d_}{b:List UInt8}
theorem l_v {f:Int->Nat->Str->List u_}{en:Int->Nat->Nat}{r:e_}{path:Str}{x:u_}:∀(ks:List Int)(j pos:Nat),x∈ixL f en r path ks j pos->∃m,∃hm:m<ks.length,x∈f ks[m] (b_O en ks pos m) (b_Z r path<|j+m)
 | [],_,_,h=>by simp [ixL] at h
 | k::ks,j,pos,h=>by
  unfold ixL at h
  rcases List.mem_append.1 h with h | h
  ·exact ⟨0,by simp,h⟩
  ·obtain ⟨m,hm,h⟩:=l_v ks (j+1) (en k pos) h;refine ⟨m+1,by simpa using hm,?_⟩
   rw [j_W]
   rw [show j+(m+1)=j+1+m by omega]
   exact h
theorem p_i (hv:X_ d=true)(hd:SmD d)(hb:b.length<=400):∀(i:Nat),i<d.rules.length->∀(at_:Nat)(path:Str)(e:u_),at_<=b.length->(rdW d.rules b i at_).2.2=0->e∈ixW d.rules b i at_ path->∃ss i' p',p_h d b path i at_ e ss i' p':=by
 intro i
 induction i using Nat.strongRecOn with
 | _ i ih =>
  intro hi at_ path x ha hok hx;obtain ⟨ks,e,h⟩:=e_Y hv hi ha hok
  rw [i_F hv hi h path] at hx
  rcases List.mem_cons.1 hx with rfl | hx
  ·exact ⟨[],i,at_,by simp [b_W],fun _ h=>by simp at h,rfl,rfl,rfl,.nil _ _,by simp,hi,ha,hok⟩
  ·obtain ⟨m,hm,hx⟩:=l_v _ _ _ hx;have hkr:=(a_X hv hi).kids _ (h.kids _<|gE_ hm);have hP:=j_X h.ch m hm
   rw [Nat.zero_add] at hx
   obtain ⟨ss,i',p',L⟩:=ih ks[m].toNat (by omega) (by omega) _ _ x hP.1 hP.2 hx;obtain ⟨S,G⟩:=p_g hv hd hb hi ha hok h hm;refine ⟨a_V d.rules[i] m::ss,i',p',?_,?_,L.rule,L.start,L.end_,.cons S L.reach,?_,L.hi,L.hp,L.ok⟩
   ·rw [L.path];simp [b_Z,b_W]
   ·intro s hs
    rcases List.mem_cons.1 hs with rfl | hs
    ·exact G
    ·exact L.good s hs
   ·have:=L.len;simp;omega
theorem l_w:∀(ss:List Str),(∀s∈ss,c_z s)->(b_W ss).length<=22 * ss.length
 | [],_=>by simp [b_W]
 | s::ss,h=>by
  have:=l_w ss<|fun s hs=>h s<|mT_ _ hs;have:=(h s mS_).len
  simp [b_W] at *;omega
theorem l_x:∀(ss:List Str)(cur:List UInt8),(∀s∈ss,c_z s)->b_j 47 (b_W ss) cur=⟨cur⟩::ss
 | [],cur,_=>by simp [b_W,b_j]
 | s::ss,cur,h=>by
  have e:b_W (s::ss)=47::(s.b++b_W ss):=by simp [b_W]
  rw [e,b_j,iP_ rfl,l_r _ _ _ _ (h s mS_).char,l_x ss _<|fun s hs=>h s<|mT_ _ hs]
  simp
theorem p_j (ss:List Str)(h:∀s∈ss,c_z s):i_n ⟨b_W ss⟩=(ss,true):=by
 unfold i_n
 by_cases hn:ss=[]
 ·subst hn;rfl
 ·obtain ⟨s,t,rfl⟩:=List.exists_cons_of_ne_nil hn
  rw [iN_ (by simp [b_W]),l_x _ _ h,iP_ ⟨rfl,by
   rw [List.tail_cons,List.all_eq_true];exact fun s hs=>(h s hs).step⟩]
  simp
theorem p_k {n:Nat}(hn:1000<=n){l:List Str}{i p i' p':Nat}{ss:List Str}(h:g_1 d b i p ss i' p'):∀k,k+ss.length=l.length->l.drop k=ss ->
  x_ (σ:=Int×Int) (ρ:=u_×Bool) (fun G=>un2 fun H I=>bd (idx l ((G:Nat):Int)) fun J=>bd3 (e_m n d H b I J) fun L O V=>if (!V)=true then some (.ret ((⟨(⟨[]⟩:Str),0,0,0⟩:u_),false)) else some (.next (L,O))) ss.length k ((i:Int),(p:Int))=some (.inl ((i':Int),(p':Int))):=by
 induction h with
 | nil=>intro k _ _;rfl
 | @cons i p i' p' k' q s ss h _ ih =>
  intro k hk hd;have hlt:k<l.length:=by simp at hk;omega
  rw [dC_ hlt] at hd
  simp only [List.cons.injEq] at hd
  rw [lC_,x_,ix_ hlt]
  simp only [un2,bd_some]
  rw [hd.1,h n hn]
  simp only [bd3_some,nT_,bF_,fF_]
  exact ih (k+1) (by simp at hk;omega) hd.2
theorem p_l {n:Nat}(hn:1000<=n)(hd:SmD d)(hok:okF d b=true){e:u_}(he:e∈a_B d b) :
  ∃i p:Nat,e.rule=i/\e.start=p/\i<d.rules.length/\p<=b.length/\(rdW d.rules b i p).2.2=0/\f_b n d b e.path=some ((rdW d.rules b i p).1,true):=by
 obtain ⟨hv,hb,hr,hroot,hrd,_⟩:=e_U hok;unfold a_B at he
 rw [iP_ hok] at he
 obtain ⟨ss,i,p,L⟩:=p_i hv hd hb _ hr 0 ⟨[]⟩ e (Nat.zero_le _) hrd he;refine ⟨i,p,L.rule,L.start,L.hi,L.hp,L.ok,?_⟩
 have hpath:e.path=⟨b_W ss⟩:=by
  have:=L.path
  cases hq:e.path with
  | mk x=>rw [hq] at this;simpa using this
 have hlen:=(b_Y hv).2;have hj:=l_w ss L.good;have hl:=L.len;have hMX:=MXv;have hread:=i_w hv hd hb i L.hi n (by omega) p L.hp;unfold f_b i_P
 rw [hpath,p_8 (by omega) (by simp only;omega) (by simp only;omega),p_j ss L.good]
 simp only [bd2_some,nT_,bF_,fF_]
 rw [l_h d hd,hv]
 simp only [bd_some,nT_,bF_,fF_]
 rw [dF_ (show ¬(400:Int)<(b.length:Int) by omega),iN_ (by simp),i_D hd,bd_some,hroot]
 have hloop:=p_k hn L.reach (l:=ss) 0 (by omega) rfl;have hloop':x_ (σ:=Int×Int) (ρ:=u_×Bool) (fun G=>un2 fun H I=>bd (idx ss ((G:Nat):Int)) fun J=>bd3 (e_m n d H b I J) fun O V W=>if (!W)=true then some (.ret ((⟨(⟨[]⟩:Str),0,0,0⟩:u_),false)) else some (.next (O,V))) ss.length 0 (((d.rules.length - 1:Nat):Int),0)=some (.inl ((i:Int),(p:Int))):=hloop
 rw [hloop',bd_some,el_inl]
 simp only [un2]
 rw [hread]
 unfold b_1
 rw [L.ok]
 simp only [bd3_some,bN_,bF_,fF_,bd2_some,nT_]
 rw [hread]
 rfl
theorem p_m (hv:X_ d=true)(hb:b.length<=400){i p:Nat}(hi:i<d.rules.length)(hp:p<=b.length):b_2 d i b p=b_1 (rdW d.rules b i p):=by
 unfold b_2
 rw [iP_]
 ·simp
 ·unfold okV b_8
  rw [hv,dT_ (show (0:Int)<=(i:Int) by omega),dT_ (show (i:Int)<(d.rules.length:Int) by omega),dT_ (show (0:Int)<=(p:Int) by omega),dT_ (show (p:Int)<=(b.length:Int) by omega),dT_ (show (b.length:Int)<=400 by omega)]
  rfl
theorem p_n (hv:X_ d=true){i p:Nat}(hi:i<d.rules.length)(hp:p<=b.length)(hok:(rdW d.rules b i p).2.2=0)(G:d.rules[i].kind=7):0<=(rdW d.rules b i p).1.number/\(rdW d.rules b i p).1.number<4294967296:=by
 have hr:=a_X hv hi
 rw [d_H hv hi hp] at *
 generalize d.rules[i]=r at *
 unfold rdB at *
 rw [G] at hok ⊢
 simp only [show ((7:Int)==1)=false from rfl,show ((7:Int)==2)=false from rfl,show ((7:Int)==3)=false from rfl,show ((7:Int)==4)=false from rfl,show ((7:Int)==10)=false from rfl,bF_,fF_] at hok ⊢
 have hq:=b_H (d_l hr.kind G).1
 cases hh:a_0 d.rules b r p with
 | inl c=>exact ⟨show (0:Int)<=0 by decide,show (0:Int)<4294967296 by decide⟩
 | inr y =>
  obtain ⟨num,ks,st⟩:=y
  rw [hh] at hok
  simp only at hok ⊢
  have f:=l_t hok (fun h=>by omega)
  rw [f.2.1]
  unfold a_0 at hh
  rw [G] at hh
  simp only [show ((7:Int)==5)=false from rfl,show ((7:Int)==6)=false from rfl,bF_,fF_,bQ_,fT_] at hh
  cases hi:a_b b (N_ d.rules<|B_ r) p with
  | none=>rw [hi] at hh;cases hh
  | some n =>
   rw [hi] at hh
   simp only at hh
   have:=b_P hq.2 hi
   cases ht:a_W r.tags n with
   | none=>rw [ht] at hh;cases hh
   | some k =>
    rw [ht] at hh
    simp only at hh
    rw [Sum.inr.injEq,Prod.mk.injEq] at hh
    rw [← hh.1]
    exact ⟨this.1,this.2.1⟩
end
theorem l_y:∀{s s' t t':List UInt8},(∀c∈s,c ≠ 58)->(∀c∈s',c ≠ 58)->s++58::t=s'++58::t'->s=s'/\t=t'
 | [],[],_,_,_,_,h=>by simpa using h
 | [],c::s',_,_,_,h2,h=>by simp only [List.nil_append,List.cons_append,List.cons.injEq] at h;exact absurd h.1.symm<|h2 c mS_
 | c::s,[],_,_,h1,_,h=>by simp only [List.nil_append,List.cons_append,List.cons.injEq] at h;exact absurd h.1<|h1 c mS_
 | c::s,c'::s',t,t',h1,h2,h=>by
  simp only [List.cons_append,List.cons.injEq] at h
  have:=l_y (fun c hc=>h1 c<|mT_ _ hc) (fun c hc=>h2 c<|mT_ _ hc) h.2;exact ⟨by rw [h.1,this.1],this.2⟩
def b_X (d:d_)(i:Nat)(num:Int):Str:=⟨(d.rules.getD i default).name.b++[58]++Lib.itoa num⟩
theorem p_o {d:d_}(hv:X_ d=true){i j x y:Nat}(hi:i<d.rules.length)(hj:j<d.rules.length)(h:(b_X d i x).b=(b_X d j y).b):i=j/\x=y:=by
 unfold b_X at h
 rw [a_a hi,a_a hj] at h
 simp only [List.append_assoc,List.singleton_append] at h
 have:=l_y (fun c hc=>(j_V (a_X hv hi).name c hc).2) (fun c hc=>(j_V (a_X hv hj).name c hc).2) h;exact ⟨l_s hv hi hj this.1,l_n this.2⟩
def c_T (d:d_)(b:List UInt8)(out:List Str)(e:u_):List Str :=
 if (d.rules.getD e.rule.toNat default).kind != 7 then out else
  if b_D out (b_X d e.rule.toNat (rdW d.rules b e.rule.toNat e.start.toNat).1.number) then out else out++[b_X d e.rule.toNat (rdW d.rules b e.rule.toNat e.start.toNat).1.number]
def covP (d:d_)(b:List UInt8):List Str:=(a_B d b).foldl (c_T d b) []
theorem j_Y (d:d_)(b:List UInt8):∀(l:List u_)(out:List Str),(l.foldl (c_T d b) out).length<=out.length+l.length
 | [],out=>by simp
 | e::l,out=>by
  have:=j_Y d b l<|c_T d b out e;have h:(c_T d b out e).length<=out.length+1:=by unfold c_T;split <;> (try split) <;> simp
  simp only [List.foldl_cons,lC_];omega
theorem l_z {x:Nat}(h:x<4294967296):(Lib.itoa x).length<=20:=by
 have:=l_m 12 x (by omega)
 rw [c_7];omega
section
variable {d:d_}{b:List UInt8}
theorem indexP_len':(a_B d b).length<=10000:=by
 unfold a_B
 split
 ·rename_i h
  obtain ⟨hv,hb,hi,_,hok,_⟩:=e_U h;exact k_h hv hb hi _ (Nat.zero_le _) hok
 ·simp
theorem l_A {n:Nat}(hn:1000<=n)(hd:SmD d){k:Nat}(hk:k<(a_B d b).length):X_ d=true/\b.length<=400/\∃i p:Nat,(a_B d b)[k].rule=i/\(a_B d b)[k].start=p/\∃hi:i<d.rules.length,p<=b.length/\(rdW d.rules b i p).2.2=0/\f_b n d b (a_B d b)[k].path=some ((rdW d.rules b i p).1,true) /\
  d_U n d i b p=some (b_1<|rdW d.rules b i p)/\(d.rules[i].kind=7->∃x:Nat,(rdW d.rules b i p).1.number=x/\x<4294967296):=by
 have hok:okF d b=true:=by
  cases h:okF d b with
  | true=>rfl
  | false=>unfold a_B at hk;rw [h] at hk;simp at hk
 obtain ⟨hv,hb,_⟩:=e_U hok;obtain ⟨i,p,h1,h2,h3,h4,h5,h6⟩:=p_l hn hd hok<|gE_ hk;refine ⟨hv,hb,i,p,h1,h2,h3,h4,h5,h6,?_,fun G=>?_⟩
 ·rw [m_h hd (by omega),p_m hv hb h3 h4]
 ·have:=p_n hv h3 h4 h5 G;exact ⟨(rdW d.rules b i p).1.number.toNat,by omega,by omega⟩
theorem p_p {n:Nat}(hn:1000<=n)(hd:SmD d):h_3 n d b=some (covP d b):=by
 have hLIM:=a_p;unfold h_3
 rw [j_Q hd hn,bd2_some]
 have hlen:(a_B d b).length<=10000:=indexP_len';refine (congrArg (fun z=>bd z _)<|b_I (st:=fun k=>((a_B d b).take k).foldl (c_T d b) [])<|fun k hk=>?_).trans ?_
 rotate_left
 ·rw [bd_some,el_inl,List.take_length];rfl
 ·obtain ⟨hv,hb,i,p,h1,h2,hi,hp,hok,hrp,hrv,hnum⟩:=l_A (n:=n) hn hd hk;have hol:=j_Y d b ((a_B d b).take k) []
  rw [d_g _ _ hk]
  generalize ((a_B d b).take k).foldl (c_T d b) []=out at *
  have hout:out.length<=10000:=by simp at hol;omega
  rw [ix_ hk]
  simp only [bd_some]
  rw [h1,ix_ hi]
  simp only [bd_some]
  unfold c_T
  rw [h1,h2,tN_,tN_,a_a hi]
  by_cases G:d.rules[i].kind=7
  ·rw [show (d.rules[i].kind != 7)=false by simpa using G]
   simp only [bF_,fF_]
   rw [hrp]
   simp only [bd2_some,bd_some,un3]
   obtain ⟨x,hx,H⟩:=hnum G;have hnl:=i_E (a_X hv hi).name;have hil:=l_z H
   rw [hx,c_9 (by simp;omega),bd_some,j_S (by omega) x (by omega),bd_some,c_9 (by simp;omega),bd_some,j_M,bd_some]
   have ht:(⟨d.rules[i].name.b++[58]++Lib.itoa (x:Int)⟩:Str)=b_X d i (x:Int):=by unfold b_X;rw [a_a hi]
   rw [ht]
   cases b_D out (b_X d i (x:Int)) with
   | true=>rfl
   | false =>
    simp only [Bool.not_false,fT_,bF_,fF_]
    rw [a_s (by omega)];rfl
  ·rw [show (d.rules[i].kind != 7)=true by simpa using G];rfl
theorem p_q {n:Nat}(hn:1000<=n)(hd:SmD d):h_6 n d b=some (covP d b):=by
 have hLIM:=a_p;unfold h_6
 rw [l_k hd hn,bd2_some]
 have hlen:(a_B d b).length<=10000:=indexP_len'
 rcases c_p (σ:=(List Str)×(a_F->Bool)) (ρ:=(List Str)) (body:=(fun a4=>(un2 fun O J=>bd (α:=(List Str)×(a_F->Bool)) (bd (idx (a_B d b) ((a4:Nat):Int)) fun H=>bd (idx d.rules H.rule) fun V=>if (V.kind != 7)=true then some (O,J) else bd3 (d_U n d H.rule b H.start) fun L a8 a9=>bd (α:=(List Str)×(a_F->Bool)) (if (!(J ((⟨H.rule,L.number⟩:a_F):a_F)))=true then bd (cat V.name (⟨[58]⟩:Str)) fun W=>bd (e_u L.number) fun Y=>bd (cat W Y) fun a0=>bd (psh O a0) fun a1=>some (a1,(c_l J ((⟨H.rule,L.number⟩:a_F):a_F) true)) else some (O,J)) (un2 fun a2 a3=>some (a2,a3))) (un2 fun a5 a6=>some (.next (a5,a6)))))) (I:=fun k s=>s.1=((a_B d b).take k).foldl (c_T d b) []/\∀(i x:Nat)(_:i<d.rules.length),s.2 ⟨i,x⟩=b_D s.1 (b_X d i x)) (R:=fun _=>False) (n:=(a_B d b).length) (fun k s hk hI=>by
  obtain ⟨out,f⟩:=s;obtain ⟨ho,hf⟩:=hI
  simp only at ho hf
  obtain ⟨hv,hb,i,p,h1,h2,hi,hp,hok,hrp,hrv,hnum⟩:=l_A (n:=n) hn hd hk;have hol:=j_Y d b ((a_B d b).take k) []
  rw [d_g _ _ hk,← ho]
  rw [← ho] at hol
  have hout:out.length<=10000:=by simp at hol;omega
  left
  unfold c_T
  rw [h1,h2,tN_,tN_,a_a hi]
  by_cases G:d.rules[i].kind=7
  ·obtain ⟨x,hx,a7⟩:=hnum G;have hnl:=i_E (a_X hv hi).name;have hil:=l_z a7
   rw [show (d.rules[i].kind != 7)=false by simpa using G,hx]
   simp only [bF_,fF_]
   have ht:(⟨d.rules[i].name.b++[58]++Lib.itoa (x:Int)⟩:Str)=b_X d i (x:Int):=by unfold b_X;rw [a_a hi]
   cases hht:b_D out (b_X d i (x:Int)) with
   | true =>
    refine ⟨(out,f),?_,?_,hf⟩
    ·simp only [un2]
     rw [ix_ hk,bd_some,h1,ix_ hi,bd_some,show (d.rules[i].kind != 7)=false by simpa using G,h2,hrv]
     unfold b_1
     simp only [bF_,fF_,bd3_some]
     rw [hx,hf i x hi,hht];rfl
    ·simp
   | false =>
    refine ⟨(out++[b_X d i (x:Int)],c_l f ⟨(i:Int),(x:Int)⟩ true),?_,?_,fun j y hj=>?_⟩
    ·simp only [un2]
     rw [ix_ hk,bd_some,h1,ix_ hi,bd_some,show (d.rules[i].kind != 7)=false by simpa using G,h2,hrv]
     unfold b_1
     simp only [bF_,fF_,bd3_some]
     rw [hx,hf i x hi,hht]
     simp only [Bool.not_false,fT_]
     unfold e_u h_R
     rw [c_9 (by simp;omega),bd_some,bd_some,bd_some,c_9 (by simp;omega),bd_some,a_s (by omega),bd_some,bd_some]
     simp only [un2]
     rw [ht]
     rfl
    ·simp
    ·simp only [c_l]
     by_cases hjy:j=i/\y=x
     ·obtain ⟨rfl,rfl⟩:=hjy
      rw [iP_ rfl]
      exact (g_0.2 ⟨b_X d j y,by simp,rfl⟩).symm
     ·rw [iN_ (fun he=>hjy (by
       simp only [a_F.mk.injEq] at he
       omega)),hf j y hj]
      rw [Bool.eq_iff_iff,g_0,g_0]
      constructor
      ·rintro ⟨z,hz,h⟩;exact ⟨z,by simp [hz],h⟩
      ·rintro ⟨z,hz,h⟩
       simp only [List.mem_append,List.mem_singleton] at hz
       rcases hz with hz | rfl
       ·exact ⟨z,hz,h⟩
       ·have:=p_o hv hi hj h;exact absurd ⟨this.1.symm,this.2.symm⟩ hjy
  ·refine ⟨(out,f),?_,?_,hf⟩
   ·simp only [un2]
    rw [ix_ hk,bd_some,h1,ix_ hi,bd_some,show (d.rules[i].kind != 7)=true by simpa using G];rfl
   ·rw [show (d.rules[i].kind != 7)=true by simpa using G];rfl) (a_B d b).length 0 (([]:List Str),(fun (_:a_F)=>false)) (by omega) ⟨rfl,fun i x _=>by simp [b_D]⟩ with ⟨s,h1,h2⟩ | ⟨_,_,h⟩
 ·refine (congrArg (fun z=>bd z _) h1).trans ?_;obtain ⟨out,f⟩:=s
  rw [bd_some,el_inl]
  have h3:=h2.1
  rw [List.take_length] at h3
  exact congrArg some h3
 ·exact h.elim
end
end Go.Vw
