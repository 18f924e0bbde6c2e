
import Derived.Test.YthlifogbkgdggaaGreatDoorVwP90
import Derived.Test.YthlifogbkgdggaaGreatDoorVwP96
import Derived.Test.YthlifogbkgdggaaGreatDoorVwP80
namespace Go.Vw
open Go.RowKit Dat
section
variable {d:d_}{b:List UInt8}{r:g_}
theorem f_j {l:List Int}{i:Int}(G:0<=i)(h:i<l.length):∃z,idx l i=some z:=by
 unfold idx
 rw [iP_ G]
 exact ⟨_,gG_ (by omega)⟩
theorem i_o {σ ρ β:Type}{body:Nat->σ->Option (Out σ ρ)}{n:Nat}{s:σ}{f:σ->Option β}{g:ρ->Option β}{P:β->Prop}(I:σ->Prop)(G:I s)(h:∀k s,k<n->I s->∃s',body k s=some (.next s')/\I s')(hf:∀s,I s->∃r,f s=some r/\P r):∃r,bd (y_ body n 0 s) (el f g)=some r/\P r:=by
 rcases e_b (body:=body) (fun _ s=>I s) (fun _=>False) (n:=n) (fun k s hk hi=>.inl<|h k s hk hi) n 0 s (by omega) G with ⟨s',e,hi⟩ | ⟨_,_,h⟩
 ·rw [e,bd_some,el_inl];exact hf s' hi
 ·exact h.elim
theorem n_m {t:List Int}{r:g_}(ht:t.length=24)(hk:∀k∈r.kids,0<=k/\k<24):∃z,e_U t r=some z:=by
 unfold e_U;refine (fun ⟨r,h,_⟩=>⟨r,h⟩)<|i_o (P:=fun _=>True) (fun _=>True) trivial (fun k s hk' _=>?_)<|fun s _=>⟨_,rfl,trivial⟩;have hm:=hk _<|gE_ hk';obtain ⟨z,hz⟩:=f_j (l:=t) hm.1 (by omega)
 rw [ix_ hk',bd_some,hz,bd_some]
 exact ⟨_,rfl,trivial⟩
theorem n_n {t:List Int}{r:g_}(ht:t.length=24)(hk:∀k∈r.kids,0<=k/\k<24)(h2:2<=r.kids.length):∃z,e_V t r=some z:=by
 unfold e_V;have h1:=hk _<|gE_ (show 1<r.kids.length by omega);obtain ⟨z,hz⟩:=f_j (l:=t) h1.1 (by omega);have G:idx r.kids 1=some r.kids[1]:=ix_ (k:=1) (by omega)
 have H:slc r.kids 2 (r.kids.length:Int)=some (r.kids.drop 2):=by
  unfold slc
  rw [iP_ ⟨by omega,by omega,by omega⟩]
  simp
 rw [G,bd_some,hz,bd_some,H,bd_some]
 refine (fun ⟨r,h,_⟩=>⟨r,h⟩)<|i_o (P:=fun _=>True) (fun _=>True) trivial (fun k s hk' _=>?_)<|fun s _=>⟨_,rfl,trivial⟩;have hm:=hk _<|List.mem_of_mem_drop<|gE_ hk';obtain ⟨y,hy⟩:=f_j (l:=t) hm.1 (by omega)
 rw [ix_ hk',bd_some,hy,bd_some,k_9,bd_some]
 exact ⟨_,rfl,trivial⟩
theorem n_o (hv:a_9 d=true):∃t,e_W d=some t/\t.length=24:=by
 have hl:=(c_4 hv).2;unfold e_W;refine i_o (fun s=>s.length=24) (by simp) ?_<|fun s hs=>⟨s,rfl,hs⟩
 ·intro k s hk hs;have hr:=c_m hv hk;have hkid:∀j∈d.rules[k].kids,0<=j/\j<24:=fun j hj=>by have:=hr.kids j hj;omega
  have hkk:=d_1 hr.kind
  have first:0<d.rules[k].kids.length->∃z y,idx d.rules[k].kids 0=some z/\idx s z=some y:=fun G=>by
   have hm:=hkid _<|gE_ G;obtain ⟨y,hy⟩:=f_j (l:=s) hm.1 (by omega);exact ⟨_,y,ix_ (k:=0) G,hy⟩
  have fin:∀m:Int,∃s':List Int,(bd (d_P m 401) fun H=>bd (upd s ((k:Nat):Int) H) fun I=>some (Out.next I:Out (List Int) (List Int)))=some (.next s')/\s'.length=24:=fun m=>by
   rw [k_9,bd_some,i_r (by omega),bd_some]
   exact ⟨_,rfl,by rw [List.length_set,hs]⟩
  rw [ix_ hk,bd_some]
  have hcase:d.rules[k].kind=1∨d.rules[k].kind=2∨d.rules[k].kind=3∨d.rules[k].kind=4∨d.rules[k].kind=5∨d.rules[k].kind=6∨d.rules[k].kind=7∨d.rules[k].kind=8∨d.rules[k].kind=9∨d.rules[k].kind=10:=by omega
  rcases hcase with h | h | h | h | h | h | h | h | h | h
  ·simp only [h,show ((1:Int)==1)=true from rfl,fT_,bd_some];exact fin _
  ·simp only [h,show ((2:Int)==1)=false from rfl,show ((2:Int)==3)=false from rfl,show ((2:Int)==2)=true from rfl,bF_,fT_,fF_,bd_some];exact fin _
  ·simp only [h,show ((3:Int)==1)=false from rfl,show ((3:Int)==3)=true from rfl,bF_,fT_,fF_,bd_some];exact fin _
  ·obtain ⟨z,y,h1,h2⟩:=first (by rw [(g_R hr.kind h).2];decide)
   simp only [h,show ((4:Int)==1)=false from rfl,show ((4:Int)==3)=false from rfl,show ((4:Int)==2)=false from rfl,show ((4:Int)==4)=true from rfl,bF_,fT_,fF_,bd_some,h1,h2];exact fin _
  ·obtain ⟨z,y,h1,h2⟩:=first (by rw [(c_n hr.kind h).2];decide)
   simp only [h,show ((5:Int)==1)=false from rfl,show ((5:Int)==3)=false from rfl,show ((5:Int)==2)=false from rfl,show ((5:Int)==4)=false from rfl,show ((5:Int)==5)=true from rfl,bF_,fT_,fF_,bd_some,h1,h2];exact fin _
  ·obtain ⟨z,hz⟩:=n_m (r:=d.rules[k]) hs hkid
   simp only [h,show ((6:Int)==1)=false from rfl,show ((6:Int)==3)=false from rfl,show ((6:Int)==2)=false from rfl,show ((6:Int)==4)=false from rfl,show ((6:Int)==5)=false from rfl,show ((6:Int)==6)=true from rfl,bF_,fT_,fF_,bd_some,hz];exact fin _
  ·have hc:=c_o hr.kind h;obtain ⟨z,y,h1,h2⟩:=first (by omega);obtain ⟨u,hu⟩:=n_n (r:=d.rules[k]) hs hkid (by omega)
   simp only [h,show ((7:Int)==1)=false from rfl,show ((7:Int)==3)=false from rfl,show ((7:Int)==2)=false from rfl,show ((7:Int)==4)=false from rfl,show ((7:Int)==5)=false from rfl,show ((7:Int)==6)=false from rfl,show ((7:Int)==7)=true from rfl,bF_,fT_,fF_,bd_some,h1,h2,hu];exact fin _
  ·simp only [h,show ((8:Int)==1)=false from rfl,show ((8:Int)==3)=false from rfl,show ((8:Int)==2)=false from rfl,show ((8:Int)==4)=false from rfl,show ((8:Int)==5)=false from rfl,show ((8:Int)==6)=false from rfl,show ((8:Int)==7)=false from rfl,show ((8:Int)==9)=false from rfl,bF_,fF_,bd_some];exact fin _
  ·obtain ⟨z,y,h1,h2⟩:=first (by rw [c_5 hr.kind (.inr h)];decide)
   simp only [h,show ((9:Int)==1)=false from rfl,show ((9:Int)==3)=false from rfl,show ((9:Int)==2)=false from rfl,show ((9:Int)==4)=false from rfl,show ((9:Int)==5)=false from rfl,show ((9:Int)==6)=false from rfl,show ((9:Int)==7)=false from rfl,show ((9:Int)==9)=true from rfl,bF_,fT_,fF_,bd_some,h1,h2];exact fin _
  ·simp only [h,show ((10:Int)==1)=false from rfl,show ((10:Int)==3)=false from rfl,show ((10:Int)==2)=false from rfl,show ((10:Int)==4)=false from rfl,show ((10:Int)==5)=false from rfl,show ((10:Int)==6)=false from rfl,show ((10:Int)==7)=false from rfl,show ((10:Int)==9)=false from rfl,bF_,fF_,bd_some];exact fin _
theorem n_p (hd:SmD d){n:Nat}(hn:14<=n)(r:Int):∃z,e_X n d r=some z:=by
 unfold e_X
 rw [i_8 n hn d hd r,bd_some]
 cases h:a_9 d && b_a d r
 ·exact ⟨0,rfl⟩
 ·rw [aE_] at h
  obtain ⟨t,ht,htl⟩:=n_o h.1;have hl:=(c_4 h.1).2;have hr:=h.2;unfold b_a at hr
  simp only [aE_,dE_] at hr
  obtain ⟨z,hz⟩:=f_j (l:=t) (i:=r) (by omega) (by omega)
  simp only [nT_,bF_,fF_,ht,bd_some,hz]
  exact ⟨z,rfl⟩
theorem n_q (x y:Int):e_F x y=some (max x y):=by
 unfold e_F g_7 g_6
 by_cases h:x<y
 ·have:(if decide (x<y)=true then some y else some x)=some (max x y):=by
   rw [dT_ h,iP_ rfl,Int.max_def,iP_ (by omega)]
  simp only [lC_,List.length_nil,y_,idx,bd_some]
  simp [el,bd,Int.max_def,h,Int.le_of_lt h]
 ·have h':y<=x:=by omega
  have:(if decide (x<y)=true then some y else some x)=some (max x y):=by
   rw [dF_ h,iN_ (by simp),Int.max_def]
   split
   ·congr 1;omega
   ·rfl
  have hm:max x y=x:=by rw [Int.max_def];split <;> omega
  simp only [lC_,List.length_nil,y_]
  simp [el,bd,idx,h,hm]
theorem n_r (h:a_8 d.rules r=true):r.tags.length<=8/\∀t∈r.tags,∃q:Nat,t=(q:Int)/\q<=4294967296:=by
 have hk:=d_1 h
 by_cases G:r.kind=7
 ·obtain ⟨h1,_,_,h4⟩:=c_o h G;refine ⟨h4,fun t ht=>?_⟩;obtain ⟨hri,hlim⟩:=m_X h1
  have hp:(256:Int) ^ (F_ d.rules<|C_ r).size.toNat<=4294967296:=by
   have h4:=hri.2.2;have:(F_ d.rules<|C_ r).size.toNat<=4:=by omega
   generalize (F_ d.rules<|C_ r).size.toNat=e at this
   match e,this with
   | 0,_=>decide
   | 1,_=>decide
   | 2,_=>decide
   | 3,_=>decide
   | 4,_=>decide
  unfold a_8 at h
  rw [G] at h
  simp only [show ((7:Int)==1)=false from rfl,show ((7:Int)==2)=false from rfl,show ((7:Int)==3)=false from rfl,show ((7:Int)==4)=false from rfl,show ((7:Int)==5)=false from rfl,show ((7:Int)==6)=false from rfl,bF_,fF_,bQ_,fT_,aE_] at h
  have h3:=h.2.2
  rw [Bool.not_eq_true',List.any_eq_false] at h3
  obtain ⟨i,hi,rfl⟩:=List.mem_iff_getElem.1 ht;have:=h3 i<|List.mem_range.2 hi
  rw [f_a hi] at this
  simp only [Bool.or_eq_true,Bool.not_eq_true',Bool.and_eq_false_iff,decide_eq_false_iff_not,not_or] at this
  exact ⟨(r.tags[i]).toNat,by omega,by omega⟩
 ·have H:r.tags=[]:=by
   have hc:r.kind=1∨r.kind=2∨r.kind=3∨r.kind=4∨r.kind=5∨r.kind=6∨r.kind=8∨r.kind=9∨r.kind=10:=by omega
   rcases hc with h1 | h1 | h1 | h1 | h1 | h1 | h1 | h1 | h1 <;> · simp [a_8,plain,h1] at h;simp_all
  rw [H]
  exact ⟨by simp,fun t ht=>by cases ht⟩
theorem n_s (hd:SmD d){n:Nat}(hn:100<=n){x:a_n}(hr:x.rule = -1∨∃j:Nat,x.rule=(j:Int)/\j<d.rules.length/\a_9 d=true):∃t:Str,e_S d x=some t/\e_T n d x=some t:=by
 have hMX:=MXv;have hLIM:=a_v;unfold e_S e_T b_T
 rw [b_4]
 rcases hr with hr | ⟨j,hr,hj,hv⟩
 ·rw [hr]
  exact ⟨⟨[]⟩,rfl,rfl⟩
 have hlen:=(c_4 hv).2;have hR:=c_m hv hj;obtain ⟨a7,htq⟩:=n_r hR.kind;have hsm:=hd.each _<|gE_ hj
 have hbytes:d.rules[j].bytes.length<=1000∨x.code ≠ 2:=by
  left
  have hk:=d_1 hR.kind
  by_cases h2:d.rules[j].kind=2
  ·have:=m_E hR.kind h2;omega
  ·by_cases a6:d.rules[j].kind=10
   ·have:=i_f hR.kind a6;omega
   ·have h0:d.rules[j].bytes=[]:=by
     have h:=hR.kind;have hc:d.rules[j].kind=1∨d.rules[j].kind=3∨d.rules[j].kind=4∨d.rules[j].kind=5∨d.rules[j].kind=6∨d.rules[j].kind=7∨d.rules[j].kind=8∨d.rules[j].kind=9:=by omega
     rcases hc with h1 | h1 | h1 | h1 | h1 | h1 | h1 | h1 <;> · simp [a_8,plain,h1] at h;simp_all
    rw [h0];simp
 rw [hr,dT_ (show (0:Int)<=(j:Int) by omega),iP_ rfl,dT_ (show (j:Int)<(d.rules.length:Int) by omega),bd_some,a_y (by omega) (by omega),dT_ (show (j:Int)<=(d.rules.length:Int) - 1 by omega)]
 simp only [Bool.and_self,nT_,bF_,fF_,ix_ hj,bd_some]
 generalize d.rules[j]=r at *
 by_cases G:x.code=2
 ·have hb:=hbytes.resolve_right<|fun h=>h G
  rw [G];simp only [show ((2:Int)==2)=true from rfl,fT_,m_Z hb,m_Y hb,bd_some]
  exact ⟨_,rfl,rfl⟩
 have i2:(x.code==2)=false:=by simpa using G
 simp only [i2,bF_,fF_]
 by_cases H:x.code=3
 ·rw [H];simp only [show ((3:Int)==3)=true from rfl,fT_]
  obtain ⟨u,hu,hP⟩:=k_e (P:=fun k (s:Str)=>∀h:k<r.tags.length,c_a r.tags[k]=some s/\b_d n r.tags[k]=some s/\s.b.length<=1000) r.tags.length (fun k hk=>by
   obtain ⟨q,hq,a8⟩:=htq _<|gE_ hk;refine ⟨⟨Lib.itoa (q:Int)⟩,fun _=>⟨?_,?_,?_⟩⟩
   ·rw [hq];rfl
   ·rw [hq,j_S (by omega) q (by omega)]
   ·have:=Lib.itoa_length_le (q:Int) (by omega) (by omega)
    show (Lib.itoa (q:Int)).length<=1000
    omega)
  have f1:=j_R (σ:=List Str) (ρ:=Str) (body:=(fun Y=>(fun a0=>bd (idx r.tags ((Y:Nat):Int)) fun O=>bd (c_a O) fun V=>bd (psh a0 V) fun W=>some (.next W)))) (fun k=>u.take k) (n:=r.tags.length) (s:=[]) rfl (fun k hk=>by
   have hku:k<u.length:=by omega
   rw [ix_ hk,bd_some,(hP k hku hk).1,bd_some,a_F (by rw [List.length_take];omega),bd_some,List.take_add_one,gG_ hku];rfl)
  have f2:=j_R (σ:=List Str) (ρ:=Str) (body:=(fun a1=>(fun a2=>bd (idx r.tags ((a1:Nat):Int)) fun a3=>bd (b_d n a3) fun a4=>bd (psh a2 a4) fun a5=>some (.next a5)))) (fun k=>u.take k) (n:=r.tags.length) (s:=[]) rfl (fun k hk=>by
   have hku:k<u.length:=by omega
   rw [ix_ hk,bd_some,(hP k hku hk).2.1,bd_some,a_F (by rw [List.length_take];omega),bd_some,List.take_add_one,gG_ hku];rfl)
  have hul:∀t∈u,t.b.length<=1000000:=fun t ht=>by
   obtain ⟨k,hk,rfl⟩:=List.mem_iff_getElem.1 ht;have:=(hP k hk (by omega)).2.2
   omega
  have htk:u.take r.tags.length=u:=by rw [← hu,List.take_length]
  rw [f1,f2,bd_some,bd_some,el_inl,el_inl,htk,n_l hul (by simp) (by omega),n_k hul (by simp) (by omega),bd_some]
  exact ⟨_,rfl,rfl⟩
 have i3:(x.code==3)=false:=by simpa using H
 simp only [i3,bF_,fF_]
 by_cases I:x.code=4
 ·rw [I];simp only [show ((4:Int)==4)=true from rfl,fT_]
  exact ⟨_,rfl,rfl⟩
 have i4:(x.code==4)=false:=by simpa using I
 simp only [i4,bF_,fF_]
 by_cases J:x.code=6
 ·have e1:c_a 40=some ⟨Lib.itoa ((40:Nat):Int)⟩:=rfl;have e2:=j_S (n:=n) (by omega) 40 (by omega)
  rw [J];simp only [show ((6:Int)==6)=true from rfl,fT_]
  rw [show b_d n 40=some ⟨Lib.itoa ((40:Nat):Int)⟩ from e2,e1,bd_some]
  have a9:=f_i 40 (by omega);have:cat (⟨[97,116,32,109,111,115,116,32]⟩:Str) ⟨Lib.itoa ((40:Nat):Int)⟩=some _:=a_C (by simp only [lC_,List.length_nil];omega)
  rw [this,bd_some]
  exact ⟨_,rfl,rfl⟩
 have i6:(x.code==6)=false:=by simpa using J
 simp only [i6,bF_,fF_]
 by_cases L:x.code=7
 ·rw [L];simp only [show ((7:Int)==7)=true from rfl,fT_]
  exact ⟨_,rfl,rfl⟩
 have i7:(x.code==7)=false:=by simpa using L
 simp only [i7,bF_,fF_]
 exact ⟨_,rfl,rfl⟩
theorem d_D {s t u:Str}(h:cat s t=some u):s.b.length<=u.b.length/\t.b.length<=u.b.length:=by
 obtain ⟨rfl,_⟩:=catS h
 simp only [List.length_append];omega
theorem n_t {n:Nat}{x:a_n}{t:Str}(hc:x.code ≠ 0)(h:c_A n d x=some t):4<=t.b.length:=by
 unfold c_A d_V at h
 rw [show (x.code==0)=false by simpa using hc] at h
 simp only [bF_,fF_] at h
 obtain ⟨e,h1,h⟩:=bdS h;obtain ⟨_,_,h1⟩:=bdS h1;obtain ⟨y,h2,h1⟩:=bdS h1;obtain ⟨_,_,h1⟩:=bdS h1;obtain ⟨L,h3,h1⟩:=bdS h1;obtain rfl:=som h1;have l1:=(d_D h2).2;have O:=(d_D h3).1;have l0:(⟨[32,97,116,32]⟩:Str).b.length=4:=rfl;obtain ⟨z,h4,h⟩:=bdS h
 have V:4<=z.b.length:=by
  split at h4
  ·obtain ⟨W,h5,h4⟩:=bdS h4;obtain ⟨Y,h6,h4⟩:=bdS h4;obtain rfl:=som h4;have:=(d_D h5).1;have:=(d_D h6).1
   omega
  ·obtain rfl:=som h4;omega
 obtain ⟨_,_,h⟩:=bdS h;obtain ⟨z2,G,h⟩:=bdS h;obtain rfl:=som h
 split at G
 ·obtain ⟨y5,I,G⟩:=bdS G;obtain ⟨_,_,G⟩:=bdS G;obtain ⟨y6,J,G⟩:=bdS G;obtain ⟨y7,H,G⟩:=bdS G;obtain rfl:=som G;have:=(d_D I).1;have:=(d_D J).1;have:=(d_D H).1
  omega
 ·obtain rfl:=som G;omega
theorem k_o (hd:SmD d){n:Nat}(hn:500<=n):c_W n d b=some ((a_L d b).2.2==1):=by
 unfold c_W
 rw [i_k hd hn,bd2_some]
theorem n_u (hd:SmD d){n:Nat}(hn:500<=n):∃z,e_Y n d b=some z/\decide (0<z)=((a_L d b).2.2==1):=by
 unfold e_Y
 rw [k_o hd hn,bd_some]
 cases h:((a_L d b).2.2==1)
 ·exact ⟨0,rfl,rfl⟩
 ·obtain ⟨m,hm⟩:=n_p hd (n:=n) (by omega)<|a_Z d
  rw [show (!true)=false from rfl,iN_ (by simp),i_l hd,bd_some,hm,bd_some,n_q,bd_some]
  refine ⟨_,rfl,?_⟩
  rw [dE_,Int.max_def]
  split <;> omega
theorem n_v (hd:SmD d){n:Nat}(hn:500<=n):e_Z n d [b,b] (a_L d b).2.2=some 2:=by
 unfold e_Z
 simp only [lC_,List.length_nil,y_]
 have G:idx [b,b] ((0:Nat):Int)=some b:=rfl;have H:idx [b,b] ((0+1:Nat):Int)=some b:=rfl
 simp only [G,H,bd_some,i_k hd hn,bd2_some,bQ_,fT_]
 rfl
theorem n_w {n:Nat}(hn:4000000<=n)(c:List UInt8):f_0 n c=some true:=by
 have hMX:=MXv;unfold f_0 g_c
 rw [bd_some]
 by_cases h1:(1048576:Int)<(c.length:Int)
 ·rw [dT_ h1];rfl
 rw [dF_ h1,iN_ (by simp)]
 unfold g_w;obtain ⟨H,I⟩:=new_ok (b:=c) (by omega) (n:=n) (by omega);obtain ⟨d,b,Y,h2,J,_,_,hd,_⟩:=n_8 (c:=c) (i:=0) (h:=H) (by omega) (by omega) (by omega) (n:=n) (by omega)
 rw [I,bd_some,J,bd4_some,bd2_some]
 obtain ⟨x,x1,x2,x3,x4,x5,x6⟩:=n_h (b:=b) hd (n:=n) (by omega);obtain ⟨p,hp,G⟩:=n_g d b
 rw [x1,bd_some,k_j hd (by omega),bd2_some,x4,x3,x2]
 simp only [bN_,bF_,fF_,bd_some,decide_true,nT_]
 obtain ⟨t,L,O⟩:=n_s hd (n:=n) (by omega) x6;obtain ⟨z,V,W⟩:=n_u (b:=b) hd (n:=n) (by omega)
 have hfmt:∃s:Str,d_n d x=some s/\c_A n d x=some s/\(s.b==(⟨[111,107]⟩:Str).b)=((a_L d b).2.2==0):=by
  by_cases hc:(a_L d b).2.2=0
  ·refine ⟨⟨[111,107]⟩,?_,?_,?_⟩
   ·unfold d_n
    rw [x3,hc];rfl
   ·unfold c_A d_V
    rw [x3,hc];rfl
   ·rw [hc];rfl
  ·obtain ⟨s,s1,s2⟩:=n_j (n:=n) hd (by omega) (by rw [x3];exact hc) (x4.trans hp) G x5 x6;refine ⟨s,s1,s2,?_⟩;have hl:=n_t (by rw [x3];exact hc) s2
   rw [show ((a_L d b).2.2==0)=false by simpa using hc]
   rw [beq_eq_false_iff_ne]
   intro h
   rw [h] at hl
   simp at hl
 obtain ⟨s,s1,s2,s3⟩:=hfmt
 rw [s1,bd_some,s3,bN_,iN_ (by simp),s2,bd_some,bN_,iN_ (by simp),L,bd_some,O,bd_some,bN_,bd_some,iN_ (by simp),V,bd_some,k_o hd (by omega),bd_some]
 simp only [bQ_,fT_,bd_some,W,n_v hd (show 500<=n by omega)]
end
end Go.Vw
