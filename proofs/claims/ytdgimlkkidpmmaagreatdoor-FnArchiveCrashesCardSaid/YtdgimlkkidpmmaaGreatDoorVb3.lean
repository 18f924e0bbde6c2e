
import Derived.Test.YtdgimlkkidpmmaaGreatDoorVb2
namespace Go.Vw
open Go.RowKit Dat
structure RegG (n:Nat)(r:D_):Prop where
 ok:d_d r=true
 sm:∀d∈r.versions,SmD d
 pos:0<r.versions.length
 smp:∀d∈r.versions,∀seed:Int,0<=seed->seed<9999->∃w,e_t n d seed 3=some w
theorem RegG.few {n:Nat}{r:D_}(h:RegG n r):r.versions.length<=8:=by
 have:=h.ok;unfold d_d at this
 simp only [aE_,dE_] at this
 exact this.1
theorem ArI.init {n:Nat}{r:D_}(h:RegG n r):ArI r 0 ⟨r,⟨[],0⟩⟩:=by
 have hMX:=MXv;have:=h.few;refine ⟨rfl,⟨by show r.versions.length<=MX;omega,h.sm,Nat.zero_le _⟩,k_m h.ok rfl (Nat.zero_le _) rfl,Nat.le_refl _,Nat.le_refl _⟩
section
variable {b:Bt}{i h:Int}
theorem s_T {n:Nat}(hn:1060100<=n)(hb:b.length<=MX){i0 h0:Int}{r:D_}{f:Bt}(aP:0<=i)(aQ:i<=(b.length:Int))(hreg:g_D n ⟨b,i0,h0⟩=some (r,f,i,h))(hr:RegG n r) :
  Dr b (i_5 n ⟨b,i0,h0⟩) (λa=>ArI r 5 a):=by
 have hMX:=MXv;unfold i_5
 rw [hreg,bd4_some]
 obtain ⟨k,i1,g1,e1,a1,a2,hk⟩:=a_t (h:=h) aP aQ hb (n:=6) (by decide)
 rw [e1,bd3_some]
 obtain ⟨s,hs,hB⟩:=c_A (ρ:=n_×Int×Int) (step:=un6 λah ar au L O V=>if (decide<|0<ah) then bd3 (c_T (⟨b,ar,au⟩:j_) [(⟨[97]⟩:Str),(⟨[98]⟩:Str),(⟨[99,49]⟩:Str)]) λak ay az=>bd3 (a_0 (⟨b,ay,az⟩:j_) 6) λal Y a0=>bd (α:=Int×Int×(List c_)×Bt×Int) (if (al==0) then bd2 (i_2 n (⟨(⟨L⟩:D_),(⟨O,V⟩:Log)⟩:n_) ak) λa3 aT=>some (Y,a0,a3.registry.versions,a3.log.bytes,a3.log.stored) else bd (α:=Int×Int×(List c_)×Bt×Int) (if (al==1) then bd (g_E n (⟨(⟨L⟩:D_),(⟨O,V⟩:Log)⟩:n_)) λa4=>some (Y,a0,a4.registry.versions,a4.log.bytes,a4.log.stored) else bd3 (a_0 (⟨b,Y,a0⟩:j_) (r.versions.length:Int)) λa5 am an=>bd (α:=Bool×Int×Int) (if (decide<|0<a5) then some (true,am,an) else bd3 (b_U (⟨b,am,an⟩:j_) 2) λa6 a7 a8=>some (a6,a7,a8)) (un3 λaA ap aq=>bd (α:=Bt×Int×Int) (if aA then bd (idx r.versions a5) λa9=>bd3 (a_0 (⟨b,ap,aq⟩:j_) 9999) λaa ab ad=>bd2 (e_t n a9 aa 3) λae aB=>some (ae,ab,ad) else some (f,ap,aq))<|un3 λaC aD aE=>bd2 (i_1 n (⟨(⟨L⟩:D_),(⟨O,V⟩:Log)⟩:n_) ak a5 aC) λaf aU=>some (aD,aE,af.registry.versions,af.log.bytes,af.log.stored))) (un5 λaF aG aH aI aJ=>some (aF,aG,aH,aI,aJ))) (un5 λaK aL aM aN aO=>some<|.next (h_ ah 1,aK,aL,aM,aN,aO)) else some (.brk (ah,ar,au,L,O,V)))
  (λs=>(0<=s.1/\s.1<=5)/\(0<=s.2.1/\s.2.1<=(b.length:Int))/\ArI r (5 - s.1).toNat ⟨⟨s.2.2.2.1⟩,⟨s.2.2.2.2.1,s.2.2.2.2.2⟩⟩) (λs=>s.1.toNat)
  (λs=>(0<=s.2.1/\s.2.1<=(b.length:Int))/\ArI r 5 ⟨⟨s.2.2.2.1⟩,⟨s.2.2.2.2.1,s.2.2.2.2.2⟩⟩) (by
   rintro ⟨j,ci,ch,vs,lb,st⟩ ⟨⟨aR,aS⟩,⟨ai,aj⟩,hA⟩
   simp only at aR aS ai aj hA
   by_cases hj:0<j
   .left
    have aV:=hA.len
    have hbl:(⟨⟨vs⟩,⟨lb,st⟩⟩:n_).log.bytes.length<=MX:=by
     have:1001 * (5 - j).toNat<=1001 * 5:=Nat.mul_le_mul_left _ (by omega)
     omega
    simp only [un6]
    rw [dT_ hj,iP_ rfl]
    obtain ⟨nm,i2,g2,e2,b1,b2,hnm⟩:=i_T (h:=ch) ai aj hb (l:=[(⟨[97]⟩:Str),(⟨[98]⟩:Str),(⟨[99,49]⟩:Str)]) (by decide);obtain ⟨m,i3,g3,e3,c1,c2,hm⟩:=g_j (h:=g2) b1 b2 hb 6
    rw [e2,bd3_some,e3,bd3_some]
    have fin:∀(ci' ch':Int)(a:n_),0<=ci'->ci'<=(b.length:Int)->ArI r ((5 - j).toNat+1) a->∃s',(some (.next (h_ j 1,ci',ch',a.registry.versions,a.log.bytes,a.log.stored)):Option (Out (Int×Int×Int×(List c_)×Bt×Int)<|n_×Int×Int))=some (.next s')/\((0<=s'.1/\s'.1<=5)/\(0<=s'.2.1/\s'.2.1<=(b.length:Int))/\ArI r (5 - s'.1).toNat ⟨⟨s'.2.2.2.1⟩,⟨s'.2.2.2.2.1,s'.2.2.2.2.2⟩⟩)/\s'.1.toNat<j.toNat:=by
     intro ci' ch' a q0 q1 hq;have hs:h_ j 1=j - 1:=a_f (by omega) (by omega);refine ⟨_,rfl,⟨by simp only [hs];omega,⟨q0,q1⟩,?_⟩,by simp only [hs];omega⟩
     simp only [hs]
     rw [show (5 - (j - 1)).toNat=(5 - j).toNat+1 by omega]
     exact hq
    by_cases av:m=0
    .subst av
     rw [iP_ (by rfl),t_S hA.sm nm hn,bd2_some,bd_some]
     exact fin i3 g3 _ c1 c2<|hA.del (by omega) hnm
    rw [show (m==0)=false by simpa using av,iN_ (by simp)]
    by_cases aw:m=1
    .subst aw
     rw [iP_ (by rfl),s_D hA.sm hn,bd_some,bd_some,un5,bd_some]
     exact fin i3 g3 _ c1 c2<|(hA.sync).mono (Nat.le_succ _)
    rw [show (m==1)=false by simpa using aw,iN_ (by simp)]
    obtain ⟨v,i4,W,e4,d1,d2,hv⟩:=a_t (h:=g3) c1 c2 hb (n:=(r.versions.length:Int)) (by have:=hr.pos;omega)
    rw [e4,bd3_some]
    have flag:∃(o:Bool)(G H:Int),(if (decide<|0<v) then some (true,i4,W) else bd3 (b_U (⟨b,i4,W⟩:j_) 2) λa6 a7 a8=>some (a6,a7,a8))=some (o,G,H)/\0<=G/\G<=(b.length:Int):=by
     by_cases ax:0<v
     .exact ⟨true,i4,W,by rw [dT_ ax,iP_ rfl],d1,d2⟩
     .obtain ⟨o,G,H,e5,x1,x2,_⟩:=e_n (h:=W) d1 d2 hb 2;exact ⟨o,G,H,by rw [dF_ ax,iN_ (by simp),e5,bd3_some],x1,x2⟩
    obtain ⟨o,G,H,e5,x1,x2⟩:=flag
    rw [e5,bd_some,un3]
    have data:∃(w:Bt)(I J:Int),(if o then bd (idx r.versions v) λa9=>bd3 (a_0 (⟨b,G,H⟩:j_) 9999) λaa ab ad=>bd2 (e_t n a9 aa 3) λae aB=>some (ae,ab,ad) else some (f,G,H))=some (w,I,J)/\0<=I/\I<=(b.length:Int):=by
     cases o with
     | false=>exact ⟨f,G,H,rfl,x1,x2⟩
     | true =>
      obtain ⟨v,rfl⟩:∃q:Nat,v=q:=⟨v.toNat,by omega⟩;obtain ⟨sd,I,J,e6,y1,y2,hsd⟩:=a_t (h:=H) x1 x2 hb (n:=9999) (by decide);obtain ⟨w,hw⟩:=hr.smp _ (gE_ (show v<r.versions.length by omega)) sd hsd.1 hsd.2;exact ⟨w.1,I,J,by rw [iP_ rfl,ix_ (by omega),bd_some,e6,bd3_some,hw,bd2_some],y1,y2⟩
    obtain ⟨w,I,J,e6,y1,y2⟩:=data
    rw [e6,bd_some,un3,t_Q hA.sm hbl nm v w hn,bd2_some,bd_some,un5,bd_some]
    exact fin I J _ y1 y2<|hA.store (by omega) _
   .right
    refine ⟨_,by simp only [un6];rw [dF_ hj,iN_ (by simp)],⟨ai,aj⟩,?_⟩;have:j=0:=by omega
    subst this
    exact hA) n (k,i1,g1,r.versions,[],0) ⟨⟨hk.1,by omega⟩,⟨a1,a2⟩,(ArI.init hr).mono (Nat.zero_le _)⟩ (by simp only;omega)
 rw [hs,bd_some,el_inl]
 obtain ⟨j,ci,ch,vs,lb,st⟩:=s;exact ⟨_,ci,ch,rfl,hB.1.1,hB.1.2,hB.2⟩
end
end Go.Vw
