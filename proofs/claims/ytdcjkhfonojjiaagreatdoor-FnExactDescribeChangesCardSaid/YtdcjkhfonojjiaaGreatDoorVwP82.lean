
import Derived.Test.YtdcjkhfonojjiaaGreatDoorVwP66
namespace Go.Vw
open Go.RowKit Dat
theorem m_x:∀(m:Nat)(v:Val),dep m v->vsz m v<=1000000->∀n,m+1<=n->h_s n v=some v:=by
 have hLIM:=a_D;intro m
 induction m with
 | zero =>
  intro v h hz n hn;obtain ⟨n,rfl⟩:∃k,n=k+1:=⟨n - 1,by omega⟩;have G:v.items=[]:=h;have hz':v.bytes.length<=1000000:=hz
  show e_9 n (d_v n) v=_
  unfold e_9
  rw [d_T (by simp;omega),bd_some,bd_some,G]
  obtain ⟨a,b,c⟩:=v;subst G
  rfl
 | succ m ih =>
  intro v h hz n hn;obtain ⟨n,rfl⟩:∃k,n=k+1:=⟨n - 1,by omega⟩;have hz':v.bytes.length+lsz m v.items<=1000000:=hz;have hl:=f_c m v.items
  show e_9 n (d_v n) v=_
  unfold e_9
  rw [d_T (by simp;omega),bd_some,bd_some]
  simp only [un3]
  refine (congrArg (fun z=>bd z _)<|c_7 (fun k=>v.items.take k) (n:=v.items.length) rfl<|fun k hk=>?_).trans ?_
  ·have hm:=gE_ hk;have hs:=g_a (m:=m) hm;have:=ih v.items[k] (h _ hm) (by omega) n (by omega)
   rw [ix_ hk,bd_some,show (d_v n).spec_CopyValue v.items[k]=some v.items[k] from this,bd_some,b_s (by rw [List.length_take];omega),bd_some,e_k hk]
  ·rw [bd_some,el_inl,List.take_length,List.nil_append,d_e]
section
variable {d:d_}{b:List UInt8}
theorem i_i {rd:Int->Nat->RR}{L:Nat}:∀{ks:List Int}{p:Nat}{vs:List Val}{e:Nat},c_M rd L ks p vs e->∀m (hm:m<ks.length) (hm':m<vs.length),vs[m]=(rd ks[m] (a_G (fun k p=>(rd k p).2.1) ks p m)).1
 | k::ks,p,vs,e,h,0,_,hm'=>by
  obtain ⟨_,_,ws,rfl,_⟩:=h
  rfl
 | k::ks,p,vs,e,h,m+1,hm,hm'=>by
  obtain ⟨_,_,ws,rfl,h3⟩:=h;have:=i_i h3 m (by simpa using hm) (by simpa using hm')
  rw [i_0]
  simpa using this
def VStep (d:d_)(b:List UInt8)(i p:Nat)(s:Str)(k q:Nat):Prop:=∃(hi:i<d.rules.length)(m:Nat)(hm:m<(rdW d.rules b i p).1.items.length),(∀n,1000<=n->e_R n d i (rdW d.rules b i p).1 s=some (m:Int))/\a_X d.rules[i] (rdW d.rules b i p).1.number (m:Int)=some (k:Int)/\(rdW d.rules b i p).1.items[m]=(rdW d.rules b k q).1
inductive f_j (d:d_)(b:List UInt8):Nat->Nat->List Str->Nat->Nat->Prop
 | nil (i p:Nat):f_j d b i p [] i p
 | cons {i p i' p' k q:Nat} {s:Str} {ss:List Str} (h:VStep d b i p s k q) (hr:f_j d b k q ss i' p'):f_j d b i p (s::ss) i' p'
theorem m_y {s:Str}(h:c_5 s):s.b ≠ []:=fun G=>by
 have:=h.step;unfold b_L a_K c_u at this
 rw [G] at this
 simp at this
theorem q_q (hv:a_0 d=true)(hd:SmD d)(hb:b.length<=400){i:Nat}(hi:i<d.rules.length){at_:Nat}(ha:at_<=b.length)(hok:(rdW d.rules b i at_).2.2=0){ks:List Int}{e:Nat}(h:f_i d b d.rules[i] at_ (rdW d.rules b i at_) ks e){m:Nat}(hm:m<ks.length) :
  VStep d b i at_ (T_ d.rules[i] m) ks[m].toNat (a_G (enP d b) ks (a_3 d.rules d.rules[i] at_) m):=by
 have hne:ks ≠ []:=fun hn=>by rw [hn] at hm;simp at hm
 have hE:=j_C hv hi ha hok h hne;have hr:=b_8 hv hi;have hkk:∀k∈ks,0<=k/\k<(i:Int):=fun k hk=>hr.kids k<|h.kids k hk
 have hS:=j_B hr.kind hE h.small;have hl:=f_h h.ch;have h40:=h.small;have hmi:m<(rdW d.rules b i at_).1.items.length:=by omega
 have hkm:=hkk _<|gE_ hm;refine ⟨hi,m,hmi,fun n hn=>?_,?_,?_⟩
 ·unfold e_R
  have hrule:d_X d (i:Int)=some true:=by
   rw [j_v d hd,hv]
   unfold a_Z
   rw [dT_ (show (0:Int)<=(i:Int) by omega),dT_ (show (i:Int)<(d.rules.length:Int) by omega)];rfl
  have hgt:=hS.2;refine (congrArg (fun z=>bd z _)<|k_I (st:=fun (j:Nat)=>((j:Nat):Int)) (r:=(m:Int)) (j0:=m) (show m<n by omega) (fun j hj=>?_) ?_).trans ?_
  ·have hjk:j<ks.length:=by omega
   simp only
   rw [dT_ (show (j:Int)<((rdW d.rules b i at_).1.items.length:Int) by omega),iP_ rfl,hrule,bd_some,bd_some,iP_ rfl,ix_ hi,bd_some,g_e (by omega) _ j (by omega),bd_some]
   have G:((T_ d.rules[i] j).b==(T_ d.rules[i] m).b)=false:=by
    cases hq:((T_ d.rules[i] j).b==(T_ d.rules[i] m).b) with
    | false=>rfl
    | true =>
     have:=hS.1 j m hjk hm (by simpa using hq)
     omega
   rw [G]
   have:(if ((T_ d.rules[i] j).b != ([]:List UInt8))=true then some false else some false)=some false:=by split <;> rfl
   rw [this,bd_some,iN_ (by simp),ia_ (by omega) (by omega)]
   rfl
  ·simp only
   have hg:=m_y<|hS.2 m hm
   rw [dT_ (show (m:Int)<((rdW d.rules b i at_).1.items.length:Int) by omega),iP_ rfl,hrule,bd_some,bd_some,iP_ rfl,ix_ hi,bd_some,g_e (by omega) _ m (by omega),bd_some]
   rw [show ((T_ d.rules[i] m).b != ([]:List UInt8))=true by simpa using hg,iP_ rfl,bQ_,bd_some,iP_ rfl]
  ·rw [bd_some,el_inr]
 ·rw [c_w (c_8 hr.kind),h.item m hm,show ((ks[m].toNat:Nat):Int)=ks[m] by omega]
 ·exact i_i h.ch m hm hmi
theorem q_r {n:Nat}(hn:1000<=n){l:List Str}{i p i' p':Nat}{ss:List Str}(h:f_j d b i p ss i' p'):∀k,k+ss.length=l.length->l.drop k=ss ->
  r_ (σ:=Int×Int×(List UInt8)×(List Val)) (ρ:=Val×Int×Bool) (fun O=>un4 fun I J V L=>bd (idx l ((O:Nat):Int)) fun W=>bd (e_R n d I (⟨J,V,L⟩:Val) W) fun G=>if (decide<|G<0)=true then some (.ret ((⟨0,([]:List UInt8),([]:List Val)⟩:Val),(-1),false)) else bd (idx d.rules I) fun Y=>bd (a_X Y J G) fun a0=>bd (idx L G) fun H=>some<|.next (a0,H.number,H.bytes,H.items)) ss.length k ((i:Int),(rdW d.rules b i p).1.number,(rdW d.rules b i p).1.bytes,(rdW d.rules b i p).1.items)=some (.inl ((i':Int),(rdW d.rules b i' p').1.number,(rdW d.rules b i' p').1.bytes,(rdW d.rules b i' p').1.items)):=by
 induction h with
 | nil=>intro k _ _;rfl
 | @cons i p i' p' k' q s ss h _ ih =>
  intro k hk hdr;have hlt:k<l.length:=by simp at hk;omega
  rw [dC_ hlt] at hdr
  simp only [List.cons.injEq] at hdr
  obtain ⟨hi,m,hm,h1,h2,h3⟩:=h
  rw [lC_,r_,ix_ hlt]
  simp only [un4,bd_some]
  rw [hdr.1,d_e,h1 n hn]
  simp only [bd_some]
  rw [dF_ (show ¬(m:Int)<0 by omega),iN_ (by simp),ix_ hi,bd_some,h2,bd_some,ix_ hm,bd_some,h3]
  exact ih (k+1) (by simp at hk;omega) hdr.2
end
end Go.Vw
