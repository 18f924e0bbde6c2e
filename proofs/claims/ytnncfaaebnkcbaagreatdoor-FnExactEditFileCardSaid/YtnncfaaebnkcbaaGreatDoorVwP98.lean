
import Derived.Test.YtnncfaaebnkcbaaGreatDoorVwP23
namespace Go.Vw
open Go.RowKit Dat
inductive LnV:Val->Prop
 | mk {x:Int} {bs:List UInt8} {vs:List Val} (hb:bs.length<=LEN) (hv:vs.length<=LEN) (h:∀v∈vs,LnV v):LnV (.mk x bs vs)
theorem LnV.bytes {v:Val}(h:LnV v):v.bytes.length<=LEN:=by cases h with | mk hb _ _=>exact hb
theorem LnV.items {v:Val}(h:LnV v):v.items.length<=LEN/\∀x∈v.items,LnV x:=by cases h with | mk _ hv h=>exact ⟨hv,h⟩
theorem q_M {m:Nat}(l:List Val){j:Nat}(h:j<l.length):((l.take<|j+1).map (vsz m)).sum=((l.take j).map (vsz m)).sum+vsz m l[j]:=by
 rw [c_o h,List.map_append,List.sum_append]
 simp
theorem m_N (m:Nat):∀l:List Val,lsz m l=l.length+(l.map<|vsz m).sum
 | []=>rfl
 | v::l=>by rw [b_V,m_N m l,lC_,List.map_cons,List.sum_cons];omega
theorem m_O:∀(k n:Nat),2 * k+2<=n->∀v,LnV v->∀left:Int,a_q left->left<(k:Int)->∃r,l_A n v left=some r/\(r<0∨(a_q r/\dep k v/\left - r=vsz k v))
 | 0,n,_,v,_,left,hl,hk=>by unfold a_q at hl;omega
 | k+1,n,hn,v,hv,left,hl,hk=>by
  have hLEN:=f_x;have hMX:=MXv;obtain ⟨G,rfl⟩:∃m,n=m+2:=⟨n - 2,by omega⟩;have e1:f_K v.bytes left=some (if left<v.bytes.length then -1 else left - v.bytes.length):=j_K v.bytes hl hv.bytes;obtain ⟨a1,W⟩:=hv.items
  show ∃r,g_e (G+1) (c_1<|G+1) v left=some r/\_
  unfold g_e
  rw [e1,bd_some]
  by_cases h1:left<v.bytes.length
  ·rw [iP_ h1,dT_ (show (-1:Int)<0 by omega),iP_ rfl]
   exact ⟨-1,rfl,.inl (by omega)⟩
  rw [iN_ h1,dF_ (show ¬left - (v.bytes.length:Int)<0 by omega),iN_ (by simp)]
  have J:a_q (left - v.bytes.length):=by unfold a_q at *;omega
  have key:∃r,(c_1<|G+1).laws_szValueS v.items (left - v.bytes.length)=some r/\(r<0∨(a_q r/\(∀x∈v.items,dep k x)/\left - v.bytes.length - r=lsz k v.items)):=by
   show ∃r,g_f G (c_1 G) v.items (left - v.bytes.length)=some r/\_
   unfold g_f;obtain ⟨lf,hkf⟩:∃lf,lf=left - (v.bytes.length:Int):=⟨_,rfl⟩
   rw [← hkf] at J ⊢
   have hlf:=J;unfold a_q at hlf
   have e2:q_ lf (v.items.length:Int)=lf - v.items.length:=b_s (by omega) (by omega)
   rw [e2]
   by_cases h2:lf - (v.items.length:Int)<0
   ·rw [dT_ h2,iP_ rfl]
    exact ⟨-1,rfl,.inl (by omega)⟩
   rw [dF_ h2,iN_ (by simp)]
   by_cases h0:v.items.length=0
   ·have hnil:v.items=[]:=List.length_eq_zero_iff.1 h0
    rw [hnil]
    exact ⟨lf,by simp [w_,el,bd],.inr ⟨J,fun x hx=>(by cases hx),by simp [lsz]⟩⟩
   rcases c_I (σ:=Int) (ρ:=Int) (body:=(fun Y=>(fun a0=>bd (idx v.items ((Y:Nat):Int)) fun V=>bd ((c_1 G).laws_szValue V a0) fun O=>if (decide (O<0))=true then some (.ret (-1)) else some (.next O)))) (fun j s=>0<=s/\(∀x∈v.items.take j,dep k x)/\lf - v.items.length - s=((v.items.take j).map (vsz k)).sum) (fun r=>r = -1) (n:=v.items.length) (fun j s hj hI=>by
    obtain ⟨s0,s1,s2⟩:=hI;obtain ⟨r,hr,H⟩:=m_O k G (by omega) v.items[j] (W _<|gE_ hj) s (by unfold a_q;omega) (by omega)
    rw [ix_ hj,bd_some,show (c_1 G).laws_szValue v.items[j] s=some r from hr,bd_some]
    rcases H with H | ⟨I,L,r3⟩
    ·right
     rw [dT_ H,iP_ rfl]
     exact ⟨-1,rfl,rfl⟩
    ·left
     unfold a_q at I
     rw [dF_ (by omega),iN_ (by simp)]
     refine ⟨r,rfl,I.1,fun x hx=>?_,?_⟩
     ·rw [List.take_add_one,gG_ hj] at hx
      rcases List.mem_append.1 hx with h | h
      ·exact s1 x h
      ·have:x=v.items[j]:=by simpa using h
       rw [this];exact L
     ·rw [q_M _ hj];omega) v.items.length 0 (lf - v.items.length) (by omega) ⟨by omega,fun x hx=>(by simp at hx),by simp⟩ with ⟨s,e,s0,s1,s2⟩ | ⟨r,e,rfl⟩
   ·rw [e,bd_some,el_inl]
    rw [List.take_length] at s1 s2
    refine ⟨s,rfl,.inr ⟨by unfold a_q;omega,s1,?_⟩⟩
    rw [m_N];omega
   ·rw [e,bd_some,el_inr]
    exact ⟨-1,rfl,.inl (by omega)⟩
  obtain ⟨r,hr,H⟩:=key
  rw [hr,bd_some]
  rcases H with H | ⟨I,L,r3⟩
  ·rw [dT_ H,iP_ rfl]
   exact ⟨-1,rfl,.inl (by omega)⟩
  ·unfold a_q at I
   rw [dF_ (by omega),iN_ (by simp)]
   refine ⟨r,rfl,.inr ⟨I,L,?_⟩⟩;have:vsz (k+1) v=v.bytes.length+lsz k v.items:=rfl
   omega
theorem q_N:∀(m n:Nat)(v:Val),dep m v->vsz m v<=MX->2 * m+2<=n->g_g n v=some v:=by
 have hMX:=MXv;have hLIM:=a_k;intro m
 induction m with
 | zero =>
  intro n v h hz hn;obtain ⟨G,rfl⟩:∃m,n=m+2:=⟨n - 2,by omega⟩;have H:v.items=[]:=h;have hz':v.bytes.length<=MX:=hz
  show e_B (G+1) (b_I<|G+1) v=_
  unfold e_B
  rw [i_m hz',bd_some]
  have:(b_I<|G+1).laws_toValueS v.items=some []:=by
   show e_C G (b_I G) v.items=_
   unfold e_C
   rw [H]
   rfl
  rw [this,bd_some]
  obtain ⟨a,b,c⟩:=v;have h0':c=[]:=H;subst h0'
  rfl
 | succ m ih =>
  intro n v h hz hn;obtain ⟨G,rfl⟩:∃m,n=m+2:=⟨n - 2,by omega⟩;have hz':v.bytes.length+lsz m v.items<=MX:=hz;have hl:=g_E m v.items
  show e_B (G+1) (b_I<|G+1) v=_
  unfold e_B
  rw [i_m (by omega),bd_some]
  have:(b_I<|G+1).laws_toValueS v.items=some v.items:=by
   show e_C G (b_I G) v.items=_
   unfold e_C
   rw [e_Y (by omega),bd_some]
   refine (congrArg (fun z=>bd z _)<|e_6 (fun k=>v.items.take k++List.replicate (v.items.length - k) (⟨0,([]:List UInt8),([]:List Val)⟩:Val)) (n:=v.items.length) (by simp)<|fun k hk=>?_).trans ?_
   ·have hm:=gE_ hk;have hs:=e_5 (m:=m) hm;have:=ih G v.items[k] (h _ hm) (by omega) (by omega)
    rw [ix_ hk,bd_some,show (b_I G).laws_toValue v.items[k]=some v.items[k] from this,bd_some,c_f (by simp;omega),bd_some]
    congr 2
    rw [List.set_append_right _ _ (by rw [List.length_take];omega),List.length_take,Nat.min_eq_left (by omega),Nat.sub_self]
    obtain ⟨q,hq⟩:∃q,v.items.length - k=q+1:=⟨v.items.length - k - 1,by omega⟩
    rw [hq,List.replicate_succ,List.set_cons_zero,show v.items.length - (k+1)=q by omega,c_o hk,List.append_assoc]
    rfl
   ·rw [bd_some,el_inl,List.take_length,Nat.sub_self];simp
  rw [this,bd_some,e_W]
end Go.Vw
