
import Derived.Test.YtdgimlkkidpmmaaGreatDoorVb0
namespace Go.Vw
open Go.RowKit Dat
theorem s_E (l:List Str):i_a l l=some true:=by
 unfold i_a
 rw [iN_ (by simp)]
 rw [h_z (n:=l.length) (λk hk=>by rw [ix_ hk,bd_some,bd_some,iN_ (by simp)])]
 rfl
theorem s_F (l:List Int):g_F l l=some true:=by
 unfold g_F
 rw [iN_ (by simp)]
 rw [h_z (n:=l.length) (λk hk=>by rw [ix_ hk,bd_some,bd_some,iN_ (by simp)])]
 rfl
theorem s_G (r:b_):i_b r r=some true:=by
 unfold i_b
 simp only [bQ_,fT_,p_T,bd_some,s_E,s_F]
theorem s_H (d:c_):i_c d d=some true:=by
 unfold i_c
 rw [iN_ (by simp)]
 rw [h_z (n:=d.rules.length) (λk hk=>by rw [ix_ hk,bd_some,bd_some,s_G,bd_some,iN_ (by simp)])]
 rfl
theorem s_I (r:D_):i_d r r=some true:=by
 unfold i_d
 rw [iN_ (by simp)]
 rw [h_z (n:=r.versions.length) (λk hk=>by rw [ix_ hk,bd_some,bd_some,s_H,bd_some,iN_ (by simp)])]
 rfl
theorem s_J (a:n_):i_e a a=some true:=by
 unfold i_e j_P
 simp only [s_I,bd_some,fT_,bQ_,p_T]
theorem at_ok (c:Bt){k:Int}(G:0<=k)(hk:k<=1000000)(hc:c.length<=2000000):∃r,h_d c k=some r/\0<=r/\r<=255:=by
 unfold h_d
 by_cases hc:k<(c.length:Int)
 .obtain ⟨m,rfl⟩:∃m:Nat,k=m:=⟨k.toNat,by omega⟩
  rw [dT_ hc,iP_ rfl,ix_ (by omega),bd_some]
  exact ⟨_,rfl,e_B _,by have:=e_A<|c[m]'(by omega);omega⟩
 .rw [dF_ hc,iN_ (by simp),c_D (by omega) (by omega),c_D (by omega) (by omega),ia_ (by omega) (by omega),c_E (by omega)]
  exact ⟨_,rfl,by omega,by omega⟩
theorem s_K (l:List Str):i_j l l=some true:=by
 unfold i_j
 rw [iN_ (by simp)]
 have h:=h_z (ρ:=Bool) (n:=l.length) (body:=λG=>(λ(_:Unit)=>bd (idx l ((G:Nat):Int)) λH=>bd (idx l ((G:Nat):Int)) λI=>if (H.b != I.b) then some (.ret false) else some (.next ()))) (λj hj=>by
  rw [ix_ hj,bd_some,bd_some,iN_ (by simp)])
 rw [h,bd_some,el_inl]
theorem k_l {a:n_}(h:b_6 a=true):d_d a.registry=true/\a_q a.log=true/\(b_T a.log.bytes).length<=20/\(G_ a.log.bytes).1.any (c_C a)=false:=by
 unfold b_6 at h
 simp only [aE_,dE_,Bool.not_eq_true'] at h
 exact ⟨h.1,h.2.1,h.2.2.1,h.2.2.2⟩
theorem k_m {a:n_}(h1:d_d a.registry=true)(h2:a_q a.log=true)(h3:(b_T a.log.bytes).length<=20)(h4:(G_ a.log.bytes).1.any (c_C a)=false):b_6 a=true:=by
 unfold b_6
 rw [h1,h2,dT_ h3,h4];rfl
theorem m_k {a a':n_}(h:a'.registry=a.registry):c_C a'=c_C a:=by
 funext r
 unfold c_C
 rw [h]
theorem o_x {a:n_}(h:SmA a):SmA (c_0 a):=⟨h.len,h.each,by unfold c_0 c_a;split <;> exact h.bytes⟩
theorem o_y {a:n_}(h:b_6 a=true):b_6 (c_0 a)=true:=by
 obtain ⟨h1,h2,h3,h4⟩:=k_l h;have hb:(c_0 a).log.bytes=a.log.bytes:=by unfold c_0 c_a;split <;> rfl
 exact k_m h1 (m_i h2) (by rw [hb];exact h3) (by rw [hb,m_k (a':=c_0 a) (a:=a) rfl];exact h4)
theorem s_L {a:n_}(h:SmA a)(k:Int):SmA (e_h a k):=⟨h.len,h.each,by
 have:=h.bytes;unfold e_h e_g
 split
 .simp only [List.length_take];omega
 .exact this⟩
theorem o_z {a:n_}(h:a_q a.log=true)(k:Int):(e_h a k).log.bytes=a.log.bytes.take (b_Q a.log k):=by unfold e_h e_g;rw [iP_ h]
theorem s_M {a:n_}(h:b_6 a=true)(hr:(G_ a.log.bytes).1.length<=20)(k:Int):b_6 (e_h a k)=true:=by
 obtain ⟨h1,h2,h3,h4⟩:=k_l h;obtain ⟨I,J,L,⟨t,G⟩,H⟩:=m_j h2 k;have hb:=o_z h2 k;refine k_m h1 H ?_ ?_
 .rw [hb]
  have:=o_v<|a.log.bytes.take<|b_Q a.log k;have h5:(G_ a.log.bytes).1.length=(G_<|a.log.bytes.take<|b_Q a.log k).1.length+t.length:=by rw [G,List.length_append]
  omega
 .rw [hb,m_k (a':=e_h a k) (a:=a) rfl]
  rw [G,List.any_append,Bool.or_eq_false_iff] at h4
  exact h4.1
theorem s_N {a:n_}(h:SmA a){n:Nat}(hn:1060100<=n)(hf:(b_T a.log.bytes).length<=20):∃l,e_u n a=some l:=by
 unfold e_u
 rw [k_E h hn,bd_some]
 generalize hl:(if a_q a.log then b_T a.log.bytes else [])=fs
 have hfs:fs.length<=20:=by
  rw [← hl]
  split
  .exact hf
  .exact Nat.zero_le _
 have hMX:=MXv
 have:=i_O (ρ:=List Str) (body:=λG=>(λH=>bd (idx fs ((G:Nat):Int)) λI=>bd (psh H I.name) λJ=>some (.next J))) (λk=>(fs.take k).map (·.name)) (n:=fs.length) (s:=[]) (by simp) (λj hj=>by
  rw [ix_ hj,bd_some,O_ (by rw [List.length_map,List.length_take];have:LIM=4294967296:=rfl;omega),bd_some,List.take_succ_eq_append_getElem hj,List.map_append];rfl)
 rw [this,bd_some]
 exact ⟨_,rfl⟩
theorem s_O {n:Nat}(hn:4000000<=n){c:Bt}{a:n_}(h:SmA a)(hb:a.log.bytes.length<=100000)(ho:b_6 a=true)(hr:(G_ a.log.bytes).1.length<=20)
  (hd:i_6 n c=some a):f_m n c=some true:=by
 unfold f_m i_k
 rw [bd_some]
 by_cases h1:(1048576:Int)<(c.length:Int)
 .rw [dT_ h1];rfl
 rw [dF_ h1,iN_ (by simp),hd,bd_some,s_C h (by omega),bd_some]
 obtain ⟨g1,G,g3,g4⟩:=k_l ho;have hs:=o_x h;have hso:=o_y ho;have hsb:(c_0 a).log.bytes=a.log.bytes:=by unfold c_0 c_a;split <;> rfl
 obtain ⟨s',hs',hB⟩:=c_A (ρ:=Bool) (step:=λH=>if (decide<|H<=(a.log.bytes.length:Int)) then bd (f_l n a H) λI=>bd (α:=Bool) (bd (g_A n I) λJ=>if (!J) then some true else if (decide<|(I.log.bytes.length:Int)<a.log.stored) then some true else some (decide<|(a.log.bytes.length:Int)<(I.log.bytes.length:Int))) (λL=>if L then some (.ret false) else bd (slc a.log.bytes 0 (I.log.bytes.length:Int)) λO=>bd (g_K I.log.bytes O) λV=>if (!V) then some (.ret false) else bd (h_d c H) λW=>some<|.next<|d_ (d_ H 1)<|a_d W 9) else some (.brk H))
  (λk:Int=>0<=k) (λk=>(a.log.bytes.length+1 - k).toNat) (λ_=>True) (λk hk=>by
   by_cases hkl:k<=(a.log.bytes.length:Int)
   .left
    obtain ⟨c1,c2,c3,_,c5⟩:=m_j G k;have hcb:=o_z G k;have hcl:(e_h a k).log.bytes.length=b_Q a.log k:=by rw [hcb,List.length_take];omega
    obtain ⟨r,e,r0,r1⟩:=at_ok c hk (by omega) (by omega)
    rw [dT_ hkl,iP_ rfl,o_w h k (by omega),bd_some,p_l (s_L h k) (by omega),bd_some,s_M ho hr k]
    simp only [nT_,bF_,fF_]
    rw [hcl,dF_ (show ¬((b_Q a.log k:Nat):Int)<a.log.stored by omega),iN_ (by simp),dF_ (show ¬((a.log.bytes.length:Nat):Int)<((b_Q a.log k:Nat):Int) by omega),bd_some,iN_ (by simp),h_r c1,bd_some,hcb,u_1,bd_some,e]
    simp only [nT_,bF_,fF_,bd_some]
    have hm:0<=r % 9/\r % 9<=8:=by omega
    rw [c_E r0,ia_ (x:=k) (y:=1) (by omega) (by omega),ia_ (by omega) (by omega)]
    exact ⟨_,rfl,by omega,by omega⟩
   .right
    exact ⟨k,by rw [dF_ hkl,iN_ (by simp)],trivial⟩) n 0 (by decide) (by simp;omega)
 rw [hs',bd_some,el_inl]
 have hz:e_h (c_0 a) 0=c_0 a:=by
  have hl:=m_i G;have hsl:c_a a.log=⟨a.log.bytes,(a.log.bytes.length:Int)⟩:=by unfold c_a;rw [iP_ G]
  obtain ⟨f0,f1,f2,f3⟩:=h_s G
  have he:b_Q (c_a a.log) 0=a.log.bytes.length:=by
   rw [hsl];unfold b_Q
   simp only
   rw [show (min (max (0:Int) (a.log.bytes.length:Int)) (a.log.bytes.length:Int)).toNat=a.log.bytes.length by omega,List.take_length,f2]
  show (⟨a.registry,e_g (c_a a.log) 0⟩:n_)=⟨a.registry,c_a a.log⟩
  congr 1
  unfold e_g
  rw [iP_ hl,he,hsl]
  simp
 rw [o_w hs 0 (by omega),bd_some,hz,s_J,bd_some,iP_ rfl]
 obtain ⟨l,hl⟩:=s_N h (n:=n) (by omega) g3
 have Y:e_u n (c_0 a)=some l:=by
  rw [← hl]
  unfold e_u
  rw [k_E h (by omega),k_E hs (by omega),hsb,show a_q (c_0 a).log=true from m_i G,G]
 rw [Y,hl,bd_some,bd_some,s_K,bd_some,iP_ rfl,p_l hs (by omega),hso];rfl
end Go.Vw
