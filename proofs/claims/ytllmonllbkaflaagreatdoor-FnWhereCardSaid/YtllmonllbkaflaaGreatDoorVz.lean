
import Derived.Test.YtllmonllbkaflaaGreatDoorVv
import Derived.Test.YtllmonllbkaflaaGreatDoorVy
namespace Go.Vw
open Go.RowKit Dat
theorem u_h {c:Bt}(hb:c.length<=MX){n:Nat}(hn:1048600<=n):∃d b p t,j_m n c=some (d,b,p,t)/\SmD d/\b.length<=MX/\p.b.length<=MX:=by
 have hMX:=MXv;unfold j_m;obtain ⟨d,b,p,L,hd,hbm,hp⟩:=one_ok hb hn;obtain ⟨O,V⟩:=o_W hb hn;obtain ⟨t,W,_⟩:=u_d (b:=b) hd hn (show p.b.length<=MX by omega)
 rw [L,bd3_some,V,bd_some,W,bd_some]
 obtain ⟨r,H,h1,Y,I,J,_⟩:=g_d (i:=0) (h:=O) (by omega) (by omega) hb 4
 rw [Y,bd3_some]
 cases r with
 | true =>
  rw [iP_ rfl]
  obtain ⟨s,i2,h2,e3,b0,b1,hs⟩:=f_a (i:=H) (h:=h1) I J hb (l:=[(⟨[]⟩:Str),(⟨[48]⟩:Str),(⟨[120]⟩:Str),(⟨[33]⟩:Str)]) (by decide)
  simp only
  rw [e3,bd3_some,bd_some]
  simp only [un3]
  obtain ⟨s',i3,h3,G,_,_,hs'⟩:=p_6 (i:=i2) (h:=h2) b0 b1 hb (n:=n) (by omega) hp
  rw [G,bd3_some]
  exact ⟨d,b,s',s,rfl,hd,hbm,hs'⟩
 | false =>
  rw [iN_ (by simp),bd_some]
  simp only [un3]
  obtain ⟨s',i3,h3,G,_,_,hs'⟩:=p_6 (i:=H) (h:=h1) I J hb (n:=n) (by omega) hp
  rw [G,bd3_some]
  exact ⟨d,b,s',t,rfl,hd,hbm,hs'⟩
theorem u_i {n:Nat}(hn:4000000<=n)(c:Bt):j_n n c=some true:=by
 have hMX:=MXv;unfold j_n j_x
 rw [bd_some]
 by_cases h1:(1048576:Int)<(c.length:Int)
 .rw [dT_ h1];rfl
 rw [dF_ h1,iN_ (by simp)]
 obtain ⟨d,b,pat,t,G,hd,hb,hp⟩:=u_h (c:=c) (by omega) (n:=n) (by omega)
 rw [G,bd4_some,u_g (by omega) hd hp t,bd_some,t_w (by omega) hd hp,bd_some]
 refine (congrArg (λz=>bd z _)<|g_2 (λk=>((((a_K d b pat).take k).filter (isT d b t)).length:Int)) (n:=(a_K d b pat).length) rfl<|λk hk=>?_).trans ?_
 .have hm:=p_q hk
  rw [k_r hk]
  have hl:=p_r (d:=d) (b:=b) pat t k
  rw [List.length_map] at hl
  simp only [ix_ hk,bd_some,(p_p (show 1048600<=n by omega) hd hm).1]
  by_cases hq:isT d b t (a_K d b pat)[k]=true
  .have hat:=u_1 (m:=isT d b t) hk hq;have hlt:=(gS_.1 hat).1
   have hx:idx (whP d b pat t) ((((a_K d b pat).take k).filter (isT d b t)).length:Int)=some (a_K d b pat)[k].path:=by
    unfold whP
    rw [ix_ (by rw [List.length_map];exact hlt),List.getElem_map]
    exact congrArg (λz=>some<|g_.path z)<|Option.some.inj<|(gG_ hlt).symm.trans hat
   have hle:¬((whP d b pat t).length:Int)<=((((a_K d b pat).take k).filter (isT d b t)).length:Int):=by
    have:(whP d b pat t).length=((a_K d b pat).filter (isT d b t)).length:=List.length_map ..
    omega
   rw [iP_ hq]
   have hq':((f_c d b (a_K d b pat)[k]).b==t.b)=true:=hq
   simp only [hq',fT_,dF_ hle,bF_,fF_,hx,bd_some,bN_,el_inl,List.length_append,lC_,List.length_nil]
   rw [ia_ (by omega) (by omega)]
   rfl
  .rw [iN_ hq]
   have hq':((f_c d b (a_K d b pat)[k]).b==t.b)=false:=by
    cases h:((f_c d b (a_K d b pat)[k]).b==t.b) with
    | false=>rfl
    | true=>exact absurd h hq
   simp only [hq',bF_,fF_,bd_some,el_inl]
 .rw [bd_some,el_inl,List.take_length]
  unfold whP
  rw [List.length_map]
  simp
end Go.Vw
