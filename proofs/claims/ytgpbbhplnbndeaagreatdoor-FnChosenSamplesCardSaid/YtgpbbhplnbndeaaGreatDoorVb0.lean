
import Derived.Test.YtgpbbhplnbndeaaGreatDoorVy
import Derived.Test.YtgpbbhplnbndeaaGreatDoorVz
namespace Go.Vw
open Go.RowKit Dat
theorem q_v {n:Nat}(hn:4000000<=n)(c:Bt):g_X n c=some true:=by
 classical
 have hMX:=MXv;have hLIM:=a_9;unfold g_X i_x
 rw [bd_some]
 by_cases h1:(1048576:Int)<(c.length:Int)
 .rw [dT_ h1];rfl
 rw [dF_ h1,iN_ (by simp)]
 have hb:c.length<=MX:=by omega
 obtain ⟨d,ed,hd,hv⟩:∃d,g_P n c=some d/\DrD d/\I_ d=true:=by
  unfold g_P;obtain ⟨O,V⟩:=new_ok hb (n:=n) (by omega);obtain ⟨d,i1,h2,G,_,_,hd,hg⟩:=q_X (i:=0) (h:=O) (by omega) (by omega) hb (n:=n) (by omega);exact ⟨d,by rw [V,bd_some,G,bd3_some],hd,q_W hd hg⟩
 rw [ed,bd_some]
 have hs:=hd.sm;have hf:=hd.few;have hE:=hd.e;have hw:WV d:=⟨by omega,λj hj h6=>by have:=((hd.each j hj).k6 h6).2;omega,λj hj h8=>by omega,λj hj h3=>by have:=((hd.each j hj).size3 h3).2;omega⟩;obtain ⟨p,ep,pl,proot,pc⟩:=q_l hv hs hE (n:=n) (by omega)
 -- the samples
 obtain ⟨sp,hsp⟩:∃sp:Nat->Bt×Bool,∀k:Nat,k<12->d_L n d ((k:Int)+1) 3=some (sp k)/\∃w',d_m n d ((k:Int)+1) 3=some w'/\w'.2=(sp k).2/\((sp k).2=true->w'=sp k):=by
  refine Classical.axiomOfChoice (r:=λ(k:Nat)(w:Bt×Bool)=>k<12->d_L n d ((k:Int)+1) 3=some w/\∃w',d_m n d ((k:Int)+1) 3=some w'/\w'.2=w.2/\(w.2=true->w'=w)) λk=>?_
  by_cases hk:k<12
  .obtain ⟨w,G,_,I⟩:=q_e hv hs hw hE (n:=n) (by omega) (s:=(k:Int)+1) ⟨by omega,by omega⟩;exact ⟨w,λ_=>⟨G,I⟩⟩
  .exact ⟨([],false),λh=>absurd h hk⟩
 let ok:Nat->Bool:=λk=>(sp k).2
 let x:Nat->List Int:=λk=>d_y d (sp k).1
 have hx:∀k,Cov d p (x k) 2000000:=λk=>q_p pc proot
 have hdl:d.rules.length<=30:=by omega
 have hxs:∀k,Sml (x k) 2000000:=λk=>⟨Nat.le_trans (hx k).len hdl,(hx k).nn⟩
 have sml:=j_b (ok:=ok) hx hdl
 -- the choice
 have ech:g_U n d 12 3=some (stQ ok x 12).1:=by
  unfold g_U
  suffices h:∃r,_=some r/\r=(stQ ok x 12).1 by obtain ⟨r,e,rfl⟩:=h;exact e
  refine j_9 (λs=>∃k:Nat,k<=12/\s=((stQ ok x k).1,(stQ ok x k).2,(k:Int)+1)) (λs=>13 - s.2.2.toNat) (λs=>s.1=(stQ ok x 12).1) ⟨0,by omega,rfl⟩ (by simp only;omega) ?_<|λs hs=>⟨_,rfl,hs⟩;rintro _ ⟨k,hk,rfl⟩
  simp only [un3]
  rw [l_1,bd_some,e_g,bd_some,show min (max (12:Int) 0) 60=12 from rfl]
  by_cases H:k<12
  .left
   obtain ⟨G,w',I,W,Y⟩:=hsp k H;have hadd:d_ ((k:Int)+1) 1=((k+1:Nat):Int)+1:=by rw [ia_ (by omega) (by omega)];omega
   rw [dT_ (show (k:Int)+1<=12 by omega),iP_ rfl,I,bd2_some,hadd]
   refine ⟨((stQ ok x<|k+1).1,(stQ ok x<|k+1).2,((k+1:Nat):Int)+1),?_,⟨k+1,by omega,rfl⟩,by simp only;omega⟩
   by_cases hok:ok k=true
   .obtain rfl:=Y hok;have hok':(sp k).2=true:=hok
    rw [hok',iN_ (by simp),q_g hs (by omega),bd_some,show d_y d (sp k).1=x k from rfl,q_r,bd_some]
    by_cases ha:c_w (x k) (stQ ok x k).2
    .have hlen:=k_P (ok:=ok) hx hdl k
     rw [dT_ ha,iP_ rfl,a_d (by omega),bd_some,q_q (sml k).1 (hxs k) (by omega),bd_some,bd_some,g_v hok ha]
     rfl
    .rw [dF_ ha,iN_ (by simp),bd_some,e_b<|λh=>ha h.2]
     rfl
   .have hok':w'.2=false:=by rw [W];exact Bool.eq_false_iff.2 hok
    rw [hok',iP_ (by rfl),bd_some,e_b<|λh=>hok h.1]
  .right
   obtain rfl:k=12:=by omega
   exact ⟨_,rfl,rfl⟩
 rw [ech,bd_some]
 refine (λh:∃r,_=some r/\r=true=>by obtain ⟨r,e,rfl⟩:=h;exact e) ?_;refine j_9 (λs=>∃k:Nat,k<=12/\s=((stQ ok x k).2,alQ ok x k,(k:Int)+1)) (λs=>13 - s.2.2.toNat) (λs=>s.1=(stQ ok x 12).2/\s.2.1=alQ ok x 12) ⟨0,by omega,rfl⟩ (by simp only;omega) ?_ ?_
 .rintro _ ⟨k,hk,rfl⟩
  simp only [un3]
  by_cases H:k<12
  .left
   obtain ⟨G,_⟩:=hsp k H;have hadd:d_ ((k:Int)+1) 1=((k+1:Nat):Int)+1:=by rw [ia_ (by omega) (by omega)];omega
   rw [dT_ (show (k:Int)+1<=12 by omega),iP_ rfl,G,hadd]
   refine ⟨((stQ ok x<|k+1).2,alQ ok x<|k+1,((k+1:Nat):Int)+1),?_,⟨k+1,by omega,rfl⟩,by simp only;omega⟩
   rw [bd2_some]
   by_cases hok:ok k=true
   .have hok':(sp k).2=true:=hok
    rw [hok',iN_ (by simp),q_h hs (by omega),bd_some,show d_y d (sp k).1=x k from rfl,m_m (sml k).2 (hxs k) (by omega) (by omega),bd_some,q_s,bd_some]
    have hm:=m_p (ok:=ok) (x:=x) 12 k H
    rw [show alQ ok x (k+1)=mg (alQ ok x k) (x k) by rw [alQ,iP_ hok]]
    by_cases ha:c_w (x k) (stQ ok x k).2
    .rw [dT_ (hm.2 ⟨hok,ha⟩),iP_ rfl,j_a hv hs ep pl,bd_some,m_m (sml k).1 (hxs k) (by omega) (by omega),bd_some,j_a hv hs ep pl,bd_some]
     have hlt:=m_n (p:=p) (hx k).len (λi=>((sml k).1.bd i).1) (λi=>((hx k).nn i).1) (hx k).ps ha
     rw [List.length_map,List.length_map,dF_ (by omega),iN_ (by simp),bd_some,g_v hok ha]
     rfl
    .rw [dF_ (λh=>ha (hm.1 h).2),iN_ (by simp),bd_some,e_b<|λh=>ha h.2]
     rfl
   .have hok':(sp k).2=false:=Bool.eq_false_iff.2 hok
    rw [hok',iP_ (by rfl),bd_some,e_b<|λh=>hok h.1,show alQ ok x (k+1)=alQ ok x k by rw [alQ,iN_ hok]]
    rfl
  .right
   obtain rfl:k=12:=by omega
   exact ⟨_,rfl,rfl,rfl⟩
 .rintro ⟨s1,s2,s3⟩ ⟨J,L⟩
  simp only at J L
  subst J L
  simp only [un3]
  rw [j_a hv hs ep pl,bd_some,j_a hv hs ep pl,bd_some,q_u hx hdl,q_i,bd_some,iP_ rfl,bd_some]
  refine ⟨_,rfl,?_⟩;have:=k_P (ok:=ok) hx hdl 12;exact dT_ (by omega)
end Go.Vw
