
import Derived.Test.YtdgimlkkidpmmaaGreatDoorVv
namespace Go.Vw
open Go.RowKit Dat
theorem k_I {α ρ:Type}{l:List α}{body:Nat->List α->Option (Out (List α) ρ)}(hl:l.length<=MX)(hb:∀k (hk:k<l.length) (c:List α),c.length<=MX->body k c=some (.next<|c++[l[k]])) :
  t_ body l.length 0 []=some (.inl l):=by
 have h:=i_O (body:=body) (λk=>l.take k) (n:=l.length) (s:=[]) rfl (λk hk=>by
  rw [hb k hk _ (by rw [List.length_take];omega),t_K hk])
 rw [h,List.take_length]
theorem i_Q {α:Type}{l:List α}(h:l.length<=ML):app ([]:List α) l=some l:=by
 have:=MLv;have:=W_
 rw [a_A (by simp only [List.length_nil];omega)];rfl
theorem p_p {r:b_}(h:SmR r):j_I r=some r:=by
 have hMX:=MXv;have hML:=MLv;have h1:=h.bytes;have h2:=h.names;have h3:=h.tags;have h4:=h.kids;unfold j_I
 rw [i_Q (by omega),bd_some,i_Q (by omega),bd_some,i_Q (by omega),bd_some,i_Q (by omega),bd_some]
theorem t_M {r:b_}(h:SmR r):l_2 r=some r:=p_p h
theorem t_N {d:c_}(h:SmD d):j_J d=some d:=by
 have hMX:=MXv;have hLIM:=W_;have hr:=h.rules;unfold j_J
 rw [k_S (by omega),bd_some,k_I h.rules (λk hk c hc=>by
  rw [ix_ hk,bd_some,p_p (h.each _ (gE_ hk)),bd_some,O_ (by omega),bd_some])]
 rfl
theorem p_q {d:c_}(h:SmD d):h_X d=some d:=by
 have hMX:=MXv;have hLIM:=W_;have hr:=h.rules;unfold h_X
 rw [k_I h.rules (λk hk c hc=>by
  rw [ix_ hk,bd_some,t_M (h.each _ (gE_ hk)),bd_some,O_ (by omega),bd_some])]
 rfl
theorem t_O {r:D_}(hl:r.versions.length<=MX)(h:∀d∈r.versions,SmD d):j_K r=some r:=by
 have hMX:=MXv;have hLIM:=W_;unfold j_K
 rw [ia_ (by omega) (by omega),show (r.versions.length:Int)+1=((r.versions.length+1:Nat):Int) from rfl,k_S (by omega),bd_some,k_I hl (λk hk c hc=>by
  rw [ix_ hk,bd_some,t_N (h _ (gE_ hk)),bd_some,O_ (by omega),bd_some])]
 rfl
theorem t_P {r:D_}(hl:r.versions.length<=MX)(h:∀d∈r.versions,SmD d):j_H r=some r:=by
 have hMX:=MXv;have hLIM:=W_;unfold j_H
 rw [k_I hl (λk hk c hc=>by
  rw [ix_ hk,bd_some,p_q (h _ (gE_ hk)),bd_some,O_ (by omega),bd_some])]
 rfl
theorem k_J {l:Log}(h:l.bytes.length<=ML):g_B l=some l:=by
 unfold g_B
 rw [i_Q h,bd_some]
theorem m_Y {l:Log}(h:l.bytes.length<=ML):h_Y l=some l:=k_J h
theorem p_r {a:n_}(h:SmA a):h_Z a=some a:=by
 unfold h_Z
 rw [t_O h.len h.each,bd_some,k_J h.bytes,bd_some]
theorem m_Z {a:n_}(h:SmA a):f_h a=some a:=by
 unfold f_h
 rw [t_P h.len h.each,bd_some,m_Y h.bytes,bd_some]
theorem k_K (r:m_):(a_3 r).length<=1001:=by
 unfold a_3
 cases hv:a_I r with
 | false=>simp
 | true =>
  have:=m_K hv
  simp only [fT_,List.length_append,lC_,List.length_nil];omega
def appP (l:Log)(r:m_):Log×Bool:=if (a_I r && a_q l) then (⟨l.bytes++a_3 r,l.stored⟩,true) else (l,false)
theorem p_s {l:Log}(h:l.bytes.length<=ML)(r:m_){n:Nat}(hn:1060100<=n):i_0 n l r=some (appP l r):=by
 have hML:=MLv;have hLIM:=W_;have he:=k_K r;unfold i_0 appP
 rw [m_Y h,bd_some,k_C h hn,bd_some]
 cases a_q l with
 | false=>cases a_I r <;> rfl
 | true =>
  simp only [nT_,bF_,fF_,Bool.and_true]
  rw [p_a,bd_some,bd_some]
  cases a_I r with
  | false=>rfl
  | true =>
   simp only [nT_,bF_,fF_,fT_]
   rw [m_L (by omega),bd_some,a_A (by omega),bd_some]
def d_x (a:n_)(r:m_):n_:=⟨a.registry,⟨a.log.bytes++a_3 r,a.log.stored⟩⟩
theorem n_0 {a:n_}(h:SmA a)(hb:a.log.bytes.length<=MX)(r:m_):SmA (d_x a r):=by
 have hML:=MLv;have hMX:=MXv;have he:=k_K r;exact ⟨h.len,h.each,by unfold d_x;simp only [List.length_append];omega⟩
def k_L (a:n_)(r:m_):n_×Bool:=if (a_I r && a_q a.log && b_6 a && b_6 (d_x a r)) then (d_x a r,true) else (a,false)
theorem t_Q {a:n_}(h:SmA a)(hb:a.log.bytes.length<=MX)(nm:Str)(v:Int)(dt:Bt){n:Nat}(hn:1060100<=n):i_1 n a nm v dt=some (k_L a ⟨1,nm,v,dt⟩):=by
 have hp:=n_0 h hb ⟨1,nm,v,dt⟩;unfold i_1 k_L
 rw [m_Z h,bd_some,p_s h.bytes _ hn]
 unfold appP
 cases hv:(a_I ⟨1,nm,v,dt⟩ && a_q a.log) with
 | false =>
  simp only [bF_,fF_,bd2_some]
  rw [k_D h hn]
  cases b_6 a <;> rfl
 | true =>
  simp only [fT_,bd2_some,nT_,bF_,fF_,Bool.true_and]
  rw [k_D h hn,bd_some]
  cases b_6 a with
  | false=>rfl
  | true =>
   simp only [nT_,bF_,fF_,Bool.true_and]
   refine (congrArg (λz=>bd (α:=Bool) (bd (α:=Bool) z _) _)<|k_D hp hn).trans ?_
   rw [bd_some,bd_some]
   cases b_6 (d_x a ⟨1,nm,v,dt⟩) <;> rfl
end Go.Vw
