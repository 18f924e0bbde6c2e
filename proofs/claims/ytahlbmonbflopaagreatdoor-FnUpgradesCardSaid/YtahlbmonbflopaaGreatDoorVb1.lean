import Derived.Test.YtahlbmonbflopaaGreatDoorVx
namespace Go.Vw
open Go.RowKit Dat
section
variable {α:Type}(f:α->Int->α×Int)
theorem q_J {l:List α}{j:Nat}(hj:j<l.length):l.take (j+1)=l.take j++[l[j]]:=by
 rw [List.take_add_one,gG_ hj];rfl
end
end Go.Vw
namespace Go.Vw
open Go.RowKit Dat
theorem q_K {α ρ:Type}{l:List α}{body:Nat->List α->Option (Out (List α) ρ)}(hl:l.length<=MX)(hb:∀k (hk:k<l.length) (c:List α),c.length<=MX->body k c=some (.next<|c++[l[k]])) :
  y_ body l.length 0 []=some (.inl l):=by
 have h:=nextAt (body:=body) (λk=>l.take k) (n:=l.length) (s:=[]) rfl (λk hk=>by
  rw [hb k hk _ (by rw [List.length_take];omega),q_J hk])
 rw [h,List.take_length]
theorem j_J {α:Type}{l:List α}(h:l.length<=ML):app ([]:List α) l=some l:=by
 have:=MLv;have:=a_7
 rw [a_T (by simp only [List.length_nil];omega)];rfl
theorem q_L {r:b_}(h:SmR r):n_P r=some r:=by
 have hMX:=MXv;have hML:=MLv;have h1:=h.bytes;have h2:=h.names;have h3:=h.tags;have h4:=h.kids;unfold n_P
 rw [j_J (by omega),bd_some,j_J (by omega),bd_some,j_J (by omega),bd_some,j_J (by omega),bd_some]
theorem q_M {r:b_}(h:SmR r):k_7 r=some r:=q_L h
theorem q_N {d:c_}(h:SmD d):i_Z d=some d:=by
 have hMX:=MXv;have hLIM:=a_7;have hr:=h.rules;unfold i_Z
 rw [q_K h.rules (λk hk c hc=>by
  rw [ix_ hk,bd_some,q_M (h.each _ (gE_ hk)),bd_some,Y_ (by omega),bd_some])]
 rfl
end Go.Vw
