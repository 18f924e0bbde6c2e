
import Derived.Test.YtajhmimbhplkfaaGreatDoorV5
namespace Go.Vw
open Go.RowKit Dat
theorem f_m {σ ρ:Type}{body:Nat->σ->Option (Out σ ρ)}(I:Nat->σ->Prop)(R:ρ->Prop){n:Nat}(h:∀k s,k<n->I k s->(∃s',body k s=some (.next s')/\I (k+1) s')∨(∃r,body k s=some (.ret r)/\R r)) :
  ∀m k s,k+m=n->I k s->(∃s',t_ body m k s=some (.inl s')/\I n s')∨(∃r,t_ body m k s=some (.inr r)/\R r)
 | 0,k,s,hk,hi=>.inl ⟨s,rfl,by rw [← hk];exact hi⟩
 | m+1,k,s,hk,hi=>by
  unfold t_
  rcases h k s (by omega) hi with ⟨s',h1,h2⟩ | ⟨r,h1,h2⟩
  ·rw [h1];exact f_m I R h m (k+1) s' (by omega) h2
  ·rw [h1];exact .inr ⟨r,rfl,h2⟩
structure LnR (r:g_):Prop where
 name:r.name.b.length<=LEN
 bytes:r.bytes.length<=LEN
 names:r.names.length<=LEN
 tags:r.tags.length<=LEN
 kids:r.kids.length<=LEN
 each:∀s∈r.names,s.b.length<=LEN
structure LnD (d:e_):Prop where
 rules:d.rules.length<=LEN
 each:∀r∈d.rules,LnR r
theorem LENv:LEN=140737488355328:=rfl
def a_P (l:Int):Prop:=0<=l/\l<=1048576
theorem n_D {α:Type}(a:List α){left:Int}(hl:a_P left)(ha:a.length<=LEN):(if (decide<|(x_ left (a.length:Int))<0)=true then some (-1) else some (x_ left (a.length:Int)))=some (if left<a.length then -1 else left - a.length):=by
 have:=LENv;unfold a_P at hl
 rw [a_x (by omega) (by omega)]
 by_cases h:left<a.length
 ·rw [dT_ (by omega),iP_ h];rfl
 ·rw [dF_ (by omega),iN_ h];rfl
theorem s_6 {α:Type}{l:List α}{z:α}{j:Nat}(hj:j<l.length):(l.take j++List.replicate (l.length - j) z).set j l[j]=l.take (j+1)++List.replicate (l.length - (j+1)) z:=by
 rw [List.set_append_right _ _ (by simp;omega)]
 rw [show j - (l.take j).length=0 by simp;omega,show l.length - j=(l.length - (j+1))+1 by omega,List.replicate_succ,List.set_cons_zero,List.take_add_one,gG_ hj,Option.toList_some,List.append_assoc]
 rfl
theorem h_q {α ρ:Type}{l:List α}{z:α}(body:Nat->List α->Option (Out (List α) ρ))(hb:∀k (hk:k<l.length) (c:List α),c.length=l.length->body k c=some (.next<|c.set k l[k])) :
  t_ body l.length 0 (List.replicate l.length z)=some (.inl l):=by
 have h:=b_T (n:=l.length) (body:=body) (fun k=>l.take k++List.replicate (l.length - k) z) (fun j hj=>by
  rw [hb j hj _ (by simp;omega),s_6 hj])
 simpa using h
theorem n_E {l:List UInt8}(hl:l.length<=MX):g_y l=some l:=by
 have:=MXv;have:=a_u;unfold g_y
 rw [f_w (by omega),bd_some,h_q _ (fun k hk c hc=>by rw [ix_ hk,bd_some,d_P (by omega),bd_some])];rfl
theorem n_F {l:List Int}(hl:l.length<=MX):g_z l=some l:=by
 have:=MXv;have:=a_u;unfold g_z
 rw [f_w (by omega),bd_some,h_q _ (fun k hk c hc=>by rw [ix_ hk,bd_some,d_P (by omega),bd_some])];rfl
theorem s_7 {l:List Str}(hl:l.length<=MX):h_N l=some l:=by
 have:=MXv;have:=a_u;unfold h_N
 rw [f_w (by omega),bd_some,h_q _ (fun k hk c hc=>by rw [ix_ hk,bd_some,d_P (by omega),bd_some])];rfl
theorem s_8 {r:g_}(hr:SmR r):h_O r=some r:=by
 unfold h_O
 rw [n_E hr.bytes,bd_some,s_7 hr.names,bd_some,n_F hr.tags,bd_some,n_F hr.kids,bd_some]
theorem s_9 {d:e_}(hd:SmD d):h_P d=some d:=by
 have:=MXv;have:=a_u;have:=hd.rules;unfold h_P k_M
 rw [f_w (by omega),bd_some,h_q _ (fun k hk c hc=>by rw [ix_ hk,bd_some,s_8<|hd.each _<|gE_ hk,bd_some,d_P (by omega),bd_some])];rfl
theorem eq_int (l:List Int):g_S l l=some true:=by
 unfold g_S
 rw [b_T (fun _=>()) (n:=l.length) (fun j hj=>by rw [ix_ hj];simp only [bd_some,bN_,bF_,fF_])]
 simp
theorem n_G (l:List UInt8):g_R l l=some true:=by
 unfold g_R
 rw [b_T (fun _=>()) (n:=l.length) (fun j hj=>by rw [ix_ hj];simp only [bd_some,bN_,bF_,fF_])]
 simp
theorem s_a (l:List Str):i_s l l=some true:=by
 unfold i_s
 rw [b_T (fun _=>()) (n:=l.length) (fun j hj=>by rw [ix_ hj];simp only [bd_some,bN_,bF_,fF_])]
 simp
theorem s_b (r:g_):i_t r r=some true:=by
 unfold i_t
 simp only [eq_int,n_G,s_a,bd_some,bN_,bF_,fF_,nT_]
theorem s_c (d:e_):i_u d d=some true:=by
 unfold i_u k_Q
 rw [b_T (fun _=>()) (n:=d.rules.length) (fun j hj=>by rw [ix_ hj];simp only [bd_some,s_b,nT_,bF_,fF_])]
 simp
end Go.Vw
