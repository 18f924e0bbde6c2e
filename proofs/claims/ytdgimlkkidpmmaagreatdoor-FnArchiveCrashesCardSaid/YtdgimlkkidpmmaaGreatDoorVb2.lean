
import Derived.Test.YtdgimlkkidpmmaaGreatDoorVb1
namespace Go.Vw
open Go.RowKit Dat
theorem m_l (x:Int):((mkB x).toNat:Int)=x % 256:=by
 have:=n_J x;unfold byteI IntKind.wrap at this
 simpa [IntKind.bits,IntKind.signed] using this
theorem shr8 (x:Int):a_9 .i64 x 8=x / 256:=by
 unfold a_9
 rw [show (2:Int) ^ (min (Int.toNat 8) IntKind.i64.bits)=256 from rfl]
 exact Int.fdiv_eq_ediv_of_nonneg _ (by decide)
theorem s_P {α:Type}(a b x y z:α)(l t:List α):(a::b::(l++(x::y::z::t)))[l.length+3]? = some y/\(a::b::(l++(x::y::z::t)))[l.length+4]? = some z:=by
 constructor
 .rw [show l.length+3=(l.length+1)+1+1 from rfl,List.getElem?_cons_succ,List.getElem?_cons_succ,List.getElem?_append_right (by omega),show l.length+1 - l.length=1 by omega];rfl
 .rw [show l.length+4=(l.length+2)+1+1 from rfl,List.getElem?_cons_succ,List.getElem?_cons_succ,List.getElem?_append_right (by omega),show l.length+2 - l.length=2 by omega];rfl
theorem s_Q {r:m_}(h:a_I r=true):c_q (a_3 r)=some (a_3 r).length:=by
 have f:=e_X h
 have e:a_3 r=mkB r.kind::mkB (r.name.b.length:Int)::(r.name.b++(mkB r.version::mkB (a_9 .i64 ((b_m r.data).length:Int) 8)::mkB ((b_m r.data).length:Int)::(b_m r.data++[mkB (c_1<|d_t r)]))):=by
  unfold a_3
  rw [iP_ h];simp [d_t]
 have hn:(mkB (r.name.b.length:Int)).toNat=r.name.b.length:=by have:=m_l (r.name.b.length:Int);omega
 have h1:=m_l<|a_9 .i64 ((b_m r.data).length:Int) 8;have h2:=m_l ((b_m r.data).length:Int)
 rw [shr8] at h1
 have hl:=m_C h;obtain ⟨G,H⟩:=s_P (mkB r.kind) (mkB (r.name.b.length:Int)) (mkB r.version) (mkB<|a_9 .i64 ((b_m r.data).length:Int) 8) (mkB ((b_m r.data).length:Int)) r.name.b<|b_m r.data++[mkB (c_1<|d_t r)]
 rw [shr8] at G H e
 have:=m_B (s:=a_3 r) (c:=mkB (r.name.b.length:Int)) (hi:=mkB<|((b_m r.data).length:Int) / 256) (lo:=mkB ((b_m r.data).length:Int)) (by rw [e];rfl) (by rw [hn,e];exact G) (by rw [hn,e];exact H) (by omega)
 rw [this]
 congr 1
 omega
theorem s_R {r:m_}(h:a_I r=true):(G_<|a_3 r).1.length<=1:=by
 cases hd:a_z (a_3 r) with
 | none=>rw [d_O hd];exact Nat.zero_le _
 | some x =>
  obtain ⟨q,k⟩:=x;have h1:=(i_L hd).1
  rw [s_Q h] at h1
  cases h1
  rw [d_P hd,List.drop_length]
  exact Nat.le_refl 1
theorem del_ok {nm:Str}(h:nm∈[(⟨[97]⟩:Str),(⟨[98]⟩:Str),(⟨[99,49]⟩:Str)]):G_ (a_3 ⟨2,nm,0,[]⟩)=([⟨2,nm,0,[]⟩],(a_3 ⟨2,nm,0,[]⟩).length):=by
 simp only [List.mem_cons,List.not_mem_nil,or_false] at h
 rcases h with rfl | rfl | rfl <;> rfl
structure ArI (r:D_)(k:Nat)(a:n_):Prop where
 reg:a.registry=r
 sm:SmA a
 ok:b_6 a=true
 recs:(G_ a.log.bytes).1.length<=k
 len:a.log.bytes.length<=1001 * k
theorem ArI.mono {r:D_}{k m:Nat}{a:n_}(h:ArI r k a)(hm:k<=m):ArI r m a:=⟨h.reg,h.sm,h.ok,Nat.le_trans h.recs hm,Nat.le_trans h.len<|Nat.mul_le_mul_left _ hm⟩
theorem s_S {a:n_}{r:m_}(h:a_q a.log=true):(G_ (d_x a r).log.bytes).1=(G_ a.log.bytes).1++(G_<|a_3 r).1:=by
 have:=m_g _ a.log.bytes (a_3 r) (Nat.le_refl _) (h_s h).2.2.1
 show (G_<|a.log.bytes++a_3 r).1=_
 rw [this]
theorem ArI.sync {r:D_}{k:Nat}{a:n_}(h:ArI r k a):ArI r k (c_0 a):=by
 have hb:(c_0 a).log.bytes=a.log.bytes:=by unfold c_0 c_a;split <;> rfl
 exact ⟨h.reg,o_x h.sm,o_y h.ok,by rw [hb];exact h.recs,by rw [hb];exact h.len⟩
theorem ArI.store {r:D_}{k:Nat}{a:n_}(h:ArI r k a)(hk:k<=19)(q:m_):ArI r (k+1) (k_L a q).1:=by
 have hMX:=MXv;have hl:=h.len;unfold k_L
 by_cases hc:(a_I q && a_q a.log && b_6 a && b_6 (d_x a q))=true
 .rw [iP_ hc]
  simp only [aE_] at hc
  obtain ⟨⟨⟨hv,hlog⟩,_⟩,ho⟩:=hc;refine ⟨h.reg,n_0 h.sm (by omega) q,ho,?_,?_⟩
  .show (G_ (d_x a q).log.bytes).1.length<=k+1
   rw [s_S hlog,List.length_append]
   have:=s_R hv;have:=h.recs;omega
  .show (a.log.bytes++a_3 q).length<=_
   rw [List.length_append]
   have:=k_K q;omega
 .rw [iN_ hc];exact h.mono<|Nat.le_succ k
theorem ArI.del {r:D_}{k:Nat}{a:n_}(h:ArI r k a)(hk:k<=19){nm:Str}(hn:nm∈[(⟨[97]⟩:Str),(⟨[98]⟩:Str),(⟨[99,49]⟩:Str)]):ArI r (k+1) (delP a nm).1:=by
 have hMX:=MXv;have hl:=h.len;unfold delP
 by_cases hc:(b_6 a && (!decide (i_R (b_T a.log.bytes) nm<0) && a_I ⟨2,nm,0,[]⟩))=true
 .rw [iP_ hc]
  obtain ⟨g1,G,g3,H⟩:=k_l h.ok;obtain ⟨f0,J,I,f3⟩:=h_s G;have hd:=del_ok hn;have hfull:=m_g _ a.log.bytes (a_3 ⟨2,nm,0,[]⟩) (Nat.le_refl _) I
  rw [hd] at hfull
  have hr:(G_<|a.log.bytes++a_3 ⟨2,nm,0,[]⟩).1.length<=k+1:=by
   rw [hfull];simp only [List.length_append,lC_,List.length_nil];have:=h.recs;omega
  refine ⟨h.reg,n_0 h.sm (by omega) _,k_m g1 ?_ ?_ ?_,hr,?_⟩
  .show a_q ⟨a.log.bytes++a_3 ⟨2,nm,0,[]⟩,a.log.stored⟩=true
   refine m_h f0 ?_ ?_ ?_
   .simp only [List.length_append];omega
   .simp only [hfull,List.length_append]
   .simp only
    unfold b_y at f3 ⊢
    rw [List.take_append_of_le_length (by omega)];exact f3
  .have:=o_v<|a.log.bytes++a_3 ⟨2,nm,0,[]⟩
   show (b_T<|a.log.bytes++a_3 ⟨2,nm,0,[]⟩).length<=20
   omega
  .show (G_<|a.log.bytes++a_3 ⟨2,nm,0,[]⟩).1.any (c_C<|d_x a ⟨2,nm,0,[]⟩)=false
   rw [hfull,m_k (a':=d_x a ⟨2,nm,0,[]⟩) (a:=a) rfl,List.any_append,H]
   simp [c_C]
  .show (a.log.bytes++a_3 ⟨2,nm,0,[]⟩).length<=_
   rw [List.length_append]
   have:=k_K ⟨2,nm,0,[]⟩;omega
 .rw [iN_ hc];exact h.mono<|Nat.le_succ k
end Go.Vw
