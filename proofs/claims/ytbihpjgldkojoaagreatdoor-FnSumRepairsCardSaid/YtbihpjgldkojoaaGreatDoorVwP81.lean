
import Derived.Test.YtbihpjgldkojoaaGreatDoorVwP80
namespace Go.Vw
open Go.RowKit Dat
theorem q_N {rs:List d_}{b:Bt}{r:d_}{p:Nat}{c:Int}(h:Q_ rs b r p = .inl c):c ≠ 7:=by
 unfold Q_ at h
 split at h
 .split at h
  .cases h;decide
  .split at h <;> cases h;decide
 split at h
 .cases h
 split at h
 .split at h
  .cases h;decide
  .split at h <;> cases h;decide
 split at h
 .split at h
  .cases h;decide
  .split at h <;> cases h;decide
 .cases h
theorem m_E {rd:Int->Nat->RR}(hr:∀k p,(rd k p).2.2 ≠ 7):∀(ks:List Int)(p:Nat),(F_ rd ks p).2.2 ≠ 7
 | [],p=>by simp [F_]
 | k::ks,p=>by
  by_cases G:(rd k p).2.2=0
  .rw [show (F_ rd (k::ks) p).2.2=(F_ rd ks (rd k p).2.1).2.2 from congrArg Prod.snd (i_U G)]
   exact m_E hr ks _
  .rw [F_,iN_ G];exact hr k p
theorem q_O {b:Bt}{r:d_}{num:Int}{p:Nat}{x:List Val×Nat×Int}(hx:x.2.2 ≠ 7):(a_k b r num p x).2.2 ≠ 7:=by
 unfold a_k
 split
 .split
  .split
   .simp
   .split <;> simp
  .simp
 .exact hx
theorem q_P {rs:List d_}{b:Bt}{r:d_}{p:Nat}{rd:Int->Nat->RR}(hr:∀k p,(rd k p).2.2 ≠ 7):(rdB rs b r p rd).2.2 ≠ 7:=by
 have hb:∀p n,(a_C b p n).2.2 ≠ 7:=λp n=>by unfold a_C;split <;> simp
 unfold rdB
 split
 .split <;> simp
 split
 .unfold b_0
  split
  .simp
  .split <;> simp
 split
 .exact hb _ _
 split
 .split
  .simp
  .exact hb _ _
 split
 .split <;> simp
 split
 .rename_i c hc;exact q_N hc
 .exact q_O<|m_E hr _ _
theorem q_Q {rs:List d_}{b:Bt}(i:Nat):∀p,(rdW rs b i p).2.2 ≠ 7:=by
 induction i using Nat.strongRecOn with
 | _ i ih =>
  intro p
  rw [rdW]
  refine q_P λk q=>?_
  split
  .rename_i h;exact ih _ h q
  .simp
section
variable {d:g_}{b:Bt}
theorem q_R (hd:SmD d)(hb:b.length<=MX){n:Nat}(hn:1000<=n):∃x:Bt,f_j n d b=some (e_D d b x)/\f_n n d b=some (e_D d b x)/\x.length=b.length:=by
 have hMX:=MXv;have hLIM:=a_w;obtain ⟨x,G,H,hx⟩:=q_A (b:=b) hd hb hn;exact ⟨x,G,H,hx⟩
theorem q_S (G:(a_l d b).2.2=7):∃q:Nat,(a_l d b).2.1=q/\q<=b.length/\okF d (b.take q)=true:=by
 have hc:(a_Q d (b_4 d) b 0).2.2=0/\(a_Q d (b_4 d) b 0).2.1<(b.length:Int)/\(a_l d b).2.1=(a_Q d (b_4 d) b 0).2.1:=by
  unfold a_l at G ⊢
  split at G
  .rename_i h;rw [iP_ h];exact ⟨h.1,h.2,rfl⟩
  .exfalso
   unfold a_Q b_E at G
   split at G
   .rename_i ho
    obtain ⟨hv,hb,i,p,h1,h2,hi,hp⟩:=e_6 ho;have h2':p=0:=by omega
    have hcode:=q_Q (rs:=d.rules) (b:=b) i p
    rw [h1,h2] at G
    simp only [tN_] at G
    exact hcode G
   .cases G
 have ho:okV d b (b_4 d) 0=true:=by
  have:=hc.1;unfold a_Q at this
  split at this
  .assumption
  .cases this
 obtain ⟨hv,hb,_⟩:=e_6 ho;have hl:=c_e hv;have hr:=i_W (b:=b) hv hb;have H:=hc.1;have h1:=hc.2.1
 rw [hr] at H h1
 have h0':(rdW d.rules b (d.rules.length - 1) 0).2.2=0:=H;have hle:=b_D (b:=b) hv (d.rules.length - 1) (by omega) 0 (by omega);refine ⟨(rdW d.rules b (d.rules.length - 1) 0).2.1,by rw [hc.2.2,hr];rfl,hle.2,?_⟩;generalize hq:(rdW d.rules b (d.rules.length - 1) 0).2.1=q at *
 have hA:b_C b (b.take q) q:=⟨hle.2,by rw [List.length_take];omega,by rw [List.take_take,Nat.min_self]⟩;have hp:=k_m hv hA (d.rules.length - 1) (by omega) 0 (by omega) h0' (by omega);have I:=i_W (b:=b.take q) hv (by rw [List.length_take];omega);unfold okF a_l
 rw [I,hp]
 unfold b_E
 rw [iN_ (by
  rw [hq,List.length_take]
  simp only
  omega)]
 simp only
 rw [h0'];rfl
end
theorem q_T {n:Nat}(hn:4000000<=n)(c:Bt):g_g n c=some true:=by
 have hMX:=MXv;have hLIM:=a_w;unfold g_g h_B
 rw [bd_some]
 by_cases h1:(1048576:Int)<(c.length:Int)
 .rw [dT_ h1];rfl
 rw [dF_ h1,iN_ (by simp)]
 obtain ⟨d,b,e1,hd,hb⟩:=q_K (c:=c) (by omega) (n:=n) (by omega);obtain ⟨e,f,e2,he,hf⟩:=q_M (c:=c) (by omega) (n:=n) (by omega);obtain ⟨x,u1,u2,hx⟩:=q_R (b:=b) hd hb (show 1000<=n by omega)
 rw [e1,bd2_some,u2,bd2_some,u1,bd2_some,bN_,iN_ (by simp),q_g,bd_some]
 rw [show (!true)=false from rfl,iN_ (by simp)]
 have hIs:∀(y:Bt),c_L n d y=some (okF d y):=λy=>k_d hd (by omega)
 have H:∀(y:Bt),c_L n e y=some (okF e y):=λy=>k_d he (by omega)
 have tail:(bd2 (f_8 n c) λJ L=>bd2 (g_f n J L) λO V=>bd (α:=Bool) (bd (c_L n J O) λW=>if (V==W) then some true else if (!V) then bd (e_k O L) λY=>some Y else some false)<|λa0=>some a0)=some true:=by
  rw [e2,bd2_some]
  unfold g_f
  rw [m_z he (by omega),bd2_some]
  by_cases G:(a_l e f).2.2=0
  .rw [G]
   simp only [bQ_,fT_]
   rw [b_I (by simp;omega),bd_some,List.nil_append,bd2_some,H,bd_some]
   rw [show okF e f=true by unfold okF;rw [G];rfl]
   rfl
  rw [show ((a_l e f).2.2==0)=false by simpa using G]
  simp only [bF_,fF_]
  by_cases I:(a_l e f).2.2=7
  .obtain ⟨q,hq,hql,hok⟩:=q_S I
   rw [I,hq]
   simp only [bQ_,fT_]
   rw [show (0:Int)=((0:Nat):Int) from rfl,c_d (Nat.zero_le q) hql,bd_some]
   have hpc:piece f 0 q=f.take q:=by unfold piece;simp
   rw [hpc,b_I (by simp;omega),bd_some,List.nil_append,bd2_some,H,bd_some,hok]
   rfl
  .rw [show ((a_l e f).2.2==7)=false by simpa using I]
   simp only [bF_,fF_]
   rw [b_I (by simp;omega),bd_some,List.nil_append,bd2_some,H,bd_some]
   rw [show okF e f=false by unfold okF;simpa using G]
   rfl
 unfold e_D
 by_cases ho:okF d x=true
 .rw [iP_ ho]
  simp only [fT_]
  rw [hIs,ho,bd_some,bd_some,hx]
  simp only [nT_,bF_,fF_,bN_,bd_some]
  exact tail
 .rw [iN_ ho]
  simp only [bF_,fF_,bd_some]
  exact tail
end Go.Vw
