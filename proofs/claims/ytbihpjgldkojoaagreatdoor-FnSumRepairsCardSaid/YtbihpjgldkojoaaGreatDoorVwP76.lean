
import Derived.Test.YtbihpjgldkojoaaGreatDoorVwP75
namespace Go.Vw
open Go.RowKit Dat
theorem q_q {d:g_}{b:Bt}(hv:a_2 d=true)(hd:SmD d)(hb:b.length<=400):∀(i:Nat),i<d.rules.length->∀p,p<=b.length->(rdW d.rules b i p).2.2=5->∃ss j st,f_u d b i p ss j st (rdW d.rules b i p).2.1:=by
 have hMX:=MXv;intro i
 induction i using Nat.strongRecOn with
 | _ i ih =>
  intro hi p hp h5;have hle:=b_D (b:=b) hv i hi p hp;have hr:=b_V hv hi;have e:=d_v (b:=b) hv hi hp;have h5':=h5
  rw [e] at h5'
  obtain ⟨hk,num,ks,st,hh,hf⟩:=rdB5 hr.kind h5';obtain ⟨hkin,a2,G,a1,_⟩:=e_A hr.kind hk hp hh;obtain ⟨_,hstP,_⟩:=q_F hr.kind hk hh;have hks:∀k∈ks,0<=k/\k<(i:Int):=λk hk=>hr.kids k<|hkin k hk
  have hW:rdW d.rules b i p=a_k b d.rules[i] num p (F_ (λk p=>rdW d.rules b k.toNat p) ks st):=by rw [e,m_v hk hh]
  have hlek:∀(b':Bt),∀k∈ks,∀p,p<=b'.length->p<=((λk p=>rdW d.rules b' k.toNat p) k p:RR).2.1/\((λk p=>rdW d.rules b' k.toNat p) k p:RR).2.1<=b'.length:=λb' k hk p hp=>b_D hv k.toNat (by have:=hks k hk;omega) p hp
  have hil:=e_2 (rd:=λk p=>rdW d.rules b k.toNat p) ks st G<|hlek b;generalize hq:(rdW d.rules b i p).2.1=q at *
  have hiq:(F_ (λk p=>rdW d.rules b k.toNat p) ks st).2.1<=q:=by
   rw [← hq,hW];exact m_w
  have hW':∀(b':Bt),b_C b b' q->rdW d.rules b' i p=a_k b' d.rules[i] num p (F_ (λk p=>rdW d.rules b' k.toNat p) ks st):=λb' hA=>by
   have:=hA.l2
   rw [d_v hv hi (show p<=b'.length by omega),m_v hk<|m_8 hA hr.kind hh (by simp only;omega)]
  rcases fin5 hf with ⟨V,hfin⟩ | ⟨I,J,⟨c,hc,hcs⟩,hfin⟩
  .-- an item fails
   obtain ⟨m,hm,H,W⟩:=m_q ks st V;have hpm:=f_t (hlek b) G m (by omega);have hkm:=hks _<|gE_ hm
   have hqe:q=(rdW d.rules b ks[m].toNat (a_D (en2<|λk p=>rdW d.rules b k.toNat p) ks st m)).2.1:=by
    rw [← hq,hW]
    exact (congrArg Prod.fst hfin).trans (congrArg Prod.fst W).symm
   have hce:(rdW d.rules b ks[m].toNat (a_D (en2<|λk p=>rdW d.rules b k.toNat p) ks st m)).2.2=5:=(congrArg Prod.snd W).trans V;have hqm:a_D (en2<|λk p=>rdW d.rules b k.toNat p) ks st m<=q:=by rw [hqe];exact (b_D hv _ (by omega) _ hpm.2).1
   obtain ⟨ss,j,s0,S⟩:=ih ks[m].toNat (by omega) (by omega) _ hpm.2 hce
   rw [← hqe] at S
   have hE:Ent d b d.rules[i] p ks num:=⟨by rw [← hstP];exact hh,hk.1,hk.2⟩;obtain ⟨hinj,hgood⟩:=p_A hr.kind hE a1
   have hskip:∀(b':Bt),b_C b b' q->(F_ (λk p=>rdW d.rules b' k.toNat p) ks st).2=(F_ (λk p=>rdW d.rules b' k.toNat p) (ks[m]::ks.drop (m+1))<|a_D (en2<|λk p=>rdW d.rules b k.toNat p) ks st m).2:=λb' hA =>
    m_r m ks st hm (λt ht=>⟨H t ht,by
     have htk:t<ks.length:=by omega
     have hkt:=hks _<|gE_ htk;have hpt:=f_t (hlek b) G t (by omega);have hend:=m_t (t:=t+1) (hlek b) G m (by omega) (by omega)
     rw [i_E _ _ _ _ htk] at hend
     exact k_m hv hA ks[t].toNat (by omega) _ hpt.2 (H t ht) (Nat.le_trans hend hqm)⟩)
   refine ⟨a_4 d.rules[i] m::ss,j,s0,?_,?_,?_,hq.symm,S.le,by omega,S.lt,?_,?_,?_⟩
   .unfold locL
    have hst:b_m d.rules b d.rules[i] p (a_4 d.rules[i] m)=some (ks[m].toNat,a_D (en2<|λk p=>rdW d.rules b k.toNat p) ks st m):=by
     unfold b_m
     rw [iP_ hk,hh]
     exact m_s (rd:=rdK d.rules b) m ks 0 st hm H (λt ht hx=>by
      rw [Nat.zero_add] at hx
      have:=hinj t m (by omega) hm hx
      omega) (by rw [Nat.zero_add])
    rw [m_4 hi,hst]
    exact S.loc
   .intro s hs
    rcases List.mem_cons.1 hs with rfl | hs
    .exact hgood m hm
    .exact S.good s hs
   .have:=S.len;simp only [lC_];omega
   .intro b' c hA hc hne;have h1:=S.same b' c hA hc hne
    have h2:(F_ (λk p=>rdW d.rules b' k.toNat p) ks st).2=(q,5):=by
     rw [hskip b' hA,F_,iN_ (by rw [show (rdW d.rules b' ks[m].toNat (a_D (en2<|λk p=>rdW d.rules b k.toNat p) ks st m)).2.2=5 from congrArg Prod.snd h1];decide)]
     exact h1
    rw [hW' b' hA,q_o (by rw [h2];simp)];exact h2
   .intro b' c hA hc he;have h1:=S.other b' c hA hc he;have a3:=hA.l2
    rw [hW' b' hA]
    refine Nat.lt_of_lt_of_le ?_ m_w
    rw [hskip b' hA]
    by_cases Y:(rdW d.rules b' ks[m].toNat (a_D (en2<|λk p=>rdW d.rules b k.toNat p) ks st m)).2.2=0
    .rw [i_U Y]
     have a0:=(b_D (b:=b') hv ks[m].toNat (by omega) (a_D (en2<|λk p=>rdW d.rules b k.toNat p) ks st m) (by omega)).2;exact Nat.lt_of_lt_of_le h1 (e_2 _ _ a0<|λk hk=>hlek b' k<|List.mem_of_mem_drop hk).1
    .rw [F_,iN_ Y];exact h1
   .intro path hpl n hn pa ru;obtain ⟨n,rfl⟩:∃L,n=L+2:=⟨n - 2,by omega⟩;have hg:=hgood m hm;have hsl:(a_4 d.rules[i] m).b.length<=21:=m_J hr.kind m (by omega)
    simp only [lC_] at hpl
    have h1:=S.tr ⟨path.b++[47]++(a_4 d.rules[i] m).b⟩ (by simp only [List.length_append,lC_,List.length_nil];omega) n (by omega) path (i:Int)
    rw [show ((ks[m].toNat:Nat):Int)=ks[m] by omega] at h1
    have h2:=q_p hv hd hb hi hks G hm H (by rw [hce];decide) (n:=n) (by omega) (path:=path) (by omega) (pa:=path) (ru:=(i:Int)) hsl (by omega) h1;have h3:=k_x hv hd hb hi hp hk hh (by intro _ h;rw [h] at hm;simp at hm) (n:=n+1) (by omega) (rec:=a_Z<|n+1) (path:=path) (pa:=pa) (ru:=ru) (x:=(⟨path.b++[47]++(a_4 d.rules[i] m).b++b_N ss⟩,(j:Int))) h2;refine Eq.trans h3 ?_
    simp [b_N]
  .-- the part's own sum
   have hqe:q=(F_ (λk p=>rdW d.rules b k.toNat p) ks st).2.1:=by
    rw [← hq,hW]
    have hx:=congrArg Prod.fst hfin;exact hx
   rw [← hqe] at hc hcs
   have hlt:q<b.length:=(gS_.1 hc).1;have hpq:p<=q:=by omega
   have hitem:∀(b':Bt),b_C b b' q->F_ (λk p=>rdW d.rules b' k.toNat p) ks st=F_ (λk p=>rdW d.rules b k.toNat p) ks st:=λb' hA =>
    k_l (e:=q) ks st G (hlek b) J (λk hk p hp H he=>k_m hv hA k.toNat (by have:=hks k hk;omega) p hp H he) (by omega)
   have hfin':∀(b':Bt)(c:UInt8),b_C b b' q->b'[q]? = some c->rdW d.rules b' i p=if byteI c=a_J (piece b p q) then (⟨0,[],(F_ (λk p=>rdW d.rules b k.toNat p) ks st).1⟩,q+1,0) else (zV,q,5):=λb' c hA hc=>by
    rw [hW' b' hA,hitem b' hA]
    unfold a_k
    rw [iP_ J,I,← hqe,hc]
    simp only [bQ_,fT_]
    rw [hA.piece (Nat.le_refl q)]
   have hone:=g_M<|b_P hr.kind<|.inr I
   have O:ks=d.rules[i].kids/\st=p:=by
    unfold Q_ at hh
    rw [I] at hh
    simp only [show ((9:Int)==5)=false from rfl,show ((9:Int)==6)=false from rfl,show ((9:Int)==7)=false from rfl,show ((9:Int)==8)=false from rfl,bF_,fF_] at hh
    cases hh
    exact ⟨hone.symm,rfl⟩
   refine ⟨[],i,p,rfl,λ_ h=>by simp at h,by simp,hq.symm,hpq,hpq,hlt,?_,?_,?_⟩
   .intro b' c hA hc hne
    rw [hfin' b' c hA hc,iN_ hne]
   .intro b' c hA hc he
    rw [hfin' b' c hA hc,iP_ he]
    exact Nat.lt_succ_self q
   .intro path hpl n hn pa ru;obtain ⟨n,rfl⟩:∃L,n=L+2:=⟨n - 2,by omega⟩;have a4:ks.length=1:=by rw [O.1];exact b_P hr.kind<|.inr I
    obtain ⟨k,hkk⟩:∃k,ks=[k]:=⟨_,(by rw [O.1];exact hone)⟩;have hkr:=hks k (by rw [hkk];simp)
    have hko:(rdW d.rules b k.toNat st).2.2=0:=by
     have:=J
     rw [hkk] at this
     by_cases h:(rdW d.rules b k.toNat st).2.2=0
     .exact h
     .rw [F_,iN_ h] at this;exact this
    have h2:(a_Z<|n+1).impl_tracer_kids ⟨d,b,path,(i:Int)⟩ path (i:Int) ks (st:Int)=some (((rdW d.rules b k.toNat st).2.1:Int),true,path,(i:Int)):=by
     show d_r n (a_Z n) ⟨d,b,path,(i:Int)⟩ path (i:Int) ks (st:Int)=_
     unfold d_r
     rw [hkk]
     simp only [lC_,List.length_nil,Nat.zero_add]
     unfold G_
     rw [ix_ (l:=[k]) (k:=0) (by simp),bd_some]
     simp only [List.getElem_cons_zero]
     rw [e_C hv hd hb (by omega) hkr.1 (by omega) G,bd2_some,hko]
     rfl
    have h3:=k_x hv hd hb hi hp hk hh (by intro _;rw [hkk];simp) (n:=n+1) (by omega) (rec:=a_Z<|n+1) (path:=path) (pa:=pa) (ru:=ru) (x:=(path,(i:Int))) h2;refine Eq.trans h3 ?_
    simp [b_N]
end Go.Vw
