
import Derived.Test.YtgieiijmhcgmcaaGreatDoorVwP75
namespace Go.Vw
open Go.RowKit Dat
theorem p_n {d:g_}{b:List UInt8}(hv:P_ d=true)(hd:SmD d)(hb:b.length<=400):∀(i:Nat),i<d.rules.length->∀p,p<=b.length->(rdW d.rules b i p).2.2=5->∃ss j st,e_n d b i p ss j st (rdW d.rules b i p).2.1:=by
 have hMX:=MXv;intro i
 induction i using Nat.strongRecOn with
 | _ i ih =>
  intro hi p hp h5;have hle:=b_b (b:=b) hv i hi p hp;have hr:=b_q hv hi;have e:=c_L (b:=b) hv hi hp;have h5':=h5
  rw [e] at h5'
  obtain ⟨hk,num,ks,st,hh,hf⟩:=rdB5 hr.kind h5';obtain ⟨hkin,a2,G,a1,_⟩:=d_P hr.kind hk hp hh;obtain ⟨_,hstP,_⟩:=p_C hr.kind hk hh;have hks:∀k∈ks,0<=k/\k<(i:Int):=fun k hk=>hr.kids k<|hkin k hk
  have hW:rdW d.rules b i p=a_4 b d.rules[i] num p (v_ (fun k p=>rdW d.rules b k.toNat p) ks st):=by rw [e,l_l hk hh]
  have hlek:∀(b':List UInt8),∀k∈ks,∀p,p<=b'.length->p<=((fun k p=>rdW d.rules b' k.toNat p) k p:RR).2.1/\((fun k p=>rdW d.rules b' k.toNat p) k p:RR).2.1<=b'.length:=fun b' k hk p hp=>b_b hv k.toNat (by have:=hks k hk;omega) p hp
  have hil:=d_k (rd:=fun k p=>rdW d.rules b k.toNat p) ks st G<|hlek b;generalize hq:(rdW d.rules b i p).2.1=q at *
  have hiq:(v_ (fun k p=>rdW d.rules b k.toNat p) ks st).2.1<=q:=by
   rw [← hq,hW];exact l_m
  have hW':∀(b':List UInt8),b_9 b b' q->rdW d.rules b' i p=a_4 b' d.rules[i] num p (v_ (fun k p=>rdW d.rules b' k.toNat p) ks st):=fun b' hA=>by
   have:=hA.l2
   rw [c_L hv hi (show p<=b'.length by omega),l_l hk<|l_2 hA hr.kind hh (by simp only;omega)]
  rcases fin5 hf with ⟨V,hfin⟩ | ⟨I,J,⟨c,hc,hcs⟩,hfin⟩
  ·-- an item fails
   obtain ⟨m,hm,H,W⟩:=l_g ks st V;have hpm:=e_m (hlek b) G m (by omega);have hkm:=hks _<|gE_ hm
   have hqe:q=(rdW d.rules b ks[m].toNat (a_g (en2<|fun k p=>rdW d.rules b k.toNat p) ks st m)).2.1:=by
    rw [← hq,hW]
    exact (congrArg Prod.fst hfin).trans (congrArg Prod.fst W).symm
   have hce:(rdW d.rules b ks[m].toNat (a_g (en2<|fun k p=>rdW d.rules b k.toNat p) ks st m)).2.2=5:=(congrArg Prod.snd W).trans V;have hqm:a_g (en2<|fun k p=>rdW d.rules b k.toNat p) ks st m<=q:=by rw [hqe];exact (b_b hv _ (by omega) _ hpm.2).1
   obtain ⟨ss,j,s0,S⟩:=ih ks[m].toNat (by omega) (by omega) _ hpm.2 hce
   rw [← hqe] at S
   have hE:Ent d b d.rules[i] p ks num:=⟨by rw [← hstP];exact hh,hk.1,hk.2⟩;obtain ⟨hinj,hgood⟩:=o_I hr.kind hE a1
   have hskip:∀(b':List UInt8),b_9 b b' q->(v_ (fun k p=>rdW d.rules b' k.toNat p) ks st).2=(v_ (fun k p=>rdW d.rules b' k.toNat p) (ks[m]::ks.drop (m+1))<|a_g (en2<|fun k p=>rdW d.rules b k.toNat p) ks st m).2:=fun b' hA =>
    l_h m ks st hm (fun t ht=>⟨H t ht,by
     have htk:t<ks.length:=by omega
     have hkt:=hks _<|gE_ htk;have hpt:=e_m (hlek b) G t (by omega);have hend:=l_j (t:=t+1) (hlek b) G m (by omega) (by omega)
     rw [h_8 _ _ _ _ htk] at hend
     exact l_3 hv hA ks[t].toNat (by omega) _ hpt.2 (H t ht) (Nat.le_trans hend hqm)⟩)
   refine ⟨R_ d.rules[i] m::ss,j,s0,?_,?_,?_,hq.symm,S.le,by omega,S.lt,?_,?_,?_⟩
   ·unfold locL
    have hst:a_V d.rules b d.rules[i] p (R_ d.rules[i] m)=some (ks[m].toNat,a_g (en2<|fun k p=>rdW d.rules b k.toNat p) ks st m):=by
     unfold a_V
     rw [iP_ hk,hh]
     exact l_i (rd:=rdK d.rules b) m ks 0 st hm H (fun t ht hx=>by
      rw [Nat.zero_add] at hx
      have:=hinj t m (by omega) hm hx
      omega) (by rw [Nat.zero_add])
    rw [k_Z hi,hst]
    exact S.loc
   ·intro s hs
    rcases List.mem_cons.1 hs with rfl | hs
    ·exact hgood m hm
    ·exact S.good s hs
   ·have:=S.len;simp only [lC_];omega
   ·intro b' c hA hc hne;have h1:=S.same b' c hA hc hne
    have h2:(v_ (fun k p=>rdW d.rules b' k.toNat p) ks st).2=(q,5):=by
     rw [hskip b' hA,v_,iN_ (by rw [show (rdW d.rules b' ks[m].toNat (a_g (en2<|fun k p=>rdW d.rules b k.toNat p) ks st m)).2.2=5 from congrArg Prod.snd h1];decide)]
     exact h1
    rw [hW' b' hA,p_l (by rw [h2];simp)];exact h2
   ·intro b' c hA hc he;have h1:=S.other b' c hA hc he;have a3:=hA.l2
    rw [hW' b' hA]
    refine Nat.lt_of_lt_of_le ?_ l_m
    rw [hskip b' hA]
    by_cases Y:(rdW d.rules b' ks[m].toNat (a_g (en2<|fun k p=>rdW d.rules b k.toNat p) ks st m)).2.2=0
    ·rw [j_k Y]
     have a0:=(b_b (b:=b') hv ks[m].toNat (by omega) (a_g (en2<|fun k p=>rdW d.rules b k.toNat p) ks st m) (by omega)).2;exact Nat.lt_of_lt_of_le h1 (d_k _ _ a0<|fun k hk=>hlek b' k<|List.mem_of_mem_drop hk).1
    ·rw [v_,iN_ Y];exact h1
   ·intro path hpl n hn pa ru;obtain ⟨n,rfl⟩:∃L,n=L+2:=⟨n - 2,by omega⟩;have hg:=hgood m hm;have hsl:(R_ d.rules[i] m).b.length<=21:=l_x hr.kind m (by omega)
    simp only [lC_] at hpl
    have h1:=S.tr ⟨path.b++[47]++(R_ d.rules[i] m).b⟩ (by simp only [List.length_append,lC_,List.length_nil];omega) n (by omega) path (i:Int)
    rw [show ((ks[m].toNat:Nat):Int)=ks[m] by omega] at h1
    have h2:=p_m hv hd hb hi hks G hm H (by rw [hce];decide) (n:=n) (by omega) (path:=path) (by omega) (pa:=path) (ru:=(i:Int)) hsl (by omega) h1;have h3:=j_l hv hd hb hi hp hk hh (by intro _ h;rw [h] at hm;simp at hm) (n:=n+1) (by omega) (rec:=a_t<|n+1) (path:=path) (pa:=pa) (ru:=ru) (x:=(⟨path.b++[47]++(R_ d.rules[i] m).b++b_g ss⟩,(j:Int))) h2;refine Eq.trans h3 ?_
    simp [b_g]
  ·-- the part's own sum
   have hqe:q=(v_ (fun k p=>rdW d.rules b k.toNat p) ks st).2.1:=by
    rw [← hq,hW]
    have hx:=congrArg Prod.fst hfin;exact hx
   rw [← hqe] at hc hcs
   have hlt:q<b.length:=(gS_.1 hc).1;have hpq:p<=q:=by omega
   have hitem:∀(b':List UInt8),b_9 b b' q->v_ (fun k p=>rdW d.rules b' k.toNat p) ks st=v_ (fun k p=>rdW d.rules b k.toNat p) ks st:=fun b' hA =>
    j_d (e:=q) ks st G (hlek b) J (fun k hk p hp H he=>l_3 hv hA k.toNat (by have:=hks k hk;omega) p hp H he) (by omega)
   have hfin':∀(b':List UInt8)(c:UInt8),b_9 b b' q->b'[q]? = some c->rdW d.rules b' i p=if byteI c=a_j (piece b p q) then (⟨0,[],(v_ (fun k p=>rdW d.rules b k.toNat p) ks st).1⟩,q+1,0) else (zV,q,5):=fun b' c hA hc=>by
    rw [hW' b' hA,hitem b' hA]
    unfold a_4
    rw [iP_ J,I,← hqe,hc]
    simp only [bQ_,fT_]
    rw [hA.piece (Nat.le_refl q)]
   have hone:=f_l<|b_i hr.kind<|.inr I
   have O:ks=d.rules[i].kids/\st=p:=by
    unfold E_ at hh
    rw [I] at hh
    simp only [show ((9:Int)==5)=false from rfl,show ((9:Int)==6)=false from rfl,show ((9:Int)==7)=false from rfl,show ((9:Int)==8)=false from rfl,bF_,fF_] at hh
    cases hh
    exact ⟨hone.symm,rfl⟩
   refine ⟨[],i,p,rfl,fun _ h=>by simp at h,by simp,hq.symm,hpq,hpq,hlt,?_,?_,?_⟩
   ·intro b' c hA hc hne
    rw [hfin' b' c hA hc,iN_ hne]
   ·intro b' c hA hc he
    rw [hfin' b' c hA hc,iP_ he]
    exact Nat.lt_succ_self q
   ·intro path hpl n hn pa ru;obtain ⟨n,rfl⟩:∃L,n=L+2:=⟨n - 2,by omega⟩;have a4:ks.length=1:=by rw [O.1];exact b_i hr.kind<|.inr I
    obtain ⟨k,hkk⟩:∃k,ks=[k]:=⟨_,(by rw [O.1];exact hone)⟩;have hkr:=hks k (by rw [hkk];simp)
    have hko:(rdW d.rules b k.toNat st).2.2=0:=by
     have:=J
     rw [hkk] at this
     by_cases h:(rdW d.rules b k.toNat st).2.2=0
     ·exact h
     ·rw [v_,iN_ h] at this;exact this
    have h2:(a_t<|n+1).impl_tracer_kids ⟨d,b,path,(i:Int)⟩ path (i:Int) ks (st:Int)=some (((rdW d.rules b k.toNat st).2.1:Int),true,path,(i:Int)):=by
     show c_I n (a_t n) ⟨d,b,path,(i:Int)⟩ path (i:Int) ks (st:Int)=_
     unfold c_I
     rw [hkk]
     simp only [lC_,List.length_nil,Nat.zero_add]
     unfold u_
     rw [ix_ (l:=[k]) (k:=0) (by simp),bd_some]
     simp only [List.getElem_cons_zero]
     rw [d_Q hv hd hb (by omega) hkr.1 (by omega) G,bd2_some,hko]
     rfl
    have h3:=j_l hv hd hb hi hp hk hh (by intro _;rw [hkk];simp) (n:=n+1) (by omega) (rec:=a_t<|n+1) (path:=path) (pa:=pa) (ru:=ru) (x:=(path,(i:Int))) h2;refine Eq.trans h3 ?_
    simp [b_g]
end Go.Vw
