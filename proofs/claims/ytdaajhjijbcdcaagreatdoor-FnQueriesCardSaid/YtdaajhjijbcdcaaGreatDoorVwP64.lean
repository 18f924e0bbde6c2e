
import Derived.Test.YtdaajhjijbcdcaaGreatDoorVwP63
namespace Go.Vw
open Go.RowKit Dat
theorem q_p {α:Type}{m:α->Bool}{l:List α}{k:Nat}(hk:k<l.length)(hm:m l[k]=true):(l.filter m)[((l.take k).filter m).length]? = some l[k]:=by
 have:l.filter m=(l.take k).filter m++(l[k]::(l.drop<|k+1).filter m):=by
  conv=>lhs;rw [← List.take_append_drop k l]
  rw [List.filter_append,dC_ hk,List.filter_cons_of_pos hm]
 rw [this,List.getElem?_append_right<|Nat.le_refl _]
 simp
theorem m_M (ss:List Str)(r:List Bool):∀k,c_d ⟨[46,46]⟩ ss (true::r) k=true
 | 0=>by unfold c_d;rw [iP_ rfl];rfl
 | k+1=>by unfold c_d;rw [iP_ rfl,m_M ss r k,Bool.or_true]
section
variable {d:g_}{b:Bt}
theorem num_at (hv:a_c d=true){i p:Nat}(hi:i<d.rules.length)(hp:p<=b.length)(hok:(rdW d.rules b i p).2.2=0)(h1:d.rules[i].kind=1):(rdW d.rules b i p).1.number=d_v (a_f b p (rdW d.rules b i p).2.1) d.rules[i].little:=by
 have hr:=b_n hv hi;have hin:=e_S hr.kind h1
 rw [d_y hv hi hp] at *
 generalize d.rules[i]=r at *
 unfold rdB at *
 rw [h1] at hok ⊢
 simp only [bQ_,fT_] at hok ⊢
 cases hq:a_d b r p with
 | none=>rw [hq] at hok;cases hok
 | some n =>
  simp only
  unfold a_d at hq
  split at hq
  .cases hq
  .exact (Option.some.inj hq).symm
theorem q_q {e:s_}(hd:SmD d)(he:e∈a_7 d b):b_8 ⟨[47,46,46]⟩ e.path=true:=by
 have hok:okF d b=true:=by
  cases h:okF d b with
  | true=>rfl
  | false=>unfold a_7 at he;rw [h] at he;cases he
 obtain ⟨hv,hb,hr,hroot,hrd,_⟩:=e_P hok;unfold a_7 at he
 rw [iP_ hok] at he
 obtain ⟨ss,i,p,L⟩:=m_3 hv hd hb _ hr 0 ⟨[]⟩ e (Nat.zero_le _) hrd he
 have hpath:e.path=⟨c_c ss⟩:=by
  have:=L.path
  cases hq:e.path with
  | mk x=>rw [hq] at this;simpa using this
 have h1:a_4 47 [46,46] []=[(⟨[46,46]⟩:Str)]:=by decide
 have hpat:d_R ⟨[47,46,46]⟩=some [(⟨[46,46]⟩:Str)]:=by
  unfold d_R
  simp only [h1]
  rw [iP_ ⟨trivial,by simp [c_v]⟩]
 unfold b_8
 rw [hpat,hpath,m_6 ss L.good]
 simp only [Bool.true_and]
 unfold i_N d_a rowL
 simp only [lC_,List.length_nil,List.take_succ_cons,List.take_zero,List.foldl_cons,List.foldl_nil]
 rw [gD_,List.getElem?_map,List.getElem?_range (by omega)]
 simp only [Option.map_some,Option.getD_some]
 exact m_M ss _ _
theorem q_r (hd:SmD d):(b_b d b ⟨[47,46,46]⟩).length=(a_7 d b).length:=by
 unfold b_b
 rw [List.filter_eq_self.2 (λe he=>q_q hd he)]
end
theorem q_s {n:Nat}(hn:4000000<=n)(c:Bt):g_r n c=some true:=by
 have hMX:=MXv;unfold g_r i_1
 rw [bd_some]
 by_cases h1:(1048576:Int)<(c.length:Int)
 .rw [dT_ h1];rfl
 rw [dF_ h1,iN_ (by simp)]
 obtain ⟨d,b,pat,H,hd,hb,hp⟩:=q_o (c:=c) (by omega) (n:=n) (by omega)
 rw [H,bd3_some,k_c (by omega) hd hp,bd_some,p_e hd (by omega),bd2_some]
 have hl:=j_Y (d:=d) (b:=b);refine (congrArg (λz=>bd z _)<|f_G (λk=>(((((a_7 d b).take k).filter (λe=>b_8 pat e.path)).length:Int),(((a_7 d b).take k).filter (λe=>b_8 pat e.path)).foldl (b_j d b) 0)) (n:=(a_7 d b).length) rfl<|λk hk=>?_).trans ?_
 .simp only [un2,ix_ hk,bd_some,p_O (show 1048600<=n by omega) hp<|m_u<|gE_ hk]
  rw [m_t hk]
  cases hm:b_8 pat (a_7 d b)[k].path with
  | false=>simp
  | true =>
   have hat:=q_p (m:=λe:s_=>b_8 pat e.path) hk hm;have hlt:=(gS_.1 hat).1
   have hx:idx (b_b d b pat) ((((a_7 d b).take k).filter (λe=>b_8 pat e.path)).length:Int)=some (a_7 d b)[k]:=by
    rw [show b_b d b pat=(a_7 d b).filter (λe=>b_8 pat e.path) from rfl,ix_ hlt];exact (gG_ hlt).symm.trans hat
   have hle:¬((b_b d b pat).length:Int)<=((((a_7 d b).take k).filter (λe=>b_8 pat e.path)).length:Int):=by
    have:(((a_7 d b).take k).filter (λe=>b_8 pat e.path)).length<(b_b d b pat).length:=hlt
    omega
   have hsm:0<=(((a_7 d b).take k).filter (λe=>b_8 pat e.path)).foldl (b_j d b) 0/\(((a_7 d b).take k).filter (λe=>b_8 pat e.path)).foldl (b_j d b) 0<=4294967296 * 10000:=by
    have h:=m_x (d:=d) (b:=b) (l:=((a_7 d b).take k).filter (λe=>b_8 pat e.path))<|λe he=>List.mem_of_mem_take (List.mem_filter.1 he).1;have h2:=k_b (d:=d) (b:=b) (λe=>b_8 pat e.path) k
    omega
   have hln:=k_b (d:=d) (b:=b) (λe=>b_8 pat e.path) k;obtain ⟨hv,I,i,p,L⟩:=k_8<|gE_ hk;obtain ⟨_,_,i',p',J,O,_,_,_,hread,_⟩:=p_z (n:=n) (by omega) hd hk;have hii:i'=i:=by have:=L.rule;omega
   have hpp:p'=p:=by have:=L.start;omega
   subst hii hpp
   simp only [fT_,List.foldl_append,List.foldl_cons,List.foldl_nil,List.length_append,lC_,List.length_nil]
   generalize (((a_7 d b).take k).filter (λe=>b_8 pat e.path)).foldl (b_j d b) 0=s at *
   generalize (((a_7 d b).take k).filter (λe=>b_8 pat e.path)).length=m at *
   simp only [nT_,bF_,fF_,dF_ hle,hx,hread,bd_some,bd2_some,dT_,un3]
   rw [L.rule,ix_ L.hi]
   have hrl:P_ d.rules (a_7 d b)[k].rule=d.rules[i']:=by
    rw [L.rule];unfold P_;simp [L.hi]
   simp only [bd_some]
   by_cases G:d.rules[i'].kind=1
   .have hnum:=num_at hv L.hi L.hp L.ok G;have hint:=m_v hv L.hi L.hp L.ok G;have hsml:=i_J (a_f b p' (rdW d.rules b i' p').2.1) d.rules[i'].little (by rw [d_w hint.2.1];omega)
    rw [show (d.rules[i'].kind==1)=true by simpa using G,iP_ rfl,bd_some,bd_some,el_inl,hnum,ia_ (by omega) (by omega),ia_ (by omega) (by omega)]
    unfold b_j
    rw [hrl,iP_ G,L.start,L.end_]
    simp
   .rw [show (d.rules[i'].kind==1)=false by simpa using G,iN_ (by simp),bd_some,bd_some,el_inl,ia_ (by omega) (by omega)]
    unfold b_j
    rw [hrl,iN_ G]
    simp
 .rw [bd_some,el_inl,List.take_length]
  simp only [un2]
  rw [show ((((a_7 d b).filter (λe=>b_8 pat e.path)).length:Int)==((b_b d b pat).length:Int))=true by unfold b_b;simp,iP_ rfl,p_U (by omega) hd hp,bd_some]
  rw [show (sumP d b pat==((a_7 d b).filter (λe=>b_8 pat e.path)).foldl (b_j d b) 0)=true by unfold sumP b_b;simp,iP_ rfl,k_c (by omega) hd (by decide),bd_some,q_r hd]
  simp
end Go.Vw
