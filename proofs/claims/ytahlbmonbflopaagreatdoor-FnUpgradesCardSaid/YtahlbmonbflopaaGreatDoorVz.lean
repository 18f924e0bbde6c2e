
import Derived.Test.YtahlbmonbflopaaGreatDoorVy
namespace Go.Vw
open Go.RowKit Dat
structure c_v (r:W_):Prop where
 sm:∀d∈r.versions,SmD d
 wg:∀d∈r.versions,R_ d=true->∃S g,WG d S g
 few:r.versions.length<=100
theorem q_i {r:W_}(h:e_Z r=true):∀d∈r.versions,R_ d=true:=by
 unfold e_Z at h
 rw [aE_,Bool.not_eq_true',List.any_eq_false] at h
 intro d hd;have:=h.2 d hd
 simpa using this
theorem m_P (r:W_)(x:Int):h_w r x=some (decide (0<=x) && decide (x<(r.versions.length:Int))):=by
 unfold h_w
 by_cases h:0<=x
 .rw [dT_ h,iP_ rfl,bd_some,Bool.true_and]
 .rw [dF_ h,iN_ (by simp),bd_some,Bool.false_and]
section
variable {r:W_}{n:Nat}
def i_f (n:Nat)(x1:W_)(x3:Int):Int×Bt->Option (Out (Int×Bt)<|Bt×Bool):=un2 λG H=>if (G != x3) then bd (α:=Int) (if (decide<|x3<G) then some (j_ G 1) else some (h_ G 1)) (λI=>bd (idx x1.versions G) λJ=>bd (idx x1.versions I) λL=>bd2 (g_J n J L H) λO V=>if (!V) then some (.ret (([]:Bt),false)) else some (.next (I,O))) else some (.brk (G,H))
def i_g (n:Nat)(x1:W_)(x3 H:Int):Int×Bt->Option (Out (Int×Bt)<|Bt×Bool):=un2 λG I=>if (G != x3) then bd (idx x1.versions G) λJ=>bd (idx x1.versions<|h_ G H) λL=>bd2 (g_E n J L I) λO V=>if (!V) then some (.ret (([]:Bt),false)) else some (.next (h_ G H,O)) else some (.brk (G,I))
theorem q_j (hr:c_v r)(hreg:e_Z r=true)(hn:3000<=n):∀(d j:Nat)(hj:j<r.versions.length)(o:Bt),j+d+1=r.versions.length->okF r.versions[j] o=true->∃w:Sum (Int×Bt) (Bt×Bool),(∀q,d<q->M_ (i_f n r ((r.versions.length - 1:Nat):Int)) q ((j:Int),o)=some w)/\(∀q,d<q->M_ (i_g n r ((r.versions.length - 1:Nat):Int) 1) q ((j:Int),o)=some w) /\
  ((∃o' z,w = .inl (z,o')/\∃hl:r.versions.length - 1<r.versions.length,okF (r.versions[r.versions.length - 1]) o'=true)∨w = .inr ([],false)):=by
 have hfew:=hr.few;have hval:=q_i hreg;intro d
 induction d with
 | zero =>
  intro j hj o hd ho;obtain rfl:j=r.versions.length - 1:=by omega
  refine ⟨.inl (((r.versions.length - 1:Nat):Int),o),λq hq=>?_,λq hq=>?_,.inl ⟨o,_,rfl,hj,ho⟩⟩
  .obtain ⟨q,rfl⟩:∃q',q=q'+1:=⟨q - 1,by omega⟩;unfold M_ i_f
   simp only [un2,bN_,bF_,fF_]
  .obtain ⟨q,rfl⟩:∃q',q=q'+1:=⟨q - 1,by omega⟩;unfold M_ i_g
   simp only [un2,bN_,bF_,fF_]
 | succ d ih =>
  intro j hj o hd ho;have G:j+1<r.versions.length:=by omega
  obtain ⟨S,g,hw⟩:=hr.wg _ (gE_ G)<|hval _<|gE_ G;obtain ⟨⟨o',ok⟩,H,I,L,J⟩:=q_h (hr.sm _<|gE_ hj) (hval _<|gE_ G) (hr.sm _<|gE_ G) hw ho hn;have hne:(((j:Nat):Int) != ((r.versions.length - 1:Nat):Int))=true:=by rw [bne_iff_ne];omega
  have hadd:h_ (j:Int) 1=((j+1:Nat):Int):=by rw [ia_ (by omega) (by omega)];omega
  have s1:i_f n r ((r.versions.length - 1:Nat):Int) ((j:Int),o)=some (if (!ok) then .ret ([],false) else .next (((j+1:Nat):Int),o')):=by
   unfold i_f
   simp only [un2]
   rw [iP_ hne,dF_ (by omega),iN_ (by simp),bd_some,ix_ hj,bd_some,hadd,ix_ G,bd_some,H,bd2_some]
   split <;> rfl
  have s2:i_g n r ((r.versions.length - 1:Nat):Int) 1 ((j:Int),o)=some (if (!ok) then .ret ([],false) else .next (((j+1:Nat):Int),o')):=by
   unfold i_g
   simp only [un2]
   rw [iP_ hne,ix_ hj,bd_some,hadd,ix_ G,bd_some,I,bd2_some]
   split <;> rfl
  cases ok with
  | false =>
   refine ⟨.inr ([],false),λq hq=>?_,λq hq=>?_,.inr rfl⟩
   .obtain ⟨q,rfl⟩:∃q',q=q'+1:=⟨q - 1,by omega⟩;unfold M_;rw [s1];rfl
   .obtain ⟨q,rfl⟩:∃q',q=q'+1:=⟨q - 1,by omega⟩;unfold M_;rw [s2];rfl
  | true =>
   obtain ⟨w,k1,k2,k3⟩:=ih (j+1) G o' (by omega)<|J rfl;refine ⟨w,λq hq=>?_,λq hq=>?_,k3⟩
   .obtain ⟨q,rfl⟩:∃q',q=q'+1:=⟨q - 1,by omega⟩;unfold M_;rw [s1];exact k1 q (by omega)
   .obtain ⟨q,rfl⟩:∃q',q=q'+1:=⟨q - 1,by omega⟩;unfold M_;rw [s2];exact k2 q (by omega)
theorem q_k (hr:c_v r)(hn:3000<=n){k:Nat}(hk:k<r.versions.length){f:Bt}(hf:okF r.versions[k] f=true):∃w:Bt×Bool,g_K n r (k:Int) (j_ (r.versions.length:Int) 1) f=some w/\g_F n r (k:Int) (j_ (r.versions.length:Int) 1) f=some w /\
  (w.2=true->∃hl:r.versions.length - 1<r.versions.length,okF (r.versions[r.versions.length - 1]) w.1=true):=by
 have hfew:=hr.few;have hLIM:=a_7;have hd:=hr.sm _<|gE_ hk;have hlen:=(m_w hf).2.1;unfold g_K g_F
 rw [q_I hr.sm,q_H hr.sm (by omega)]
 cases hreg:e_Z r with
 | false=>exact ⟨([],false),rfl,rfl,nofun⟩
 | true =>
  have hsub:j_ (r.versions.length:Int) 1=((r.versions.length - 1:Nat):Int):=by rw [a_C (by omega) (by omega)];omega
  have ha:app ([]:Bt) f=some f:=by rw [a_T (by simp only [List.length_nil];omega)];rfl
  obtain ⟨w,k1,k2,k3⟩:=q_j hr hreg hn (r.versions.length - 1 - k) k hk f (by omega) hf;have k1:=k1 n (by omega);have k2:=k2 n (by omega);unfold i_f at k1
  unfold i_g at k2
  simp only [bd_some,nT_,bF_,fF_]
  rw [hsub,b_u,b_u,m_P,m_P,dT_ (show (0:Int)<=(k:Int) by omega),dT_ (show (k:Int)<=((r.versions.length - 1:Nat):Int) by omega),dT_ (show (k:Int)<(r.versions.length:Int) by omega),dT_ (show (0:Int)<=((r.versions.length - 1:Nat):Int) by omega),dT_<|Int.le_refl _,dT_ (show ((r.versions.length - 1:Nat):Int)<(r.versions.length:Int) by omega)]
  simp only [bd_some,Bool.and_self,nT_,bF_,fF_]
  have G:(if ((k:Int)==((r.versions.length - 1:Nat):Int)) then bd (idx r.versions (k:Int)) λH=>bd (f_d n H f) λI=>some (!I) else some false)=some false:=by
   split
   .rw [ix_ hk,bd_some,n_3 hd (by omega),hf];rfl
   .rfl
  rw [ix_ hk,bd_some,j_s hd (by omega),hf,bd_some,bd_some,iN_ (by simp),ha,bd_some,k1]
  rw [ix_ hk] at G
  rw [G,dF_ (show ¬((r.versions.length - 1:Nat):Int)<(k:Int) by omega)]
  simp only [bF_,fF_,bd_some]
  rw [k2]
  rcases k3 with ⟨o',z,rfl,hl,ho⟩ | rfl
  .exact ⟨(o',true),rfl,rfl,λ_=>⟨hl,ho⟩⟩
  .exact ⟨([],false),rfl,rfl,nofun⟩
def d_n (r:W_)(f:Bt)(k:Nat):List Nat:=(List.range k).filter λi=>okF (r.versions.getD i ⟨[]⟩) f
def b_b (r:W_)(f:Bt):List Int:=(d_n r f r.versions.length).map λi:Nat=>(i:Int)
theorem m_Q (r:W_)(f:Bt)(k:Nat):(d_n r f k).length<=k:=by
 have:=List.length_filter_le (λi=>okF (r.versions.getD i ⟨[]⟩) f)<|List.range k
 rw [List.length_range] at this
 exact this
theorem m_R (hr:c_v r){f:Bt}{j:Nat}(hj:j<r.versions.length){ρ:Type}:bd (α:=List Int) (if okF r.versions[j] f then bd (psh ((d_n r f j).map λi:Nat=>(i:Int)) ((j:Nat):Int)) λG=>some G else some ((d_n r f j).map λi:Nat=>(i:Int))) (λH=>some (Out.next H:Out (List Int) ρ))=some (.next ((d_n r f<|j+1).map λi:Nat=>(i:Int))):=by
 have hLIM:=a_7;have hfew:=hr.few;have hlen:=m_Q r f j
 have hs:d_n r f (j+1)=d_n r f j++(if okF r.versions[j] f then [j] else []):=by
  unfold d_n
  rw [List.range_succ,List.filter_append,List.filter_cons,a_8 hj]
  rfl
 rw [hs]
 by_cases h:okF r.versions[j] f=true
 .rw [iP_ h,iP_ h,Y_ (by rw [List.length_map];omega),bd_some,bd_some,List.map_append];rfl
 .rw [iN_ h,iN_ h,bd_some,List.append_nil]
theorem m_S (hr:c_v r){f:Bt}(hn:3000<=n):g_A n r f=some (b_b r f):=by
 unfold g_A
 have h:=e_X (ρ:=List Int) (s:=([]:List Int)) (n:=r.versions.length) (body:=λG=>(λH=>bd (idx r.versions ((G:Nat):Int)) λI=>bd (f_d n I f) λJ=>bd (α:=(List Int)) (if J then bd (psh H ((G:Nat):Int)) λL=>some L else some H) (λO=>some (.next O)))) (λk=>(d_n r f k).map λi:Nat=>(i:Int)) rfl (λj hj=>by
  rw [ix_ hj,bd_some,n_3 (hr.sm _<|gE_ hj) (by omega),bd_some]
  exact m_R hr hj)
 rw [h,bd_some,el_inl];rfl
theorem q_l (hr:c_v r){f:Bt}(hn:3000<=n):h_L n r f=some (b_b r f):=by
 unfold h_L
 have h:=e_X (ρ:=List Int) (s:=([]:List Int)) (n:=r.versions.length) (body:=λG=>(λH=>bd (idx r.versions ((G:Nat):Int)) λI=>bd (d_C n I f) λJ=>bd (α:=(List Int)) (if J then bd (psh H ((G:Nat):Int)) λL=>some L else some H) (λO=>some (.next O)))) (λk=>(d_n r f k).map λi:Nat=>(i:Int)) rfl (λj hj=>by
  rw [ix_ hj,bd_some,j_s (hr.sm _<|gE_ hj) (by omega),bd_some]
  exact m_R hr hj)
 rw [h,bd_some,el_inl];rfl
theorem k_L {f:Bt}{x:Int}(h:x∈b_b r f):∃k:Nat,x=(k:Int)/\∃hk:k<r.versions.length,okF r.versions[k] f=true:=by
 obtain ⟨k,hk,rfl⟩:=List.mem_map.1 h;obtain ⟨h1,h2⟩:=List.mem_filter.1 hk;have h1:=List.mem_range.1 h1
 rw [a_8 h1] at h2
 exact ⟨k,rfl,h1,h2⟩
theorem q_m (r:W_)(f:Bt):(b_b r f).Pairwise (· < ·):=by
 unfold b_b
 rw [List.pairwise_map]
 exact (List.Pairwise.filter _ List.pairwise_lt_range).imp λh=>by omega
theorem k_M (hr:c_v r)(f:Bt):(b_b r f).length<=100:=by
 have:=hr.few;have:=m_Q r f r.versions.length;unfold b_b;rw [List.length_map];omega
def upS (n:Nat)(x1:W_)(x2:Bt)(H:List Int):Int->Option (Out Int<|Bt×Int):=λG=>if (decide<|0<=G) then bd (idx H G) λI=>bd (h_M x1) λJ=>bd2 (g_K n x1 I J x2) λL O=>if O then bd (idx H G) λV=>some (.ret (L,V)) else some (.next<|j_ G 1) else some (.brk G)
def upI (n:Nat)(x1:W_)(x2:Bt)(H:List Int):Int->Option (Out Int<|Bt×Int):=λG=>if (decide<|0<=G) then bd (idx H G) λI=>bd (h_G x1) λJ=>bd2 (g_F n x1 I J x2) λL O=>if O then bd (idx H G) λV=>some (.ret (L,V)) else some (.next<|j_ G 1) else some (.brk G)
theorem q_n (hr:c_v r)(hn:3000<=n){f:Bt}:∀(d:Nat),d<=(b_b r f).length->∃w:Sum Int (Bt×Int),(∀q,d<q->M_ (upS n r f<|b_b r f) q ((d:Int) - 1)=some w)/\(∀q,d<q->M_ (upI n r f<|b_b r f) q ((d:Int) - 1)=some w) /\
  ((∃z,w = .inl z)∨∃x v,w = .inr (x,v)/\v∈b_b r f/\∃hl:r.versions.length - 1<r.versions.length,okF (r.versions[r.versions.length - 1]) x=true):=by
 have hfew:=k_M hr f;intro d
 induction d with
 | zero =>
  intro _;refine ⟨.inl (-1),λq hq=>?_,λq hq=>?_,.inl ⟨_,rfl⟩⟩
  .obtain ⟨q,rfl⟩:∃q',q=q'+1:=⟨q - 1,by omega⟩
   rfl
  .obtain ⟨q,rfl⟩:∃q',q=q'+1:=⟨q - 1,by omega⟩
   rfl
 | succ d ih =>
  intro hd;have hdl:d<(b_b r f).length:=by omega
  obtain ⟨k,hkv,hk,hf⟩:=k_L<|gE_ hdl;obtain ⟨⟨x,ok⟩,G,H,I⟩:=q_k hr hn hk hf;have hz:(((d+1:Nat):Int) - 1)=(d:Int):=by omega
  have s1:upS n r f (b_b r f) (d:Int)=some (if ok then .ret (x,(b_b r f)[d]) else .next ((d:Int) - 1)):=by
   unfold upS h_M
   rw [dT_ (by omega),iP_ rfl,ix_ hdl,bd_some,bd_some,hkv,G,bd2_some,bd_some,a_C (by omega) (by omega)]
   split <;> rfl
  have s2:upI n r f (b_b r f) (d:Int)=some (if ok then .ret (x,(b_b r f)[d]) else .next ((d:Int) - 1)):=by
   unfold upI h_G
   rw [dT_ (by omega),iP_ rfl,ix_ hdl,bd_some,bd_some,hkv,H,bd2_some,bd_some,a_C (by omega) (by omega)]
   split <;> rfl
  rw [hz]
  cases ok with
  | true =>
   refine ⟨.inr (x,(b_b r f)[d]),λq hq=>?_,λq hq=>?_,.inr ⟨_,_,rfl,gE_ hdl,I rfl⟩⟩
   .obtain ⟨q,rfl⟩:∃q',q=q'+1:=⟨q - 1,by omega⟩;unfold M_;rw [s1];rfl
   .obtain ⟨q,rfl⟩:∃q',q=q'+1:=⟨q - 1,by omega⟩;unfold M_;rw [s2];rfl
  | false =>
   obtain ⟨w,k1,k2,k3⟩:=ih (by omega);refine ⟨w,λq hq=>?_,λq hq=>?_,k3⟩
   .obtain ⟨q,rfl⟩:∃q',q=q'+1:=⟨q - 1,by omega⟩;unfold M_;rw [s1];exact k1 q (by omega)
   .obtain ⟨q,rfl⟩:∃q',q=q'+1:=⟨q - 1,by omega⟩;unfold M_;rw [s2];exact k2 q (by omega)
theorem q_o (hr:c_v r)(hn:3000<=n){f:Bt}:∃x v,h_O n r f=some (x,v)/\h_K n r f=some (x,v) /\
  ((v = -1/\x=[])∨(v∈b_b r f/\∃hl:r.versions.length - 1<r.versions.length,okF (r.versions[r.versions.length - 1]) x=true)):=by
 have hfew:=k_M hr f;obtain ⟨w,k1,k2,k3⟩:=q_n hr hn (f:=f) (b_b r f).length (Nat.le_refl _);have k1:=k1 n (by omega);have k2:=k2 n (by omega);unfold upS at k1
 unfold upI at k2
 unfold h_O h_K
 rw [q_l hr hn,m_S hr hn,bd_some,bd_some,a_C (by omega) (by omega),k1,k2]
 rcases k3 with ⟨z,rfl⟩ | ⟨x,v,rfl,h1,h2⟩
 .exact ⟨[],-1,rfl,rfl,.inl ⟨rfl,rfl⟩⟩
 .exact ⟨x,v,rfl,rfl,.inr ⟨h1,h2⟩⟩
end
end Go.Vw
