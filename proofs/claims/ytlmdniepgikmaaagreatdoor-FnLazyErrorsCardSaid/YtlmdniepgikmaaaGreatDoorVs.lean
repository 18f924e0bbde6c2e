
import Derived.Test.YtlmdniepgikmaaaGreatDoorVr
import Derived.Test.YtlmdniepgikmaaaGreatDoorVo
import Derived.Test.YtlmdniepgikmaaaGreatDoorVq
namespace Go.Vw
open Go.RowKit Dat
section
variable {d:f_}{b:Bt}
theorem s_g (hd:SmD d){n:Nat}(hn:1048600<=n){path:Str}(hp:path.b.length<=MX):∃(x:Int)(y:Bool)(t:Bt)(z:Bool),g_B n d b path=some (x,y)/\g_C n d b path=some (t,z)/\(y=true->z=false)/\(b_v d b path=none->x=0/\y=false/\t=[]/\z=false):=by
 have hLIM:=a_O;unfold g_B g_C
 rw [n_7 hd hn hp]
 unfold g_P
 cases hf:b_v d b path with
 | none=>exact ⟨0,false,[],false,rfl,rfl,λh=>(by cases h),λ_=>⟨rfl,rfl,rfl,rfl⟩⟩
 | some x =>
  obtain ⟨hv,hb,hi,hq,hok⟩:=k_W hf;have hsz:=r_B (b:=b) hv x.1 hi x.2 hq;have hle:=b_o (b:=b) hv x.1 hi x.2 hq;have hlen:=(b_F hv).2
  have hz:vsz x.1 (rdW d.rules b x.1 x.2).1<=20000:=by
   refine Nat.le_trans (hsz.2 hok) (Nat.le_trans (Nat.mul_le_mul (show 2 * x.1+1<=49 by omega) (show (rdW d.rules b x.1 x.2).2.1 - x.2<=400 by omega)) (by decide))
  have hbl:(rdW d.rules b x.1 x.2).1.bytes.length<=20000:=by
   refine Nat.le_trans ?_ hz
   cases hx:x.1 with
   | zero=>exact Nat.le_refl _
   | succ m=>exact Nat.le_add_right _ _
  rw [bd3_some,bd3_some,show (!true)=false from rfl,iN_ (by simp),iN_ (by simp),ix_ hi,bd_some,bd_some]
  generalize d.rules[x.1].kind=k
  by_cases k1:k=1
  .rw [k1];exact ⟨_,true,[],false,rfl,rfl,λ_=>rfl,λh=>(by cases h)⟩
  rw [show (k==1)=false by simpa using k1]
  by_cases k7:k=7
  .rw [k7];exact ⟨_,true,[],false,rfl,rfl,λ_=>rfl,λh=>(by cases h)⟩
  rw [show (k==7)=false by simpa using k7]
  by_cases k5:k=5
  .rw [k5];exact ⟨_,true,[],false,rfl,rfl,λ_=>rfl,λh=>(by cases h)⟩
  rw [show (k==5)=false by simpa using k5]
  simp only [bF_,fF_,bd_some]
  have hA:∀q:Bool,∃t z,(if q then bd (app ([]:Bt) (rdW d.rules b x.1 x.2).1.bytes) λG=>some (G,true) else some (([]:Bt),false))=some (t,z):=λq=>by
   cases q with
   | true=>rw [iP_ rfl,c_u (by simp;omega),bd_some];exact ⟨_,_,rfl⟩
   | false=>exact ⟨_,_,rfl⟩
  have fin:∀(o:Option Bool),(∃q,o=some q)->∃(x_1:Int)(y:Bool)(t:Bt)(z:Bool),(some (0,false):Option (Int×Bool))=some (x_1,y)/\(bd (α:=Bool) o λH=>if H then bd (app ([]:Bt) (rdW d.rules b x.1 x.2).1.bytes) λG=>some (G,true) else some (([]:Bt),false))=some (t,z)/\(y=true->z=false)/\((some x:Option (Nat×Nat))=none->x_1=0/\y=false/\t=[]/\z=false):=by
   rintro o ⟨q,rfl⟩;obtain ⟨t,z,e⟩:=hA q;exact ⟨0,false,t,z,rfl,e,λh=>(by cases h),λh=>(by cases h)⟩
  refine fin _ ?_
  split
  .exact ⟨_,rfl⟩
  .split
   .exact ⟨_,rfl⟩
   .exact ⟨_,rfl⟩
theorem s_h (hd:SmD d){n:Nat}(hn:1048600<=n){path:Str}(hp:path.b.length<=MX)(hf:b_v d b path=none):h_P n d b path=some ⟨[]⟩/\g_q n d b path=some (-1):=by
 unfold h_P g_q
 rw [n_7 hd hn hp]
 unfold g_P
 rw [hf]
 exact ⟨rfl,rfl⟩
theorem s_i (hd:SmD d){e:D_}(he:e∈b_8 d b){n:Nat}(hn:1048600<=n):∃q:Nat,e.end_=(q:Int)/\q<=b.length/\e_A n d (b.take q) e.path=some (e,true):=by
 obtain ⟨i,p,heq,hi,hp,hok,hf⟩:=s_l hd he;obtain ⟨hv,hb,_,_,_⟩:=k_W hf;have hle:=b_o (b:=b) hv i hi p hp;have H:e.end_=((rdW d.rules b i p).2.1:Int):=congrArg D_.end_ heq;refine ⟨_,H,hle.2,?_⟩;generalize hq:(rdW d.rules b i p).2.1=q at *
 have hA:c_8 b (b.take q) q:=⟨hle.2,by rw [List.length_take];omega,by rw [List.take_take,Nat.min_self]⟩;have G:c_8 b (b.take q) p:=⟨hp,by rw [List.length_take];omega,by rw [List.take_take,Nat.min_eq_left hle.1]⟩;have hrd:=n_d hv hA i hi p hp hok (by omega);have hfc:=r_F (x:=(i,p)) hf G
 rw [iP_ ⟨by rw [List.length_take];omega,by simp only;rw [hrd];exact hok⟩] at hfc
 rw [k_Y hd hn (n_h he)]
 unfold e_j
 rw [hfc]
 simp only
 rw [hrd,hq]
 exact congrArg (λz=>some (z,true)) heq.symm
end
theorem s_j {n:Nat}(hn:4000000<=n)(c:Bt):g_D n c=some true:=by
 have hMX:=MXv;unfold g_D i_b
 rw [bd_some]
 by_cases h1:(1048576:Int)<(c.length:Int)
 .rw [dT_ h1];rfl
 rw [dF_ h1,iN_ (by simp)]
 obtain ⟨d,b,J,hdd,hb⟩:=s_1 (c:=c) (by omega) (n:=n) (by omega);have hd:=hdd.sm
 rw [J,bd3_some]
 by_cases G:((b_8 d b).length:Int)=0
 .rw [show (((b_8 d b).length:Int)==0)=true by simpa using G,iP_ rfl]
 rw [show (((b_8 d b).length:Int)==0)=false by simpa using G,iN_ (by simp)]
 have hat:∃r,g_A c 0=some r/\0<=r/\r<=255:=by
  unfold g_A
  by_cases hc:(0:Int)<(c.length:Int)
  .rw [dT_ hc,iP_ rfl,a_Z (by omega),bd_some]
   exact ⟨_,rfl,e_U _,by have:=e_T<|c[0]'(by omega);omega⟩
  .have:c.length=0:=by omega
   rw [dF_ hc,iN_ (by simp),this]
   exact ⟨0,by decide,by decide,by decide⟩
 obtain ⟨r,er,L,r1⟩:=hat;have hil:=q_Z (d:=d) (b:=b)
 rw [er,bd_some,show nz ((b_8 d b).length:Int)=some () by unfold nz;rw [iN_ G],bd_some,g_X L]
 have H:0<=r % ((b_8 d b).length:Int):=Int.emod_nonneg _ G;have I:r % ((b_8 d b).length:Int)<((b_8 d b).length:Int):=Int.emod_lt_of_pos _ (by omega);generalize r % ((b_8 d b).length:Int)=k at H I
 obtain ⟨k,rfl⟩:∃m:Nat,k=m:=⟨k.toNat,by omega⟩;have hk:k<(b_8 d b).length:=by omega
 rw [ix_ hk,bd_some]
 have hm:(b_8 d b)[k]∈b_8 d b:=gE_ hk;generalize (b_8 d b)[k]=e at hm
 obtain ⟨q,hq,hql,hloc⟩:=s_i hd hm (n:=n) (by omega)
 rw [hq,show (0:Int)=((0:Nat):Int) from rfl,c_t (Nat.zero_le q) hql,bd_some,show piece b 0 q=b.take q by unfold piece;simp,hloc,bd2_some]
 obtain ⟨f,x,p,O,hf,hx,hp⟩:=one_ok (c:=c) (by omega) (n:=n) (by omega);unfold i_G
 rw [O,bd3_some,bd3_some]
 have hpm:p.b.length<=MX:=by omega
 obtain ⟨v1,v2,v3,v4,g1,V,W,Y⟩:=s_g (b:=x) hf (n:=n) (by omega) hpm
 rw [k_Y hf (by omega) hpm,k_X hf (by omega) hpm,bd2_some,bd2_some,g1,bd2_some,V,bd2_some]
 simp only [fT_,decide_true,bQ_]
 unfold e_j
 cases hfp:b_v f x p with
 | none =>
  obtain ⟨w1,w2,w3,w4⟩:=Y hfp;obtain ⟨t1,t2⟩:=s_h (b:=x) hf (n:=n) (by omega) hpm hfp;subst w1 w2 w3 w4
  rw [t1,t2]
  rfl
 | some y =>
  simp only [fT_,bd_some]
  cases v2 with
  | false=>rfl
  | true=>rw [W rfl];rfl
end Go.Vw
