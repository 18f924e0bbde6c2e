
import Derived.Test.YthlifogbkgdggaaGreatDoorVwP11
namespace Go.Vw
open Go.RowKit Dat
theorem k_4 (x:Int):0<=a_f .i64 (· &&& ·) x 255/\a_f .i64 (· &&& ·) x 255<=255:=by
 have h:(BitVec.ofInt 64 x &&& BitVec.ofInt 64 255).toNat<=255:=by
  rw [BitVec.toNat_and]
  exact Nat.and_le_right
 have he:a_f .i64 (· &&& ·) x 255=((BitVec.ofInt 64 x &&& BitVec.ofInt 64 255).toNat:Int):=by
  unfold a_f
  show IntKind.i64.wrap ((BitVec.ofInt 64 x &&& BitVec.ofInt 64 255).toNat:Int)=_
  rw [IntKind.wrap_i64];omega
 omega
def Dr {α:Type}(b:List UInt8)(o:Option (α×Int×Int))(P:α->Prop):Prop:=∃x i h,o=some (x,i,h)/\0<=i/\i<=(b.length:Int)/\P x
section
variable {b:List UInt8}{i h:Int}
theorem Dr.mono {α:Type}{o:Option (α×Int×Int)}{P Q:α->Prop}(d:Dr b o P)(hq:∀x,P x->Q x):Dr b o Q:=by
 obtain ⟨x,i,h,e,h1,h2,h3⟩:=d;exact ⟨x,i,h,e,h1,h2,hq x h3⟩
theorem Dr.bd {α β:Type}{o:Option (α×Int×Int)}{P:α->Prop}{Q:β->Prop}{f:α->Int->Int->Option (β×Int×Int)}(d:Dr b o P)(k:∀x i h,P x->0<=i->i<=(b.length:Int)->Dr b (f x i h) Q):Dr b (bd3 o f) Q:=by
 obtain ⟨x,i,h,rfl,h1,h2,h3⟩:=d;exact k x i h h3 h1 h2
theorem f_f (G:0<=i)(h1:i<=(b.length:Int))(hb:b.length<=MX):Dr b (c_d ⟨b,i,h⟩) (fun x=>0<=x/\x<=255):=by
 have hMX:=MXv;unfold c_d
 simp only
 by_cases hl:i<(b.length:Int)
 ·rw [dT_ hl,iP_ rfl,d_a G (by omega),bd_some,bd_some]
  rw [ia_ (y:=1) (by omega) (by omega)]
  exact ⟨_,_,_,rfl,by omega,by omega,k_4 _⟩
 ·rw [dF_ hl]
  exact ⟨_,_,_,rfl,G,h1,k_4 _⟩
theorem i_h (H:0<=i)(h1:i<=(b.length:Int))(hb:b.length<=MX)(n:Int):Dr b (a_1 ⟨b,i,h⟩ n) (fun x=>0<=x/\(x<n∨n<=0/\x=0)):=by
 unfold a_1
 by_cases hn:n<=0
 ·rw [dT_ hn];exact ⟨0,i,h,rfl,H,h1,by omega,.inr ⟨hn,rfl⟩⟩
 rw [dF_ hn]
 have hz:nz n=some ():=by unfold nz;rw [iN_ (by omega)]
 have hr:∀x,0<=x->0<=a_u x n/\a_u x n<n:=fun x hx=>by
  rw [h_1 hx];exact ⟨Int.emod_nonneg _ (by omega),Int.emod_lt_of_pos _ (by omega)⟩
 simp only [bF_,fF_]
 by_cases hs:n<=256
 ·rw [dT_ hs,iP_ rfl]
  refine (f_f H h1 hb).bd fun x i h hx G g1=>?_
  rw [hz]
  exact ⟨_,_,_,rfl,G,g1,(hr x hx.1).1,.inl (hr x hx.1).2⟩
 ·rw [dF_ hs,iN_ (by simp)]
  refine (f_f H h1 hb).bd fun x i h hx G g1=>(f_f G g1 hb).bd fun y i h hy G g1=>(f_f G g1 hb).bd fun z i h hz' G g1=>?_
  rw [hz,d_8 (by omega) (by omega),d_8 (by omega) (by omega),ia_ (x:=x * 65536) (by omega) (by omega),ia_ (by omega) (by omega)]
  have:=hr (x * 65536+y * 256+z) (by omega);exact ⟨_,_,_,rfl,G,g1,this.1,.inl this.2⟩
theorem a_x (G:0<=i)(h1:i<=(b.length:Int))(hb:b.length<=MX){n:Int}(hn:0<n):Dr b (a_1 ⟨b,i,h⟩ n) (fun x=>0<=x/\x<n) :=
 (i_h G h1 hb n).mono fun x hx=>⟨hx.1,by omega⟩
theorem g_V (G:0<=i)(h1:i<=(b.length:Int))(hb:b.length<=MX)(n:Int):Dr b (c_S ⟨b,i,h⟩ n) (fun _=>True):=by
 unfold c_S;exact (i_h G h1 hb n).bd fun x i h _ H g1=>⟨_,_,_,rfl,H,g1,trivial⟩
theorem k_5 (G:0<=i)(h1:i<=(b.length:Int))(hb:b.length<=MX){l:List Str}(hl:0<l.length):Dr b (c_R ⟨b,i,h⟩ l) (· ∈ l):=by
 unfold c_R;refine (a_x G h1 hb (show (0:Int)<(l.length:Int) by omega)).bd fun x i h hx H g1=>?_
 rw [d_a hx.1 (by omega)]
 exact ⟨_,_,_,rfl,H,g1,gE_ _⟩
theorem g_W (G:0<=i)(h1:i<=(b.length:Int))(hb:b.length<=MX){l:List Int}(hl:0<l.length):Dr b (c_T ⟨b,i,h⟩ l) (· ∈ l):=by
 unfold c_T;refine (a_x G h1 hb (show (0:Int)<(l.length:Int) by omega)).bd fun x i h hx H g1=>?_
 rw [d_a hx.1 (by omega)]
 exact ⟨_,_,_,rfl,H,g1,gE_ _⟩
theorem f_g (h0:0<=i)(h1:i<=(b.length:Int))(hb:b.length<=MX){n:Int}(hn:n<=1000):Dr b (c_x ⟨b,i,h⟩ n) (fun l=>l.length=n.toNat):=by
 have hLIM:=a_v;unfold c_x
 have key:∀(m k:Nat)(l:List UInt8)(i h:Int),k+m<=1000->l.length=k->0<=i->i<=(b.length:Int)->∃l' i' h',y_ (σ:=(List UInt8)×Int×Int) (ρ:=(List UInt8)×Int×Int) (fun a2=>un3 fun L O V=>bd3 (c_d (⟨b,O,V⟩:n_)) fun W Y a0=>bd (psh L<|mkB W) fun a1=>some<|.next (a1,Y,a0)) m k (l,i,h)=some (.inl (l',i',h'))/\l'.length=k+m/\0<=i'/\i'<=(b.length:Int):=by
  intro m
  induction m with
  | zero=>intro k l i h _ hl G g1;exact ⟨l,i,h,rfl,by omega,G,g1⟩
  | succ m ih =>
   intro k l i h hk hl G g1;obtain ⟨x,i2,h2,e,e0,I,_⟩:=f_f (h:=h) G g1 hb;unfold y_
   simp only [un3]
   rw [e,bd3_some,a_F (by omega),bd_some]
   obtain ⟨l',i',h',e',J,H,e4⟩:=ih (k+1) (l++[mkB x]) i2 h2 (by omega) (by simp;omega) e0 I;exact ⟨l',i',h',e',by omega,H,e4⟩
 obtain ⟨l',i',h',e,I,J,H⟩:=key n.toNat 0 [] i h (by omega) rfl h0 h1
 rw [e]
 exact ⟨l',i',h',rfl,J,H,by omega⟩
end
theorem new_ok {b:List UInt8}(hb:b.length<=MX){n:Nat}(hn:1048600<=n):∃h,e_H n b=some ⟨b,0,h⟩:=by
 have hMX:=MXv;unfold e_H
 have key:∀(m k:Nat)(h:Int),k<=b.length->b.length - k<m->∃h' i',a_6 (σ:=Int×Int) (ρ:=n_) (un2 fun H G=>bd (α:=Bool) (if (decide<|G<(b.length:Int))=true then some (decide<|G<4000) else some false) (fun J=>if J=true then bd (idx b G) fun I=>some (.next (a_f .i64 (· &&& ·) (h_ (h_ (a_2 H 137)<|byteI I) 11) 1073741823,h_ G 1)) else some (.brk (H,G)))) m (h,(k:Int))=some (.inl (h',i')):=by
  intro m
  induction m with
  | zero=>intro k h _ hm;omega
  | succ m ih =>
   intro k h hk hm;unfold a_6
   simp only [un2]
   by_cases hl:(k:Int)<(b.length:Int)
   ·rw [dT_ hl,iP_ rfl,bd_some]
    by_cases h4:(k:Int)<4000
    ·rw [dT_ h4,iP_ rfl,ix_ (by omega),bd_some,ia_ (y:=1) (by omega) (by omega)]
     exact ih (k+1) _ (by omega) (by omega)
    ·rw [dF_ h4];exact ⟨_,_,rfl⟩
   ·rw [dF_ hl];exact ⟨_,_,rfl⟩
 obtain ⟨h',i',e⟩:=key n 0 (h_ 193017 (b.length:Int)) (Nat.zero_le _) (by omega);refine ⟨h',?_⟩
 rw [show ((0:Nat):Int)=0 from rfl] at e
 rw [e];rfl
end Go.Vw
