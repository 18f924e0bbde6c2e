
import Derived.Test.YtahlbmonbflopaaGreatDoorV6
namespace Go.Vw
open Go.RowKit Dat
theorem n_7 (x:Int):0<=a_O .i64 (· &&& ·) x 255/\a_O .i64 (· &&& ·) x 255<=255:=by
 have h:(BitVec.ofInt 64 x &&& BitVec.ofInt 64 255).toNat<=255:=by
  rw [BitVec.toNat_and]
  exact Nat.and_le_right
 have he:a_O .i64 (· &&& ·) x 255=((BitVec.ofInt 64 x &&& BitVec.ofInt 64 255).toNat:Int):=by
  unfold a_O
  show IntKind.i64.wrap ((BitVec.ofInt 64 x &&& BitVec.ofInt 64 255).toNat:Int)=_
  rw [IntKind.wrap_i64];omega
 omega
def Dr {α:Type}(b:Bt)(o:Option (α×Int×Int))(P:α->Prop):Prop:=∃x i h,o=some (x,i,h)/\0<=i/\i<=(b.length:Int)/\P x
section
variable {b:Bt}{i h:Int}
theorem Dr.mono {α:Type}{o:Option (α×Int×Int)}{P Q:α->Prop}(d:Dr b o P)(hq:∀x,P x->Q x):Dr b o Q:=by
 obtain ⟨x,i,h,e,h1,h2,h3⟩:=d;exact ⟨x,i,h,e,h1,h2,hq x h3⟩
theorem Dr.bd {α β:Type}{o:Option (α×Int×Int)}{P:α->Prop}{Q:β->Prop}{f:α->Int->Int->Option (β×Int×Int)}(d:Dr b o P)(k:∀x i h,P x->0<=i->i<=(b.length:Int)->Dr b (f x i h) Q):Dr b (bd3 o f) Q:=by
 obtain ⟨x,i,h,rfl,h1,h2,h3⟩:=d;exact k x i h h3 h1 h2
theorem i_k (G:0<=i)(h1:i<=(b.length:Int))(hb:b.length<=MX):Dr b (d_e ⟨b,i,h⟩) (λx=>0<=x/\x<=255):=by
 have hMX:=MXv;unfold d_e
 simp only
 by_cases hl:i<(b.length:Int)
 .rw [dT_ hl,iP_ rfl,f_2 G (by omega),bd_some,bd_some]
  rw [ia_ (y:=1) (by omega) (by omega)]
  exact ⟨_,_,_,rfl,by omega,by omega,n_7 _⟩
 .rw [dF_ hl]
  exact ⟨_,_,_,rfl,G,h1,n_7 _⟩
theorem h_e (H:0<=i)(h1:i<=(b.length:Int))(hb:b.length<=MX)(n:Int):Dr b (a_0 ⟨b,i,h⟩ n) (λx=>0<=x/\(x<n∨n<=0/\x=0)):=by
 unfold a_0
 by_cases hn:n<=0
 .rw [dT_ hn];exact ⟨0,i,h,rfl,H,h1,by omega,.inr ⟨hn,rfl⟩⟩
 rw [dF_ hn]
 have hz:nz n=some ():=by unfold nz;rw [iN_ (by omega)]
 have hr:∀x,0<=x->0<=b_q x n/\b_q x n<n:=λx hx=>by
  rw [j_V hx];exact ⟨Int.emod_nonneg _ (by omega),Int.emod_lt_of_pos _ (by omega)⟩
 simp only [bF_,fF_]
 by_cases hs:n<=256
 .rw [dT_ hs,iP_ rfl]
  refine (i_k H h1 hb).bd λx i h hx G g1=>?_
  rw [hz]
  exact ⟨_,_,_,rfl,G,g1,(hr x hx.1).1,.inl (hr x hx.1).2⟩
 .rw [dF_ hs,iN_ (by simp)]
  refine (i_k H h1 hb).bd λx i h hx G g1=>(i_k G g1 hb).bd λy i h hy G g1=>(i_k G g1 hb).bd λz i h hz' G g1=>?_
  rw [hz,e_3 (by omega) (by omega),e_3 (by omega) (by omega),ia_ (x:=x * 65536) (by omega) (by omega),ia_ (by omega) (by omega)]
  have:=hr (x * 65536+y * 256+z) (by omega);exact ⟨_,_,_,rfl,G,g1,this.1,.inl this.2⟩
theorem a_i (G:0<=i)(h1:i<=(b.length:Int))(hb:b.length<=MX){n:Int}(hn:0<n):Dr b (a_0 ⟨b,i,h⟩ n) (λx=>0<=x/\x<n) :=
 (h_e G h1 hb n).mono λx hx=>⟨hx.1,by omega⟩
theorem e_0 (G:0<=i)(h1:i<=(b.length:Int))(hb:b.length<=MX)(n:Int):Dr b (b_R ⟨b,i,h⟩ n) (λ_=>True):=by
 unfold b_R;exact (h_e G h1 hb n).bd λx i h _ H g1=>⟨_,_,_,rfl,H,g1,trivial⟩
theorem h_f (G:0<=i)(h1:i<=(b.length:Int))(hb:b.length<=MX){l:List Str}(hl:0<l.length):Dr b (c_D ⟨b,i,h⟩ l) (· ∈ l):=by
 unfold c_D;refine (a_i G h1 hb (show (0:Int)<(l.length:Int) by omega)).bd λx i h hx H g1=>?_
 rw [f_2 hx.1 (by omega)]
 exact ⟨_,_,_,rfl,H,g1,gE_ _⟩
theorem d_u (G:0<=i)(h1:i<=(b.length:Int))(hb:b.length<=MX){l:List Int}(hl:0<l.length):Dr b (c_n ⟨b,i,h⟩ l) (· ∈ l):=by
 unfold c_n;refine (a_i G h1 hb (show (0:Int)<(l.length:Int) by omega)).bd λx i h hx H g1=>?_
 rw [f_2 hx.1 (by omega)]
 exact ⟨_,_,_,rfl,H,g1,gE_ _⟩
theorem i_l (h0:0<=i)(h1:i<=(b.length:Int))(hb:b.length<=MX){n:Int}(hn:n<=1000):Dr b (f_y ⟨b,i,h⟩ n) (λl=>l.length=n.toNat):=by
 have hLIM:=a_7;unfold f_y
 have key:∀(m k:Nat)(l:Bt)(i h:Int),k+m<=1000->l.length=k->0<=i->i<=(b.length:Int)->∃l' i' h',y_ (σ:=Bt×Int×Int) (ρ:=Bt×Int×Int) (λa2=>un3 λL O V=>bd3 (d_e (⟨b,O,V⟩:m_)) λW Y a0=>bd (psh L<|mkB W) λa1=>some<|.next (a1,Y,a0)) m k (l,i,h)=some (.inl (l',i',h'))/\l'.length=k+m/\0<=i'/\i'<=(b.length:Int):=by
  intro m
  induction m with
  | zero=>intro k l i h _ hl G g1;exact ⟨l,i,h,rfl,by omega,G,g1⟩
  | succ m ih =>
   intro k l i h hk hl G g1;obtain ⟨x,i2,h2,e,e0,I,_⟩:=i_k (h:=h) G g1 hb;unfold y_
   simp only [un3]
   rw [e,bd3_some,Y_ (by omega),bd_some]
   obtain ⟨l',i',h',e',J,H,e4⟩:=ih (k+1) (l++[mkB x]) i2 h2 (by omega) (by simp;omega) e0 I;exact ⟨l',i',h',e',by omega,H,e4⟩
 obtain ⟨l',i',h',e,I,J,H⟩:=key n.toNat 0 [] i h (by omega) rfl h0 h1
 rw [e]
 exact ⟨l',i',h',rfl,J,H,by omega⟩
end
theorem new_ok {b:Bt}(hb:b.length<=MX){n:Nat}(hn:1048600<=n):∃h,h_Q n b=some ⟨b,0,h⟩:=by
 have hMX:=MXv;unfold h_Q
 have key:∀(m k:Nat)(h:Int),k<=b.length->b.length - k<m->∃h' i',M_ (σ:=Int×Int) (ρ:=m_) (un2 λH G=>bd (α:=Bool) (if (decide<|G<(b.length:Int)) then some (decide<|G<4000) else some false) (λJ=>if J then bd (idx b G) λI=>some (.next (a_O .i64 (· &&& ·) (h_ (h_ (a_5 H 137)<|byteI I) 11) 1073741823,h_ G 1)) else some (.brk (H,G)))) m (h,(k:Int))=some (.inl (h',i')):=by
  intro m
  induction m with
  | zero=>intro k h _ hm;omega
  | succ m ih =>
   intro k h hk hm;unfold M_
   simp only [un2]
   by_cases hl:(k:Int)<(b.length:Int)
   .rw [dT_ hl,iP_ rfl,bd_some]
    by_cases h4:(k:Int)<4000
    .rw [dT_ h4,iP_ rfl,ix_ (by omega),bd_some,ia_ (y:=1) (by omega) (by omega)]
     exact ih (k+1) _ (by omega) (by omega)
    .rw [dF_ h4];exact ⟨_,_,rfl⟩
   .rw [dF_ hl];exact ⟨_,_,rfl⟩
 obtain ⟨h',i',e⟩:=key n 0 (h_ 193017 (b.length:Int)) (Nat.zero_le _) (by omega);refine ⟨h',?_⟩
 rw [show ((0:Nat):Int)=0 from rfl] at e
 rw [e];rfl
end Go.Vw
