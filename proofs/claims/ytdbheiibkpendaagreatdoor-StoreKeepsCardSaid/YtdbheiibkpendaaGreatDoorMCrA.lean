/- Words of bits under Go's operators on numbers. -/
import Derived.Test.YtdbheiibkpendaaGreatDoorGw0
import Derived.IntWalk
import Derived.Test.YtdbheiibkpendaaGreatDoorSeD
import Derived.KernelRfl
import Derived.Test.YtdbheiibkpendaaGreatDoorMDkA
namespace Go.Cr
open Go Go.Gw
abbrev U {n:Nat} (x:BitVec n):Int:=(x.toNat:Int)
theorem JiI {k:IntKind} (hs:k.signed=false) (x:Int):k.wrap x=x%(2:Int)^k.bits:=by
 cases k<;>simp_all [IntKind.wrap,IntKind.signed,IntKind.bits]
theorem Jnl {n:Nat} (x:BitVec n):0≤U x∧U x<(2:Int)^n:=by
 refine⟨Int.natCast_nonneg _,?_⟩
 have:=x.isLt
 exact_mod_cast this
theorem JeC {k:IntKind} (hs:k.signed=false) (x:BitVec k.bits):k.wrap (U x)=U x:=by
 rw[JiI hs]
 exact Int.emod_eq_of_lt (Jnl x).1 (Jnl x).2
theorem JdA {n:Nat} (x:BitVec n):BitVec.ofInt n (U x)=x:=by
 simp[U,BitVec.ofInt_natCast]
theorem JmG {k:IntKind} (hs:k.signed=false) (x y:BitVec k.bits):XG k (U x) (U y)=U (x^^^y):=by
 unfold XG;rw[JdA,JdA];exact JeC hs _
theorem JmA {k:IntKind} (hs:k.signed=false) (x y:BitVec k.bits):JaB k (U x) (U y)=U (x&&&y):=by
 unfold JaB;rw[JdA,JdA];exact JeC hs _
theorem JlT {k:IntKind} (x:BitVec k.bits) (b:Int) (m:Nat) (hb:b.toNat=m) (hm:m≤k.bits):shr k (U x) b=U (x>>>m):=by
 unfold shr
 rw[hb,Nat.min_eq_left hm,Int.fdiv_eq_ediv_of_nonneg _ (Int.pow_nonneg (by decide))]
 simp only[U,BitVec.toNat_ushiftRight,Nat.shiftRight_eq_div_pow]
 push_cast;rfl
theorem JlZ {k:IntKind} (hs:k.signed=false) {n:Nat} (x:BitVec n):k.wrap (U x)=U (x.setWidth k.bits):=by
 rw[JiI hs];simp only[U,BitVec.toNat_setWidth];push_cast;rfl
theorem isU {k:IntKind} (hs:k.signed=false) {x:Int} (h:(Lit.int k x).wf=true):∃b:BitVec k.bits,x=U b:=by
 have hb:0≤x∧x<(2:Int)^k.bits:=by
  cases k<;>simp_all [Lit.wf,IntKind.signed,IntKind.bits,IntKind.min,IntKind.max]<;>omega
 refine⟨BitVec.ofNat k.bits x.toNat,?_⟩
 simp only[U,BitVec.toNat_ofNat]
 obtain⟨m,rfl⟩:=Int.eq_ofNat_of_zero_le hb.1
 have:m<2^k.bits:=by exact_mod_cast hb.2
 simp[Nat.mod_eq_of_lt this]
theorem areU {l:List Int} (h:∀x∈l,(Lit.int .u8 x).wf=true):∃b:List (BitVec 8),l=b.map U:=by
 induction l with
 |nil=>exact⟨[],rfl⟩
 |cons x r ih=>
  obtain⟨b,hb⟩:=ih fun y hy=>h y (by simp[hy])
  obtain⟨c,hc⟩:=isU (k:= .u8) rfl (h x (by simp))
  exact⟨c::b,by rw[hb,hc];rfl⟩
theorem Qk {x:Int} (h0: -9223372036854775808≤x) (h1:x≤9223372036854775807):IntKind.i64.wrap x=x:=by
 rw[IntKind.wrap_i64];omega
theorem u64_small {x:Int} (h0:0≤x) (h1:x<18446744073709551616):IntKind.u64.wrap x=x:=by
 rw[JiI rfl];exact Int.emod_eq_of_lt h0 h1
theorem Jkl (b:List (BitVec 8)) (i:Nat) (h:i<b.length):(b.map (U (n:=8))).getD i 0=U b[i]:=by
 simp[List.getD,h]
end Go.Cr
/- The sum of frames as steps of one bit. -/
namespace Go.Cr
open Go Go.Gw
abbrev W:=BitVec 32
def Jmk:W:=0xedb88320#32
def JiD (r:W):W:=(r>>>1)^^^(if r.getLsbD 0 then Jmk else 0#32)
def JbI:Nat→W→W
 |0,r=>r
 |n+1,r=>JbI n (JiD r)
theorem JmC {n:Nat} (x y:BitVec n):x^^^(x^^^y)=y:=by rw[←BitVec.xor_assoc,BitVec.xor_self,BitVec.zero_xor]
theorem Jkf (x y:W):JiD (x^^^y)=JiD x^^^JiD y:=by
 unfold JiD
 rw[BitVec.ushiftRight_xor_distrib,BitVec.getLsbD_xor]
 generalize x>>>1=a
 generalize y>>>1=b
 cases x.getLsbD 0<;>cases y.getLsbD 0<;>simp only[Bool.xor_false,Bool.xor_true,Bool.not_false,Bool.not_true,Bool.false_eq_true,if_true,if_false,BitVec.xor_zero]
 ·rw[BitVec.xor_assoc]
 ·rw[BitVec.xor_assoc,BitVec.xor_comm b Jmk,←BitVec.xor_assoc]
 ·rw[BitVec.xor_assoc,BitVec.xor_comm b Jmk,JmC]
theorem JjT (n:Nat):∀x y:W,JbI n (x^^^y)=JbI n x^^^JbI n y:=by
 induction n with
 |zero=>intro x y;rfl
 |succ n ih=>intro x y;simp only[JbI,Jkf,ih]
theorem JfH (n:Nat):∀(m:Nat) (x:W),JbI (m+n) x=JbI n (JbI m x)
 |0,x=>by simp[JbI]
 |m+1,x=>by rw[Nat.add_right_comm];simp only[JbI];exact JfH n m _
theorem JjS (n:Nat):∀x:W,(∀i,i<n→x.getLsbD i=false)→JbI n x=x>>>n:=by
 induction n with
 |zero=>intro x _;simp[JbI]
 | succ n ih=>
  intro x h
  have h0:JiD x=x>>>1:=by
   unfold JiD
   rw[h 0 (by omega)]
   simp
  simp only[JbI,h0]
  rw[ih _ fun i hi=>by rw[BitVec.getLsbD_ushiftRight];exact h (1+i) (by omega)]
  rw[←BitVec.shiftRight_add,Nat.add_comm]
theorem Jis (n:Nat) (x:W):x=(x&&&BitVec.ofNat 32 (2^n- 1))^^^((x>>>n)<<<n):=by
 apply BitVec.eq_of_getLsbD_eq
 intro i hi
 simp only[BitVec.getLsbD_xor,BitVec.getLsbD_and,BitVec.getLsbD_shiftLeft,BitVec.getLsbD_ushiftRight,BitVec.getLsbD_ofNat,Nat.testBit_two_pow_sub_one]
 by_cases h:i<n
 ·simp[h,hi]
 ·simp[h,hi,show n+(i-n)=i by omega]
theorem Jje (n:Nat) (y:W):JbI n ((y>>>n)<<<n)=y>>>n:=by
 rw[JjS n _ fun i hi=>by simp[BitVec.getLsbD_shiftLeft,hi]]
 apply BitVec.eq_of_getLsbD_eq
 intro i hi
 simp only[BitVec.getLsbD_shiftLeft,BitVec.getLsbD_ushiftRight]
 by_cases h:n+i<32
 ·simp[h,show ¬n+i<n by omega,show n+i-n=i by omega]
 ·simp[h]
  rw[BitVec.getLsbD_of_ge _ _ (by omega)]
theorem Jg3 (n:Nat) (x:W):JbI n x=(x>>>n)^^^JbI n (x&&&BitVec.ofNat 32 (2^n- 1)):=by
 conv=>lhs;rw[Jis n x]
 rw[JjT,Jje,BitVec.xor_comm]
def next (r:W) (c:BitVec 8):W:=JbI 8 (r^^^c.setWidth 32)
def fold (r:W) (l:List (BitVec 8)):W:=l.foldl next r
def JiV:W:=0xffffffff#32
def sum (l:List (BitVec 8)):W:=fold JiV l^^^JiV
end Go.Cr
/- The sum of frames: what the program's and the page's functions tell is the sum, bit by bit. -/
namespace Go.Cr
open Go Go.Gw Go.Proofs.Se.D
theorem Jmw (x:W) (m:Nat) (hm:m≤32):shr .u32 (U x) (m:Int)=U (x>>>m):=JlT (k:= .u32) x _ m (by simp) hm
theorem JdX (x y:W):XG .u32 (U x) (U y)=U (x^^^y):=JmG (k:= .u32) rfl x y
theorem Jge (x y:W):JaB .u32 (U x) (U y)=U (x&&&y):=JmA (k:= .u32) rfl x y
theorem Jkr (c:BitVec 8):IntKind.u32.wrap (U c)=U (c.setWidth 32):=JlZ (k:= .u32) rfl c
def tab:List Int:=(List.range 16).map fun i=>U (JbI 4 (BitVec.ofNat 32 i))
theorem Jjp:JaO=some tab:=by kernel_rfl
theorem Jli (x:W) (h:x.toNat<16):tab.getD (U x).toNat 0=U (JbI 4 x):=by
 have e:x=BitVec.ofNat 32 x.toNat:=by simp
 rw[e]
 generalize x.toNat=i at h
 have hi:(U (BitVec.ofNat 32 i)).toNat=i:=by simp[U];omega
 rw[hi]
 simp[tab,List.getD,h]
theorem Jnk (x:W):(x&&&15#32).toNat<16:=by
 rw[BitVec.toNat_and]
 exact Nat.lt_of_le_of_lt Nat.and_le_right (by decide)
theorem nib (x:W):XG .u32 (shr .u32 (U x) (4:Int)) (tab.getD (JaB .u32 (U x) (15:Int)).toNat 0)=U (JbI 4 x):=by
 have h15:(15:Int)=U (15#32):=by decide
 rw[h15,Jge,Jli _ (Jnk x)]
 have:=Jmw x 4 (by decide)
 rw[show ((4:Nat):Int)=4 from rfl] at this
 rw[this,JdX]
 exact congrArg U (Jg3 4 x).symm
theorem Jkm (x:W):0≤JaB .u32 (U x) (15:Int)∧JaB .u32 (U x) (15:Int)<((16:Nat):Int):=by
 have h15:(15:Int)=U (15#32):=by decide
 rw[h15,Jge]
 have:=Jnk x
 simp only[U]
 omega
theorem Jjf (r:W) (c:BitVec 8):JbI 4 (JbI 4 (r^^^c.setWidth 32))=next r c:=(JfH 4 4 _).symm
theorem Jji (b:List (BitVec 8)) (hb:b.length≤4611686018427387904):∀(d:Nat) (k i:Nat) (r:W),i+d=b.length→d<k→Xa (b.map U) tab k (U r) (i:Int)=some (U (fold r (b.drop i))):=by
 intro d
 induction d with
 |zero=>
  intro k i r hi hk
  obtain⟨k,rfl⟩:∃m,k=m+1:=⟨k- 1,by omega⟩
  unfold Xa
  rw[if_neg (by simp;omega),List.drop_of_length_le (by omega)]
  rfl
 |succ d ih=>
  intro k i r hi hk
  obtain⟨k,rfl⟩:∃m,k=m+1:=⟨k- 1,by omega⟩
  have hlt:i<b.length:=by omega
  have hg:(b.map U).getD (i:Int).toNat 0=U b[i]:=by rw[Int.toNat_natCast];exact Jkl b i hlt
  unfold Xa
  rw[if_pos (by simp;omega),if_pos (by simp;omega),hg,Jkr,JdX,if_pos (Jkm _),nib,if_pos (Jkm _),nib,Jjf]
  have hw:IntKind.i64.wrap ((i:Int)+1)=((i+1:Nat):Int):=by rw[Qk (by omega) (by omega)];rfl
  rw[hw,ih k (i+1) _ (by omega) (by omega)]
  rw[List.drop_eq_getElem_cons hlt]
  rfl
theorem sum_eq (b:List (BitVec 8)) (hb:b.length≤4611686018427387904):Jah (b.map U)=some (U (sum b)):=by
 unfold Jah
 rw[Jjp]
 have h:Xa (b.map U) tab (((↑(List.length (b.map U)):Int)- (0:Int)).toNat+1) (U JiV) (0:Int)=some (U (fold JiV (b.drop 0))):=Jji b hb b.length _ 0 JiV (by omega) (by simp)
 have e1:(4294967295:Int)=U JiV:=by decide
 simp only[Option.bind_some]
 rw[e1,h]
 simp only[Option.bind_some,JdX]
 rfl
theorem Jhw (b:List (BitVec 8)) (i:Nat) (hi:i<b.length):∀(d j k:Nat) (r:W),j+d=8→d<k→
  ∃r':W,Xc (b.map U) (i:Int) k (U r) (j:Int)=some (U r')∧r'^^^((b[i].setWidth 32)>>>8)=JbI d (r^^^((b[i].setWidth 32)>>>j)):=by
 intro d
 induction d with
 |zero=>
  intro j k r hj hk
  obtain⟨k,rfl⟩:∃m,k=m+1:=⟨k- 1,by omega⟩
  obtain rfl:j=8:=by omega
  refine⟨r,?_,rfl⟩
  unfold Xc
  rw[if_neg (by decide)]
 | succ d ih=>
  intro j k r hj hk
  obtain⟨k,rfl⟩:∃m,k=m+1:=⟨k- 1,by omega⟩
  have hg:(b.map U).getD (i:Int).toNat 0=U b[i]:=by rw[Int.toNat_natCast];exact Jkl b i hi
  have hu:IntKind.u64.wrap (j:Int)=(j:Int):=u64_small (by omega) (by omega)
  have hw:IntKind.i64.wrap ((j:Int)+1)=((j+1:Nat):Int):=by rw[Qk (by omega) (by omega)];rfl
  have hs:shr .u8 (U b[i]) (j:Int)=U (b[i]>>>j):=JlT (k:= .u8) _ _ j (by simp) (by simp[IntKind.bits];omega)
  have h1:(1:Int)=U (1#32):=by decide
  have hs1:shr .u32 (U r) (1:Int)=U (r>>>1):=Jmw r 1 (by decide)
  have hp:(3988292384:Int)=U Jmk:=by decide
  unfold Xc
  rw[if_pos (by simp;omega),if_pos (by simp;omega),hu,if_pos (by omega),hg,hs,Jkr,hw,hs1,hp,JdX]
  have hcond:((JaB .u32 (U r) (1:Int)) !=(JaB .u32 (U ((b[i]>>>j).setWidth 32)) (1:Int)))=(r^^^((b[i].setWidth 32)>>>j)).getLsbD 0:=by
   rw[h1,Jge,Jge]
   have lsb:∀x:W,U (x&&&1#32)=if x.getLsbD 0 then 1 else 0:=fun x=>by
    rw[BitVec.and_one_eq_setWidth_ofBool_getLsbD]
    cases x.getLsbD 0<;>decide
   rw[lsb,lsb,BitVec.getLsbD_xor]
   have e:((b[i]>>>j).setWidth 32).getLsbD 0=((b[i].setWidth 32)>>>j).getLsbD 0:=by
    simp only[BitVec.getLsbD_setWidth,BitVec.getLsbD_ushiftRight]
    simp
    intro h
    omega
   rw[e]
   cases r.getLsbD 0<;>cases ((b[i].setWidth 32)>>>j).getLsbD 0<;>decide
  have hstep:∀t:W,t=JiD (r^^^((b[i].setWidth 32)>>>j))^^^((b[i].setWidth 32)>>>(j+1))→
    ∃r':W,Xc (b.map U) (i:Int) k (U t) ((j+1:Nat):Int)=some (U r')∧r'^^^((b[i].setWidth 32)>>>8)=JbI (d+1) (r^^^((b[i].setWidth 32)>>>j)):=fun t ht=>by
   obtain⟨r',h1,h2⟩:=ih (j+1) k t (by omega) (by omega)
   refine⟨r',h1,?_⟩
   rw[h2,ht,BitVec.xor_assoc,BitVec.xor_self,BitVec.xor_zero]
   rfl
  have sh:((b[i].setWidth 32)>>>j)>>>1=(b[i].setWidth 32)>>>(j+1):=by rw[←BitVec.shiftRight_add]
  rw[hcond]
  cases hc:(r^^^((b[i].setWidth 32)>>>j)).getLsbD 0 with
  |true=>
   rw[if_pos rfl]
   refine hstep _ ?_
   unfold JiD
   rw[hc,if_pos rfl,BitVec.ushiftRight_xor_distrib,sh]
   generalize (b[i].setWidth 32)>>>(j+1)=y
   generalize r>>>1=z
   rw[BitVec.xor_assoc,BitVec.xor_assoc,BitVec.xor_comm Jmk y,JmC]
  |false=>
   rw[if_neg (by simp)]
   refine hstep _ ?_
   unfold JiD
   rw[hc,BitVec.ushiftRight_xor_distrib,sh]
   generalize (b[i].setWidth 32)>>>(j+1)=y
   generalize r>>>1=z
   simp[BitVec.xor_assoc]
theorem JhY (c:BitVec 8):(c.setWidth 32:W)>>>8=0#32:=by
 apply BitVec.eq_of_getLsbD_eq
 intro i hi
 simp[BitVec.getLsbD_ushiftRight,BitVec.getLsbD_setWidth]
theorem Jh5 (b:List (BitVec 8)) (hb:b.length≤4611686018427387904):∀(d:Nat) (k i:Nat) (r:W),i+d=b.length→d<k→Xb (b.map U) k (U r) (i:Int)=some (U (fold r (b.drop i))):=by
 intro d
 induction d with
 |zero=>
  intro k i r hi hk
  obtain⟨k,rfl⟩:∃m,k=m+1:=⟨k- 1,by omega⟩
  unfold Xb
  rw[if_neg (by simp;omega),List.drop_of_length_le (by omega)]
  rfl
 |succ d ih=>
  intro k i r hi hk
  obtain⟨k,rfl⟩:∃m,k=m+1:=⟨k- 1,by omega⟩
  have hlt:i<b.length:=by omega
  obtain⟨r',h1,h2⟩:=Jhw b i hlt 8 0 (((8:Int)- (0:Int)).toNat+1) r (by omega) (by decide)
  rw[JhY,BitVec.xor_zero] at h2
  have h0:(b[i].setWidth 32:W)>>>0=b[i].setWidth 32:=by simp
  rw[h0] at h2
  unfold Xb
  rw[if_pos (by simp;omega)]
  rw[show ((0:Nat):Int)=(0:Int) from rfl] at h1
  rw[h1,Option.bind_some,h2]
  have hw:IntKind.i64.wrap ((i:Int)+1)=((i+1:Nat):Int):=by rw[Qk (by omega) (by omega)];rfl
  rw[hw,ih k (i+1) _ (by omega) (by omega)]
  rw[List.drop_eq_getElem_cons hlt]
  rfl
theorem page_eq (b:List (BitVec 8)) (hb:b.length≤4611686018427387904):JaJ (b.map U)=some (U (sum b)):=by
 unfold JaJ
 have h:Xb (b.map U) (((↑(List.length (b.map U)):Int)- (0:Int)).toNat+1) (U JiV) (0:Int)=some (U (fold JiV (b.drop 0))):=Jh5 b hb b.length _ 0 JiV (by omega) (by simp)
 have e1:(4294967295:Int)=U JiV:=by decide
 rw[e1,h]
 simp only[Option.bind_some,JdX]
 rfl
end Go.Cr
/- The laws of the sum of frames: exact; with its sum behind it; held bit by bit; what was forgotten. -/
namespace Go.Cr
open Go Go.Gw Go.Proofs.Se.D
theorem Jc4 (a:List Int) (ha:a.length≤4611686018427387904):∀(d k i:Nat),i+d=a.length→d<k→JW a a k (i:Int)=some (.inl ()):=by
 intro d
 induction d with
 |zero=>
  intro k i hi hk
  obtain⟨k,rfl⟩:∃m,k=m+1:=⟨k- 1,by omega⟩
  unfold JW
  rw[if_neg (by simp;omega)]
 |succ d ih=>
  intro k i hi hk
  obtain⟨k,rfl⟩:∃m,k=m+1:=⟨k- 1,by omega⟩
  unfold JW
  have hw:IntKind.i64.wrap ((i:Int)+1)=((i+1:Nat):Int):=by rw[Qk (by omega) (by omega)];rfl
  rw[if_pos (by simp;omega),if_pos (by omega),if_pos (by omega),if_neg (by simp),hw,ih k (i+1) (by omega) (by omega)]
theorem same (a:List Int) (ha:a.length≤4611686018427387904):Wp a a=some true:=by
 unfold Wp
 have h:JW a a (((↑(List.length a):Int)- (0:Int)).toNat+1) (0:Int)=some (.inl ()):=Jc4 a ha a.length _ 0 (by omega) (by simp)
 rw[if_neg (by simp),h]
 rfl
def JnH (n:W):List (BitVec 8):=[n.setWidth 8,(n>>>8).setWidth 8,(n>>>16).setWidth 8,(n>>>24).setWidth 8]
end Go.Cr
/- The law of three texts. -/
namespace Go.Cr
open Go Go.Gw Go.Proofs.Se.D
def JnE:List (BitVec 8)→List (BitVec 8)→List (BitVec 8)→List (BitVec 8)
 |x::a,y::b,z::c=>(x^^^y^^^z)::JnE a b c
 |_,_,_=>[]
def low (a b c:Int):Int:=if(if c<b then c else b)<a then(if c<b then c else b) else a
end Go.Cr
/- The law of texts that differ in bits side by side. -/
namespace Go.Cr
open Go Go.Gw Go.Proofs.Se.D
def Jno (b:Bool):W:=if b then 1#32 else 0#32
def run (s:W) (f:Nat→Bool):Nat→Nat→W
 |_,0=>s
 |n,k+1=>run (JiD (s^^^Jno (f n))) f (n+1) k
def JnC (f:Nat→Bool):Nat→Nat→W
 |_,0=>0#32
 |n,k+1=>Jno (f n)^^^(JnC f (n+1) k<<<1)
def JnD (b:List (BitVec 8)) (p:Nat):Bool:=(b.getD (p/8) 0#8).getLsbD (p%8)
theorem JgL (a b:List Int) (hl:a.length=b.length) (ha:a.length≤4611686018427387904):∀(d k i:Nat),i+d=a.length→d<k→a.take i=b.take i→
  JW a b k (i:Int)=some (if a=b then .inl () else .inr false):=by
 intro d
 induction d with
 |zero=>
  intro k i hi hk ht
  obtain⟨k,rfl⟩:∃m,k=m+1:=⟨k- 1,by omega⟩
  unfold JW
  rw[if_neg (by simp;omega)]
  rw[List.take_of_length_le (by omega),List.take_of_length_le (by omega)] at ht
  rw[if_pos ht]
 | succ d ih=>
  intro k i hi hk ht
  obtain⟨k,rfl⟩:∃m,k=m+1:=⟨k- 1,by omega⟩
  unfold JW
  have hw:IntKind.i64.wrap ((i:Int)+1)=((i+1:Nat):Int):=by rw[Qk (by omega) (by omega)];rfl
  have hia:i<a.length:=by omega
  have hib:i<b.length:=by omega
  have ga:a.getD (i:Int).toNat 0=a[i]:=by simp[List.getD,hia]
  have gb:b.getD (i:Int).toNat 0=b[i]:=by simp[List.getD,hib]
  rw[if_pos (by simp;omega),if_pos (by omega),if_pos (by omega),ga,gb]
  by_cases he:a[i]=b[i]
  ·rw[if_neg (by simp[he]),hw]
   exact ih k (i+1) (by omega) (by omega) (by rw[List.take_succ_eq_append_getElem hia,List.take_succ_eq_append_getElem hib,ht,he])
  ·rw[if_pos (by simp[he]),if_neg (by intro e;subst e;exact he rfl)]
theorem bytes_eq (a b:List Int) (hl:a.length=b.length) (ha:a.length≤4611686018427387904):Wp a b=some (decide (a=b)):=by
 unfold Wp
 have h:JW a b (((↑(List.length a):Int)- (0:Int)).toNat+1) (0:Int)=some (if a=b then .inl () else .inr false):=JgL a b hl ha a.length _ 0 (by omega) (by simp) rfl
 rw[if_neg (by simp[hl]),h]
 by_cases he:a=b
 ·simp[he]
 ·simp[he]
end Go.Cr
/- Frames in plain words: what is sealed, put, got. -/
namespace Go.Fr
open Go Go.Gw Go.Dk Go.Proofs.Se.D
theorem JmP (k:IntKind) (x b d:Int) (h:(2:Int)^(min b.toNat k.bits)=d) (hd:0≤d):shr k x b=x/d:=by
 unfold shr;rw[h,Int.fdiv_eq_ediv_of_nonneg _ hd]
theorem JmS (k:IntKind) (x b d:Int) (h:(2:Int)^(min b.toNat k.bits)=d):shl k x b=k.wrap (x*d):=by
 unfold shl;rw[h]
theorem nxt (i:Nat) (h:i<1000000000):IntKind.i64.wrap ((i:Int)+1)=((i+1:Nat):Int):=by rw[Jaw _ (by omega) (by omega)];omega
def Byt (l:List Int):Prop:=∀x∈l,(Lit.int .u8 x).wf=true
theorem wf8 {x:Int}:(Lit.int .u8 x).wf=true↔0≤x∧x<256:=by
 simp[Lit.wf,IntKind.min,IntKind.max,IntKind.signed,IntKind.bits];omega
theorem Jk7 (x:Int):IntKind.u8.wrap x=x%256:=by simp[IntKind.wrap,IntKind.signed,IntKind.bits]
theorem JfZ (x:Int):(Lit.int .u8 (IntKind.u8.wrap x)).wf=true:=by rw[wf8,Jk7];omega
theorem Byt.app {a b:List Int} (ha:Byt a) (hb:Byt b):Byt (a++b):=fun x hx=>by
 rcases List.mem_append.1 hx with h|h
 ·exact ha x h
 ·exact hb x h
theorem Byt.left {a b:List Int} (h:Byt (a++b)):Byt a:=fun x hx=>h x (List.mem_append_left _ hx)
theorem Byt.right {a b:List Int} (h:Byt (a++b)):Byt b:=fun x hx=>h x (List.mem_append_right _ hx)
theorem Byt.take {a:List Int} (h:Byt a) (n:Nat):Byt (a.take n):=fun x hx=>h x (List.mem_of_mem_take hx)
theorem Byt.drop {a:List Int} (h:Byt a) (n:Nat):Byt (a.drop n):=fun x hx=>h x (List.mem_of_mem_drop hx)
theorem Byt.nil:Byt []:=fun x hx=>by cases hx
theorem Byt.rep (n:Nat):Byt (List.replicate n 0):=fun x hx=>by rw[List.eq_of_mem_replicate hx];decide
theorem Byt.get {a:List Int} (h:Byt a) (i:Nat):0≤a.getD i 0∧a.getD i 0<256:=by
 by_cases hi:i<a.length
 ·have:=wf8.1 (h _ (List.getElem_mem hi))
  simpa[List.getD,hi] using this
 ·simp[List.getD,List.getElem?_eq_none (Nat.le_of_not_lt hi)]
def JjG (l:List Int):Int:=(Jah l).getD 0
theorem JlS {l:List Int} (h:Byt l) (hl:l.length≤900000):Jah l=some (JjG l)∧JaJ l=some (JjG l)∧0≤JjG l∧JjG l<4294967296:=by
 obtain⟨b,rfl⟩:=Cr.areU h
 have e:=Cr.sum_eq b (by simp at hl;omega)
 have e':=Cr.page_eq b (by simp at hl;omega)
 have c:JjG (b.map Cr.U)=Cr.U (Cr.sum b):=by unfold JjG;rw[e];rfl
 refine⟨by rw[c];exact e,by rw[c];exact e',?_⟩
 rw[c]
 have:=(Cr.sum b).isLt
 simp only[Cr.U]
 omega
def hd (k n:Int):List Int:=[IntKind.u8.wrap k,IntKind.u8.wrap (shr .i64 n (8:Int)),IntKind.u8.wrap n]
def sb (s:Int):List Int:=[IntKind.u8.wrap (shr .u32 s (24:Int)),IntKind.u8.wrap (shr .u32 s (16:Int)),IntKind.u8.wrap (shr .u32 s (8:Int)),IntKind.u8.wrap s]
def frm (k:Int) (d:List Int):List Int:=hd k d.length++(sb (JjG (hd k d.length++d))++d)
theorem JkF (k n:Int):Byt (hd k n):=fun x hx=>by
 simp only[hd,List.mem_cons,List.not_mem_nil,or_false] at hx
 rcases hx with rfl|rfl|rfl<;>exact JfZ _
theorem JlU (s:Int):Byt (sb s):=fun x hx=>by
 simp only[sb,List.mem_cons,List.not_mem_nil,or_false] at hx
 rcases hx with rfl|rfl|rfl|rfl<;>exact JfZ _
theorem Jk3 (k:Int) {d:List Int} (h:Byt d):Byt (frm k d):=(JkF _ _).app ((JlU _).app h)
theorem Wt (k:Int) (d:List Int):(frm k d).length=d.length+7:=by unfold frm hd sb;simp
theorem JeQ (k:Int) {d:List Int} (h:Byt d) (hl:d.length≤100000):Xe k d=some (frm k d):=by
 have c1:=JaN [hd k d.length,d] (by simp[hd];omega) (by simp)
 have c2:=JaN [hd k d.length,sb (JjG (hd k d.length++d)),d] (by simp[hd,sb];omega) (by simp)
 have f1:[hd k d.length,d].flatten=hd k d.length++d:=by simp
 have f2:[hd k d.length,sb (JjG (hd k d.length++d)),d].flatten=frm k d:=by simp[frm]
 rw[f1] at c1
 rw[f2] at c2
 have hc:=(JlS ((JkF k d.length).app h) (by simp[hd];omega)).1
 unfold Xe
 refine(congrArg (fun z=>Option.bind z _) c1).trans ?_
 rw[Option.bind_some,hc,Option.bind_some]
 exact(congrArg (fun z=>Option.bind z _) c2).trans rfl
def Kin (k:Int):Prop:=k=1∨k=2
instance (k:Int):Decidable (Kin k):=by unfold Kin;infer_instance
theorem Jgd (k:Int):Xt k=some (decide (Kin k)):=by
 unfold Xt Kin
 by_cases h:k=1
 ·subst h;rfl
 ·rw[if_neg (by simpa using h)];simp[h];rfl
theorem Jkn {k:Int} {b d:List Int} (hk:Kin k) (h:Byt d) (hl:d.length≤2000) (hb:b.length≤100000):XZ b k d=some (b++frm k d,0):=by
 have c:=JaN [b,frm k d] (by simp[Wt];omega) (by simp)
 have f:[b,frm k d].flatten=b++frm k d:=by simp
 rw[f] at c
 unfold XZ
 rw[Jgd,Option.bind_some,if_neg (by simp[hk]),if_neg (by simp;omega),JeQ k h (by omega),Option.bind_some,c,Option.bind_some]
theorem JmF {k:Int} {d:List Int} (hk:Kin k) (hl:d.length≤2000):Ww k d=some 0:=by
 unfold Ww
 rcases hk with rfl|rfl
 ·rw[if_neg (by decide),if_neg (by simp;omega)]
 ·rw[if_pos (by decide),if_neg (by decide),if_neg (by simp;omega)]
theorem Jlp {k:Int} {d:List Int} (hk:¬Kin k):Ww k d=some 1:=by
 unfold Ww Kin at*
 rw[if_pos (by simp;omega),if_pos (by simp;omega)]
theorem JjD {k:Int} {d:List Int} (hk:Kin k) (hl:2000<d.length):Ww k d=some 2:=by
 unfold Ww
 rcases hk with rfl|rfl
 ·rw[if_neg (by decide),if_pos (by simp;omega)]
 ·rw[if_pos (by decide),if_neg (by decide),if_pos (by simp;omega)]
theorem JjF (a b:List Int) (hl:a.length=b.length) (ha:a.length≤900000):∀(d i:Nat),i+d=a.length→a.take i=b.take i→
  JV a b (d+1) (i:Int)=some (if a=b then .inl () else .inr false):=by
 intro d
 induction d with
 |zero=>
  intro i hi ht
  rw[JV,if_neg (by simp;omega)]
  rw[List.take_of_length_le (by omega),List.take_of_length_le (by omega)] at ht
  rw[if_pos ht]
 | succ d ih=>
  intro i hi ht
  have hia:i<a.length:=by omega
  have hib:i<b.length:=by omega
  have ga:a.getD (i:Int).toNat 0=a[i]:=by simp[List.getD,hia]
  have gb:b.getD (i:Int).toNat 0=b[i]:=by simp[List.getD,hib]
  rw[JV,if_pos (decide_eq_true (by omega)),if_pos ⟨by omega,by omega⟩,if_pos ⟨by omega,by omega⟩,ga,gb,nxt i (by omega)]
  by_cases he:a[i]=b[i]
  ·rw[if_neg (by simp[he])]
   exact ih (i+1) (by omega) (by rw[List.take_succ_eq_append_getElem hia,List.take_succ_eq_append_getElem hib,ht,he])
  ·rw[if_pos (by simp[he]),if_neg (by intro e;subst e;exact he rfl)]
theorem Jjv (a b:List Int) (ha:a.length≤900000):VB a b=some (decide (a=b)):=by
 unfold VB
 by_cases hl:a.length=b.length
 ·have h:=JjF a b hl ha a.length 0 (by omega) rfl
  have e:(((↑(List.length a):Int)- (0:Int)).toNat+1)=a.length+1:=by omega
  rw[if_neg (by simp;omega),e]
  refine(congrArg (fun z=>Option.bind z _) h).trans ?_
  by_cases he:a=b
  ·simp[he]
  ·simp[he]
 ·have he:¬a=b:=fun e=>hl (by rw[e])
  rw[if_pos (by simp;omega),decide_eq_false he]
theorem Jjx (a b:List Int) (ha:a.length≤900000):Wp a b=some (decide (a=b)):=by
 by_cases hl:a.length=b.length
 ·exact Cr.bytes_eq a b hl (by omega)
 ·have he:¬a=b:=fun e=>hl (by rw[e])
  unfold Wp
  rw[if_pos (by simp;omega),decide_eq_false he]
theorem JmR (x y:Nat) (hx:x<256) (hy:y<256):bor .i64 (shl .i64 (IntKind.i64.wrap (x:Int)) (8:Int)) (IntKind.i64.wrap (y:Int))=((x*256+y:Nat):Int):=by
 have e1:IntKind.i64.wrap (x:Int)=(x:Int):=Jaw _ (by omega) (by omega)
 have e2:IntKind.i64.wrap (y:Int)=(y:Int):=Jaw _ (by omega) (by omega)
 have e3:shl .i64 (x:Int) (8:Int)=((x*256:Nat):Int):=by
  rw[JmS _ _ _ 256 (by decide)]
  rw[Jaw _ (by omega) (by omega)];omega
 rw[e1,e2,e3]
 have h:=Nat.shiftLeft_add_eq_or_of_lt (i:=8) (b:=y) (by simpa using hy) x
 rw[Nat.shiftLeft_eq] at h
 have h':x*256|||y=x*256+y:=by simpa using h.symm
 unfold bor
 have n1:(BitVec.ofInt IntKind.i64.bits ((x*256:Nat):Int)).toNat=x*256:=by
  rw[BitVec.ofInt_natCast,BitVec.toNat_ofNat];simp[IntKind.bits];omega
 have n2:(BitVec.ofInt IntKind.i64.bits ((y:Nat):Int)).toNat=y:=by
  rw[BitVec.ofInt_natCast,BitVec.toNat_ofNat];simp[IntKind.bits];omega
 rw[BitVec.toNat_or,n1,n2,h']
 exact Jaw _ (by omega) (by omega)
def Gn (b:List Int) (i:Nat):Int×List Int×Int×Int:=
 if b.length-i<7 then(0,[],0,3)
 else if Kin (b.getD i 0) then
  if 2000<(b.getD (i+1) 0).toNat*256+(b.getD (i+2) 0).toNat∨b.length-i- 7<(b.getD (i+1) 0).toNat*256+(b.getD (i+2) 0).toNat then(0,[],0,3)
  else if frm (b.getD i 0) ((b.take (i+7+((b.getD (i+1) 0).toNat*256+(b.getD (i+2) 0).toNat))).drop (i+7))=(b.take (i+7+((b.getD (i+1) 0).toNat*256+(b.getD (i+2) 0).toNat))).drop i then
   (b.getD i 0,(b.take (i+7+((b.getD (i+1) 0).toNat*256+(b.getD (i+2) 0).toNat))).drop (i+7),((i+7+((b.getD (i+1) 0).toNat*256+(b.getD (i+2) 0).toNat):Nat):Int),0)
  else(0,[],0,6)
 else(0,[],0,3)
def G (b:List Int) (at':Int):Int×List Int×Int×Int:=if 0≤at'∧at'≤(b.length:Int) then Gn b at'.toNat else(0,[],0,1)
set_option maxHeartbeats 4000000 in
theorem Jmh {b:List Int} (hB:Byt b) (hb:b.length≤100000) (i:Nat) (hi:i≤b.length):Qq b (i:Int)=some (Gn b i):=by
 have s0:IntKind.i64.wrap ((b.length:Int)- (i:Int))=((b.length-i:Nat):Int):=by rw[Jaw _ (by omega) (by omega)];omega
 unfold Qq Gn
 rw[if_neg (by simp),if_neg (by simp;omega),s0]
 by_cases h7:b.length-i<7
 ·rw[if_pos (decide_eq_true (by omega)),if_pos h7]
 rw[if_neg (by simp;omega),if_neg h7]
 have s7:IntKind.i64.wrap (((b.length-i:Nat):Int)- 7)=((b.length-i- 7:Nat):Int):=by rw[Jaw _ (by omega) (by omega)];omega
 have x0:((i:Int)).toNat=i:=rfl
 have p1:IntKind.i64.wrap ((i:Int)+1)=((i+1:Nat):Int):=nxt i (by omega)
 have p2:IntKind.i64.wrap ((i:Int)+2)=((i+2:Nat):Int):=by rw[Jaw _ (by omega) (by omega)];omega
 have p7:IntKind.i64.wrap ((i:Int)+7)=((i+7:Nat):Int):=by rw[Jaw _ (by omega) (by omega)];omega
 have x1:(((i+1:Nat):Int)).toNat=i+1:=rfl
 have x2:(((i+2:Nat):Int)).toNat=i+2:=rfl
 have x7:(((i+7:Nat):Int)).toNat=i+7:=rfl
 obtain⟨g0,g0'⟩:=hB.get i
 obtain⟨g1,g1'⟩:=hB.get (i+1)
 obtain⟨g2,g2'⟩:=hB.get (i+2)
 have w0:IntKind.i64.wrap (b.getD i 0)=b.getD i 0:=Jaw _ (by omega) (by omega)
 have j:=JmR (b.getD (i+1) 0).toNat (b.getD (i+2) 0).toNat (by omega) (by omega)
 rw[Int.toNat_of_nonneg g1,Int.toNat_of_nonneg g2] at j
 rw[if_pos ⟨by omega,by omega⟩,x0,w0,Jgd,Option.bind_some]
 by_cases hk':¬Kin (b.getD i 0)
 ·rw[if_pos (show (!decide (Kin (b.getD i 0)))=true by rw[decide_eq_false hk'];rfl),if_neg hk']
 have hk:Kin (b.getD i 0):=Decidable.not_not.1 hk'
 rw[if_neg (show ¬(!decide (Kin (b.getD i 0)))=true by rw[decide_eq_true hk];decide),if_pos hk,p1,p2,x1,x2,if_pos ⟨by omega,by omega⟩,if_pos ⟨by omega,by omega⟩,j,p7,x7]
 have hn':(b.getD (i+1) 0).toNat*256+(b.getD (i+2) 0).toNat<65536:=by omega
 clear g0 g0' g1 g1' g2 g2' w0 j s0
 generalize (b.getD (i+1) 0).toNat*256+(b.getD (i+2) 0).toNat=n at*
 by_cases h2:2000<n
 ·have c1:decide ((n:Int)>2000)=true:=decide_eq_true (by omega)
  have c2:2000<n∨b.length-i- 7<n:= .inl h2
  rw[if_pos c1,if_pos c2]
 rw[if_neg (by simp;omega)]
 rw[s7]
 by_cases h3:b.length-i- 7<n
 ·have c1:decide ((n:Int)>((b.length-i- 7:Nat):Int))=true:=decide_eq_true (by omega)
  have c2:2000<n∨b.length-i- 7<n:= .inr h3
  rw[if_pos c1,if_pos c2]
 have pn:IntKind.i64.wrap (((i+7:Nat):Int)+(n:Int))=((i+7+n:Nat):Int):=by rw[Jaw _ (by omega) (by omega)];omega
 have xn:(((i+7+n:Nat):Int)).toNat=i+7+n:=rfl
 have c3:¬decide ((n:Int)>((b.length-i- 7:Nat):Int))=true:=by simp;omega
 have c4:¬(2000<n∨b.length-i- 7<n):=by omega
 have c6:0≤((i+7:Nat):Int)∧((i+7:Nat):Int)≤((i+7+n:Nat):Int)∧((i+7+n:Nat):Int)≤(b.length:Int):=⟨by omega,by omega,by omega⟩
 rw[if_neg c3,if_neg c4,pn,xn,if_pos c6]
 generalize hd':(b.take (i+7+n)).drop (i+7)=d
 have hdl:d.length=n:=by rw[←hd'];simp;omega
 have hdb:Byt d:=by rw[←hd'];exact(hB.take _).drop _
 have c7:0≤(i:Int)∧(i:Int)≤((i+7+n:Nat):Int)∧((i+7+n:Nat):Int)≤(b.length:Int):=⟨by omega,by omega,by omega⟩
 rw[Jdy d (by omega),Option.bind_some,JeQ _ hdb (by omega),Option.bind_some,if_pos c7,Jjv _ _ (by rw[Wt];omega),Option.bind_some]
 by_cases he:frm (b.getD i 0) d=(b.take (i+7+n)).drop i
 ·rw[if_neg (show ¬(!decide (frm (b.getD i 0) d=(b.take (i+7+n)).drop i))=true by rw[decide_eq_true he];decide),if_pos he]
 ·rw[if_pos (show (!decide (frm (b.getD i 0) d=(b.take (i+7+n)).drop i))=true by rw[decide_eq_false he];rfl),if_neg he]
end Go.Fr
/- Frames: got where one stands; parted. -/
namespace Go.Fr
open Go Go.Gw Go.Dk Go.Proofs.Se.D
theorem obs {α β:Type} (a:α) (f:α→Option β):(some a).bind f=f a:=by rw[Option.bind_some]
theorem Jb9 (a l:List Int) (j:Nat):(a++l).getD (a.length+j) 0=l.getD j 0:=by
 simp[List.getD,List.getElem?_append_right]
theorem JmV (k:Int) (d c:List Int):(frm k d++c).getD 0 0=IntKind.u8.wrap k:=rfl
theorem Jm4 (k:Int) (d c:List Int):(frm k d++c).getD 1 0=IntKind.u8.wrap (shr .i64 d.length 8):=rfl
theorem Jng (k:Int) (d c:List Int):(frm k d++c).getD 2 0=IntKind.u8.wrap d.length:=rfl
theorem JjL {k:Int} (h:Kin k):IntKind.u8.wrap k=k:=by rcases h with rfl|rfl<;>decide
theorem JhN (n:Nat) (h:n≤2000):(IntKind.u8.wrap (shr .i64 (n:Int) 8)).toNat*256+(IntKind.u8.wrap (n:Int)).toNat=n:=by
 rw[JmP _ _ _ 256 (by decide) (by decide),Jk7,Jk7];omega
theorem JjO (a c:List Int) {k:Int} {d:List Int} (hk:Kin k) (hl:d.length≤2000):Gn (a++(frm k d++c)) a.length=(k,d,((a.length+7+d.length:Nat):Int),0):=by
 have g0:(a++(frm k d++c)).getD a.length 0=k:=by have:=Jb9 a (frm k d++c) 0;rw[Nat.add_zero] at this;rw[this,JmV,JjL hk]
 have g1:(a++(frm k d++c)).getD (a.length+1) 0=_:=(Jb9 a (frm k d++c) 1).trans (Jm4 k d c)
 have g2:(a++(frm k d++c)).getD (a.length+2) 0=_:=(Jb9 a (frm k d++c) 2).trans (Jng k d c)
 have hlen:(a++(frm k d++c)).length=a.length+(d.length+7+c.length):=by rw[List.length_append,List.length_append,Wt]
 have t1:((a++(frm k d++c)).take (a.length+7+d.length)).drop a.length=frm k d:=by
  rw[show a.length+7+d.length=a.length+(frm k d).length by rw[Wt];omega,List.take_length_add_append,List.drop_left,List.take_left]
 have t2:((a++(frm k d++c)).take (a.length+7+d.length)).drop (a.length+7)=d:=by
  rw[←List.drop_drop,t1];rfl
 unfold Gn
 rw[hlen,g0,g1,g2,JhN _ hl,t1,t2,if_neg (by omega),if_pos hk,if_neg (by omega),if_pos rfl]
theorem Jmj (b:List Int) (i:Nat) (h:b.length<i+7):Gn b i=(0,[],0,3):=by
 unfold Gn;rw[if_pos (by omega)]
theorem JkM (b:List Int) (i:Nat) (h:b.getD i 0=0):Gn b i=(0,[],0,3):=by
 unfold Gn
 rw[h]
 split
 ·rfl
 ·rw[if_neg (by unfold Kin;decide)]
def Ok (l:List (Int×List Int)):Prop:=∀r∈l,Kin r.1∧r.2.length≤2000∧Byt r.2
def fl (l:List (Int×List Int)):List Int:=(l.map fun r=>frm r.1 r.2).flatten
theorem Jar (r:Int×List Int) (l:List (Int×List Int)):fl (r::l)=frm r.1 r.2++fl l:=rfl
theorem Jab (l m:List (Int×List Int)):fl (l++m)=fl l++fl m:=by simp[fl]
theorem Jko (l:List (Int×List Int)):7*l.length≤(fl l).length:=by
 induction l with
 |nil=>simp
 |cons r l ih=>rw[Jar,List.length_append,Wt,List.length_cons];omega
theorem Jkw {l:List (Int×List Int)} (h:Ok l):Byt (fl l):=by
 induction l with
 |nil=>exact Byt.nil
 |cons r l ih=>rw[Jar];exact(Jk3 _ (h r (by simp)).2.2).app (ih fun q hq=>h q (List.mem_cons_of_mem _ hq))
theorem JlF (l:List (Int×List Int)) (hl:l.length≤900000) (hd:∀r∈l,r.2.length≤900000):∀(d i:Nat),i+d=l.length→Xf l l (d+1) (i:Int)=some (.inl ()):=by
 intro d
 induction d with
 |zero=>intro i hi;rw[Xf,if_neg (by simp;omega)]
 |succ d ih=>
  intro i hi
  have hil:i<l.length:=by omega
  have g:l.getD (i:Int).toNat (0,[])=l[i]:=by simp[List.getD,hil]
  rw[Xf,if_pos (decide_eq_true (by omega)),if_pos ⟨by omega,by omega⟩,if_pos ⟨by omega,by omega⟩,if_neg (by simp),g,Jjx _ _ (hd _ (List.getElem_mem hil)),obs,decide_eq_true rfl,if_neg (by decide),nxt i (by omega)]
  exact ih (i+1) (by omega)
theorem Jhq (l:List (Int×List Int)) (hl:l.length≤900000) (hd:∀r∈l,r.2.length≤900000):Ya l l=some true:=by
 have h:=JlF l hl hd l.length 0 (by omega)
 have e:(((↑(List.length l):Int)- (0:Int)).toNat+1)=l.length+1:=by omega
 unfold Ya
 rw[if_neg (by simp),e]
 exact(congrArg (fun z=>Option.bind z _) h).trans rfl
theorem Jd9 (k:Int) (d:List Int):(∃c:Int,(c !=0)=true∧Ww k d=some c)∨(Kin k∧d.length≤2000∧Ww k d=some 0):=by
 by_cases hk:Kin k
 ·by_cases hl:d.length≤2000
  ·exact .inr ⟨hk,hl,JmF hk hl⟩
  ·exact .inl ⟨2,by decide,JjD hk (by omega)⟩
 ·exact .inl ⟨1,by decide,Jlp hk⟩
end Go.Fr
