/- Words of bits under Go's operators on numbers. -/
import Derived.Test.YtdbheiibkpendaaGreatDoorGw0
import Derived.IntWalk
import Derived.Test.YtdbheiibkpendaaGreatDoorSeD
import Derived.KernelRfl
import Derived.Test.YtdbheiibkpendaaGreatDoorMDkA
namespace Go.Cr
open Go Go.Gw
abbrev U {n:Nat} (x:BitVec n):Int:=(x.toNat:Int)
theorem JhL {k:IntKind} (hs:k.signed=false) (x:Int):k.wrap x=x%(2:Int)^k.bits:=by
 cases k<;>simp_all [IntKind.wrap,IntKind.signed,IntKind.bits]
theorem Joz {n:Nat} (x:BitVec n):0≤U x∧U x<(2:Int)^n:=by
 refine⟨Int.natCast_nonneg _,?_⟩
 have:=x.isLt
 exact_mod_cast this
theorem Je7 {k:IntKind} (hs:k.signed=false) (x:BitVec k.bits):k.wrap (U x)=U x:=by
 rw[JhL hs]
 exact Int.emod_eq_of_lt (Joz x).1 (Joz x).2
theorem Jd6 {n:Nat} (x:BitVec n):BitVec.ofInt n (U x)=x:=by
 simp[U,BitVec.ofInt_natCast]
theorem Jm2 {k:IntKind} (hs:k.signed=false) (x y:BitVec k.bits):XG k (U x) (U y)=U (x^^^y):=by
 unfold XG;rw[Jd6,Jd6];exact Je7 hs _
theorem JnC {k:IntKind} (hs:k.signed=false) (x y:BitVec k.bits):Jai k (U x) (U y)=U (x&&&y):=by
 unfold Jai;rw[Jd6,Jd6];exact Je7 hs _
theorem Jm9 {k:IntKind} (x:BitVec k.bits) (b:Int) (m:Nat) (hb:b.toNat=m) (hm:m≤k.bits):shr k (U x) b=U (x>>>m):=by
 unfold shr
 rw[hb,Nat.min_eq_left hm,Int.fdiv_eq_ediv_of_nonneg _ (Int.pow_nonneg (by decide))]
 simp only[U,BitVec.toNat_ushiftRight,Nat.shiftRight_eq_div_pow]
 push_cast;rfl
theorem JmY {k:IntKind} (hs:k.signed=false) {n:Nat} (x:BitVec n):k.wrap (U x)=U (x.setWidth k.bits):=by
 rw[JhL hs];simp only[U,BitVec.toNat_setWidth];push_cast;rfl
theorem isU {k:IntKind} (hs:k.signed=false) {x:Int} (h:(Lit.int k x).wf=true):∃b:BitVec k.bits,x=U b:=by
 have hb:0≤x∧x<(2:Int)^k.bits:=by
  cases k<;>simp_all [Lit.wf,IntKind.signed,IntKind.bits,IntKind.min,IntKind.max]<;>omega
 refine⟨BitVec.ofNat k.bits x.toNat,?_⟩
 simp only[U,BitVec.toNat_ofNat]
 obtain⟨m,rfl⟩:=Int.eq_ofNat_of_zero_le hb.1
 have:m<2^k.bits:=by exact_mod_cast hb.2
 simp[Nat.mod_eq_of_lt this]
theorem areU {l:List Int} (h:∀x∈l,(Lit.int .u8 x).wf=true):∃b:List (BitVec 8),l=b.map U:=by
 induction l with
 |nil=>exact⟨[],rfl⟩
 |cons x r ih=>
  obtain⟨b,hb⟩:=ih fun y hy=>h y (by simp[hy])
  obtain⟨c,hc⟩:=isU (k:= .u8) rfl (h x (by simp))
  exact⟨c::b,by rw[hb,hc];rfl⟩
theorem QF {x:Int} (h0: -9223372036854775808≤x) (h1:x≤9223372036854775807):IntKind.i64.wrap x=x:=by
 rw[IntKind.wrap_i64];omega
theorem Jix {x:Int} (h0:0≤x) (h1:x<18446744073709551616):IntKind.u64.wrap x=x:=by
 rw[JhL rfl];exact Int.emod_eq_of_lt h0 h1
theorem Jlk (b:List (BitVec 8)) (i:Nat) (h:i<b.length):(b.map (U (n:=8))).getD i 0=U b[i]:=by
 simp[List.getD,h]
end Go.Cr
/- The sum of frames as steps of one bit. -/
namespace Go.Cr
open Go Go.Gw
abbrev W:=BitVec 32
def Jnd:W:=0xedb88320#32
def Jju (r:W):W:=(r>>>1)^^^(if r.getLsbD 0 then Jnd else 0#32)
def JbQ:Nat→W→W
 |0,r=>r
 |n+1,r=>JbQ n (Jju r)
theorem JmO {n:Nat} (x y:BitVec n):x^^^(x^^^y)=y:=by rw[←BitVec.xor_assoc,BitVec.xor_self,BitVec.zero_xor]
theorem Jky (x y:W):Jju (x^^^y)=Jju x^^^Jju y:=by
 unfold Jju
 rw[BitVec.ushiftRight_xor_distrib,BitVec.getLsbD_xor]
 generalize x>>>1=a
 generalize y>>>1=b
 cases x.getLsbD 0<;>cases y.getLsbD 0<;>simp only[Bool.xor_false,Bool.xor_true,Bool.not_false,Bool.not_true,Bool.false_eq_true,if_true,if_false,BitVec.xor_zero]
 ·rw[BitVec.xor_assoc]
 ·rw[BitVec.xor_assoc,BitVec.xor_comm b Jnd,←BitVec.xor_assoc]
 ·rw[BitVec.xor_assoc,BitVec.xor_comm b Jnd,JmO]
theorem Jkl (n:Nat):∀x y:W,JbQ n (x^^^y)=JbQ n x^^^JbQ n y:=by
 induction n with
 |zero=>intro x y;rfl
 |succ n ih=>intro x y;simp only[JbQ,Jky,ih]
theorem JgF (n:Nat):∀(m:Nat) (x:W),JbQ (m+n) x=JbQ n (JbQ m x)
 |0,x=>by simp[JbQ]
 |m+1,x=>by rw[Nat.add_right_comm];simp only[JbQ];exact JgF n m _
theorem JkC (n:Nat):∀x:W,(∀i,i<n→x.getLsbD i=false)→JbQ n x=x>>>n:=by
 induction n with
 |zero=>intro x _;simp[JbQ]
 | succ n ih=>
  intro x h
  have h0:Jju x=x>>>1:=by
   unfold Jju
   rw[h 0 (by omega)]
   simp
  simp only[JbQ,h0]
  rw[ih _ fun i hi=>by rw[BitVec.getLsbD_ushiftRight];exact h (1+i) (by omega)]
  rw[←BitVec.shiftRight_add,Nat.add_comm]
theorem Jjo (n:Nat) (x:W):x=(x&&&BitVec.ofNat 32 (2^n- 1))^^^((x>>>n)<<<n):=by
 apply BitVec.eq_of_getLsbD_eq
 intro i hi
 simp only[BitVec.getLsbD_xor,BitVec.getLsbD_and,BitVec.getLsbD_shiftLeft,BitVec.getLsbD_ushiftRight,BitVec.getLsbD_ofNat,Nat.testBit_two_pow_sub_one]
 by_cases h:i<n
 ·simp[h,hi]
 ·simp[h,hi,show n+(i-n)=i by omega]
theorem JkN (n:Nat) (y:W):JbQ n ((y>>>n)<<<n)=y>>>n:=by
 rw[JkC n _ fun i hi=>by simp[BitVec.getLsbD_shiftLeft,hi]]
 apply BitVec.eq_of_getLsbD_eq
 intro i hi
 simp only[BitVec.getLsbD_shiftLeft,BitVec.getLsbD_ushiftRight]
 by_cases h:n+i<32
 ·simp[h,show ¬n+i<n by omega,show n+i-n=i by omega]
 ·simp[h]
  rw[BitVec.getLsbD_of_ge _ _ (by omega)]
theorem Jhu (n:Nat) (x:W):JbQ n x=(x>>>n)^^^JbQ n (x&&&BitVec.ofNat 32 (2^n- 1)):=by
 conv=>lhs;rw[Jjo n x]
 rw[Jkl,JkN,BitVec.xor_comm]
def next (r:W) (c:BitVec 8):W:=JbQ 8 (r^^^c.setWidth 32)
def fold (r:W) (l:List (BitVec 8)):W:=l.foldl next r
def JjD:W:=0xffffffff#32
def sum (l:List (BitVec 8)):W:=fold JjD l^^^JjD
end Go.Cr
/- The sum of frames: what the program's and the page's functions tell is the sum, bit by bit. -/
namespace Go.Cr
open Go Go.Gw Go.Proofs.Se.D
theorem JmW (x:W) (m:Nat) (hm:m≤32):shr .u32 (U x) (m:Int)=U (x>>>m):=Jm9 (k:= .u32) x _ m (by simp) hm
theorem Je6 (x y:W):XG .u32 (U x) (U y)=U (x^^^y):=Jm2 (k:= .u32) rfl x y
theorem Jgd (x y:W):Jai .u32 (U x) (U y)=U (x&&&y):=JnC (k:= .u32) rfl x y
theorem Jk1 (c:BitVec 8):IntKind.u32.wrap (U c)=U (c.setWidth 32):=JmY (k:= .u32) rfl c
def tab:List Int:=(List.range 16).map fun i=>U (JbQ 4 (BitVec.ofNat 32 i))
theorem Jkw:JaW=some tab:=by kernel_rfl
theorem Jmg (x:W) (h:x.toNat<16):tab.getD (U x).toNat 0=U (JbQ 4 x):=by
 have e:x=BitVec.ofNat 32 x.toNat:=by simp
 rw[e]
 generalize x.toNat=i at h
 have hi:(U (BitVec.ofNat 32 i)).toNat=i:=by simp[U];omega
 rw[hi]
 simp[tab,List.getD,h]
theorem Jou (x:W):(x&&&15#32).toNat<16:=by
 rw[BitVec.toNat_and]
 exact Nat.lt_of_le_of_lt Nat.and_le_right (by decide)
theorem nib (x:W):XG .u32 (shr .u32 (U x) (4:Int)) (tab.getD (Jai .u32 (U x) (15:Int)).toNat 0)=U (JbQ 4 x):=by
 have h15:(15:Int)=U (15#32):=by decide
 rw[h15,Jgd,Jmg _ (Jou x)]
 have:=JmW x 4 (by decide)
 rw[show ((4:Nat):Int)=4 from rfl] at this
 rw[this,Je6]
 exact congrArg U (Jhu 4 x).symm
theorem Jla (x:W):0≤Jai .u32 (U x) (15:Int)∧Jai .u32 (U x) (15:Int)<((16:Nat):Int):=by
 have h15:(15:Int)=U (15#32):=by decide
 rw[h15,Jgd]
 have:=Jou x
 simp only[U]
 omega
theorem JjY (r:W) (c:BitVec 8):JbQ 4 (JbQ 4 (r^^^c.setWidth 32))=next r c:=(JgF 4 4 _).symm
theorem JjJ (b:List (BitVec 8)) (hb:b.length≤4611686018427387904):∀(d:Nat) (k i:Nat) (r:W),i+d=b.length→d<k→Xi (b.map U) tab k (U r) (i:Int)=some (U (fold r (b.drop i))):=by
 intro d
 induction d with
 |zero=>
  intro k i r hi hk
  obtain⟨k,rfl⟩:∃m,k=m+1:=⟨k- 1,by omega⟩
  unfold Xi
  rw[if_neg (by simp;omega),List.drop_of_length_le (by omega)]
  rfl
 |succ d ih=>
  intro k i r hi hk
  obtain⟨k,rfl⟩:∃m,k=m+1:=⟨k- 1,by omega⟩
  have hlt:i<b.length:=by omega
  have hg:(b.map U).getD (i:Int).toNat 0=U b[i]:=by rw[Int.toNat_natCast];exact Jlk b i hlt
  unfold Xi
  rw[if_pos (by simp;omega),if_pos (by simp;omega),hg,Jk1,Je6,if_pos (Jla _),nib,if_pos (Jla _),nib,JjY]
  have hw:IntKind.i64.wrap ((i:Int)+1)=((i+1:Nat):Int):=by rw[QF (by omega) (by omega)];rfl
  rw[hw,ih k (i+1) _ (by omega) (by omega)]
  rw[List.drop_eq_getElem_cons hlt]
  rfl
theorem sum_eq (b:List (BitVec 8)) (hb:b.length≤4611686018427387904):Jau (b.map U)=some (U (sum b)):=by
 unfold Jau
 rw[Jkw]
 have h:Xi (b.map U) tab (((↑(List.length (b.map U)):Int)- (0:Int)).toNat+1) (U JjD) (0:Int)=some (U (fold JjD (b.drop 0))):=JjJ b hb b.length _ 0 JjD (by omega) (by simp)
 have e1:(4294967295:Int)=U JjD:=by decide
 simp only[Option.bind_some]
 rw[e1,h]
 simp only[Option.bind_some,Je6]
 rfl
theorem Ji0 (b:List (BitVec 8)) (i:Nat) (hi:i<b.length):∀(d j k:Nat) (r:W),j+d=8→d<k→
  ∃r':W,Wy (b.map U) (i:Int) k (U r) (j:Int)=some (U r')∧r'^^^((b[i].setWidth 32)>>>8)=JbQ d (r^^^((b[i].setWidth 32)>>>j)):=by
 intro d
 induction d with
 |zero=>
  intro j k r hj hk
  obtain⟨k,rfl⟩:∃m,k=m+1:=⟨k- 1,by omega⟩
  obtain rfl:j=8:=by omega
  refine⟨r,?_,rfl⟩
  unfold Wy
  rw[if_neg (by decide)]
 | succ d ih=>
  intro j k r hj hk
  obtain⟨k,rfl⟩:∃m,k=m+1:=⟨k- 1,by omega⟩
  have hg:(b.map U).getD (i:Int).toNat 0=U b[i]:=by rw[Int.toNat_natCast];exact Jlk b i hi
  have hu:IntKind.u64.wrap (j:Int)=(j:Int):=Jix (by omega) (by omega)
  have hw:IntKind.i64.wrap ((j:Int)+1)=((j+1:Nat):Int):=by rw[QF (by omega) (by omega)];rfl
  have hs:shr .u8 (U b[i]) (j:Int)=U (b[i]>>>j):=Jm9 (k:= .u8) _ _ j (by simp) (by simp[IntKind.bits];omega)
  have h1:(1:Int)=U (1#32):=by decide
  have hs1:shr .u32 (U r) (1:Int)=U (r>>>1):=JmW r 1 (by decide)
  have hp:(3988292384:Int)=U Jnd:=by decide
  unfold Wy
  rw[if_pos (by simp;omega),if_pos (by simp;omega),hu,if_pos (by omega),hg,hs,Jk1,hw,hs1,hp,Je6]
  have hcond:((Jai .u32 (U r) (1:Int)) !=(Jai .u32 (U ((b[i]>>>j).setWidth 32)) (1:Int)))=(r^^^((b[i].setWidth 32)>>>j)).getLsbD 0:=by
   rw[h1,Jgd,Jgd]
   have lsb:∀x:W,U (x&&&1#32)=if x.getLsbD 0 then 1 else 0:=fun x=>by
    rw[BitVec.and_one_eq_setWidth_ofBool_getLsbD]
    cases x.getLsbD 0<;>decide
   rw[lsb,lsb,BitVec.getLsbD_xor]
   have e:((b[i]>>>j).setWidth 32).getLsbD 0=((b[i].setWidth 32)>>>j).getLsbD 0:=by
    simp only[BitVec.getLsbD_setWidth,BitVec.getLsbD_ushiftRight]
    simp
    intro h
    omega
   rw[e]
   cases r.getLsbD 0<;>cases ((b[i].setWidth 32)>>>j).getLsbD 0<;>decide
  have hstep:∀t:W,t=Jju (r^^^((b[i].setWidth 32)>>>j))^^^((b[i].setWidth 32)>>>(j+1))→
    ∃r':W,Wy (b.map U) (i:Int) k (U t) ((j+1:Nat):Int)=some (U r')∧r'^^^((b[i].setWidth 32)>>>8)=JbQ (d+1) (r^^^((b[i].setWidth 32)>>>j)):=fun t ht=>by
   obtain⟨r',h1,h2⟩:=ih (j+1) k t (by omega) (by omega)
   refine⟨r',h1,?_⟩
   rw[h2,ht,BitVec.xor_assoc,BitVec.xor_self,BitVec.xor_zero]
   rfl
  have sh:((b[i].setWidth 32)>>>j)>>>1=(b[i].setWidth 32)>>>(j+1):=by rw[←BitVec.shiftRight_add]
  rw[hcond]
  cases hc:(r^^^((b[i].setWidth 32)>>>j)).getLsbD 0 with
  |true=>
   rw[if_pos rfl]
   refine hstep _ ?_
   unfold Jju
   rw[hc,if_pos rfl,BitVec.ushiftRight_xor_distrib,sh]
   generalize (b[i].setWidth 32)>>>(j+1)=y
   generalize r>>>1=z
   rw[BitVec.xor_assoc,BitVec.xor_assoc,BitVec.xor_comm Jnd y,JmO]
  |false=>
   rw[if_neg (by simp)]
   refine hstep _ ?_
   unfold Jju
   rw[hc,BitVec.ushiftRight_xor_distrib,sh]
   generalize (b[i].setWidth 32)>>>(j+1)=y
   generalize r>>>1=z
   simp[BitVec.xor_assoc]
theorem Jjk (c:BitVec 8):(c.setWidth 32:W)>>>8=0#32:=by
 apply BitVec.eq_of_getLsbD_eq
 intro i hi
 simp[BitVec.getLsbD_ushiftRight,BitVec.getLsbD_setWidth]
theorem JiV (b:List (BitVec 8)) (hb:b.length≤4611686018427387904):∀(d:Nat) (k i:Nat) (r:W),i+d=b.length→d<k→WA (b.map U) k (U r) (i:Int)=some (U (fold r (b.drop i))):=by
 intro d
 induction d with
 |zero=>
  intro k i r hi hk
  obtain⟨k,rfl⟩:∃m,k=m+1:=⟨k- 1,by omega⟩
  unfold WA
  rw[if_neg (by simp;omega),List.drop_of_length_le (by omega)]
  rfl
 |succ d ih=>
  intro k i r hi hk
  obtain⟨k,rfl⟩:∃m,k=m+1:=⟨k- 1,by omega⟩
  have hlt:i<b.length:=by omega
  obtain⟨r',h1,h2⟩:=Ji0 b i hlt 8 0 (((8:Int)- (0:Int)).toNat+1) r (by omega) (by decide)
  rw[Jjk,BitVec.xor_zero] at h2
  have h0:(b[i].setWidth 32:W)>>>0=b[i].setWidth 32:=by simp
  rw[h0] at h2
  unfold WA
  rw[if_pos (by simp;omega)]
  rw[show ((0:Nat):Int)=(0:Int) from rfl] at h1
  rw[h1,Option.bind_some,h2]
  have hw:IntKind.i64.wrap ((i:Int)+1)=((i+1:Nat):Int):=by rw[QF (by omega) (by omega)];rfl
  rw[hw,ih k (i+1) _ (by omega) (by omega)]
  rw[List.drop_eq_getElem_cons hlt]
  rfl
theorem page_eq (b:List (BitVec 8)) (hb:b.length≤4611686018427387904):YZ (b.map U)=some (U (sum b)):=by
 unfold YZ
 have h:WA (b.map U) (((↑(List.length (b.map U)):Int)- (0:Int)).toNat+1) (U JjD) (0:Int)=some (U (fold JjD (b.drop 0))):=JiV b hb b.length _ 0 JjD (by omega) (by simp)
 have e1:(4294967295:Int)=U JjD:=by decide
 rw[e1,h]
 simp only[Option.bind_some,Je6]
 rfl
end Go.Cr
/- The laws of the sum of frames: exact; with its sum behind it; held bit by bit; what was forgotten. -/
namespace Go.Cr
open Go Go.Gw Go.Proofs.Se.D
theorem Jdk (a:List Int) (ha:a.length≤4611686018427387904):∀(d k i:Nat),i+d=a.length→d<k→Vc a a k (i:Int)=some (.inl ()):=by
 intro d
 induction d with
 |zero=>
  intro k i hi hk
  obtain⟨k,rfl⟩:∃m,k=m+1:=⟨k- 1,by omega⟩
  unfold Vc
  rw[if_neg (by simp;omega)]
 |succ d ih=>
  intro k i hi hk
  obtain⟨k,rfl⟩:∃m,k=m+1:=⟨k- 1,by omega⟩
  unfold Vc
  have hw:IntKind.i64.wrap ((i:Int)+1)=((i+1:Nat):Int):=by rw[QF (by omega) (by omega)];rfl
  rw[if_pos (by simp;omega),if_pos (by omega),if_pos (by omega),if_neg (by simp),hw,ih k (i+1) (by omega) (by omega)]
theorem same (a:List Int) (ha:a.length≤4611686018427387904):VK a a=some true:=by
 unfold VK
 have h:Vc a a (((↑(List.length a):Int)- (0:Int)).toNat+1) (0:Int)=some (.inl ()):=Jdk a ha a.length _ 0 (by omega) (by simp)
 rw[if_neg (by simp),h]
 rfl
def JoO (n:W):List (BitVec 8):=[n.setWidth 8,(n>>>8).setWidth 8,(n>>>16).setWidth 8,(n>>>24).setWidth 8]
end Go.Cr
/- The law of three texts. -/
namespace Go.Cr
open Go Go.Gw Go.Proofs.Se.D
def JoN:List (BitVec 8)→List (BitVec 8)→List (BitVec 8)→List (BitVec 8)
 |x::a,y::b,z::c=>(x^^^y^^^z)::JoN a b c
 |_,_,_=>[]
def low (a b c:Int):Int:=if(if c<b then c else b)<a then(if c<b then c else b) else a
end Go.Cr
/- The law of texts that differ in bits side by side. -/
namespace Go.Cr
open Go Go.Gw Go.Proofs.Se.D
def Jot (b:Bool):W:=if b then 1#32 else 0#32
def run (s:W) (f:Nat→Bool):Nat→Nat→W
 |_,0=>s
 |n,k+1=>run (Jju (s^^^Jot (f n))) f (n+1) k
def JoD (f:Nat→Bool):Nat→Nat→W
 |_,0=>0#32
 |n,k+1=>Jot (f n)^^^(JoD f (n+1) k<<<1)
def JoH (b:List (BitVec 8)) (p:Nat):Bool:=(b.getD (p/8) 0#8).getLsbD (p%8)
theorem Jhd (a b:List Int) (hl:a.length=b.length) (ha:a.length≤4611686018427387904):∀(d k i:Nat),i+d=a.length→d<k→a.take i=b.take i→
  Vc a b k (i:Int)=some (if a=b then .inl () else .inr false):=by
 intro d
 induction d with
 |zero=>
  intro k i hi hk ht
  obtain⟨k,rfl⟩:∃m,k=m+1:=⟨k- 1,by omega⟩
  unfold Vc
  rw[if_neg (by simp;omega)]
  rw[List.take_of_length_le (by omega),List.take_of_length_le (by omega)] at ht
  rw[if_pos ht]
 | succ d ih=>
  intro k i hi hk ht
  obtain⟨k,rfl⟩:∃m,k=m+1:=⟨k- 1,by omega⟩
  unfold Vc
  have hw:IntKind.i64.wrap ((i:Int)+1)=((i+1:Nat):Int):=by rw[QF (by omega) (by omega)];rfl
  have hia:i<a.length:=by omega
  have hib:i<b.length:=by omega
  have ga:a.getD (i:Int).toNat 0=a[i]:=by simp[List.getD,hia]
  have gb:b.getD (i:Int).toNat 0=b[i]:=by simp[List.getD,hib]
  rw[if_pos (by simp;omega),if_pos (by omega),if_pos (by omega),ga,gb]
  by_cases he:a[i]=b[i]
  ·rw[if_neg (by simp[he]),hw]
   exact ih k (i+1) (by omega) (by omega) (by rw[List.take_succ_eq_append_getElem hia,List.take_succ_eq_append_getElem hib,ht,he])
  ·rw[if_pos (by simp[he]),if_neg (by intro e;subst e;exact he rfl)]
theorem bytes_eq (a b:List Int) (hl:a.length=b.length) (ha:a.length≤4611686018427387904):VK a b=some (decide (a=b)):=by
 unfold VK
 have h:Vc a b (((↑(List.length a):Int)- (0:Int)).toNat+1) (0:Int)=some (if a=b then .inl () else .inr false):=Jhd a b hl ha a.length _ 0 (by omega) (by simp) rfl
 rw[if_neg (by simp[hl]),h]
 by_cases he:a=b
 ·simp[he]
 ·simp[he]
end Go.Cr
/- Frames in plain words: what is sealed, put, got. -/
namespace Go.Fr
open Go Go.Gw Go.Dk Go.Proofs.Se.D
theorem JnU (k:IntKind) (x b d:Int) (h:(2:Int)^(min b.toNat k.bits)=d) (hd:0≤d):shr k x b=x/d:=by
 unfold shr;rw[h,Int.fdiv_eq_ediv_of_nonneg _ hd]
theorem Jok (k:IntKind) (x b d:Int) (h:(2:Int)^(min b.toNat k.bits)=d):shl k x b=k.wrap (x*d):=by
 unfold shl;rw[h]
theorem nxt (i:Nat) (h:i<1000000000):IntKind.i64.wrap ((i:Int)+1)=((i+1:Nat):Int):=by rw[Jag _ (by omega) (by omega)];omega
def Byt (l:List Int):Prop:=∀x∈l,(Lit.int .u8 x).wf=true
theorem wf8 {x:Int}:(Lit.int .u8 x).wf=true↔0≤x∧x<256:=by
 simp[Lit.wf,IntKind.min,IntKind.max,IntKind.signed,IntKind.bits];omega
theorem Jlo (x:Int):IntKind.u8.wrap x=x%256:=by simp[IntKind.wrap,IntKind.signed,IntKind.bits]
theorem Jgm (x:Int):(Lit.int .u8 (IntKind.u8.wrap x)).wf=true:=by rw[wf8,Jlo];omega
theorem Byt.app {a b:List Int} (ha:Byt a) (hb:Byt b):Byt (a++b):=fun x hx=>by
 rcases List.mem_append.1 hx with h|h
 ·exact ha x h
 ·exact hb x h
theorem Byt.left {a b:List Int} (h:Byt (a++b)):Byt a:=fun x hx=>h x (List.mem_append_left _ hx)
theorem Byt.right {a b:List Int} (h:Byt (a++b)):Byt b:=fun x hx=>h x (List.mem_append_right _ hx)
theorem Byt.take {a:List Int} (h:Byt a) (n:Nat):Byt (a.take n):=fun x hx=>h x (List.mem_of_mem_take hx)
theorem Byt.drop {a:List Int} (h:Byt a) (n:Nat):Byt (a.drop n):=fun x hx=>h x (List.mem_of_mem_drop hx)
theorem Byt.nil:Byt []:=fun x hx=>by cases hx
theorem Byt.rep (n:Nat):Byt (List.replicate n 0):=fun x hx=>by rw[List.eq_of_mem_replicate hx];decide
theorem Byt.get {a:List Int} (h:Byt a) (i:Nat):0≤a.getD i 0∧a.getD i 0<256:=by
 by_cases hi:i<a.length
 ·have:=wf8.1 (h _ (List.getElem_mem hi))
  simpa[List.getD,hi] using this
 ·simp[List.getD,List.getElem?_eq_none (Nat.le_of_not_lt hi)]
def JjW (l:List Int):Int:=(Jau l).getD 0
theorem Jlg {l:List Int} (h:Byt l) (hl:l.length≤900000):Jau l=some (JjW l)∧YZ l=some (JjW l)∧0≤JjW l∧JjW l<4294967296:=by
 obtain⟨b,rfl⟩:=Cr.areU h
 have e:=Cr.sum_eq b (by simp at hl;omega)
 have e':=Cr.page_eq b (by simp at hl;omega)
 have c:JjW (b.map Cr.U)=Cr.U (Cr.sum b):=by unfold JjW;rw[e];rfl
 refine⟨by rw[c];exact e,by rw[c];exact e',?_⟩
 rw[c]
 have:=(Cr.sum b).isLt
 simp only[Cr.U]
 omega
def hd (k n:Int):List Int:=[IntKind.u8.wrap k,IntKind.u8.wrap (shr .i64 n (8:Int)),IntKind.u8.wrap n]
def sb (s:Int):List Int:=[IntKind.u8.wrap (shr .u32 s (24:Int)),IntKind.u8.wrap (shr .u32 s (16:Int)),IntKind.u8.wrap (shr .u32 s (8:Int)),IntKind.u8.wrap s]
def frm (k:Int) (d:List Int):List Int:=hd k d.length++(sb (JjW (hd k d.length++d))++d)
theorem Jim (k n:Int):Byt (hd k n):=fun x hx=>by
 simp only[hd,List.mem_cons,List.not_mem_nil,or_false] at hx
 rcases hx with rfl|rfl|rfl<;>exact Jgm _
theorem Jnm (s:Int):Byt (sb s):=fun x hx=>by
 simp only[sb,List.mem_cons,List.not_mem_nil,or_false] at hx
 rcases hx with rfl|rfl|rfl|rfl<;>exact Jgm _
theorem Jjl (k:Int) {d:List Int} (h:Byt d):Byt (frm k d):=(Jim _ _).app ((Jnm _).app h)
theorem VJ (k:Int) (d:List Int):(frm k d).length=d.length+7:=by unfold frm hd sb;simp
theorem Jfd (k:Int) {d:List Int} (h:Byt d) (hl:d.length≤100000):Xj k d=some (frm k d):=by
 have c1:=JaK [hd k d.length,d] (by simp[hd];omega) (by simp)
 have c2:=JaK [hd k d.length,sb (JjW (hd k d.length++d)),d] (by simp[hd,sb];omega) (by simp)
 have f1:[hd k d.length,d].flatten=hd k d.length++d:=by simp
 have f2:[hd k d.length,sb (JjW (hd k d.length++d)),d].flatten=frm k d:=by simp[frm]
 rw[f1] at c1
 rw[f2] at c2
 have hc:=(Jlg ((Jim k d.length).app h) (by simp[hd];omega)).1
 unfold Xj
 refine(congrArg (fun z=>Option.bind z _) c1).trans ?_
 rw[Option.bind_some,hc,Option.bind_some]
 exact(congrArg (fun z=>Option.bind z _) c2).trans rfl
theorem Jgw (k:Int) {d:List Int} (h:Byt d) (hl:d.length≤100000):WR k d=some (frm k d):=by
 have hc:=(Jlg ((Jim k d.length).app h) (by simp[hd];omega)).2.1
 unfold WR
 refine(congrArg (fun z=>Option.bind z _) (JiQ (hd k d.length) (by simp[hd]))).trans ?_
 rw[Option.bind_some,if_pos (by simp[hd];unfold Qa;omega),hc,Option.bind_some,if_pos (by simp;unfold Qa;omega),if_pos (by simp;unfold Qa;omega)]
 simp[frm,hd,sb]
def Kin (k:Int):Prop:=k=1∨k=2
instance (k:Int):Decidable (Kin k):=by unfold Kin;infer_instance
theorem Jgc (k:Int):XJ k=some (decide (Kin k)):=by
 unfold XJ Kin
 by_cases h:k=1
 ·subst h;rfl
 ·rw[if_neg (by simpa using h)];simp[h];rfl
theorem JiI {k:Int} {b d:List Int} (hk:Kin k) (h:Byt d) (hl:d.length≤2000) (hb:b.length≤100000):XR b k d=some (b++frm k d,0):=by
 have c:=JaK [b,frm k d] (by simp[VJ];omega) (by simp)
 have f:[b,frm k d].flatten=b++frm k d:=by simp
 rw[f] at c
 unfold XR
 rw[Jgc,Option.bind_some,if_neg (by simp[hk]),if_neg (by simp;omega),Jfd k h (by omega),Option.bind_some,c,Option.bind_some]
theorem JnD {k:Int} {d:List Int} (hk:Kin k) (hl:d.length≤2000):WS k d=some 0:=by
 unfold WS
 rcases hk with rfl|rfl
 ·rw[if_neg (by decide),if_neg (by simp;omega)]
 ·rw[if_pos (by decide),if_neg (by decide),if_neg (by simp;omega)]
theorem JlN {k:Int} {d:List Int} (hk:¬Kin k):WS k d=some 1:=by
 unfold WS Kin at*
 rw[if_pos (by simp;omega),if_pos (by simp;omega)]
theorem JkP {k:Int} {d:List Int} (hk:Kin k) (hl:2000<d.length):WS k d=some 2:=by
 unfold WS
 rcases hk with rfl|rfl
 ·rw[if_neg (by decide),if_pos (by simp;omega)]
 ·rw[if_pos (by decide),if_neg (by decide),if_pos (by simp;omega)]
theorem JkM (a b:List Int) (hl:a.length=b.length) (ha:a.length≤900000):∀(d i:Nat),i+d=a.length→a.take i=b.take i→
  Vb a b (d+1) (i:Int)=some (if a=b then .inl () else .inr false):=by
 intro d
 induction d with
 |zero=>
  intro i hi ht
  rw[Vb,if_neg (by simp;omega)]
  rw[List.take_of_length_le (by omega),List.take_of_length_le (by omega)] at ht
  rw[if_pos ht]
 | succ d ih=>
  intro i hi ht
  have hia:i<a.length:=by omega
  have hib:i<b.length:=by omega
  have ga:a.getD (i:Int).toNat 0=a[i]:=by simp[List.getD,hia]
  have gb:b.getD (i:Int).toNat 0=b[i]:=by simp[List.getD,hib]
  rw[Vb,if_pos (decide_eq_true (by omega)),if_pos ⟨by omega,by omega⟩,if_pos ⟨by omega,by omega⟩,ga,gb,nxt i (by omega)]
  by_cases he:a[i]=b[i]
  ·rw[if_neg (by simp[he])]
   exact ih (i+1) (by omega) (by rw[List.take_succ_eq_append_getElem hia,List.take_succ_eq_append_getElem hib,ht,he])
  ·rw[if_pos (by simp[he]),if_neg (by intro e;subst e;exact he rfl)]
theorem JkL (a b:List Int) (ha:a.length≤900000):VB a b=some (decide (a=b)):=by
 unfold VB
 by_cases hl:a.length=b.length
 ·have h:=JkM a b hl ha a.length 0 (by omega) rfl
  have e:(((↑(List.length a):Int)- (0:Int)).toNat+1)=a.length+1:=by omega
  rw[if_neg (by simp;omega),e]
  refine(congrArg (fun z=>Option.bind z _) h).trans ?_
  by_cases he:a=b
  ·simp[he]
  ·simp[he]
 ·have he:¬a=b:=fun e=>hl (by rw[e])
  rw[if_pos (by simp;omega),decide_eq_false he]
theorem JdO (a b:List Int) (ha:a.length≤900000):VK a b=some (decide (a=b)):=by
 by_cases hl:a.length=b.length
 ·exact Cr.bytes_eq a b hl (by omega)
 ·have he:¬a=b:=fun e=>hl (by rw[e])
  unfold VK
  rw[if_pos (by simp;omega),decide_eq_false he]
theorem Jm4 (x y:Nat) (hx:x<256) (hy:y<256):bor .i64 (shl .i64 (IntKind.i64.wrap (x:Int)) (8:Int)) (IntKind.i64.wrap (y:Int))=((x*256+y:Nat):Int):=by
 have e1:IntKind.i64.wrap (x:Int)=(x:Int):=Jag _ (by omega) (by omega)
 have e2:IntKind.i64.wrap (y:Int)=(y:Int):=Jag _ (by omega) (by omega)
 have e3:shl .i64 (x:Int) (8:Int)=((x*256:Nat):Int):=by
  rw[Jok _ _ _ 256 (by decide)]
  rw[Jag _ (by omega) (by omega)];omega
 rw[e1,e2,e3]
 have h:=Nat.shiftLeft_add_eq_or_of_lt (i:=8) (b:=y) (by simpa using hy) x
 rw[Nat.shiftLeft_eq] at h
 have h':x*256|||y=x*256+y:=by simpa using h.symm
 unfold bor
 have n1:(BitVec.ofInt IntKind.i64.bits ((x*256:Nat):Int)).toNat=x*256:=by
  rw[BitVec.ofInt_natCast,BitVec.toNat_ofNat];simp[IntKind.bits];omega
 have n2:(BitVec.ofInt IntKind.i64.bits ((y:Nat):Int)).toNat=y:=by
  rw[BitVec.ofInt_natCast,BitVec.toNat_ofNat];simp[IntKind.bits];omega
 rw[BitVec.toNat_or,n1,n2,h']
 exact Jag _ (by omega) (by omega)
def Gn (b:List Int) (i:Nat):Int×List Int×Int×Int:=
 if b.length-i<7 then(0,[],0,3)
 else if Kin (b.getD i 0) then
  if 2000<(b.getD (i+1) 0).toNat*256+(b.getD (i+2) 0).toNat∨b.length-i- 7<(b.getD (i+1) 0).toNat*256+(b.getD (i+2) 0).toNat then(0,[],0,3)
  else if frm (b.getD i 0) ((b.take (i+7+((b.getD (i+1) 0).toNat*256+(b.getD (i+2) 0).toNat))).drop (i+7))=(b.take (i+7+((b.getD (i+1) 0).toNat*256+(b.getD (i+2) 0).toNat))).drop i then
   (b.getD i 0,(b.take (i+7+((b.getD (i+1) 0).toNat*256+(b.getD (i+2) 0).toNat))).drop (i+7),((i+7+((b.getD (i+1) 0).toNat*256+(b.getD (i+2) 0).toNat):Nat):Int),0)
  else(0,[],0,6)
 else(0,[],0,3)
def G (b:List Int) (at':Int):Int×List Int×Int×Int:=if 0≤at'∧at'≤(b.length:Int) then Gn b at'.toNat else(0,[],0,1)
set_option maxHeartbeats 4000000 in
theorem Jnk {b:List Int} (hB:Byt b) (hb:b.length≤100000) (i:Nat) (hi:i≤b.length):QK b (i:Int)=some (Gn b i):=by
 have s0:IntKind.i64.wrap ((b.length:Int)- (i:Int))=((b.length-i:Nat):Int):=by rw[Jag _ (by omega) (by omega)];omega
 unfold QK Gn
 rw[if_neg (by simp),if_neg (by simp;omega),s0]
 by_cases h7:b.length-i<7
 ·rw[if_pos (decide_eq_true (by omega)),if_pos h7]
 rw[if_neg (by simp;omega),if_neg h7]
 have s7:IntKind.i64.wrap (((b.length-i:Nat):Int)- 7)=((b.length-i- 7:Nat):Int):=by rw[Jag _ (by omega) (by omega)];omega
 have x0:((i:Int)).toNat=i:=rfl
 have p1:IntKind.i64.wrap ((i:Int)+1)=((i+1:Nat):Int):=nxt i (by omega)
 have p2:IntKind.i64.wrap ((i:Int)+2)=((i+2:Nat):Int):=by rw[Jag _ (by omega) (by omega)];omega
 have p7:IntKind.i64.wrap ((i:Int)+7)=((i+7:Nat):Int):=by rw[Jag _ (by omega) (by omega)];omega
 have x1:(((i+1:Nat):Int)).toNat=i+1:=rfl
 have x2:(((i+2:Nat):Int)).toNat=i+2:=rfl
 have x7:(((i+7:Nat):Int)).toNat=i+7:=rfl
 obtain⟨g0,g0'⟩:=hB.get i
 obtain⟨g1,g1'⟩:=hB.get (i+1)
 obtain⟨g2,g2'⟩:=hB.get (i+2)
 have w0:IntKind.i64.wrap (b.getD i 0)=b.getD i 0:=Jag _ (by omega) (by omega)
 have j:=Jm4 (b.getD (i+1) 0).toNat (b.getD (i+2) 0).toNat (by omega) (by omega)
 rw[Int.toNat_of_nonneg g1,Int.toNat_of_nonneg g2] at j
 rw[if_pos ⟨by omega,by omega⟩,x0,w0,Jgc,Option.bind_some]
 by_cases hk':¬Kin (b.getD i 0)
 ·rw[if_pos (show (!decide (Kin (b.getD i 0)))=true by rw[decide_eq_false hk'];rfl),if_neg hk']
 have hk:Kin (b.getD i 0):=Decidable.not_not.1 hk'
 rw[if_neg (show ¬(!decide (Kin (b.getD i 0)))=true by rw[decide_eq_true hk];decide),if_pos hk,p1,p2,x1,x2,if_pos ⟨by omega,by omega⟩,if_pos ⟨by omega,by omega⟩,j,p7,x7]
 have hn':(b.getD (i+1) 0).toNat*256+(b.getD (i+2) 0).toNat<65536:=by omega
 clear g0 g0' g1 g1' g2 g2' w0 j s0
 generalize (b.getD (i+1) 0).toNat*256+(b.getD (i+2) 0).toNat=n at*
 by_cases h2:2000<n
 ·have c1:decide ((n:Int)>2000)=true:=decide_eq_true (by omega)
  have c2:2000<n∨b.length-i- 7<n:= .inl h2
  rw[if_pos c1,if_pos c2]
 rw[if_neg (by simp;omega)]
 rw[s7]
 by_cases h3:b.length-i- 7<n
 ·have c1:decide ((n:Int)>((b.length-i- 7:Nat):Int))=true:=decide_eq_true (by omega)
  have c2:2000<n∨b.length-i- 7<n:= .inr h3
  rw[if_pos c1,if_pos c2]
 have pn:IntKind.i64.wrap (((i+7:Nat):Int)+(n:Int))=((i+7+n:Nat):Int):=by rw[Jag _ (by omega) (by omega)];omega
 have xn:(((i+7+n:Nat):Int)).toNat=i+7+n:=rfl
 have c3:¬decide ((n:Int)>((b.length-i- 7:Nat):Int))=true:=by simp;omega
 have c4:¬(2000<n∨b.length-i- 7<n):=by omega
 have c6:0≤((i+7:Nat):Int)∧((i+7:Nat):Int)≤((i+7+n:Nat):Int)∧((i+7+n:Nat):Int)≤(b.length:Int):=⟨by omega,by omega,by omega⟩
 rw[if_neg c3,if_neg c4,pn,xn,if_pos c6]
 generalize hd':(b.take (i+7+n)).drop (i+7)=d
 have hdl:d.length=n:=by rw[←hd'];simp;omega
 have hdb:Byt d:=by rw[←hd'];exact(hB.take _).drop _
 have c7:0≤(i:Int)∧(i:Int)≤((i+7+n:Nat):Int)∧((i+7+n:Nat):Int)≤(b.length:Int):=⟨by omega,by omega,by omega⟩
 rw[Jdo d (by omega),Option.bind_some,Jfd _ hdb (by omega),Option.bind_some,if_pos c7,JkL _ _ (by rw[VJ];omega),Option.bind_some]
 by_cases he:frm (b.getD i 0) d=(b.take (i+7+n)).drop i
 ·rw[if_neg (show ¬(!decide (frm (b.getD i 0) d=(b.take (i+7+n)).drop i))=true by rw[decide_eq_true he];decide),if_pos he]
 ·rw[if_pos (show (!decide (frm (b.getD i 0) d=(b.take (i+7+n)).drop i))=true by rw[decide_eq_false he];rfl),if_neg he]
end Go.Fr
/- Frames: got where one stands; parted. -/
namespace Go.Fr
open Go Go.Gw Go.Dk Go.Proofs.Se.D
theorem obs {α β:Type} (a:α) (f:α→Option β):(some a).bind f=f a:=by rw[Option.bind_some]
theorem Jbm (a l:List Int) (j:Nat):(a++l).getD (a.length+j) 0=l.getD j 0:=by
 simp[List.getD,List.getElem?_append_right]
theorem JnX (k:Int) (d c:List Int):(frm k d++c).getD 0 0=IntKind.u8.wrap k:=rfl
theorem Joq (k:Int) (d c:List Int):(frm k d++c).getD 1 0=IntKind.u8.wrap (shr .i64 d.length 8):=rfl
theorem Jog (k:Int) (d c:List Int):(frm k d++c).getD 2 0=IntKind.u8.wrap d.length:=rfl
theorem Jj9 {k:Int} (h:Kin k):IntKind.u8.wrap k=k:=by rcases h with rfl|rfl<;>decide
theorem Jek (n:Nat) (h:n≤2000):(IntKind.u8.wrap (shr .i64 (n:Int) 8)).toNat*256+(IntKind.u8.wrap (n:Int)).toNat=n:=by
 rw[JnU _ _ _ 256 (by decide) (by decide),Jlo,Jlo];omega
theorem Jgl (a c:List Int) {k:Int} {d:List Int} (hk:Kin k) (hl:d.length≤2000):Gn (a++(frm k d++c)) a.length=(k,d,((a.length+7+d.length:Nat):Int),0):=by
 have g0:(a++(frm k d++c)).getD a.length 0=k:=by have:=Jbm a (frm k d++c) 0;rw[Nat.add_zero] at this;rw[this,JnX,Jj9 hk]
 have g1:(a++(frm k d++c)).getD (a.length+1) 0=_:=(Jbm a (frm k d++c) 1).trans (Joq k d c)
 have g2:(a++(frm k d++c)).getD (a.length+2) 0=_:=(Jbm a (frm k d++c) 2).trans (Jog k d c)
 have hlen:(a++(frm k d++c)).length=a.length+(d.length+7+c.length):=by rw[List.length_append,List.length_append,VJ]
 have t1:((a++(frm k d++c)).take (a.length+7+d.length)).drop a.length=frm k d:=by
  rw[show a.length+7+d.length=a.length+(frm k d).length by rw[VJ];omega,List.take_length_add_append,List.drop_left,List.take_left]
 have t2:((a++(frm k d++c)).take (a.length+7+d.length)).drop (a.length+7)=d:=by
  rw[←List.drop_drop,t1];rfl
 unfold Gn
 rw[hlen,g0,g1,g2,Jek _ hl,t1,t2,if_neg (by omega),if_pos hk,if_neg (by omega),if_pos rfl]
theorem Jm6 (b:List Int) (i:Nat) (h:b.length<i+7):Gn b i=(0,[],0,3):=by
 unfold Gn;rw[if_pos (by omega)]
theorem Jlv (b:List Int) (i:Nat) (h:b.getD i 0=0):Gn b i=(0,[],0,3):=by
 unfold Gn
 rw[h]
 split
 ·rfl
 ·rw[if_neg (by unfold Kin;decide)]
def Ok (l:List (Int×List Int)):Prop:=∀r∈l,Kin r.1∧r.2.length≤2000∧Byt r.2
def fl (l:List (Int×List Int)):List Int:=(l.map fun r=>frm r.1 r.2).flatten
theorem Qs (r:Int×List Int) (l:List (Int×List Int)):fl (r::l)=frm r.1 r.2++fl l:=rfl
theorem JaJ (l m:List (Int×List Int)):fl (l++m)=fl l++fl m:=by simp[fl]
theorem Jle (l:List (Int×List Int)):7*l.length≤(fl l).length:=by
 induction l with
 |nil=>simp
 |cons r l ih=>rw[Qs,List.length_append,VJ,List.length_cons];omega
theorem JiH {l:List (Int×List Int)} (h:Ok l):Byt (fl l):=by
 induction l with
 |nil=>exact Byt.nil
 |cons r l ih=>rw[Qs];exact(Jjl _ (h r (by simp)).2.2).app (ih fun q hq=>h q (List.mem_cons_of_mem _ hq))
theorem JlR (l:List (Int×List Int)) (hl:l.length≤900000) (hd:∀r∈l,r.2.length≤900000):∀(d i:Nat),i+d=l.length→Wx l l (d+1) (i:Int)=some (.inl ()):=by
 intro d
 induction d with
 |zero=>intro i hi;rw[Wx,if_neg (by simp;omega)]
 |succ d ih=>
  intro i hi
  have hil:i<l.length:=by omega
  have g:l.getD (i:Int).toNat (0,[])=l[i]:=by simp[List.getD,hil]
  rw[Wx,if_pos (decide_eq_true (by omega)),if_pos ⟨by omega,by omega⟩,if_pos ⟨by omega,by omega⟩,if_neg (by simp),g,JdO _ _ (hd _ (List.getElem_mem hil)),obs,decide_eq_true rfl,if_neg (by decide),nxt i (by omega)]
  exact ih (i+1) (by omega)
theorem Jh6 (l:List (Int×List Int)) (hl:l.length≤900000) (hd:∀r∈l,r.2.length≤900000):WF l l=some true:=by
 have h:=JlR l hl hd l.length 0 (by omega)
 have e:(((↑(List.length l):Int)- (0:Int)).toNat+1)=l.length+1:=by omega
 unfold WF
 rw[if_neg (by simp),e]
 exact(congrArg (fun z=>Option.bind z _) h).trans rfl
theorem Jiy (k:Int) (d:List Int):(∃c:Int,(c !=0)=true∧WS k d=some c)∨(Kin k∧d.length≤2000∧WS k d=some 0):=by
 by_cases hk:Kin k
 ·by_cases hl:d.length≤2000
  ·exact .inr ⟨hk,hl,JnD hk hl⟩
  ·exact .inl ⟨2,by decide,JkP hk (by omega)⟩
 ·exact .inl ⟨1,by decide,JlN hk⟩
end Go.Fr
/- What the page gets of bytes. -/
namespace Go.Fr
open Go Go.Gw Go.Dk Go.Proofs.Se.D
set_option maxHeartbeats 4000000 in
theorem Jjr {b:List Int} (hB:Byt b) (hb:b.length≤100000) (i:Nat) (hi:i≤b.length):YW b (i:Int)=some (Gn b i):=by
 have s0:IntKind.i64.wrap ((b.length:Int)- (i:Int))=((b.length-i:Nat):Int):=by rw[Jag _ (by omega) (by omega)];omega
 have hin:JaU (i:Int) 0 (b.length:Int)=some true:=by
  unfold JaU
  rw[if_pos (decide_eq_true (by omega)),decide_eq_true (by omega)]
 unfold YW Gn
 rw[hin,obs,if_neg (by decide),s0]
 by_cases h7:b.length-i<7
 ·rw[if_pos (decide_eq_true (by omega)),if_pos h7]
 rw[if_neg (by simp;omega),if_neg h7]
 have s7:IntKind.i64.wrap (((b.length-i:Nat):Int)- 7)=((b.length-i- 7:Nat):Int):=by rw[Jag _ (by omega) (by omega)];omega
 have x0:((i:Int)).toNat=i:=rfl
 have p1:IntKind.i64.wrap ((i:Int)+1)=((i+1:Nat):Int):=nxt i (by omega)
 have p2:IntKind.i64.wrap ((i:Int)+2)=((i+2:Nat):Int):=by rw[Jag _ (by omega) (by omega)];omega
 have p7:IntKind.i64.wrap ((i:Int)+7)=((i+7:Nat):Int):=by rw[Jag _ (by omega) (by omega)];omega
 have x1:(((i+1:Nat):Int)).toNat=i+1:=rfl
 have x2:(((i+2:Nat):Int)).toNat=i+2:=rfl
 have x7:(((i+7:Nat):Int)).toNat=i+7:=rfl
 obtain⟨g0,g0'⟩:=hB.get i
 obtain⟨g1,g1'⟩:=hB.get (i+1)
 obtain⟨g2,g2'⟩:=hB.get (i+2)
 have w0:IntKind.i64.wrap (b.getD i 0)=b.getD i 0:=Jag _ (by omega) (by omega)
 have j:=Jm4 (b.getD (i+1) 0).toNat (b.getD (i+2) 0).toNat (by omega) (by omega)
 rw[Int.toNat_of_nonneg g1,Int.toNat_of_nonneg g2] at j
 have q0:0≤(i:Int)∧(i:Int)<(b.length:Int):=⟨by omega,by omega⟩
 have q1:0≤((i+1:Nat):Int)∧((i+1:Nat):Int)<(b.length:Int):=⟨by omega,by omega⟩
 have q2:0≤((i+2:Nat):Int)∧((i+2:Nat):Int)<(b.length:Int):=⟨by omega,by omega⟩
 rw[p1,p2,p7,x0,x1,x2,x7,w0,j,s7,if_pos q0,if_pos q1,if_pos q2]
 have hn':(b.getD (i+1) 0).toNat*256+(b.getD (i+2) 0).toNat<65536:=by omega
 clear g1 g1' g2 g2' w0 j s0
 generalize (b.getD (i+1) 0).toNat*256+(b.getD (i+2) 0).toNat=n at*
 have pn:IntKind.i64.wrap (((i+7:Nat):Int)+(n:Int))=((i+7+n:Nat):Int):=by rw[Jag _ (by omega) (by omega)];omega
 have xn:(((i+7+n:Nat):Int)).toNat=i+7+n:=rfl
 rw[pn,xn]
 by_cases hk':¬Kin (b.getD i 0)
 ·have k1:(b.getD i 0 !=(1:Int))=true:=by unfold Kin at hk';simp only[bne_iff_ne,ne_eq];omega
  have k2:(b.getD i 0 !=(2:Int))=true:=by unfold Kin at hk';simp only[bne_iff_ne,ne_eq];omega
  rw[if_pos k1,if_pos k2,if_neg hk']
 have hk:Kin (b.getD i 0):=Decidable.not_not.1 hk'
 rw[if_pos hk]
 have main:(if(decide ((n:Int)>(2000:Int)))=true then some ((0:Int),([]:List Int),(0:Int),(3:Int)) else if(decide (((b.length-i- 7:Nat):Int)<(n:Int)))=true then some ((0:Int),[],(0:Int),(3:Int)) else if 0≤((i+7:Nat):Int)∧((i+7:Nat):Int)≤((i+7+n:Nat):Int)∧((i+7+n:Nat):Int)≤(b.length:Int) then(XO ((b.take (i+7+n)).drop (i+7))).bind (fun a15=>(WR (b.getD i 0) a15).bind (fun a17=>if 0≤(i:Int)∧(i:Int)≤((i+7+n:Nat):Int)∧((i+7+n:Nat):Int)≤(b.length:Int) then(VK a17 ((b.take (i+7+n)).drop i)).bind (fun b20=>if(!b20)=true then some ((0:Int),[],(0:Int),(6:Int)) else some (b.getD i 0,a15,((i+7+n:Nat):Int),(0:Int))) else none)) else none)
   = some (if 2000<n∨b.length-i- 7<n then(0,[],0,3)
    else if frm (b.getD i 0) ((b.take (i+7+n)).drop (i+7))=(b.take (i+7+n)).drop i then
     (b.getD i 0,(b.take (i+7+n)).drop (i+7),((i+7+n:Nat):Int),0)
    else(0,[],0,6)):=by
  by_cases h2:2000<n
  ·have c1:decide ((n:Int)>2000)=true:=decide_eq_true (by omega)
   have c2:2000<n∨b.length-i- 7<n:= .inl h2
   rw[if_pos c1,if_pos c2]
  rw[if_neg (by simp;omega)]
  by_cases h3:b.length-i- 7<n
  ·have c1:decide (((b.length-i- 7:Nat):Int)<(n:Int))=true:=decide_eq_true (by omega)
   have c2:2000<n∨b.length-i- 7<n:= .inr h3
   rw[if_pos c1,if_pos c2]
  have c3:¬decide (((b.length-i- 7:Nat):Int)<(n:Int))=true:=by simp;omega
  have c4:¬(2000<n∨b.length-i- 7<n):=by omega
  have c6:0≤((i+7:Nat):Int)∧((i+7:Nat):Int)≤((i+7+n:Nat):Int)∧((i+7+n:Nat):Int)≤(b.length:Int):=⟨by omega,by omega,by omega⟩
  have c7:0≤(i:Int)∧(i:Int)≤((i+7+n:Nat):Int)∧((i+7+n:Nat):Int)≤(b.length:Int):=⟨by omega,by omega,by omega⟩
  rw[if_neg c3,if_neg c4,if_pos c6]
  generalize hd':(b.take (i+7+n)).drop (i+7)=d
  have hdl:d.length=n:=by rw[←hd'];simp;omega
  have hdb:Byt d:=by rw[←hd'];exact(hB.take _).drop _
  rw[JiQ d (by omega),obs,Jgw _ hdb (by omega),obs,if_pos c7,JdO _ _ (by rw[VJ];omega),obs]
  by_cases he:frm (b.getD i 0) d=(b.take (i+7+n)).drop i
  ·rw[if_neg (show ¬(!decide (frm (b.getD i 0) d=(b.take (i+7+n)).drop i))=true by rw[decide_eq_true he];decide),if_pos he]
  ·rw[if_pos (show (!decide (frm (b.getD i 0) d=(b.take (i+7+n)).drop i))=true by rw[decide_eq_false he];rfl),if_neg he]
 by_cases k1:(b.getD i 0 !=(1:Int))=true
 ·have k2:¬(b.getD i 0 !=(2:Int))=true:=by unfold Kin at hk;simp only[bne_iff_ne,ne_eq] at k1 ⊢;omega
  rw[if_pos k1,if_neg k2]
  exact main
 ·rw[if_neg k1]
  exact main
end Go.Fr
