/- Number facts: the operations of words as plain arithmetic. -/
import Derived.Test.YtdcdanfeepncmaaGw0
import Derived.Test.YtdcdanfeepncmaaGwI0
import Derived.IntWalk
import Derived.Test.YtdcdanfeepncmaaSbD
import Derived.KernelRfl
namespace Go.Pn
open Go Go.Gw
theorem w64 (x : Int) : IntKind.u64.wrap x = x % 18446744073709551616 := by simp [IntKind.wrap, IntKind.bits, IntKind.signed]
theorem w8 (x : Int) : IntKind.u8.wrap x = x % 256 := by simp [IntKind.wrap, IntKind.bits, IntKind.signed]
theorem shr_u (k : IntKind) (x b d : Int) (h : (2 : Int) ^ (min b.toNat k.bits) = d) (hd : 0 ≤ d) : shr k x b = x / d := by
  unfold shr; rw [h, Int.fdiv_eq_ediv_of_nonneg _ hd]
theorem shl_u (k : IntKind) (x b d : Int) (h : (2 : Int) ^ (min b.toNat k.bits) = d) : shl k x b = k.wrap (x * d) := by
  unfold shl; rw [h]
theorem ofInt_toNat (n : Nat) (x : Int) (h0 : 0 ≤ x) (h1 : x < 2 ^ n) : (BitVec.ofInt n x).toNat = x.toNat := by
  rw [BitVec.toNat_ofInt, Int.emod_eq_of_lt h0 (by exact_mod_cast h1)]
theorem band_toNat {k : IntKind} (hk : ∀ x : Int, 0 ≤ x → x < 2 ^ k.bits → k.wrap x = x) (x y : Int) (h0 : 0 ≤ x) (h1 : x < 2 ^ k.bits) (h2 : 0 ≤ y) (h3 : y < 2 ^ k.bits) : band k x y = ((x.toNat &&& y.toNat : Nat) : Int) := by
  unfold band
  rw [BitVec.toNat_and, ofInt_toNat _ _ h0 h1, ofInt_toNat _ _ h2 h3, hk]
  · exact Int.natCast_nonneg _
  · have : (x.toNat &&& y.toNat) < 2 ^ k.bits := Nat.and_lt_two_pow _ (by have := Int.toNat_of_nonneg h2; exact_mod_cast (by rw [this]; exact h3 : ((y.toNat : Nat) : Int) < 2 ^ k.bits))
    exact_mod_cast this
theorem bor_toNat {k : IntKind} (hk : ∀ x : Int, 0 ≤ x → x < 2 ^ k.bits → k.wrap x = x) (x y : Int) (h0 : 0 ≤ x) (h1 : x < 2 ^ k.bits) (h2 : 0 ≤ y) (h3 : y < 2 ^ k.bits) : bor k x y = ((x.toNat ||| y.toNat : Nat) : Int) := by
  unfold bor
  rw [BitVec.toNat_or, ofInt_toNat _ _ h0 h1, ofInt_toNat _ _ h2 h3, hk]
  · exact Int.natCast_nonneg _
  · have a1 : x.toNat < 2 ^ k.bits := by have := Int.toNat_of_nonneg h0; exact_mod_cast (by rw [this]; exact h1 : ((x.toNat : Nat) : Int) < 2 ^ k.bits)
    have a2 : y.toNat < 2 ^ k.bits := by have := Int.toNat_of_nonneg h2; exact_mod_cast (by rw [this]; exact h3 : ((y.toNat : Nat) : Int) < 2 ^ k.bits)
    exact_mod_cast Nat.or_lt_two_pow a1 a2
theorem k64 (x : Int) (h0 : 0 ≤ x) (h1 : x < 2 ^ IntKind.u64.bits) : IntKind.u64.wrap x = x := by
  rw [w64]; exact Int.emod_eq_of_lt h0 h1
theorem k8 (x : Int) (h0 : 0 ≤ x) (h1 : x < 2 ^ IntKind.u8.bits) : IntKind.u8.wrap x = x := by
  rw [w8]; exact Int.emod_eq_of_lt h0 h1
/-- a mask of the low bits -/
theorem band_mask {k : IntKind} (hk : ∀ x : Int, 0 ≤ x → x < 2 ^ k.bits → k.wrap x = x) (n : Nat) (hn : n ≤ k.bits) (x m d : Int) (hm : m = d - 1) (hd : d = 2 ^ n) (h0 : 0 ≤ x) (h1 : x < 2 ^ k.bits) : band k x m = x % d := by
  have hp : (0 : Int) < 2 ^ n := Int.pow_pos (by decide)
  have hle : (2 : Int) ^ n ≤ 2 ^ k.bits := by exact_mod_cast Nat.pow_le_pow_right (by decide) hn
  rw [band_toNat hk x m h0 h1 (by omega) (by omega)]
  have e : m.toNat = 2 ^ n - 1 := by
    have : ((2 ^ n : Nat) : Int) = d := by rw [hd]; simp
    omega
  rw [e, Nat.and_two_pow_sub_one_eq_mod]
  rw [hd]; simp only [Int.natCast_emod, Int.natCast_pow, Int.toNat_of_nonneg h0]; rfl
theorem or_disj (n x y : Nat) (hy : y < 2 ^ n) : (x * 2 ^ n ||| y) = x * 2 ^ n + y := by
  rw [Nat.mul_comm]; exact (Nat.two_pow_add_eq_or_of_lt hy x).symm
/-- two words that share no bit -/
theorem bor_hi_lo {k : IntKind} (hk : ∀ x : Int, 0 ≤ x → x < 2 ^ k.bits → k.wrap x = x) (n : Nat) (x y d : Int) (hd : d = 2 ^ n) (h0 : 0 ≤ x) (h1 : x < 2 ^ k.bits) (hx : x % d = 0) (h2 : 0 ≤ y) (h3 : y < 2 ^ k.bits) (hy : y < d) : bor k x y = x + y := by
  rw [bor_toNat hk x y h0 h1 h2 h3]
  subst hd
  have hp : (0 : Int) < 2 ^ n := Int.pow_pos (by decide)
  obtain ⟨z, hz⟩ : ∃ z : Nat, x = z * 2 ^ n := by
    refine ⟨(x / 2 ^ n).toNat, ?_⟩
    have a := Int.mul_ediv_add_emod x (2 ^ n)
    have b : 0 ≤ x / 2 ^ n := Int.ediv_nonneg h0 (Int.le_of_lt hp)
    rw [Int.toNat_of_nonneg b, Int.mul_comm]; omega
  have hz' : x.toNat = z * 2 ^ n := by
    have : ((z * 2 ^ n : Nat) : Int) = x := by rw [hz]; simp
    omega
  have hy' : y.toNat < 2 ^ n := by
    have : ((2 ^ n : Nat) : Int) = 2 ^ n := by simp
    omega
  rw [hz', or_disj n z _ hy']
  have : ((z * 2 ^ n : Nat) : Int) = x := by rw [hz]; simp
  omega
theorem bor_lo_hi {k : IntKind} (hk : ∀ x : Int, 0 ≤ x → x < 2 ^ k.bits → k.wrap x = x) (n : Nat) (x y d : Int) (hd : d = 2 ^ n) (h0 : 0 ≤ x) (h1 : x < 2 ^ k.bits) (hx : x < d) (h2 : 0 ≤ y) (h3 : y < 2 ^ k.bits) (hy : y % d = 0) : bor k x y = x + y := by
  have e : bor k x y = bor k y x := by unfold bor; rw [BitVec.or_comm]
  rw [e, bor_hi_lo hk n y x d hd h2 h3 hy h0 h1 hx]; omega
end Go.Pn
/- The words of a number modulo 2^255 - 19: what each function of the limb layer computes. -/
namespace Go.Pn
open Go Go.Gw Go.Proofs.Sb.D
def cstep (x c : Int) : Int × Int := (band .u64 (IntKind.u64.wrap (x + c)) 2251799813685247, shr .u64 (IntKind.u64.wrap (x + c)) 51)
theorem carried_eq (x0 x1 x2 x3 x4 : Int) : limb_carried [x0, x1, x2, x3, x4] =
    (let s0 := cstep x0 0; let s1 := cstep x1 s0.2; let s2 := cstep x2 s1.2; let s3 := cstep x3 s2.2; let s4 := cstep x4 s3.2
     some [IntKind.u64.wrap (s0.1 + IntKind.u64.wrap (19 * s4.2)), s1.1, s2.1, s3.1, s4.1]) := by kernel_rfl
theorem cstep_ok (x c : Int) (h0 : 0 ≤ x) (h1 : 0 ≤ c) (h2 : x + c < 18446744073709551616) :
    ∃ y d, cstep x c = (y, d) ∧ 0 ≤ y ∧ y < 2251799813685248 ∧ 0 ≤ d ∧ d < 8192 ∧ x + c = d * 2251799813685248 + y := by
  refine ⟨(x + c) % 2251799813685248, (x + c) / 2251799813685248, ?_, ?_, ?_, ?_, ?_, ?_⟩
  · unfold cstep
    rw [w64, Int.emod_eq_of_lt (by omega) h2, band_mask k64 51 (by decide) (x + c) _ 2251799813685248 (by decide) (by decide) (by omega) h2, shr_u _ _ _ 2251799813685248 (by decide) (by decide)]
  all_goals omega
/-- five words -/
def V (x0 x1 x2 x3 x4 : Int) : Int := x0 + x1 * 2251799813685248 + x2 * 5070602400912917605986812821504 + x3 * 11417981541647679048466287755595961091061972992 + x4 * 25711008708143844408671393477458601640355247900524685364822016
abbrev pw : Int := 57896044618658097711785492504343953926634992332820282019728792003956564819949
/-- words in bounds -/
structure B5 (b x0 x1 x2 x3 x4 : Int) : Prop where
  h0 : 0 ≤ x0 ∧ x0 < b
  h1 : 0 ≤ x1 ∧ x1 < b
  h2 : 0 ≤ x2 ∧ x2 < b
  h3 : 0 ≤ x3 ∧ x3 < b
  h4 : 0 ≤ x4 ∧ x4 < b
theorem carried_ok {x0 x1 x2 x3 x4 : Int} (h : B5 18446744073709543424 x0 x1 x2 x3 x4) :
    ∃ t0 y1 y2 y3 y4 c, limb_carried [x0, x1, x2, x3, x4] = some [t0 + 19 * c, y1, y2, y3, y4] ∧ B5 2251799813685248 t0 y1 y2 y3 y4 ∧ 0 ≤ c ∧ c < 8192 ∧
      V x0 x1 x2 x3 x4 = c * 57896044618658097711785492504343953926634992332820282019728792003956564819968 + V t0 y1 y2 y3 y4 := by
  obtain ⟨⟨a0, b0⟩, ⟨a1, b1⟩, ⟨a2, b2⟩, ⟨a3, b3⟩, a4, b4⟩ := h
  rw [carried_eq]
  obtain ⟨y0, c0, e0, l0, u0, m0, n0, q0⟩ := cstep_ok x0 0 a0 (by omega) (by omega)
  obtain ⟨y1, c1, e1, l1, u1, m1, n1, q1⟩ := cstep_ok x1 c0 a1 m0 (by omega)
  obtain ⟨y2, c2, e2, l2, u2, m2, n2, q2⟩ := cstep_ok x2 c1 a2 m1 (by omega)
  obtain ⟨y3, c3, e3, l3, u3, m3, n3, q3⟩ := cstep_ok x3 c2 a3 m2 (by omega)
  obtain ⟨y4, c4, e4, l4, u4, m4, n4, q4⟩ := cstep_ok x4 c3 a4 m3 (by omega)
  refine ⟨y0, y1, y2, y3, y4, c4, ?_, ⟨⟨l0, u0⟩, ⟨l1, u1⟩, ⟨l2, u2⟩, ⟨l3, u3⟩, l4, u4⟩, m4, n4, ?_⟩
  · simp only [e0, e1, e2, e3, e4, w64]
    rw [Int.emod_eq_of_lt (a := 19 * c4) (by omega) (by omega), Int.emod_eq_of_lt (by omega) (by omega)]
  · unfold V; omega
end Go.Pn
/- The bytes of a number modulo 2^255 - 19. -/
namespace Go.Pn
open Go Go.Gw Go.Proofs.Sb.D
/-- the bytes of a number, the lowest first -/
def leB (n : Nat) (v : Int) : List Int := (List.range n).map fun i => v / 2 ^ (8 * i) % 256
theorem bytes_l0_eq (a : List Int) (x0 x1 x2 x3 x4 : Int) : limb_N_Bytes_l0 a (((5 : Int) - (0 : Int)).toNat + 1) [x0, x1, x2, x3, x4] 0 0 =
    (let s0 := cstep x0 0; let s1 := cstep x1 s0.2; let s2 := cstep x2 s1.2; let s3 := cstep x3 s2.2; let s4 := cstep x4 s3.2
     some ([s0.1, s1.1, s2.1, s3.1, s4.1], s4.2)) := by kernel_rfl
def wordsOf (m0 m1 m2 m3 m4 : Int) : List Int := [bor .u64 m0 (shl .u64 m1 51), bor .u64 (shr .u64 m1 13) (shl .u64 m2 38), bor .u64 (shr .u64 m2 26) (shl .u64 m3 25), bor .u64 (shr .u64 m3 39) (shl .u64 m4 12)]
theorem bytes_l2_eq (m0 m1 m2 m3 m4 : Int) : limb_N_Bytes_l2 [m0, m1, m2, m3, m4] (((32 : Int) - (0 : Int)).toNat + 1) (List.replicate 32 0) 0 =
    some ((List.range 32).map fun i => IntKind.u8.wrap (shr .u64 ((wordsOf m0 m1 m2 m3 m4).getD (i / 8) 0) ((8 * (i % 8) : Nat) : Int))) := by kernel_rfl
theorem wordsOf_ok {m0 m1 m2 m3 m4 : Int} (h : B5 2251799813685248 m0 m1 m2 m3 m4) : wordsOf m0 m1 m2 m3 m4 =
    [V m0 m1 m2 m3 m4 % 18446744073709551616, V m0 m1 m2 m3 m4 / 18446744073709551616 % 18446744073709551616, V m0 m1 m2 m3 m4 / 340282366920938463463374607431768211456 % 18446744073709551616, V m0 m1 m2 m3 m4 / 6277101735386680763835789423207666416102355444464034512896] := by
  obtain ⟨⟨a0, b0⟩, ⟨a1, b1⟩, ⟨a2, b2⟩, ⟨a3, b3⟩, a4, b4⟩ := h
  have p64 : (2 : Int) ^ IntKind.u64.bits = 18446744073709551616 := by decide
  unfold wordsOf V
  rw [shl_u _ m1 51 2251799813685248 (by decide), shl_u _ m2 38 274877906944 (by decide), shl_u _ m3 25 33554432 (by decide), shl_u _ m4 12 4096 (by decide),
    shr_u _ m1 13 8192 (by decide) (by decide), shr_u _ m2 26 67108864 (by decide) (by decide), shr_u _ m3 39 549755813888 (by decide) (by decide)]
  simp only [w64]
  rw [bor_lo_hi k64 51 m0 _ 2251799813685248 (by decide) a0 (by omega) b0 (by omega) (by omega) (by omega),
    bor_lo_hi k64 38 (m1 / 8192) _ 274877906944 (by decide) (by omega) (by omega) (by omega) (by omega) (by omega) (by omega),
    bor_lo_hi k64 25 (m2 / 67108864) _ 33554432 (by decide) (by omega) (by omega) (by omega) (by omega) (by omega) (by omega),
    bor_lo_hi k64 12 (m3 / 549755813888) _ 4096 (by decide) (by omega) (by omega) (by omega) (by omega) (by omega) (by omega)]
  congr 1
  · omega
  · congr 1
    · omega
    · congr 1
      · omega
      · congr 1; omega
theorem byte_of_word (v A B : Int) (hA : 0 < A) (hB : 0 < B) (h : B * 256 ∣ 18446744073709551616) : v / A % 18446744073709551616 / B % 256 = v / (A * B) % 256 := by
  obtain ⟨k, hk⟩ := h
  rw [← Int.ediv_ediv_of_nonneg (Int.le_of_lt hA)]
  generalize v / A = u
  have e : u = u / 18446744073709551616 * 18446744073709551616 + u % 18446744073709551616 := by omega
  conv => rhs; rw [e]
  rw [hk]
  generalize u % (B * 256 * k) = r
  generalize u / (B * 256 * k) = q
  have : q * (B * 256 * k) + r = r + q * 256 * k * B := by
    rw [Int.add_comm]; congr 1; simp only [Int.mul_comm, Int.mul_left_comm]
  rw [this, Int.add_mul_ediv_right _ _ (by omega : B ≠ 0)]
  have : q * 256 * k = q * k * 256 := by simp only [Int.mul_assoc, Int.mul_comm]
  rw [this, Int.add_mul_emod_self_right]
end Go.Pn
/- Bytes and words: packing and unpacking. -/
namespace Go.Pn
open Go Go.Gw Go.Proofs.Sb.D
def words4 (v : Int) : List Int := [v % 18446744073709551616, v / 18446744073709551616 % 18446744073709551616, v / 340282366920938463463374607431768211456 % 18446744073709551616, v / 6277101735386680763835789423207666416102355444464034512896 % 18446744073709551616]
theorem words4_get (v : Int) (i : Nat) (hi : i < 4) : (words4 v).getD i 0 = v / 2 ^ (64 * i) % 18446744073709551616 := by
  have : i = 0 ∨ i = 1 ∨ i = 2 ∨ i = 3 := by omega
  rcases this with rfl | rfl | rfl | rfl <;> simp [words4]
theorem dvd_pow256 (j : Nat) (hj : j < 8) : (2 : Int) ^ (8 * j) * 256 ∣ 18446744073709551616 := by
  refine ⟨2 ^ (56 - 8 * j), ?_⟩
  have e : (256 : Int) = 2 ^ 8 := by decide
  rw [e, ← Int.pow_add, ← Int.pow_add]
  have : 8 * j + 8 + (56 - 8 * j) = 64 := by omega
  rw [this]; decide
theorem leB_words (v : Int) : ((List.range 32).map fun i => IntKind.u8.wrap (shr .u64 ((words4 v).getD (i / 8) 0) ((8 * (i % 8) : Nat) : Int))) = leB 32 v := by
  unfold leB
  apply List.map_congr_left
  intro i hi
  have hi := List.mem_range.1 hi
  have hb : (8 * (i % 8) : Nat) < 64 := by omega
  rw [words4_get v _ (by omega), w8, shr_u _ _ _ (2 ^ (8 * (i % 8))) (by
    have : min (((8 * (i % 8) : Nat) : Int).toNat) IntKind.u64.bits = 8 * (i % 8) := by
      have : IntKind.u64.bits = 64 := rfl
      omega
    rw [this]) (Int.le_of_lt (Int.pow_pos (by decide))),
    byte_of_word v _ _ (Int.pow_pos (by decide)) (Int.pow_pos (by decide)) (dvd_pow256 _ (by omega)), ← Int.pow_add]
  have : 64 * (i / 8) + 8 * (i % 8) = 8 * i := by omega
  rw [this]
theorem V_pos {b x0 x1 x2 x3 x4 : Int} (h : B5 b x0 x1 x2 x3 x4) : 0 ≤ V x0 x1 x2 x3 x4 := by
  obtain ⟨⟨a0, b0⟩, ⟨a1, b1⟩, ⟨a2, b2⟩, ⟨a3, b3⟩, a4, b4⟩ := h
  unfold V; omega
theorem V_lt {x0 x1 x2 x3 x4 : Int} (h : B5 2251799813685248 x0 x1 x2 x3 x4) : V x0 x1 x2 x3 x4 < 57896044618658097711785492504343953926634992332820282019728792003956564819968 := by
  obtain ⟨⟨a0, b0⟩, ⟨a1, b1⟩, ⟨a2, b2⟩, ⟨a3, b3⟩, a4, b4⟩ := h
  unfold V; omega
theorem B5.mono {b c x0 x1 x2 x3 x4 : Int} (h : B5 b x0 x1 x2 x3 x4) (k : b ≤ c) : B5 c x0 x1 x2 x3 x4 := by
  obtain ⟨⟨a0, b0⟩, ⟨a1, b1⟩, ⟨a2, b2⟩, ⟨a3, b3⟩, a4, b4⟩ := h
  exact ⟨⟨a0, by omega⟩, ⟨a1, by omega⟩, ⟨a2, by omega⟩, ⟨a3, by omega⟩, a4, by omega⟩
theorem words_of_B5 {m0 m1 m2 m3 m4 : Int} (h : B5 2251799813685248 m0 m1 m2 m3 m4) : wordsOf m0 m1 m2 m3 m4 = words4 (V m0 m1 m2 m3 m4) := by
  rw [wordsOf_ok h]
  have := V_pos h; have := V_lt h
  unfold words4
  rw [Int.emod_eq_of_lt (a := V m0 m1 m2 m3 m4 / 6277101735386680763835789423207666416102355444464034512896) (by omega) (by omega)]
theorem nbytes_l2 {m0 m1 m2 m3 m4 : Int} (h : B5 2251799813685248 m0 m1 m2 m3 m4) : limb_N_Bytes_l2 [m0, m1, m2, m3, m4] (((32 : Int) - (0 : Int)).toNat + 1) (List.replicate 32 0) 0 = some (leB 32 (V m0 m1 m2 m3 m4)) := by
  rw [bytes_l2_eq, words_of_B5 h, leB_words]
theorem nbytes_l0 {x0 x1 x2 x3 x4 : Int} (a : List Int) (h : B5 18446744073709543424 x0 x1 x2 x3 x4) :
    ∃ y0 y1 y2 y3 y4 c, limb_N_Bytes_l0 a (((5 : Int) - (0 : Int)).toNat + 1) [x0, x1, x2, x3, x4] 0 0 = some ([y0, y1, y2, y3, y4], c) ∧ B5 2251799813685248 y0 y1 y2 y3 y4 ∧ 0 ≤ c ∧
      V x0 x1 x2 x3 x4 = c * 57896044618658097711785492504343953926634992332820282019728792003956564819968 + V y0 y1 y2 y3 y4 := by
  obtain ⟨⟨a0, b0⟩, ⟨a1, b1⟩, ⟨a2, b2⟩, ⟨a3, b3⟩, a4, b4⟩ := h
  rw [bytes_l0_eq]
  obtain ⟨y0, c0, e0, l0, u0, m0, n0, q0⟩ := cstep_ok x0 0 a0 (by omega) (by omega)
  obtain ⟨y1, c1, e1, l1, u1, m1, n1, q1⟩ := cstep_ok x1 c0 a1 m0 (by omega)
  obtain ⟨y2, c2, e2, l2, u2, m2, n2, q2⟩ := cstep_ok x2 c1 a2 m1 (by omega)
  obtain ⟨y3, c3, e3, l3, u3, m3, n3, q3⟩ := cstep_ok x3 c2 a3 m2 (by omega)
  obtain ⟨y4, c4, e4, l4, u4, m4, n4, q4⟩ := cstep_ok x4 c3 a4 m3 (by omega)
  refine ⟨y0, y1, y2, y3, y4, c4, ?_, ⟨⟨l0, u0⟩, ⟨l1, u1⟩, ⟨l2, u2⟩, ⟨l3, u3⟩, l4, u4⟩, m4, ?_⟩
  · simp only [e0, e1, e2, e3, e4]
  · unfold V; omega
theorem V_head (t c y1 y2 y3 y4 : Int) : V (t + c) y1 y2 y3 y4 = V t y1 y2 y3 y4 + c := by unfold V; omega
theorem B5.head {b c x0 x1 x2 x3 x4 y : Int} (h : B5 b x0 x1 x2 x3 x4) (k : 0 ≤ y ∧ y < c) (hb : b ≤ c) : B5 c y x1 x2 x3 x4 := by
  obtain ⟨⟨a0, b0⟩, ⟨a1, b1⟩, ⟨a2, b2⟩, ⟨a3, b3⟩, a4, b4⟩ := h
  exact ⟨k, ⟨a1, by omega⟩, ⟨a2, by omega⟩, ⟨a3, by omega⟩, a4, by omega⟩
theorem V_head_le {b x0 x1 x2 x3 x4 : Int} (h : B5 b x0 x1 x2 x3 x4) : x0 ≤ V x0 x1 x2 x3 x4 := by
  obtain ⟨⟨a0, b0⟩, ⟨a1, b1⟩, ⟨a2, b2⟩, ⟨a3, b3⟩, a4, b4⟩ := h
  unfold V; omega
/-- THE BYTES: those of the number below p -/
theorem nbytes_ok {x0 x1 x2 x3 x4 : Int} (h : B5 18446744073709543424 x0 x1 x2 x3 x4) : limb_N_Bytes [x0, x1, x2, x3, x4] = some (leB 32 (V x0 x1 x2 x3 x4 % pw)) := by
  obtain ⟨t0, t1, t2, t3, t4, c, e, ht, lc, uc, q⟩ := carried_ok h
  have k0 := ht.h0
  obtain ⟨s0, s1, s2, s3, s4, d, e', hs, ld, ud, q'⟩ := carried_ok (ht.head (y := t0 + 19 * c) (c := 18446744073709543424) (by omega) (by decide))
  have k1 := hs.h0
  have p1 := V_pos ht; have l1 := V_lt ht
  have p2 := V_pos hs; have l2 := V_lt hs
  rw [V_head] at q'
  have hd : d ≤ 1 := by omega
  obtain ⟨r0, r1, r2, r3, r4, f, e'', hr, lf, uf, q''⟩ := carried_ok (hs.head (y := s0 + 19 * d) (c := 18446744073709543424) (by omega) (by decide))
  have k2 := hr.h0
  have p3 := V_pos hr; have l3 := V_lt hr
  rw [V_head] at q''
  have hf : f ≤ 1 := by omega
  have le3 := V_head_le hr
  have hz : 0 ≤ r0 + 19 * f ∧ r0 + 19 * f < 2251799813685248 := by omega
  have hr' := hr.head (c := 2251799813685248) hz (Int.le_refl _)
  have lz := V_lt hr'; have pz := V_pos hr'
  have e19 : IntKind.u64.wrap (r0 + 19 * f + 19) = r0 + 19 * f + 19 := by rw [w64]; exact Int.emod_eq_of_lt (by omega) (by omega)
  have vz := V_head r0 (19 * f) r1 r2 r3 r4
  obtain ⟨n0, n1, n2, n3, n4, g, eg, hn, lg, qg⟩ := nbytes_l0 [r0 + 19 * f, r1, r2, r3, r4] (hr.head (y := r0 + 19 * f + 19) (c := 18446744073709543424) (by omega) (by decide))
  have p5 := V_pos hn; have l5 := V_lt hn
  rw [V_head] at qg
  have hg : g ≤ 1 := by omega
  unfold limb_N_Bytes
  rw [e, Option.bind_some, e', Option.bind_some, e'', Option.bind_some]
  simp only [List.set_cons_zero, List.getD_cons_zero, e19]
  rw [eg, Option.bind_some]
  by_cases hc : g > 0
  · simp only [decide_eq_true hc, if_true, Option.bind_some]
    rw [nbytes_l2 hn, Option.bind_some]
    congr 2
    have g1 : g = 1 := by omega
    subst g1
    have : V x0 x1 x2 x3 x4 = V n0 n1 n2 n3 n4 + pw * (c + d + f + 1) := by unfold pw; omega
    rw [this, Int.add_mul_emod_self_left, Int.emod_eq_of_lt p5 (by unfold pw; omega)]
  · simp only [decide_eq_false hc, Bool.false_eq_true, if_false, Option.bind_some]
    rw [nbytes_l2 hr', Option.bind_some]
    congr 2
    have g1 : g = 0 := by omega
    subst g1
    have : V x0 x1 x2 x3 x4 = V (r0 + 19 * f) r1 r2 r3 r4 + pw * (c + d + f) := by unfold pw; omega
    rw [this, Int.add_mul_emod_self_left, Int.emod_eq_of_lt pz (by unfold pw; omega)]
end Go.Pn
/- A number out of 32 bytes. -/
namespace Go.Pn
open Go Go.Gw Go.Proofs.Sb.D
/-- the number of some bytes, the lowest first -/
def leV : List Int → Int
  | [] => 0
  | x :: l => x + 256 * leV l
def Bytes32 (b : List Int) : Prop := b.length = 32 ∧ ∀ x ∈ b, 0 ≤ x ∧ x < 256
theorem Bytes32.get {b : List Int} (h : Bytes32 b) (i : Nat) : 0 ≤ b.getD i 0 ∧ b.getD i 0 < 256 := by
  rw [List.getD_eq_getElem?_getD]
  by_cases hi : i < b.length
  · rw [List.getElem?_eq_getElem hi]; exact h.2 _ (List.getElem_mem hi)
  · rw [List.getElem?_eq_none (by omega)]; simp
theorem map_getD (b : List Int) : (List.range b.length).map (fun i => b.getD i 0) = b := by
  apply List.ext_getElem
  · simp
  · intro i h1 h2
    simp only [List.getElem_map, List.getElem_range, List.getD_eq_getElem?_getD]
    rw [List.getElem?_eq_getElem h2]; rfl
def orw (b : List Int) (i : Nat) : Int := (List.range 8).foldl (fun m j => bor .u64 m (shl .u64 (IntKind.u64.wrap (b.getD (8 * i + j) 0)) ((8 * j : Nat) : Int))) 0
theorem of_l0_eq (b : List Int) : limb_Of_l0 b (((32 : Int) - (0 : Int)).toNat + 1) (List.replicate 4 0) 0 = some [orw b 0, orw b 1, orw b 2, orw b 3] := by kernel_rfl
theorem rof_l0_eq (b : List Int) : ref04_Of_l0 b (((32 : Int) - (0 : Int)).toNat + 1) (List.replicate 4 0) 0 = some [orw b 0, orw b 1, orw b 2, orw b 3] := by kernel_rfl
theorem sof_l0_eq (b : List Int) : scalar_of_l0 b (((32 : Int) - (0 : Int)).toNat + 1) (List.replicate 4 0) 0 = some [orw b 0, orw b 1, orw b 2, orw b 3] := by kernel_rfl
theorem orstep (m x : Int) (j : Nat) (d e : Int) (hj : j < 8) (hd : d = 2 ^ (8 * j)) (he : e = d * 256) (h0 : 0 ≤ m) (h1 : m < d) (h2 : 0 ≤ x ∧ x < 256) (h3 : e ≤ 18446744073709551616) :
    ∃ r, bor .u64 m (shl .u64 (IntKind.u64.wrap x) ((8 * j : Nat) : Int)) = r ∧ r = m + x * d ∧ 0 ≤ r ∧ r < e := by
  have dp : 0 < d := by rw [hd]; exact Int.pow_pos (by decide)
  have hx : IntKind.u64.wrap x = x := by rw [w64]; omega
  have xd : x * d + d ≤ 256 * d := by
    have : (x + 1) * d ≤ 256 * d := Int.mul_le_mul_of_nonneg_right (by omega) (by omega)
    rw [Int.add_mul, Int.one_mul] at this; exact this
  have x0 : 0 ≤ x * d := Int.mul_nonneg h2.1 (by omega)
  have hs : shl .u64 x ((8 * j : Nat) : Int) = x * d := by
    rw [shl_u _ _ _ d (by
      have : min (((8 * j : Nat) : Int).toNat) IntKind.u64.bits = 8 * j := by
        have : IntKind.u64.bits = 64 := rfl
        omega
      rw [this, hd]), w64]
    omega
  refine ⟨_, rfl, ?_, ?_, ?_⟩
  all_goals rw [hx, hs, bor_lo_hi k64 (8 * j) m (x * d) d hd h0 (by show m < 18446744073709551616; omega) h1 x0 (by show x * d < 18446744073709551616; omega) (Int.mul_emod_left x d)]
  all_goals omega
theorem orw_ok {b : List Int} (h : Bytes32 b) (i : Nat) : orw b i = b.getD (8 * i) 0 + b.getD (8 * i + 1) 0 * 256 + b.getD (8 * i + 2) 0 * 65536 + b.getD (8 * i + 3) 0 * 16777216 + b.getD (8 * i + 4) 0 * 4294967296 + b.getD (8 * i + 5) 0 * 1099511627776 + b.getD (8 * i + 6) 0 * 281474976710656 + b.getD (8 * i + 7) 0 * 72057594037927936 := by
  obtain ⟨r0, e0, q0, l0, u0⟩ := orstep 0 (b.getD (8 * i + 0) 0) 0 1 256 (by decide) (by decide) (by decide) (by decide) (by decide) (h.get _) (by decide)
  obtain ⟨r1, e1, q1, l1, u1⟩ := orstep r0 (b.getD (8 * i + 1) 0) 1 256 65536 (by decide) (by decide) (by decide) l0 u0 (h.get _) (by decide)
  obtain ⟨r2, e2, q2, l2, u2⟩ := orstep r1 (b.getD (8 * i + 2) 0) 2 65536 16777216 (by decide) (by decide) (by decide) l1 u1 (h.get _) (by decide)
  obtain ⟨r3, e3, q3, l3, u3⟩ := orstep r2 (b.getD (8 * i + 3) 0) 3 16777216 4294967296 (by decide) (by decide) (by decide) l2 u2 (h.get _) (by decide)
  obtain ⟨r4, e4, q4, l4, u4⟩ := orstep r3 (b.getD (8 * i + 4) 0) 4 4294967296 1099511627776 (by decide) (by decide) (by decide) l3 u3 (h.get _) (by decide)
  obtain ⟨r5, e5, q5, l5, u5⟩ := orstep r4 (b.getD (8 * i + 5) 0) 5 1099511627776 281474976710656 (by decide) (by decide) (by decide) l4 u4 (h.get _) (by decide)
  obtain ⟨r6, e6, q6, l6, u6⟩ := orstep r5 (b.getD (8 * i + 6) 0) 6 281474976710656 72057594037927936 (by decide) (by decide) (by decide) l5 u5 (h.get _) (by decide)
  obtain ⟨r7, e7, q7, l7, u7⟩ := orstep r6 (b.getD (8 * i + 7) 0) 7 72057594037927936 18446744073709551616 (by decide) (by decide) (by decide) l6 u6 (h.get _) (by decide)
  have e : orw b i = r7 := by
    rw [← e7, ← e6, ← e5, ← e4, ← e3, ← e2, ← e1, ← e0]; rfl
  rw [e]
  simp only [Nat.add_zero] at q0
  omega
theorem leV32 {b : List Int} (h : Bytes32 b) : leV b = orw b 0 + orw b 1 * 18446744073709551616 + orw b 2 * 340282366920938463463374607431768211456 + orw b 3 * 6277101735386680763835789423207666416102355444464034512896 := by
  have e : leV b = leV ((List.range 32).map (fun i => b.getD i 0)) := by rw [← h.1, map_getD]
  rw [e, orw_ok h, orw_ok h, orw_ok h, orw_ok h]
  generalize hf : (fun i => b.getD i 0) = f
  have ef : ∀ i, b.getD i 0 = f i := fun i => by rw [← hf]
  simp only [ef, Nat.reduceMul, Nat.reduceAdd]
  show f 0 + 256 * (f 1 + 256 * (f 2 + 256 * (f 3 + 256 * (f 4 + 256 * (f 5 + 256 * (f 6 + 256 * (f 7 + 256 * (f 8 + 256 * (f 9 + 256 * (f 10 + 256 * (f 11 + 256 * (f 12 + 256 * (f 13 + 256 * (f 14 + 256 * (f 15 + 256 * (f 16 + 256 * (f 17 + 256 * (f 18 + 256 * (f 19 + 256 * (f 20 + 256 * (f 21 + 256 * (f 22 + 256 * (f 23 + 256 * (f 24 + 256 * (f 25 + 256 * (f 26 + 256 * (f 27 + 256 * (f 28 + 256 * (f 29 + 256 * (f 30 + 256 * (f 31 + 256 * 0))))))))))))))))))))))))))))))) = _
  omega
theorem orw_bd {b : List Int} (h : Bytes32 b) (i : Nat) : 0 ≤ orw b i ∧ orw b i < 18446744073709551616 := by
  rw [orw_ok h i]
  have a0 := h.get (8 * i); have a1 := h.get (8 * i + 1); have a2 := h.get (8 * i + 2); have a3 := h.get (8 * i + 3)
  have a4 := h.get (8 * i + 4); have a5 := h.get (8 * i + 5); have a6 := h.get (8 * i + 6); have a7 := h.get (8 * i + 7)
  omega
theorem orw_words {b : List Int} (h : Bytes32 b) : [orw b 0, orw b 1, orw b 2, orw b 3] = words4 (leV b) := by
  rw [leV32 h]
  have a0 := orw_bd h 0; have a1 := orw_bd h 1; have a2 := orw_bd h 2; have a3 := orw_bd h 3
  unfold words4
  congr 1
  · omega
  · congr 1
    · omega
    · congr 1
      · omega
      · congr 1; omega
theorem leV_bd {b : List Int} (h : Bytes32 b) : 0 ≤ leV b ∧ leV b < 115792089237316195423570985008687907853269984665640564039457584007913129639936 := by
  rw [leV32 h]
  have a0 := orw_bd h 0; have a1 := orw_bd h 1; have a2 := orw_bd h 2; have a3 := orw_bd h 3
  omega
/-- a bound of the words that each function keeps to -/
abbrev G5 : Int := 2251799813841000
/-- WORDS THAT STAND FOR A NUMBER modulo p -/
def Rep (l : List Int) (n : Int) : Prop := ∃ x0 x1 x2 x3 x4, l = [x0, x1, x2, x3, x4] ∧ B5 G5 x0 x1 x2 x3 x4 ∧ V x0 x1 x2 x3 x4 % pw = n % pw
theorem of_ok {b : List Int} (h : Bytes32 b) : ∃ l, limb_Of b = some l ∧ Rep l (leV b) := by
  have a0 := orw_bd h 0; have a1 := orw_bd h 1; have a2 := orw_bd h 2; have a3 := orw_bd h 3
  have hv := leV32 h
  unfold limb_Of
  rw [of_l0_eq, Option.bind_some]
  generalize orw b 0 = w0 at *
  generalize orw b 1 = w1 at *
  generalize orw b 2 = w2 at *
  generalize orw b 3 = w3 at *
  have p64 : (2 : Int) ^ IntKind.u64.bits = 18446744073709551616 := by decide
  simp only [List.getD_cons_zero, List.getD_cons_succ, List.set_cons_zero]
  rw [shl_u _ w1 13 8192 (by decide), shl_u _ w2 26 67108864 (by decide), shl_u _ w3 39 549755813888 (by decide),
    shr_u _ w0 51 2251799813685248 (by decide) (by decide), shr_u _ w1 38 274877906944 (by decide) (by decide), shr_u _ w2 25 33554432 (by decide) (by decide), shr_u _ w3 12 4096 (by decide) (by decide), shr_u _ w3 63 9223372036854775808 (by decide) (by decide)]
  simp only [w64]
  rw [bor_lo_hi k64 13 (w0 / 2251799813685248) _ 8192 (by decide) (by omega) (by omega) (by omega) (by omega) (by omega) (by omega),
    bor_lo_hi k64 26 (w1 / 274877906944) _ 67108864 (by decide) (by omega) (by omega) (by omega) (by omega) (by omega) (by omega),
    bor_lo_hi k64 39 (w2 / 33554432) _ 549755813888 (by decide) (by omega) (by omega) (by omega) (by omega) (by omega) (by omega)]
  rw [band_mask k64 51 (by decide) w0 _ 2251799813685248 (by decide) (by decide) (by omega) (by omega),
    band_mask k64 51 (by decide) (w0 / 2251799813685248 + _) _ 2251799813685248 (by decide) (by decide) (by omega) (by omega),
    band_mask k64 51 (by decide) (w1 / 274877906944 + _) _ 2251799813685248 (by decide) (by decide) (by omega) (by omega),
    band_mask k64 51 (by decide) (w2 / 33554432 + _) _ 2251799813685248 (by decide) (by decide) (by omega) (by omega),
    band_mask k64 51 (by decide) (w3 / 4096) _ 2251799813685248 (by decide) (by decide) (by omega) (by omega)]
  have hb : 0 ≤ w3 / 9223372036854775808 ∧ w3 / 9223372036854775808 ≤ 1 := by omega
  have e0 : (w0 % 2251799813685248 + 19 * (w3 / 9223372036854775808) % 18446744073709551616) % 18446744073709551616 = w0 % 2251799813685248 + 19 * (w3 / 9223372036854775808) := by
    generalize w3 / 9223372036854775808 = f at *; omega
  have e1 : (w0 / 2251799813685248 + w1 * 8192 % 18446744073709551616) % 2251799813685248 = w0 / 2251799813685248 + w1 % 274877906944 * 8192 := by omega
  have e2 : (w1 / 274877906944 + w2 * 67108864 % 18446744073709551616) % 2251799813685248 = w1 / 274877906944 + w2 % 33554432 * 67108864 := by omega
  have e3 : (w2 / 33554432 + w3 * 549755813888 % 18446744073709551616) % 2251799813685248 = w2 / 33554432 + w3 % 4096 * 549755813888 := by omega
  rw [e0, e1, e2, e3]
  refine ⟨_, rfl, _, _, _, _, _, rfl, ⟨⟨?_, ?_⟩, ⟨?_, ?_⟩, ⟨?_, ?_⟩, ⟨?_, ?_⟩, ?_, ?_⟩, ?_⟩
  all_goals try first | omega | (show _ < (2251799813841000 : Int); omega)
  have ev : V (w0 % 2251799813685248 + 19 * (w3 / 9223372036854775808)) (w0 / 2251799813685248 + w1 % 274877906944 * 8192) (w1 / 274877906944 + w2 % 33554432 * 67108864) (w2 / 33554432 + w3 % 4096 * 549755813888) (w3 / 4096 % 2251799813685248) = leV b - pw * (w3 / 9223372036854775808) := by
    unfold V pw; omega
  rw [ev, Int.sub_mul_emod_self_left]
end Go.Pn
/- Sums, differences and products of words. -/
namespace Go.Pn
open Go Go.Gw Go.Proofs.Sb.D
theorem prod_le {x y b : Int} (h0 : 0 ≤ x) (h1 : x ≤ b) (h2 : 0 ≤ y) (h3 : y ≤ b) : 0 ≤ x * y ∧ x * y ≤ b * b :=
  ⟨Int.mul_nonneg h0 h2, Int.mul_le_mul h1 h3 h2 (by omega)⟩
theorem mul64_ok (x y : Int) (h0 : 0 ≤ x) (h1 : x < 18446744073709551616) (h2 : 0 ≤ y) (h3 : y < 18446744073709551616) :
    math_bits_Mul64 x y = some (x * y / 18446744073709551616, x * y % 18446744073709551616) := by
  unfold math_bits_Mul64
  rw [shr_u _ x 32 4294967296 (by decide) (by decide), shr_u _ y 32 4294967296 (by decide) (by decide),
    band_mask k64 32 (by decide) x _ 4294967296 (by decide) (by decide) h0 h1, band_mask k64 32 (by decide) y _ 4294967296 (by decide) (by decide) h2 h3]
  have ex : x = x / 4294967296 * 4294967296 + x % 4294967296 := by omega
  have ey : y = y / 4294967296 * 4294967296 + y % 4294967296 := by omega
  have exy : x * y = (x / 4294967296) * (y / 4294967296) * 18446744073709551616 + ((x / 4294967296) * (y % 4294967296) + (x % 4294967296) * (y / 4294967296)) * 4294967296 + (x % 4294967296) * (y % 4294967296) := by
    conv => lhs; rw [ex, ey]
    generalize x / 4294967296 = a; generalize x % 4294967296 = b; generalize y / 4294967296 = c; generalize y % 4294967296 = d
    grind
  have b1 : 0 ≤ x / 4294967296 ∧ x / 4294967296 ≤ 4294967295 := by omega
  have b2 : 0 ≤ x % 4294967296 ∧ x % 4294967296 ≤ 4294967295 := by omega
  have b3 : 0 ≤ y / 4294967296 ∧ y / 4294967296 ≤ 4294967295 := by omega
  have b4 : 0 ≤ y % 4294967296 ∧ y % 4294967296 ≤ 4294967295 := by omega
  rw [exy]
  have pp := prod_le b1.1 b1.2 b3.1 b3.2
  have pq := prod_le b1.1 b1.2 b4.1 b4.2
  have pr := prod_le b2.1 b2.2 b3.1 b3.2
  have ps := prod_le b2.1 b2.2 b4.1 b4.2
  generalize x / 4294967296 * (y / 4294967296) = p at *
  generalize x / 4294967296 * (y % 4294967296) = q at *
  generalize x % 4294967296 * (y / 4294967296) = r at *
  generalize x % 4294967296 * (y % 4294967296) = s at *
  simp only [w64]
  have es : s % 18446744073709551616 = s := by omega
  have eq : q % 18446744073709551616 = q := by omega
  have er : r % 18446744073709551616 = r := by omega
  have ep : p % 18446744073709551616 = p := by omega
  rw [es, eq, er, ep, shr_u _ s 32 4294967296 (by decide) (by decide)]
  have et : (q + s / 4294967296) % 18446744073709551616 = q + s / 4294967296 := by omega
  rw [et, shr_u _ (q + s / 4294967296) 32 4294967296 (by decide) (by decide),
    band_mask k64 32 (by decide) (q + s / 4294967296) _ 4294967296 (by decide) (by decide) (by omega) (by show _ < (18446744073709551616 : Int); omega),
    shr_u _ _ 32 4294967296 (by decide) (by decide)]
  congr 2 <;> omega
theorem add_l0_eq (b : List Int) (x0 x1 x2 x3 x4 : Int) : limb_Add_l0 b (((5 : Int) - (0 : Int)).toNat + 1) [x0, x1, x2, x3, x4] 0 =
    some [IntKind.u64.wrap (x0 + b.getD 0 0), IntKind.u64.wrap (x1 + b.getD 1 0), IntKind.u64.wrap (x2 + b.getD 2 0), IntKind.u64.wrap (x3 + b.getD 3 0), IntKind.u64.wrap (x4 + b.getD 4 0)] := by kernel_rfl
theorem sub_l0_eq (b : List Int) (x0 x1 x2 x3 x4 : Int) : limb_Sub_l0 b (((5 : Int) - (0 : Int)).toNat + 1) [x0, x1, x2, x3, x4] 0 =
    some [IntKind.u64.wrap (x0 + IntKind.u64.wrap (9007199254740916 - b.getD 0 0)), IntKind.u64.wrap (x1 + IntKind.u64.wrap (9007199254740988 - b.getD 1 0)), IntKind.u64.wrap (x2 + IntKind.u64.wrap (9007199254740988 - b.getD 2 0)), IntKind.u64.wrap (x3 + IntKind.u64.wrap (9007199254740988 - b.getD 3 0)), IntKind.u64.wrap (x4 + IntKind.u64.wrap (9007199254740988 - b.getD 4 0))] := by kernel_rfl
theorem carried_rep {x0 x1 x2 x3 x4 n : Int} (h : B5 18446744073709543424 x0 x1 x2 x3 x4) (hv : V x0 x1 x2 x3 x4 % pw = n % pw) : ∃ l, limb_carried [x0, x1, x2, x3, x4] = some l ∧ Rep l n := by
  obtain ⟨t0, t1, t2, t3, t4, c, e, ht, lc, uc, q⟩ := carried_ok h
  have k0 := ht.h0
  refine ⟨_, e, _, _, _, _, _, rfl, ht.head ?_ (by decide), ?_⟩
  · show _ ∧ _ < (2251799813841000 : Int); omega
  · rw [V_head, ← hv, q]
    have : c * 57896044618658097711785492504343953926634992332820282019728792003956564819968 + V t0 t1 t2 t3 t4 = V t0 t1 t2 t3 t4 + 19 * c + pw * c := by unfold pw; omega
    rw [this, Int.add_mul_emod_self_left]
theorem u64_id {x : Int} (h0 : 0 ≤ x) (h1 : x < 18446744073709551616) : IntKind.u64.wrap x = x := by rw [w64]; omega
theorem add_ok {a b : List Int} {m n : Int} (ha : Rep a m) (hb : Rep b n) : ∃ l, limb_Add a b = some l ∧ Rep l (m + n) := by
  obtain ⟨x0, x1, x2, x3, x4, rfl, ⟨⟨a0, b0⟩, ⟨a1, b1⟩, ⟨a2, b2⟩, ⟨a3, b3⟩, a4, b4⟩, vx⟩ := ha
  obtain ⟨y0, y1, y2, y3, y4, rfl, ⟨⟨c0, d0⟩, ⟨c1, d1⟩, ⟨c2, d2⟩, ⟨c3, d3⟩, c4, d4⟩, vy⟩ := hb
  unfold limb_Add
  rw [add_l0_eq, Option.bind_some]
  simp only [List.getD_cons_zero, List.getD_cons_succ]
  have g : G5 = 2251799813841000 := rfl
  rw [u64_id (x := x0 + y0) (by omega) (by omega), u64_id (x := x1 + y1) (by omega) (by omega), u64_id (x := x2 + y2) (by omega) (by omega), u64_id (x := x3 + y3) (by omega) (by omega), u64_id (x := x4 + y4) (by omega) (by omega)]
  obtain ⟨l, e, r⟩ := carried_rep (n := m + n) (x0 := x0 + y0) (x1 := x1 + y1) (x2 := x2 + y2) (x3 := x3 + y3) (x4 := x4 + y4) (by constructor <;> omega) (by
    have : V (x0 + y0) (x1 + y1) (x2 + y2) (x3 + y3) (x4 + y4) = V x0 x1 x2 x3 x4 + V y0 y1 y2 y3 y4 := by unfold V; omega
    rw [this, Int.add_emod, vx, vy, ← Int.add_emod])
  exact ⟨l, by rw [e]; rfl, r⟩
theorem sub_ok {a b : List Int} {m n : Int} (ha : Rep a m) (hb : Rep b n) : ∃ l, limb_Sub a b = some l ∧ Rep l (m - n) := by
  obtain ⟨x0, x1, x2, x3, x4, rfl, ⟨⟨a0, b0⟩, ⟨a1, b1⟩, ⟨a2, b2⟩, ⟨a3, b3⟩, a4, b4⟩, vx⟩ := ha
  obtain ⟨y0, y1, y2, y3, y4, rfl, ⟨⟨c0, d0⟩, ⟨c1, d1⟩, ⟨c2, d2⟩, ⟨c3, d3⟩, c4, d4⟩, vy⟩ := hb
  unfold limb_Sub
  rw [sub_l0_eq, Option.bind_some]
  simp only [List.getD_cons_zero, List.getD_cons_succ]
  have g : G5 = 2251799813841000 := rfl
  rw [u64_id (x := 9007199254740916 - y0) (by omega) (by omega), u64_id (x := 9007199254740988 - y1) (by omega) (by omega), u64_id (x := 9007199254740988 - y2) (by omega) (by omega), u64_id (x := 9007199254740988 - y3) (by omega) (by omega), u64_id (x := 9007199254740988 - y4) (by omega) (by omega)]
  rw [u64_id (x := x0 + (9007199254740916 - y0)) (by omega) (by omega), u64_id (x := x1 + (9007199254740988 - y1)) (by omega) (by omega), u64_id (x := x2 + (9007199254740988 - y2)) (by omega) (by omega), u64_id (x := x3 + (9007199254740988 - y3)) (by omega) (by omega), u64_id (x := x4 + (9007199254740988 - y4)) (by omega) (by omega)]
  obtain ⟨l, e, r⟩ := carried_rep (n := m - n) (x0 := x0 + (9007199254740916 - y0)) (x1 := x1 + (9007199254740988 - y1)) (x2 := x2 + (9007199254740988 - y2)) (x3 := x3 + (9007199254740988 - y3)) (x4 := x4 + (9007199254740988 - y4)) (by constructor <;> omega) (by
    have : V (x0 + (9007199254740916 - y0)) (x1 + (9007199254740988 - y1)) (x2 + (9007199254740988 - y2)) (x3 + (9007199254740988 - y3)) (x4 + (9007199254740988 - y4)) = V x0 x1 x2 x3 x4 - V y0 y1 y2 y3 y4 + pw * 4 := by unfold V pw; omega
    rw [this, Int.add_mul_emod_self_left, Int.sub_emod, vx, vy, ← Int.sub_emod])
  exact ⟨l, by rw [e]; rfl, r⟩
theorem small_ok (x : Int) (h0 : 0 ≤ x) (h1 : x < G5) : ∃ l, limb_Small x = some l ∧ Rep l x := by
  have g : G5 = 2251799813841000 := rfl
  refine ⟨_, rfl, x, 0, 0, 0, 0, rfl, ?_, ?_⟩
  · constructor <;> omega
  · have : V x 0 0 0 0 = x := by unfold V; omega
    rw [this]
theorem nbytes_rep {l : List Int} {n : Int} (h : Rep l n) : limb_N_Bytes l = some (leB 32 (n % pw)) := by
  obtain ⟨x0, x1, x2, x3, x4, rfl, hb, vx⟩ := h
  rw [nbytes_ok (hb.mono (by decide)), vx]
end Go.Pn
/- Products of words. -/
namespace Go.Pn
open Go Go.Gw Go.Proofs.Sb.D
def xx (b : List Int) (i j : Nat) : Int := if 5 ≤ i + j then IntKind.u64.wrap (b.getD j 0 * 19) else b.getD j 0
theorem l1_step (a b h l : List Int) (k i j : Nat) (hi : i < 5) (hj : j < 5) : limb_Mul_l1 a b (i : Int) (k + 1) h l (j : Int) =
    (math_bits_Mul64 (a.getD i 0) (xx b i j)).bind fun p => (add64 (l.getD ((i + j) % 5) 0) p.2 0).bind fun q =>
      limb_Mul_l1 a b (i : Int) k (h.set ((i + j) % 5) (IntKind.u64.wrap (h.getD ((i + j) % 5) 0 + IntKind.u64.wrap (p.1 + q.2)))) (l.set ((i + j) % 5) q.1) ((j + 1 : Nat) : Int) := by
  have ci : i = 0 ∨ i = 1 ∨ i = 2 ∨ i = 3 ∨ i = 4 := by omega
  have cj : j = 0 ∨ j = 1 ∨ j = 2 ∨ j = 3 ∨ j = 4 := by omega
  rcases ci with rfl | rfl | rfl | rfl | rfl <;> rcases cj with rfl | rfl | rfl | rfl | rfl <;> (show _ = _; kernel_rfl)
theorem l1_end (a b h l : List Int) (k i : Nat) : limb_Mul_l1 a b (i : Int) (k + 1) h l 5 = some (h, l) := by kernel_rfl
abbrev MM : Int := 649037107316853453566312041152512
structure Acc (h l : List Int) (T : Nat → Int) (n : Int) : Prop where
  lh : h.length = 5
  ll : l.length = 5
  at' : ∀ t, t < 5 → 0 ≤ h.getD t 0 ∧ 0 ≤ l.getD t 0 ∧ l.getD t 0 < 18446744073709551616 ∧ h.getD t 0 * 18446744073709551616 + l.getD t 0 = T t ∧ T t ≤ n * MM
def upd (T : Nat → Int) (at' : Nat) (v : Int) : Nat → Int := fun s => if s = at' then T s + v else T s
theorem getD_set_of (l : List Int) (i : Nat) (v : Int) (t : Nat) (hi : i < l.length) : (l.set i v).getD t 0 = if t = i then v else l.getD t 0 := by
  simp only [List.getD_eq_getElem?_getD, List.getElem?_set]
  by_cases h : i = t
  · subst h; simp [hi]
  · simp [h, Ne.symm h]
theorem acc_step {a b h l : List Int} {T : Nat → Int} {n : Int} (hA : Acc h l T n) (hn' : n ≤ 40) (k i j : Nat) (hi : i < 5) (hj : j < 5)
    (b1 : 0 ≤ a.getD i 0 ∧ a.getD i 0 < 4503599627370496) (b2 : 0 ≤ xx b i j ∧ xx b i j < 144115188075855872) :
    ∃ h' l', limb_Mul_l1 a b (i : Int) (k + 1) h l (j : Int) = limb_Mul_l1 a b (i : Int) k h' l' ((j + 1 : Nat) : Int) ∧ Acc h' l' (upd T ((i + j) % 5) (a.getD i 0 * xx b i j)) (n + 1) := by
  rw [l1_step _ _ _ _ _ _ _ hi hj, mul64_ok _ _ b1.1 (by omega) b2.1 (by omega), Option.bind_some]
  have pb : 0 ≤ a.getD i 0 * xx b i j ∧ a.getD i 0 * xx b i j ≤ MM := by
    refine ⟨Int.mul_nonneg b1.1 b2.1, ?_⟩
    have := Int.mul_le_mul (a := a.getD i 0) (c := 4503599627370496) (b := xx b i j) (d := 144115188075855872) (by omega) (by omega) b2.1 (by decide)
    have e : (4503599627370496 : Int) * 144115188075855872 = MM := by decide
    omega
  generalize a.getD i 0 * xx b i j = p at *
  have hat := hA.at' ((i + j) % 5) (by omega)
  have mm : MM = 649037107316853453566312041152512 := rfl
  have nM : n * MM ≤ 40 * MM := Int.mul_le_mul_of_nonneg_right hn' (by decide)
  generalize hnm : n * MM = nm at *
  have l64 : 0 ≤ p % 18446744073709551616 := by omega
  have ea : add64 (l.getD ((i + j) % 5) 0) (p % 18446744073709551616) 0 = some ((l.getD ((i + j) % 5) 0 + p % 18446744073709551616 + 0) % 18446744073709551616, (l.getD ((i + j) % 5) 0 + p % 18446744073709551616 + 0) / 18446744073709551616) := by
    unfold add64; rw [if_pos ⟨hat.2.1, l64, by decide, by decide⟩]
  simp only [ea, Option.bind_some]
  refine ⟨_, _, rfl, ?_, ?_, ?_⟩
  · rw [List.length_set, hA.lh]
  · rw [List.length_set, hA.ll]
  · intro t ht
    rw [getD_set_of _ _ _ _ (by rw [hA.lh]; omega), getD_set_of _ _ _ _ (by rw [hA.ll]; omega)]
    have e1 : (n + 1) * MM = nm + MM := by rw [Int.add_mul, hnm, Int.one_mul]
    unfold upd
    by_cases c : t = (i + j) % 5
    · subst c
      simp only [if_true]
      generalize h.getD ((i + j) % 5) 0 = hh at *
      generalize l.getD ((i + j) % 5) 0 = l0 at *
      generalize T ((i + j) % 5) = tt at *
      obtain ⟨q1, q2, q3, q4, q5⟩ := hat
      have hr : IntKind.u64.wrap (p / 18446744073709551616 + (l0 + p % 18446744073709551616 + 0) / 18446744073709551616) = p / 18446744073709551616 + (l0 + p % 18446744073709551616 + 0) / 18446744073709551616 := u64_id (by omega) (by omega)
      rw [hr, u64_id (by omega) (by omega)]
      omega
    · simp only [if_neg c]
      have := hA.at' t ht
      rw [hnm] at this
      omega
theorem l1_all {a b h l : List Int} {T : Nat → Int} {n : Int} (hA : Acc h l T n) (hn : 0 ≤ n) (hn' : n ≤ 30) (i : Nat) (hi : i < 5) (b1 : 0 ≤ a.getD i 0 ∧ a.getD i 0 < 4503599627370496) (b2 : ∀ j, j < 5 → 0 ≤ xx b i j ∧ xx b i j < 144115188075855872) :
    ∃ h' l', limb_Mul_l1 a b (i : Int) (((5 : Int) - (0 : Int)).toNat + 1) h l 0 = some (h', l') ∧
      Acc h' l' (upd (upd (upd (upd (upd T ((i + 0) % 5) (a.getD i 0 * xx b i 0)) ((i + 1) % 5) (a.getD i 0 * xx b i 1)) ((i + 2) % 5) (a.getD i 0 * xx b i 2)) ((i + 3) % 5) (a.getD i 0 * xx b i 3)) ((i + 4) % 5) (a.getD i 0 * xx b i 4)) (n + 1 + 1 + 1 + 1 + 1) := by
  obtain ⟨h1, l1, e1, A1⟩ := acc_step hA (by omega) 5 i 0 hi (by decide) b1 (b2 0 (by decide))
  obtain ⟨h2, l2, e2, A2⟩ := acc_step A1 (by omega) 4 i 1 hi (by decide) b1 (b2 1 (by decide))
  obtain ⟨h3, l3, e3, A3⟩ := acc_step A2 (by omega) 3 i 2 hi (by decide) b1 (b2 2 (by decide))
  obtain ⟨h4, l4, e4, A4⟩ := acc_step A3 (by omega) 2 i 3 hi (by decide) b1 (b2 3 (by decide))
  obtain ⟨h5, l5, e5, A5⟩ := acc_step A4 (by omega) 1 i 4 hi (by decide) b1 (b2 4 (by decide))
  refine ⟨h5, l5, ?_, A5⟩
  exact e1.trans (e2.trans (e3.trans (e4.trans (e5.trans (l1_end a b h5 l5 0 i)))))
theorem l0_step (a b h l : List Int) (k i : Nat) (hi : i < 5) : limb_Mul_l0 a b (k + 1) h l (i : Int) =
    (limb_Mul_l1 a b (i : Int) (((5 : Int) - (0 : Int)).toNat + 1) h l 0).bind fun p => limb_Mul_l0 a b k p.1 p.2 ((i + 1 : Nat) : Int) := by
  have ci : i = 0 ∨ i = 1 ∨ i = 2 ∨ i = 3 ∨ i = 4 := by omega
  rcases ci with rfl | rfl | rfl | rfl | rfl <;> (show _ = _; kernel_rfl)
theorem l0_end (a b h l : List Int) (k : Nat) : limb_Mul_l0 a b (k + 1) h l 5 = some (h, l) := by kernel_rfl
end Go.Pn
/- The product of two numbers in words, and its carrying. -/
namespace Go.Pn
open Go Go.Gw Go.Proofs.Sb.D
def row (a b : List Int) (T : Nat → Int) (i : Nat) : Nat → Int := upd (upd (upd (upd (upd T ((i + 0) % 5) (a.getD i 0 * xx b i 0)) ((i + 1) % 5) (a.getD i 0 * xx b i 1)) ((i + 2) % 5) (a.getD i 0 * xx b i 2)) ((i + 3) % 5) (a.getD i 0 * xx b i 3)) ((i + 4) % 5) (a.getD i 0 * xx b i 4)
theorem l0_all (a b : List Int) (b1 : ∀ i, i < 5 → 0 ≤ a.getD i 0 ∧ a.getD i 0 < 4503599627370496) (b2 : ∀ i j, i < 5 → j < 5 → 0 ≤ xx b i j ∧ xx b i j < 144115188075855872) :
    ∃ h l, limb_Mul_l0 a b (((5 : Int) - (0 : Int)).toNat + 1) (List.replicate 5 0) (List.replicate 5 0) 0 = some (h, l) ∧
      Acc h l (row a b (row a b (row a b (row a b (row a b (fun _ => 0) 0) 1) 2) 3) 4) 25 := by
  have A0 : Acc (List.replicate 5 0) (List.replicate 5 0) (fun _ => 0) 0 := ⟨rfl, rfl, fun t ht => by
    have c : t = 0 ∨ t = 1 ∨ t = 2 ∨ t = 3 ∨ t = 4 := by omega
    rcases c with rfl | rfl | rfl | rfl | rfl <;> simp [List.replicate]⟩
  obtain ⟨h1, l1, e1, A1⟩ := l1_all A0 (by decide) (by decide) 0 (by decide) (b1 0 (by decide)) (fun j hj => b2 0 j (by decide) hj)
  obtain ⟨h2, l2, e2, A2⟩ := l1_all A1 (by decide) (by decide) 1 (by decide) (b1 1 (by decide)) (fun j hj => b2 1 j (by decide) hj)
  obtain ⟨h3, l3, e3, A3⟩ := l1_all A2 (by decide) (by decide) 2 (by decide) (b1 2 (by decide)) (fun j hj => b2 2 j (by decide) hj)
  obtain ⟨h4, l4, e4, A4⟩ := l1_all A3 (by decide) (by decide) 3 (by decide) (b1 3 (by decide)) (fun j hj => b2 3 j (by decide) hj)
  obtain ⟨h5, l5, e5, A5⟩ := l1_all A4 (by decide) (by decide) 4 (by decide) (b1 4 (by decide)) (fun j hj => b2 4 j (by decide) hj)
  refine ⟨h5, l5, ?_, A5⟩
  have s0 := l0_step a b (List.replicate 5 0) (List.replicate 5 0) 5 0 (by decide)
  have s1 := l0_step a b h1 l1 4 1 (by decide)
  have s2 := l0_step a b h2 l2 3 2 (by decide)
  have s3 := l0_step a b h3 l3 2 3 (by decide)
  have s4 := l0_step a b h4 l4 1 4 (by decide)
  rw [e1, Option.bind_some] at s0
  rw [e2, Option.bind_some] at s1
  rw [e3, Option.bind_some] at s2
  rw [e4, Option.bind_some] at s3
  rw [e5, Option.bind_some] at s4
  exact s0.trans (s1.trans (s2.trans (s3.trans (s4.trans (l0_end a b h5 l5 0)))))
theorem l3_step (h l m : List Int) (c : Int) (k i : Nat) (hi : i < 5) : limb_Mul_l3 h l (k + 1) m c (i : Int) =
    (add64 (l.getD i 0) c 0).bind fun q => limb_Mul_l3 h l k (m.set i (band .u64 q.1 2251799813685247)) (bor .u64 (shl .u64 (IntKind.u64.wrap (h.getD i 0 + q.2)) 13) (shr .u64 q.1 51)) ((i + 1 : Nat) : Int) := by
  have ci : i = 0 ∨ i = 1 ∨ i = 2 ∨ i = 3 ∨ i = 4 := by omega
  rcases ci with rfl | rfl | rfl | rfl | rfl <;> (show _ = _; kernel_rfl)
theorem l3_end (h l m : List Int) (c : Int) (k : Nat) : limb_Mul_l3 h l (k + 1) m c 5 = some (m, c) := by kernel_rfl
/-- one word of the carrying: the 128-bit word and what is carried -/
theorem cell (h l c T : Int) (h0 : 0 ≤ h) (l0 : 0 ≤ l ∧ l < 18446744073709551616) (c0 : 0 ≤ c ∧ c < 18446744073709551616) (hT : h * 18446744073709551616 + l = T) (hb : T ≤ 20769187434139310514121985316880384) :
    add64 l c 0 = some ((l + c + 0) % 18446744073709551616, (l + c + 0) / 18446744073709551616) ∧
    band .u64 ((l + c + 0) % 18446744073709551616) 2251799813685247 = (T + c) % 2251799813685248 ∧
    bor .u64 (shl .u64 (IntKind.u64.wrap (h + (l + c + 0) / 18446744073709551616)) 13) (shr .u64 ((l + c + 0) % 18446744073709551616) 51) = (T + c) / 2251799813685248 ∧
    0 ≤ (T + c) / 2251799813685248 ∧ (T + c) / 2251799813685248 < 18446744073709551616 ∧ 0 ≤ (T + c) % 2251799813685248 ∧ (T + c) % 2251799813685248 < 2251799813685248 ∧ (T + c) / 2251799813685248 * 2251799813685248 + (T + c) % 2251799813685248 = T + c := by
  have p64 : (2 : Int) ^ IntKind.u64.bits = 18446744073709551616 := by decide
  refine ⟨?_, ?_, ?_, by omega, by omega, by omega, by omega, by omega⟩
  · unfold add64; rw [if_pos ⟨l0.1, c0.1, by decide, by decide⟩]
  · rw [band_mask k64 51 (by decide) _ _ 2251799813685248 (by decide) (by decide) (by omega) (by omega)]; omega
  · rw [u64_id (x := h + (l + c + 0) / 18446744073709551616) (by omega) (by omega), shl_u _ _ 13 8192 (by decide), shr_u _ _ 51 2251799813685248 (by decide) (by decide), w64]
    rw [bor_hi_lo k64 13 _ _ 8192 (by decide) (by omega) (by omega) (by omega) (by omega) (by omega) (by omega)]
    omega
theorem l3_all (h l : List Int) (T : Nat → Int) (hA : Acc h l T 25) : ∃ y0 y1 y2 y3 y4 c, limb_Mul_l3 h l (((5 : Int) - (0 : Int)).toNat + 1) (List.replicate 5 0) 0 0 = some ([y0, y1, y2, y3, y4], c) ∧
    B5 2251799813685248 y0 y1 y2 y3 y4 ∧ 0 ≤ c ∧ c < 18446744073709551616 ∧ V (T 0) (T 1) (T 2) (T 3) (T 4) = V y0 y1 y2 y3 y4 + c * 57896044618658097711785492504343953926634992332820282019728792003956564819968 := by
  have mm : (25 : Int) * MM ≤ 20769187434139310514121985316880384 := by decide
  obtain ⟨p0, q0, r0, s0, t0⟩ := hA.at' 0 (by decide)
  obtain ⟨p1, q1, r1, s1, t1⟩ := hA.at' 1 (by decide)
  obtain ⟨p2, q2, r2, s2, t2⟩ := hA.at' 2 (by decide)
  obtain ⟨p3, q3, r3, s3, t3⟩ := hA.at' 3 (by decide)
  obtain ⟨p4, q4, r4, s4, t4⟩ := hA.at' 4 (by decide)
  obtain ⟨a0, b0, g0, u0, v0, w0, x0, z0⟩ := cell _ _ 0 _ p0 ⟨q0, r0⟩ (by decide) s0 (Int.le_trans t0 mm)
  have k0 := l3_step h l (List.replicate 5 0) 0 5 0 (by decide)
  rw [a0, Option.bind_some] at k0; simp only [b0, g0] at k0
  generalize (T 0 + 0) / 2251799813685248 = c0 at *; generalize (T 0 + 0) % 2251799813685248 = y0 at *
  obtain ⟨a1, b1, g1, u1, v1, w1, x1, z1⟩ := cell _ _ c0 _ p1 ⟨q1, r1⟩ ⟨u0, v0⟩ s1 (Int.le_trans t1 mm)
  have k1 := l3_step h l ((List.replicate 5 0).set 0 y0) c0 4 1 (by decide)
  rw [a1, Option.bind_some] at k1; simp only [b1, g1] at k1
  generalize (T 1 + c0) / 2251799813685248 = c1 at *; generalize (T 1 + c0) % 2251799813685248 = y1 at *
  obtain ⟨a2, b2, g2, u2, v2, w2, x2, z2⟩ := cell _ _ c1 _ p2 ⟨q2, r2⟩ ⟨u1, v1⟩ s2 (Int.le_trans t2 mm)
  have k2 := l3_step h l (((List.replicate 5 0).set 0 y0).set 1 y1) c1 3 2 (by decide)
  rw [a2, Option.bind_some] at k2; simp only [b2, g2] at k2
  generalize (T 2 + c1) / 2251799813685248 = c2 at *; generalize (T 2 + c1) % 2251799813685248 = y2 at *
  obtain ⟨a3, b3, g3, u3, v3, w3, x3, z3⟩ := cell _ _ c2 _ p3 ⟨q3, r3⟩ ⟨u2, v2⟩ s3 (Int.le_trans t3 mm)
  have k3 := l3_step h l ((((List.replicate 5 0).set 0 y0).set 1 y1).set 2 y2) c2 2 3 (by decide)
  rw [a3, Option.bind_some] at k3; simp only [b3, g3] at k3
  generalize (T 3 + c2) / 2251799813685248 = c3 at *; generalize (T 3 + c2) % 2251799813685248 = y3 at *
  obtain ⟨a4, b4, g4, u4, v4, w4, x4, z4⟩ := cell _ _ c3 _ p4 ⟨q4, r4⟩ ⟨u3, v3⟩ s4 (Int.le_trans t4 mm)
  have k4 := l3_step h l (((((List.replicate 5 0).set 0 y0).set 1 y1).set 2 y2).set 3 y3) c3 1 4 (by decide)
  rw [a4, Option.bind_some] at k4; simp only [b4, g4] at k4
  generalize (T 4 + c3) / 2251799813685248 = c4 at *; generalize (T 4 + c3) % 2251799813685248 = y4 at *
  refine ⟨y0, y1, y2, y3, y4, c4, ?_, ⟨⟨w0, x0⟩, ⟨w1, x1⟩, ⟨w2, x2⟩, ⟨w3, x3⟩, w4, x4⟩, u4, v4, ?_⟩
  · exact k0.trans (k1.trans (k2.trans (k3.trans (k4.trans (l3_end h l _ c4 0)))))
  · unfold V; omega
end Go.Pn
/- THE PRODUCT in words stands for the product. -/
namespace Go.Pn
open Go Go.Gw Go.Proofs.Sb.D
theorem prod_mod (a0 a1 a2 a3 a4 b0 b1 b2 b3 b4 : Int) :
    V a0 a1 a2 a3 a4 * V b0 b1 b2 b3 b4 =
      V (a0 * b0 + a1 * (b4 * 19) + a2 * (b3 * 19) + a3 * (b2 * 19) + a4 * (b1 * 19)) (a0 * b1 + a1 * b0 + a2 * (b4 * 19) + a3 * (b3 * 19) + a4 * (b2 * 19))
        (a0 * b2 + a1 * b1 + a2 * b0 + a3 * (b4 * 19) + a4 * (b3 * 19)) (a0 * b3 + a1 * b2 + a2 * b1 + a3 * b0 + a4 * (b4 * 19)) (a0 * b4 + a1 * b3 + a2 * b2 + a3 * b1 + a4 * b0)
      + pw * V (a1 * b4 + a2 * b3 + a3 * b2 + a4 * b1) (a2 * b4 + a3 * b3 + a4 * b2) (a3 * b4 + a4 * b3) (a4 * b4) 0 := by
  unfold V pw; grind
theorem xx_ok (y0 y1 y2 y3 y4 : Int) (h : B5 G5 y0 y1 y2 y3 y4) : ∀ i j, i < 5 → j < 5 → 0 ≤ xx [y0, y1, y2, y3, y4] i j ∧ xx [y0, y1, y2, y3, y4] i j < 144115188075855872 := by
  obtain ⟨⟨c0, d0⟩, ⟨c1, d1⟩, ⟨c2, d2⟩, ⟨c3, d3⟩, c4, d4⟩ := h
  have g : G5 = 2251799813841000 := rfl
  intro i j hi hj
  have cj : j = 0 ∨ j = 1 ∨ j = 2 ∨ j = 3 ∨ j = 4 := by omega
  unfold xx
  split
  · rcases cj with rfl | rfl | rfl | rfl | rfl <;> simp only [List.getD_cons_zero, List.getD_cons_succ] <;> rw [u64_id (by omega) (by omega)] <;> omega
  · rcases cj with rfl | rfl | rfl | rfl | rfl <;> simp only [List.getD_cons_zero, List.getD_cons_succ] <;> omega
theorem mul_ok {a b : List Int} {m n : Int} (ha : Rep a m) (hb : Rep b n) : ∃ l, limb_Mul a b = some l ∧ Rep l (m * n) := by
  obtain ⟨x0, x1, x2, x3, x4, rfl, hx, vx⟩ := ha
  obtain ⟨y0, y1, y2, y3, y4, rfl, hy, vy⟩ := hb
  have hx2 := xx_ok _ _ _ _ _ hy
  obtain ⟨⟨a0, b0⟩, ⟨a1, b1⟩, ⟨a2, b2⟩, ⟨a3, b3⟩, a4, b4⟩ := hx
  obtain ⟨⟨c0, d0⟩, ⟨c1, d1⟩, ⟨c2, d2⟩, ⟨c3, d3⟩, c4, d4⟩ := hy
  have g : G5 = 2251799813841000 := rfl
  obtain ⟨h, l, e0, hA⟩ := l0_all [x0, x1, x2, x3, x4] [y0, y1, y2, y3, y4] (fun i hi => by
    have ci : i = 0 ∨ i = 1 ∨ i = 2 ∨ i = 3 ∨ i = 4 := by omega
    rcases ci with rfl | rfl | rfl | rfl | rfl <;> simp only [List.getD_cons_zero, List.getD_cons_succ] <;> omega) hx2
  obtain ⟨z0, z1, z2, z3, z4, c, e3, hz, lc, uc, vz⟩ := l3_all h l _ hA
  have t0 : row [x0, x1, x2, x3, x4] [y0, y1, y2, y3, y4] (row [x0, x1, x2, x3, x4] [y0, y1, y2, y3, y4] (row [x0, x1, x2, x3, x4] [y0, y1, y2, y3, y4] (row [x0, x1, x2, x3, x4] [y0, y1, y2, y3, y4] (row [x0, x1, x2, x3, x4] [y0, y1, y2, y3, y4] (fun _ => 0) 0) 1) 2) 3) 4 0 = x0 * y0 + x1 * (y4 * 19) + x2 * (y3 * 19) + x3 * (y2 * 19) + x4 * (y1 * 19) := by
    show 0 + x0 * y0 + x1 * IntKind.u64.wrap (y4 * 19) + x2 * IntKind.u64.wrap (y3 * 19) + x3 * IntKind.u64.wrap (y2 * 19) + x4 * IntKind.u64.wrap (y1 * 19) = _
    rw [u64_id (x := y4 * 19) (by omega) (by omega), u64_id (x := y3 * 19) (by omega) (by omega), u64_id (x := y2 * 19) (by omega) (by omega), u64_id (x := y1 * 19) (by omega) (by omega), Int.zero_add]
  have t1 : row [x0, x1, x2, x3, x4] [y0, y1, y2, y3, y4] (row [x0, x1, x2, x3, x4] [y0, y1, y2, y3, y4] (row [x0, x1, x2, x3, x4] [y0, y1, y2, y3, y4] (row [x0, x1, x2, x3, x4] [y0, y1, y2, y3, y4] (row [x0, x1, x2, x3, x4] [y0, y1, y2, y3, y4] (fun _ => 0) 0) 1) 2) 3) 4 1 = x0 * y1 + x1 * y0 + x2 * (y4 * 19) + x3 * (y3 * 19) + x4 * (y2 * 19) := by
    show 0 + x0 * y1 + x1 * y0 + x2 * IntKind.u64.wrap (y4 * 19) + x3 * IntKind.u64.wrap (y3 * 19) + x4 * IntKind.u64.wrap (y2 * 19) = _
    rw [u64_id (x := y4 * 19) (by omega) (by omega), u64_id (x := y3 * 19) (by omega) (by omega), u64_id (x := y2 * 19) (by omega) (by omega), Int.zero_add]
  have t2 : row [x0, x1, x2, x3, x4] [y0, y1, y2, y3, y4] (row [x0, x1, x2, x3, x4] [y0, y1, y2, y3, y4] (row [x0, x1, x2, x3, x4] [y0, y1, y2, y3, y4] (row [x0, x1, x2, x3, x4] [y0, y1, y2, y3, y4] (row [x0, x1, x2, x3, x4] [y0, y1, y2, y3, y4] (fun _ => 0) 0) 1) 2) 3) 4 2 = x0 * y2 + x1 * y1 + x2 * y0 + x3 * (y4 * 19) + x4 * (y3 * 19) := by
    show 0 + x0 * y2 + x1 * y1 + x2 * y0 + x3 * IntKind.u64.wrap (y4 * 19) + x4 * IntKind.u64.wrap (y3 * 19) = _
    rw [u64_id (x := y4 * 19) (by omega) (by omega), u64_id (x := y3 * 19) (by omega) (by omega), Int.zero_add]
  have t3 : row [x0, x1, x2, x3, x4] [y0, y1, y2, y3, y4] (row [x0, x1, x2, x3, x4] [y0, y1, y2, y3, y4] (row [x0, x1, x2, x3, x4] [y0, y1, y2, y3, y4] (row [x0, x1, x2, x3, x4] [y0, y1, y2, y3, y4] (row [x0, x1, x2, x3, x4] [y0, y1, y2, y3, y4] (fun _ => 0) 0) 1) 2) 3) 4 3 = x0 * y3 + x1 * y2 + x2 * y1 + x3 * y0 + x4 * (y4 * 19) := by
    show 0 + x0 * y3 + x1 * y2 + x2 * y1 + x3 * y0 + x4 * IntKind.u64.wrap (y4 * 19) = _
    rw [u64_id (x := y4 * 19) (by omega) (by omega), Int.zero_add]
  have t4 : row [x0, x1, x2, x3, x4] [y0, y1, y2, y3, y4] (row [x0, x1, x2, x3, x4] [y0, y1, y2, y3, y4] (row [x0, x1, x2, x3, x4] [y0, y1, y2, y3, y4] (row [x0, x1, x2, x3, x4] [y0, y1, y2, y3, y4] (row [x0, x1, x2, x3, x4] [y0, y1, y2, y3, y4] (fun _ => 0) 0) 1) 2) 3) 4 4 = x0 * y4 + x1 * y3 + x2 * y2 + x3 * y1 + x4 * y0 := by
    show 0 + x0 * y4 + x1 * y3 + x2 * y2 + x3 * y1 + x4 * y0 = _
    rw [Int.zero_add]
  rw [t0, t1, t2, t3, t4] at vz
  have pm := prod_mod x0 x1 x2 x3 x4 y0 y1 y2 y3 y4
  rw [vz] at pm
  obtain ⟨⟨f0, g0⟩, ⟨f1, g1⟩, ⟨f2, g2⟩, ⟨f3, g3⟩, f4, g4⟩ := hz
  have p64 : (2 : Int) ^ IntKind.u64.bits = 18446744073709551616 := by decide
  have c19 : 0 ≤ c * 19 := by omega
  have hc := cell (c * 19 / 18446744073709551616) (c * 19 % 18446744073709551616) z0 (c * 19) (by omega) (by omega) (by omega) (by omega) (by omega)
  obtain ⟨ea, eb, eo, r0, r1, r2, r3, r4⟩ := hc
  have rb : (c * 19 + z0) / 2251799813685248 ≤ 155649 := by omega
  have hs : IntKind.u64.wrap (z1 + (c * 19 + z0) / 2251799813685248) = z1 + (c * 19 + z0) / 2251799813685248 := u64_id (by omega) (by omega)
  obtain ⟨ll, el, hl⟩ := carried_rep (n := m * n) (x0 := (c * 19 + z0) % 2251799813685248) (x1 := z1 + (c * 19 + z0) / 2251799813685248) (x2 := z2) (x3 := z3) (x4 := z4) (by constructor <;> omega) (by
    have e : V ((c * 19 + z0) % 2251799813685248) (z1 + (c * 19 + z0) / 2251799813685248) z2 z3 z4 = V x0 x1 x2 x3 x4 * V y0 y1 y2 y3 y4 + pw * (-(V (x1 * y4 + x2 * y3 + x3 * y2 + x4 * y1) (x2 * y4 + x3 * y3 + x4 * y2) (x3 * y4 + x4 * y3) (x4 * y4) 0) - c) := by
      rw [pm]
      generalize V (x1 * y4 + x2 * y3 + x3 * y2 + x4 * y1) (x2 * y4 + x3 * y3 + x4 * y2) (x3 * y4 + x4 * y3) (x4 * y4) 0 = q
      unfold V pw; omega
    rw [e, Int.add_mul_emod_self_left, Int.mul_emod, vx, vy, ← Int.mul_emod])
  refine ⟨ll, ?_, hl⟩
  unfold limb_Mul
  rw [e0, Option.bind_some]
  simp only []
  rw [e3, Option.bind_some]
  simp only []
  rw [mul64_ok c 19 lc uc (by decide) (by decide), Option.bind_some]
  simp only [List.getD_cons_zero]
  rw [ea, Option.bind_some]
  simp only [List.set_cons_zero, List.set_cons_succ, List.getD_cons_succ, List.getD_cons_zero]
  rw [eb, eo, hs, el]; rfl
end Go.Pn
