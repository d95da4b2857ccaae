/- Number facts: the operations of words as plain arithmetic. -/
import Derived.Test.YtdcdanfeepncmaaGw0
import Derived.Test.YtdcdanfeepncmaaGwI0
import Derived.IntWalk
namespace Go.Pn
open Go Go.Gw
theorem w64 (x : Int) : IntKind.u64.wrap x = x % 18446744073709551616 := by simp [IntKind.wrap, IntKind.bits, IntKind.signed]
theorem w8 (x : Int) : IntKind.u8.wrap x = x % 256 := by simp [IntKind.wrap, IntKind.bits, IntKind.signed]
theorem shr_u (k : IntKind) (x b d : Int) (h : (2 : Int) ^ (min b.toNat k.bits) = d) (hd : 0 ≤ d) : shr k x b = x / d := by
  unfold shr; rw [h, Int.fdiv_eq_ediv_of_nonneg _ hd]
theorem shl_u (k : IntKind) (x b d : Int) (h : (2 : Int) ^ (min b.toNat k.bits) = d) : shl k x b = k.wrap (x * d) := by
  unfold shl; rw [h]
theorem ofInt_toNat (n : Nat) (x : Int) (h0 : 0 ≤ x) (h1 : x < 2 ^ n) : (BitVec.ofInt n x).toNat = x.toNat := by
  rw [BitVec.toNat_ofInt, Int.emod_eq_of_lt h0 (by exact_mod_cast h1)]
theorem band_toNat {k : IntKind} (hk : ∀ x : Int, 0 ≤ x → x < 2 ^ k.bits → k.wrap x = x) (x y : Int) (h0 : 0 ≤ x) (h1 : x < 2 ^ k.bits) (h2 : 0 ≤ y) (h3 : y < 2 ^ k.bits) : band k x y = ((x.toNat &&& y.toNat : Nat) : Int) := by
  unfold band
  rw [BitVec.toNat_and, ofInt_toNat _ _ h0 h1, ofInt_toNat _ _ h2 h3, hk]
  · exact Int.natCast_nonneg _
  · have : (x.toNat &&& y.toNat) < 2 ^ k.bits := Nat.and_lt_two_pow _ (by have := Int.toNat_of_nonneg h2; exact_mod_cast (by rw [this]; exact h3 : ((y.toNat : Nat) : Int) < 2 ^ k.bits))
    exact_mod_cast this
theorem bor_toNat {k : IntKind} (hk : ∀ x : Int, 0 ≤ x → x < 2 ^ k.bits → k.wrap x = x) (x y : Int) (h0 : 0 ≤ x) (h1 : x < 2 ^ k.bits) (h2 : 0 ≤ y) (h3 : y < 2 ^ k.bits) : bor k x y = ((x.toNat ||| y.toNat : Nat) : Int) := by
  unfold bor
  rw [BitVec.toNat_or, ofInt_toNat _ _ h0 h1, ofInt_toNat _ _ h2 h3, hk]
  · exact Int.natCast_nonneg _
  · have a1 : x.toNat < 2 ^ k.bits := by have := Int.toNat_of_nonneg h0; exact_mod_cast (by rw [this]; exact h1 : ((x.toNat : Nat) : Int) < 2 ^ k.bits)
    have a2 : y.toNat < 2 ^ k.bits := by have := Int.toNat_of_nonneg h2; exact_mod_cast (by rw [this]; exact h3 : ((y.toNat : Nat) : Int) < 2 ^ k.bits)
    exact_mod_cast Nat.or_lt_two_pow a1 a2
theorem k64 (x : Int) (h0 : 0 ≤ x) (h1 : x < 2 ^ IntKind.u64.bits) : IntKind.u64.wrap x = x := by
  rw [w64]; exact Int.emod_eq_of_lt h0 h1
theorem k8 (x : Int) (h0 : 0 ≤ x) (h1 : x < 2 ^ IntKind.u8.bits) : IntKind.u8.wrap x = x := by
  rw [w8]; exact Int.emod_eq_of_lt h0 h1
/-- a mask of the low bits -/
theorem band_mask {k : IntKind} (hk : ∀ x : Int, 0 ≤ x → x < 2 ^ k.bits → k.wrap x = x) (n : Nat) (hn : n ≤ k.bits) (x m d : Int) (hm : m = d - 1) (hd : d = 2 ^ n) (h0 : 0 ≤ x) (h1 : x < 2 ^ k.bits) : band k x m = x % d := by
  have hp : (0 : Int) < 2 ^ n := Int.pow_pos (by decide)
  have hle : (2 : Int) ^ n ≤ 2 ^ k.bits := by exact_mod_cast Nat.pow_le_pow_right (by decide) hn
  rw [band_toNat hk x m h0 h1 (by omega) (by omega)]
  have e : m.toNat = 2 ^ n - 1 := by
    have : ((2 ^ n : Nat) : Int) = d := by rw [hd]; simp
    omega
  rw [e, Nat.and_two_pow_sub_one_eq_mod]
  rw [hd]; simp only [Int.natCast_emod, Int.natCast_pow, Int.toNat_of_nonneg h0]; rfl
theorem or_disj (n x y : Nat) (hy : y < 2 ^ n) : (x * 2 ^ n ||| y) = x * 2 ^ n + y := by
  rw [Nat.mul_comm]; exact (Nat.two_pow_add_eq_or_of_lt hy x).symm
/-- two words that share no bit -/
theorem bor_hi_lo {k : IntKind} (hk : ∀ x : Int, 0 ≤ x → x < 2 ^ k.bits → k.wrap x = x) (n : Nat) (x y d : Int) (hd : d = 2 ^ n) (h0 : 0 ≤ x) (h1 : x < 2 ^ k.bits) (hx : x % d = 0) (h2 : 0 ≤ y) (h3 : y < 2 ^ k.bits) (hy : y < d) : bor k x y = x + y := by
  rw [bor_toNat hk x y h0 h1 h2 h3]
  subst hd
  have hp : (0 : Int) < 2 ^ n := Int.pow_pos (by decide)
  obtain ⟨z, hz⟩ : ∃ z : Nat, x = z * 2 ^ n := by
    refine ⟨(x / 2 ^ n).toNat, ?_⟩
    have a := Int.mul_ediv_add_emod x (2 ^ n)
    have b : 0 ≤ x / 2 ^ n := Int.ediv_nonneg h0 (Int.le_of_lt hp)
    rw [Int.toNat_of_nonneg b, Int.mul_comm]; omega
  have hz' : x.toNat = z * 2 ^ n := by
    have : ((z * 2 ^ n : Nat) : Int) = x := by rw [hz]; simp
    omega
  have hy' : y.toNat < 2 ^ n := by
    have : ((2 ^ n : Nat) : Int) = 2 ^ n := by simp
    omega
  rw [hz', or_disj n z _ hy']
  have : ((z * 2 ^ n : Nat) : Int) = x := by rw [hz]; simp
  omega
theorem bor_lo_hi {k : IntKind} (hk : ∀ x : Int, 0 ≤ x → x < 2 ^ k.bits → k.wrap x = x) (n : Nat) (x y d : Int) (hd : d = 2 ^ n) (h0 : 0 ≤ x) (h1 : x < 2 ^ k.bits) (hx : x < d) (h2 : 0 ≤ y) (h3 : y < 2 ^ k.bits) (hy : y % d = 0) : bor k x y = x + y := by
  have e : bor k x y = bor k y x := by unfold bor; rw [BitVec.or_comm]
  rw [e, bor_hi_lo hk n y x d hd h2 h3 hy h0 h1 hx]; omega
end Go.Pn
