/- Words of bits under Go's operators on numbers. -/
import Derived.Test.YtdolipgngaljcaaGw0
import Derived.IntWalk
namespace Go.Cr
open Go Go.Gw
/-- The number of a word of bits. -/
abbrev U {n : Nat} (x : BitVec n) : Int := (x.toNat : Int)

theorem wrap_U {k : IntKind} (hs : k.signed = false) (x : Int) : k.wrap x = x % (2 : Int) ^ k.bits := by
  cases k <;> simp_all [IntKind.wrap, IntKind.signed, IntKind.bits]

theorem U_lt {n : Nat} (x : BitVec n) : 0 ≤ U x ∧ U x < (2 : Int) ^ n := by
  refine ⟨Int.natCast_nonneg _, ?_⟩
  have := x.isLt
  exact_mod_cast this

theorem wrap_self {k : IntKind} (hs : k.signed = false) (x : BitVec k.bits) : k.wrap (U x) = U x := by
  rw [wrap_U hs]
  exact Int.emod_eq_of_lt (U_lt x).1 (U_lt x).2

theorem ofInt_U {n : Nat} (x : BitVec n) : BitVec.ofInt n (U x) = x := by
  simp [U, BitVec.ofInt_natCast]

theorem bxor_U {k : IntKind} (hs : k.signed = false) (x y : BitVec k.bits) : bxor k (U x) (U y) = U (x ^^^ y) := by
  unfold bxor; rw [ofInt_U, ofInt_U]; exact wrap_self hs _
theorem band_U {k : IntKind} (hs : k.signed = false) (x y : BitVec k.bits) : band k (U x) (U y) = U (x &&& y) := by
  unfold band; rw [ofInt_U, ofInt_U]; exact wrap_self hs _
theorem bor_U {k : IntKind} (hs : k.signed = false) (x y : BitVec k.bits) : bor k (U x) (U y) = U (x ||| y) := by
  unfold bor; rw [ofInt_U, ofInt_U]; exact wrap_self hs _
theorem add_U {k : IntKind} (hs : k.signed = false) (x y : BitVec k.bits) : k.wrap (U x + U y) = U (x + y) := by
  rw [wrap_U hs]; simp only [U, BitVec.toNat_add]; push_cast; rfl
theorem shr_U {k : IntKind} (x : BitVec k.bits) (b : Int) (m : Nat) (hb : b.toNat = m) (hm : m ≤ k.bits) : shr k (U x) b = U (x >>> m) := by
  unfold shr
  rw [hb, Nat.min_eq_left hm, Int.fdiv_eq_ediv_of_nonneg _ (Int.pow_nonneg (by decide))]
  simp only [U, BitVec.toNat_ushiftRight, Nat.shiftRight_eq_div_pow]
  push_cast; rfl
theorem shl_U {k : IntKind} (hs : k.signed = false) (x : BitVec k.bits) (b : Int) (m : Nat) (hb : b.toNat = m) (hm : m ≤ k.bits) : shl k (U x) b = U (x <<< m) := by
  unfold shl
  rw [hb, Nat.min_eq_left hm, wrap_U hs]
  simp only [U, BitVec.toNat_shiftLeft, Nat.shiftLeft_eq]
  push_cast; rfl
/-- A word in another width. -/
theorem conv_U {k : IntKind} (hs : k.signed = false) {n : Nat} (x : BitVec n) : k.wrap (U x) = U (x.setWidth k.bits) := by
  rw [wrap_U hs]; simp only [U, BitVec.toNat_setWidth]; push_cast; rfl
/-- A number that is a word. -/
theorem isU {k : IntKind} (hs : k.signed = false) {x : Int} (h : (Lit.int k x).wf = true) : ∃ b : BitVec k.bits, x = U b := by
  have hb : 0 ≤ x ∧ x < (2 : Int) ^ k.bits := by
    cases k <;> simp_all [Lit.wf, IntKind.signed, IntKind.bits, IntKind.min, IntKind.max] <;> omega
  refine ⟨BitVec.ofNat k.bits x.toNat, ?_⟩
  simp only [U, BitVec.toNat_ofNat]
  obtain ⟨m, rfl⟩ := Int.eq_ofNat_of_zero_le hb.1
  have : m < 2 ^ k.bits := by exact_mod_cast hb.2
  simp [Nat.mod_eq_of_lt this]
/-- Numbers that are bytes. -/
theorem areU {l : List Int} (h : ∀ x ∈ l, (Lit.int .u8 x).wf = true) : ∃ b : List (BitVec 8), l = b.map U := by
  induction l with
  | nil => exact ⟨[], rfl⟩
  | cons x r ih =>
    obtain ⟨b, hb⟩ := ih fun y hy => h y (by simp [hy])
    obtain ⟨c, hc⟩ := isU (k := .u8) rfl (h x (by simp))
    exact ⟨c :: b, by rw [hb, hc]; rfl⟩
theorem i64_small {x : Int} (h0 : -9223372036854775808 ≤ x) (h1 : x ≤ 9223372036854775807) : IntKind.i64.wrap x = x := by
  rw [IntKind.wrap_i64]; omega
theorem u64_small {x : Int} (h0 : 0 ≤ x) (h1 : x < 18446744073709551616) : IntKind.u64.wrap x = x := by
  rw [wrap_U rfl]; exact Int.emod_eq_of_lt h0 h1
theorem getD_U (b : List (BitVec 8)) (i : Nat) (h : i < b.length) : (b.map (U (n := 8))).getD i 0 = U b[i] := by
  simp [List.getD, h]
end Go.Cr
