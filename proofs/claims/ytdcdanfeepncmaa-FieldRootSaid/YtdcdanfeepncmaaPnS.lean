/- Powers and inverses: FieldInverse, FieldSquares. -/
import Derived.Test.YtdcdanfeepncmaaPnR
namespace Go.Pn
open Go Go.Gw Go.Proofs.Sb.D
theorem part_of (v A B M C : Int) (hA : 0 < A) (hB : 0 < B) (h : B * C ∣ M) : v / A % M / B % C = v / (A * B) % C := by
  obtain ⟨k, rfl⟩ := h
  rw [← Int.ediv_ediv_of_nonneg (Int.le_of_lt hA)]
  generalize v / A = u
  have h1 := Int.emod_add_mul_ediv u (B * C * k)
  generalize u % (B * C * k) = r at *
  generalize u / (B * C * k) = q at *
  have e : u = r + C * (k * q) * B := by
    rw [← h1]; congr 1
    simp only [Int.mul_comm, Int.mul_left_comm]
  rw [e, Int.add_mul_ediv_right _ _ (by omega : B ≠ 0), Int.add_mul_emod_self_left]
theorem leB_getD (n : Nat) (v : Int) (j : Nat) (hj : j < n) : (leB n v).getD j 0 = v / 2 ^ (8 * j) % 256 := by
  unfold leB
  rw [List.getD_eq_getElem?_getD, List.getElem?_map, List.getElem?_range hj]; rfl
theorem bit8 (v : Int) (i : Nat) : band .u8 (shr .u8 (v / 2 ^ (8 * (i / 8)) % 256) ((i % 8 : Nat) : Int)) 1 = v / 2 ^ i % 2 := by
  have hs : shr .u8 (v / 2 ^ (8 * (i / 8)) % 256) ((i % 8 : Nat) : Int) = v / 2 ^ (8 * (i / 8)) % 256 / 2 ^ (i % 8) := shr_u _ _ _ _ (by
    have : min (((i % 8 : Nat) : Int).toNat) IntKind.u8.bits = i % 8 := by
      have : IntKind.u8.bits = 8 := rfl
      omega
    rw [this]) (Int.le_of_lt (Int.pow_pos (by decide)))
  have hp : (0 : Int) < 2 ^ (i % 8) := Int.pow_pos (by decide)
  have b0 : 0 ≤ v / 2 ^ (8 * (i / 8)) % 256 ∧ v / 2 ^ (8 * (i / 8)) % 256 < 256 := by omega
  have b1 : 0 ≤ v / 2 ^ (8 * (i / 8)) % 256 / 2 ^ (i % 8) := Int.ediv_nonneg b0.1 (Int.le_of_lt hp)
  have b2 : v / 2 ^ (8 * (i / 8)) % 256 / 2 ^ (i % 8) ≤ v / 2 ^ (8 * (i / 8)) % 256 := Int.ediv_le_self _ b0.1
  rw [hs, band_mask k8 1 (by decide) _ _ 2 (by decide) (by decide) b1 (by show _ < (256 : Int); omega)]
  rw [part_of v _ _ 256 2 (Int.pow_pos (by decide)) hp ⟨2 ^ (7 - i % 8), by
    rw [Int.mul_assoc, ← Int.pow_succ', ← Int.pow_add]
    have : i % 8 + (7 - i % 8 + 1) = 8 := by omega
    rw [this]; decide⟩, ← Int.pow_add]
  have : 8 * (i / 8) + i % 8 = i := by omega
  rw [this]
theorem half_exp (E j : Nat) : E / 2 ^ j = 2 * (E / 2 ^ (j + 1)) + E / 2 ^ j % 2 := by
  rw [Nat.pow_succ, ← Nat.div_div_eq_div_mul]; omega
theorem pow_half (x : Int) (E j : Nat) : x ^ (E / 2 ^ j) = x ^ (E / 2 ^ (j + 1)) * x ^ (E / 2 ^ (j + 1)) * (if E / 2 ^ j % 2 = 1 then x else 1) := by
  have h := half_exp E j
  have : x ^ (E / 2 ^ j) = x ^ (2 * (E / 2 ^ (j + 1)) + E / 2 ^ j % 2) := congrArg (x ^ ·) h
  rw [this, Int.pow_add, Nat.mul_comm 2, Int.pow_mul, Int.pow_succ, Int.pow_succ, Int.pow_zero, Int.one_mul]
  congr 1
  split
  · rename_i h; rw [h, Int.pow_succ, Int.pow_zero, Int.one_mul]
  · have : E / 2 ^ j % 2 = 0 := by omega
    rw [this, Int.pow_zero]
theorem bit_nat (E i : Nat) : ((E : Int) / 2 ^ i % 2 == 1) = decide (E / 2 ^ i % 2 = 1) := by
  have : (E : Int) / 2 ^ i % 2 = ((E / 2 ^ i % 2 : Nat) : Int) := by simp
  rw [this, Bool.eq_iff_iff]
  simp only [beq_iff_eq, decide_eq_true_eq]
  omega
theorem lpow_loop {a : List Int} {x : Int} (ha : Rep a x) (E : Nat) : ∀ j : Nat, j ≤ 256 → ∀ m, Rep m (x ^ (E / 2 ^ j)) →
    ∃ l, limb_Pow_l0 a (leB 32 E) (j + 1) m ((j : Int) - 1) = some l ∧ Rep l (x ^ E) := by
  intro j; induction j with
  | zero =>
    intro _ m hm
    refine ⟨m, ?_, by simpa using hm⟩
    rw [limb_Pow_l0, if_neg (by decide)]
  | succ j ih =>
    intro hj m hm
    have e1 : ((j + 1 : Nat) : Int) - 1 = (j : Int) := by omega
    obtain ⟨m2, f2, r2⟩ := mul_ok hm hm
    have d1 : IntKind.i64.wrap ((j : Int).tdiv 8) = ((j / 8 : Nat) : Int) := by
      rw [Int.tdiv_eq_ediv_of_nonneg (by omega), IntWalk.i64_in _ (by omega)]; omega
    have d2 : (j : Int).tmod 8 = ((j % 8 : Nat) : Int) := by rw [Int.tmod_eq_emod_of_nonneg (by omega)]; omega
    have d3 : IntKind.i64.wrap ((j : Int) - 1) = (j : Int) - 1 := IntWalk.i64_in _ (by omega)
    rw [e1, limb_Pow_l0, if_pos (by simp), f2, Option.bind_some, d1, d2, d3, if_pos (by omega), if_pos (by omega), Int.toNat_natCast, leB_getD 32 _ _ (by omega), bit8, bit_nat]
    by_cases hb : E / 2 ^ j % 2 = 1
    · rw [if_pos (decide_eq_true hb)]
      obtain ⟨m3, f3, r3⟩ := mul_ok r2 ha
      rw [f3, Option.bind_some]
      refine ih (by omega) m3 ?_
      rw [pow_half, if_pos hb]; exact r3
    · rw [decide_eq_false hb, if_neg (by decide)]
      refine ih (by omega) m2 ?_
      rw [pow_half, if_neg hb, Int.mul_one]; exact r2
theorem lpow {a : List Int} {x : Int} (ha : Rep a x) (E : Nat) (hE : E < 2 ^ 256) : ∃ l, limb_Pow a (leB 32 E) = some l ∧ Rep l (x ^ E) := by
  obtain ⟨o, fo, ro⟩ := small_ok 1 (by decide) (by decide)
  obtain ⟨l, f, r⟩ := lpow_loop ha E 256 (Nat.le_refl _) o (by rw [Nat.div_eq_of_lt hE, Int.pow_zero]; exact ro)
  refine ⟨l, ?_, r⟩
  unfold limb_Pow
  rw [fo, Option.bind_some]
  have f' : limb_Pow_l0 a (leB 32 E) (((255 : Int) - (0 : Int) + 1).toNat + 1) o 255 = some l := f
  rw [f', Option.bind_some]
end Go.Pn
