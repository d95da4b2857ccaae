/- The page's SHA-512: its rounds are the program's. -/
import Derived.Test.YtdolipgngaljcaaWdC
namespace Go.Wd
open Go Go.Gw Go.Proofs.Sa.D
theorem rr (x n : Int) (k : Int) (h : IntKind.i64.wrap (0 - n) = k) (h1 : 0 ≤ band .u64 (IntKind.u64.wrap k) (63 : Int)) (h2 : 0 ≤ IntKind.u64.wrap ((64 : Int) - (band .u64 (IntKind.u64.wrap k) (63 : Int)))) : ref01_rot64 x n = some (rot x k) := by
  unfold ref01_rot64; rw [h, rot_ok x k h1 h2, Option.bind_some]
theorem l3_eq (a1 a3 w m5 : List Int) (at6 : Int) (h0 : List Int) (ha : a1.length = 80) : ∀ (k : Nat) (m : List Int) (i : Int), ref01_Sum512_l3 a1 a3 m5 at6 w k m i = wide_take_l0 h0 a1 w k m i := by
  intro k
  induction k with
  | zero => intro m i; rfl
  | succ k ih =>
    intro m i
    rw [ref01_Sum512_l3, wide_take_l0, ha]
    by_cases c1 : decide (i < (80 : Int)) = true
    · rw [if_pos c1, if_pos c1, rr _ 14 (-14) (by decide) (by decide) (by decide), rr _ 18 (-18) (by decide) (by decide) (by decide), rr _ 41 (-41) (by decide) (by decide) (by decide), rr _ 28 (-28) (by decide) (by decide) (by decide), rr _ 34 (-34) (by decide) (by decide) (by decide), rr _ 39 (-39) (by decide) (by decide) (by decide),
        rot_ok _ (-14) (by decide) (by decide), rot_ok _ (-18) (by decide) (by decide), rot_ok _ (-41) (by decide) (by decide), rot_ok _ (-28) (by decide) (by decide), rot_ok _ (-34) (by decide) (by decide), rot_ok _ (-39) (by decide) (by decide)]
      by_cases c2 : 0 ≤ i ∧ i < ((80 : Nat) : Int)
      · simp only [if_pos c2, Option.bind_some, ih]
      · simp only [if_neg c2, Option.bind_some]
    · rw [if_neg c1, if_neg c1]
theorem l4_eq (a1 a3 : List Int) (at6 : Int) (m38 : List Int) : ∀ (k : Nat) (m : List Int) (i : Int), ref01_Sum512_l4 a1 a3 at6 m38 k m i = wide_take_l1 m38 k m i := by
  intro k
  induction k with
  | zero => intro m i; rfl
  | succ k ih => intro m i; rw [ref01_Sum512_l4, wide_take_l1, ih]
theorem l5_eq (m7 : List Int) : ∀ (j i : Nat), i + j = 64 → ∀ m, ref01_Sum512_l5 m7 (j + 1) m (i : Int) = wide_Sum_l1 m7 (j + 1) m (i : Int) := by
  intro j
  induction j with
  | zero =>
    intro i hi m
    have : i = 64 := by omega
    subst this
    rw [ref01_Sum512_l5, wide_Sum_l1, if_neg (by decide), if_neg (by decide)]
  | succ j ih =>
    intro i hi m
    have e1 : (i : Int).tdiv 8 = ((i / 8 : Nat) : Int) := rfl
    have e2 : (i : Int).tmod 8 = ((i % 8 : Nat) : Int) := rfl
    have e3 : IntKind.i64.wrap ((i / 8 : Nat) : Int) = ((i / 8 : Nat) : Int) := i64n _ (by omega)
    have e4 : IntKind.i64.wrap ((8 : Int) * ((i % 8 : Nat) : Int)) = ((8 * (i % 8) : Nat) : Int) := by rw [i64s _ (by omega) (by omega)]; omega
    have e5 : IntKind.i64.wrap ((56 : Int) - ((8 * (i % 8) : Nat) : Int)) = ((56 - 8 * (i % 8) : Nat) : Int) := by rw [i64s _ (by omega) (by omega)]; omega
    have e6 : IntKind.u64.wrap ((56 - 8 * (i % 8) : Nat) : Int) = ((56 - 8 * (i % 8) : Nat) : Int) := by simp only [IntKind.wrap, IntKind.bits, IntKind.signed]; simp; omega
    rw [ref01_Sum512_l5, wide_Sum_l1, if_pos (decide_eq_true (by omega)), if_pos (decide_eq_true (by omega)), e1, e2, e3, e4, e5, e6, if_pos ⟨by omega, by omega⟩, if_pos (by omega), if_pos ⟨by omega, by omega⟩, if_pos ⟨by omega, by omega⟩, if_pos (by omega), if_pos ⟨by omega, by omega⟩, next i (by omega)]
    exact ih (i + 1) (by omega) _
theorem k512_eq : ref01_k512 = wide_rounds := by kernel_rfl
end Go.Wd
