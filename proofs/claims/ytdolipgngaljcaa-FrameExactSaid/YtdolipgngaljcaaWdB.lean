/- SHA-512 of the program comes to an end: each function answers. -/
import Derived.Test.YtdolipgngaljcaaWdA
namespace Go.Wd
open Go Go.Gw Go.Proofs.Sa.D
theorem i64n (n : Nat) (h : n < 9223372036854775808) : IntKind.i64.wrap (n : Int) = (n : Int) := i64s _ (by omega) (by omega)
theorem next (i : Nat) (h : i < 1000000) : IntKind.i64.wrap ((i : Int) + 1) = ((i + 1 : Nat) : Int) := by rw [i64s _ (by omega) (by omega)]; omega
theorem high_l0 (b : List Int) (hl : b.length ≤ 1000) : ∀ j i : Nat, i + j = b.length → ∀ x, ∃ r, wide_high_l0 b (j + 1) x (i : Int) = some r := by
  intro j
  induction j with
  | zero => intro i hi x; exact ⟨x, by rw [wide_high_l0, if_neg (by simp; omega)]⟩
  | succ j ih =>
    intro i hi x
    obtain ⟨r, hr⟩ := ih (i + 1) (by omega) (bor .u64 (shl .u64 x (8 : Int)) (IntKind.u64.wrap (b.getD i 0)))
    refine ⟨r, ?_⟩
    have e1 : (i : Int).toNat = i := rfl
    rw [wide_high_l0, if_pos (decide_eq_true (by omega)), if_pos ⟨by omega, by omega⟩, next i (by omega), e1]
    exact hr
theorem high_ok (b : List Int) (hl : b.length ≤ 1000) : ∃ r, wide_high b = some r := by
  obtain ⟨r, hr⟩ := high_l0 b hl b.length 0 (by omega) 0
  refine ⟨r, ?_⟩
  have e : (((↑(List.length b) : Int) - (0 : Int)).toNat + 1) = b.length + 1 := by omega
  unfold wide_high
  rw [e]
  exact (congrArg (fun z => Option.bind z _) hr).trans rfl
def rot (x : Int) (k : Int) : Int := bor .u64 (shl .u64 x (band .u64 (IntKind.u64.wrap k) (63 : Int))) (shr .u64 x (IntKind.u64.wrap ((64 : Int) - (band .u64 (IntKind.u64.wrap k) (63 : Int)))))
theorem rot_ok (x k : Int) (h1 : 0 ≤ band .u64 (IntKind.u64.wrap k) (63 : Int)) (h2 : 0 ≤ IntKind.u64.wrap ((64 : Int) - (band .u64 (IntKind.u64.wrap k) (63 : Int)))) : math_bits_RotateLeft64 x k = some (rot x k) := by
  unfold math_bits_RotateLeft64; rw [if_pos h1, if_pos h2]; rfl
theorem spread_l0 (p : List Int) (hp : p.length = 128) : ∀ j i : Nat, i + j = 80 → ∀ m, ∃ r, wide_spread_l0 p (j + 1) m (i : Int) = some r := by
  intro j
  induction j with
  | zero =>
    intro i hi m
    have : i = 80 := by omega
    subst this
    exact ⟨m, by rw [wide_spread_l0, if_neg (by decide)]⟩
  | succ j ih =>
    intro i hi m
    have e8 : IntKind.i64.wrap ((8 : Int) * (i : Int)) = ((8 * i : Nat) : Int) := by rw [i64s _ (by omega) (by omega)]; omega
    have e8' : IntKind.i64.wrap (((8 * i : Nat) : Int) + 8) = ((8 * i + 8 : Nat) : Int) := by rw [i64s _ (by omega) (by omega)]; omega
    rw [wide_spread_l0, if_pos (decide_eq_true (by omega)), next i (by omega)]
    by_cases h16 : i < 16
    · rw [if_pos (decide_eq_true (by omega)), e8, e8', if_pos ⟨by omega, by omega, by omega⟩]
      obtain ⟨r, hr⟩ := high_ok ((p.take (((8 * i + 8 : Nat) : Int)).toNat).drop (((8 * i : Nat) : Int)).toNat) (by simp; omega)
      rw [hr, Option.bind_some, if_pos ⟨by omega, by omega⟩]
      exact ih (i + 1) (by omega) _
    · have s15 : IntKind.i64.wrap ((i : Int) - 15) = ((i - 15 : Nat) : Int) := by rw [i64s _ (by omega) (by omega)]; omega
      have s2 : IntKind.i64.wrap ((i : Int) - 2) = ((i - 2 : Nat) : Int) := by rw [i64s _ (by omega) (by omega)]; omega
      have s16 : IntKind.i64.wrap ((i : Int) - 16) = ((i - 16 : Nat) : Int) := by rw [i64s _ (by omega) (by omega)]; omega
      have s7 : IntKind.i64.wrap ((i : Int) - 7) = ((i - 7 : Nat) : Int) := by rw [i64s _ (by omega) (by omega)]; omega
      rw [if_neg (by simp; omega), s15, s2, s16, s7, if_pos ⟨by omega, by omega⟩, if_pos ⟨by omega, by omega⟩,
        rot_ok _ (-1) (by decide) (by decide), Option.bind_some, rot_ok _ (-8) (by decide) (by decide), Option.bind_some, rot_ok _ (-19) (by decide) (by decide), Option.bind_some, rot_ok _ (-61) (by decide) (by decide), Option.bind_some,
        if_pos ⟨by omega, by omega⟩, if_pos ⟨by omega, by omega⟩, if_pos ⟨by omega, by omega⟩]
      exact ih (i + 1) (by omega) _
theorem spread_ok (p : List Int) (hp : p.length = 128) : ∃ r, wide_spread p = some r := by
  obtain ⟨r, hr⟩ := spread_l0 p hp 80 0 (by omega) (List.replicate 80 0)
  exact ⟨r, by unfold wide_spread; exact (congrArg (fun z => Option.bind z _) hr).trans rfl⟩
theorem take_l0 (h a1 a3 : List Int) (ha : a1.length = 80) : ∀ j i : Nat, i + j = 80 → ∀ m, ∃ r, wide_take_l0 h a1 a3 (j + 1) m (i : Int) = some r := by
  intro j
  induction j with
  | zero =>
    intro i hi m
    have : i = 80 := by omega
    subst this
    exact ⟨m, by rw [wide_take_l0, if_neg (by decide)]⟩
  | succ j ih =>
    intro i hi m
    rw [wide_take_l0, if_pos (decide_eq_true (by omega)), if_pos ⟨by omega, by omega⟩,
      rot_ok _ (-14) (by decide) (by decide), Option.bind_some, rot_ok _ (-18) (by decide) (by decide), Option.bind_some, rot_ok _ (-41) (by decide) (by decide), Option.bind_some, if_pos ⟨by omega, by omega⟩,
      rot_ok _ (-28) (by decide) (by decide), Option.bind_some, rot_ok _ (-34) (by decide) (by decide), Option.bind_some, rot_ok _ (-39) (by decide) (by decide), Option.bind_some, next i (by omega)]
    exact ih (i + 1) (by omega) _
theorem take_l1 (m7 : List Int) : ∀ j i : Nat, i + j = 8 → ∀ m, ∃ r, wide_take_l1 m7 (j + 1) m (i : Int) = some r := by
  intro j
  induction j with
  | zero =>
    intro i hi m
    have : i = 8 := by omega
    subst this
    exact ⟨m, by rw [wide_take_l1, if_neg (by decide)]⟩
  | succ j ih =>
    intro i hi m
    rw [wide_take_l1, if_pos (decide_eq_true (by omega)), if_pos ⟨by omega, by omega⟩, if_pos ⟨by omega, by omega⟩, if_pos ⟨by omega, by omega⟩, next i (by omega)]
    exact ih (i + 1) (by omega) _
theorem take_ok (h p : List Int) (hp : p.length = 128) : ∃ r, wide_take h p = some r := by
  obtain ⟨s, hs⟩ := spread_ok p hp
  unfold wide_take
  have hr : ∃ a, wide_rounds = some a ∧ a.length = 80 := ⟨_, rfl, by decide⟩
  obtain ⟨a, ha, hal⟩ := hr
  obtain ⟨r, hr⟩ := take_l0 h a s hal 80 0 (by omega) h
  obtain ⟨q, hq⟩ := take_l1 r 8 0 (by omega) h
  refine ⟨q, ?_⟩
  rw [ha, Option.bind_some, hs, Option.bind_some]
  exact (congrArg (fun z => Option.bind z _) hr).trans ((congrArg (fun z => Option.bind z _) hq).trans rfl)
end Go.Wd
