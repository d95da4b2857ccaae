/- The page's SHA-512: the words of a block. -/
import Derived.Test.YtdolipgngaljcaaWdF
namespace Go.Wd
open Go Go.Gw Go.Proofs.Sa.D
def wN (c : Nat → Int) (n : Nat) : Int := (List.range n).foldl (fun x j => bor .u64 (shl .u64 x (8 : Int)) (IntKind.u64.wrap (c j))) 0
theorem wN_succ (c : Nat → Int) (n : Nat) : wN c (n + 1) = bor .u64 (shl .u64 (wN c n) (8 : Int)) (IntKind.u64.wrap (c n)) := by
  unfold wN; rw [List.range_succ, List.foldl_append]; rfl
theorem high8 (c : Nat → Int) : wide_high ((List.range 8).map c) = some (wN c 8) := by kernel_rfl
theorem slice8 (p : List Int) (hp : p.length = 128) (t : Nat) (ht : t < 16) : ((p.take (8 * t + 8)).drop (8 * t)) = (List.range 8).map (fun j => p.getD (8 * t + j) 0) := by
  apply List.ext_getElem
  · simp; omega
  · intro i h1 h2
    have hi : i < 8 := by simpa using h2
    simp only [List.getElem_map, List.getElem_range, List.getElem_drop, List.getElem_take, List.getD_eq_getElem?_getD]
    rw [List.getElem?_eq_getElem (by omega)]; rfl
theorem set_self (m : List Int) (t : Nat) (ht : t < m.length) : m.set t (m.getD t 0) = m := by
  rw [List.getD_eq_getElem?_getD, List.getElem?_eq_getElem ht]; simp
theorem l2_ok (K a3 m5 : List Int) (at' t : Nat) (ht : t < 16) (hat : at' + 128 ≤ a3.length) (hb : a3.length ≤ 100000) : ∀ (j i : Nat), i + j = 8 → ∀ m : List Int, m.length = 80 → m.getD t 0 = wN (fun j => a3.getD (at' + 8 * t + j) 0) i →
    ref01_Sum512_l2 K a3 m5 (at' : Int) (t : Int) (j + 1) m (i : Int) = some (m.set t (wN (fun j => a3.getD (at' + 8 * t + j) 0) 8)) := by
  intro j
  induction j with
  | zero =>
    intro i hi m hm h0
    have : i = 8 := by omega
    subst this
    rw [ref01_Sum512_l2, if_neg (by decide), ← h0, set_self m t (by omega)]
  | succ j ih =>
    intro i hi m hm h0
    have e8 : IntKind.i64.wrap ((8 : Int) * (t : Int)) = ((8 * t : Nat) : Int) := by rw [i64s _ (by omega) (by omega)]; omega
    have ea : IntKind.i64.wrap ((at' : Int) + ((8 * t : Nat) : Int)) = ((at' + 8 * t : Nat) : Int) := by rw [i64s _ (by omega) (by omega)]; omega
    have eb : IntKind.i64.wrap (((at' + 8 * t : Nat) : Int) + (i : Int)) = ((at' + 8 * t + i : Nat) : Int) := by rw [i64s _ (by omega) (by omega)]; omega
    have et : ((t : Int)).toNat = t := rfl
    have ex : (((at' + 8 * t + i : Nat) : Int)).toNat = at' + 8 * t + i := rfl
    have r := ih (i + 1) (by omega) (m.set t (wN (fun j => a3.getD (at' + 8 * t + j) 0) (i + 1))) (by simp [hm]) (by
      rw [List.getD_eq_getElem?_getD, List.getElem?_set_self (by omega)]; rfl)
    rw [List.set_set] at r
    rw [ref01_Sum512_l2, if_pos (decide_eq_true (by omega)), if_pos ⟨by omega, by omega⟩, e8, ea, eb, if_pos ⟨by omega, by omega⟩, if_pos ⟨by omega, by omega⟩, et, ex, h0, next i (by omega), ← wN_succ (fun j => a3.getD (at' + 8 * t + j) 0) i]
    exact r
/-- what is in the words not yet set -/
def Zero (m : List Int) (t : Nat) : Prop := m.length = 80 ∧ ∀ s, t ≤ s → m.getD s 0 = 0
theorem Zero.set {m : List Int} {t : Nat} (h : Zero m t) (v : Int) : Zero (m.set t v) (t + 1) := by
  refine ⟨by simp [h.1], fun s hs => ?_⟩
  have := h.2 s (by omega)
  rw [List.getD_eq_getElem?_getD] at *
  rw [List.getElem?_set_ne (by omega)]; exact this
theorem add_order (a s b t : Int) : IntKind.u64.wrap (IntKind.u64.wrap (IntKind.u64.wrap (a + b) + s) + t) = IntKind.u64.wrap (IntKind.u64.wrap (IntKind.u64.wrap (a + s) + b) + t) := by
  simp only [IntKind.wrap, IntKind.bits, IntKind.signed]; simp; omega
theorem spread_eq (K a3 m5 p : List Int) (at' : Nat) (hat : at' + 128 ≤ a3.length) (hb : a3.length ≤ 100000) (hp : p.length = 128) (hc : ∀ j, j < 128 → p.getD j 0 = a3.getD (at' + j) 0) : ∀ (j t : Nat), t + j = 80 → ∀ m : List Int, Zero m t →
    ref01_Sum512_l1 K a3 m5 (at' : Int) (j + 1) m (t : Int) = wide_spread_l0 p (j + 1) m (t : Int) := by
  intro j
  induction j with
  | zero =>
    intro t hi m _
    have : t = 80 := by omega
    subst this
    rw [ref01_Sum512_l1, wide_spread_l0, if_neg (by decide), if_neg (by decide)]
  | succ j ih =>
    intro t hi m hz
    have et : ((t : Int)).toNat = t := rfl
    have d80 : decide ((t : Int) < 80) = true := decide_eq_true (by omega)
    rw [ref01_Sum512_l1, wide_spread_l0, if_pos d80, if_pos d80, next t (by omega)]
    by_cases h16 : t < 16
    · have e8 : IntKind.i64.wrap ((8 : Int) * (t : Int)) = ((8 * t : Nat) : Int) := by rw [i64s _ (by omega) (by omega)]; omega
      have e8' : IntKind.i64.wrap (((8 * t : Nat) : Int) + 8) = ((8 * t + 8 : Nat) : Int) := by rw [i64s _ (by omega) (by omega)]; omega
      have x1 : (((8 * t : Nat) : Int)).toNat = 8 * t := rfl
      have x2 : (((8 * t + 8 : Nat) : Int)).toNat = 8 * t + 8 := rfl
      have l2 := l2_ok K a3 m5 at' t h16 hat hb 8 0 (by omega) m hz.1 (by rw [hz.2 t (by omega)]; rfl)
      have ew : wN (fun j => p.getD (8 * t + j) 0) 8 = wN (fun j => a3.getD (at' + 8 * t + j) 0) 8 := by
        have q : ∀ j, j < 8 → p.getD (8 * t + j) 0 = a3.getD (at' + 8 * t + j) 0 := fun j hj => by rw [hc _ (by omega), Nat.add_assoc]
        simp only [wN_succ, q 0 (by decide), q 1 (by decide), q 2 (by decide), q 3 (by decide), q 4 (by decide), q 5 (by decide), q 6 (by decide), q 7 (by decide)]
        rfl
      have d16 : decide ((t : Int) < 16) = true := decide_eq_true (by omega)
      rw [if_pos d16, if_pos d16, e8, e8', x1, x2, if_pos ⟨by omega, by omega, by omega⟩, slice8 p hp t h16, high8, Option.bind_some, if_pos ⟨by omega, by omega⟩, et, ew]
      exact (congrArg (fun z => Option.bind z _) l2).trans (ih (t + 1) (by omega) _ (hz.set _))
    · have s15 : IntKind.i64.wrap ((t : Int) - 15) = ((t - 15 : Nat) : Int) := by rw [i64s _ (by omega) (by omega)]; omega
      have s2 : IntKind.i64.wrap ((t : Int) - 2) = ((t - 2 : Nat) : Int) := by rw [i64s _ (by omega) (by omega)]; omega
      have s16 : IntKind.i64.wrap ((t : Int) - 16) = ((t - 16 : Nat) : Int) := by rw [i64s _ (by omega) (by omega)]; omega
      have s7 : IntKind.i64.wrap ((t : Int) - 7) = ((t - 7 : Nat) : Int) := by rw [i64s _ (by omega) (by omega)]; omega
      have d16 : ¬ decide ((t : Int) < 16) = true := by simp; omega
      have b15 : (0 : Int) ≤ ((t - 15 : Nat) : Int) ∧ ((t - 15 : Nat) : Int) < ((80 : Nat) : Int) := ⟨by omega, by omega⟩
      have b2 : (0 : Int) ≤ ((t - 2 : Nat) : Int) ∧ ((t - 2 : Nat) : Int) < ((80 : Nat) : Int) := ⟨by omega, by omega⟩
      have b16 : (0 : Int) ≤ ((t - 16 : Nat) : Int) ∧ ((t - 16 : Nat) : Int) < ((80 : Nat) : Int) := ⟨by omega, by omega⟩
      have b7 : (0 : Int) ≤ ((t - 7 : Nat) : Int) ∧ ((t - 7 : Nat) : Int) < ((80 : Nat) : Int) := ⟨by omega, by omega⟩
      rw [if_neg d16, if_neg d16, s15, s2, s16, s7, if_pos b15, if_pos b2, if_pos b16, if_pos b7, if_pos b15, if_pos b2,
        rr _ 1 (-1) (by decide) (by decide) (by decide), rr _ 8 (-8) (by decide) (by decide) (by decide), rr _ 19 (-19) (by decide) (by decide) (by decide), rr _ 61 (-61) (by decide) (by decide) (by decide),
        rot_ok _ (-1) (by decide) (by decide), rot_ok _ (-8) (by decide) (by decide), rot_ok _ (-19) (by decide) (by decide), rot_ok _ (-61) (by decide) (by decide)]
      have c80 : (0 : Int) ≤ (t : Int) ∧ (t : Int) < ((80 : Nat) : Int) := ⟨by omega, by omega⟩
      simp only [Option.bind_some, if_pos c80, if_pos b16, if_pos b7]
      rw [add_order]
      exact ih (t + 1) (by omega) _ (hz.set _)
end Go.Wd
