/- Products of words. -/
import Derived.Test.YtdcdanfeepncmaaPnF
namespace Go.Pn
open Go Go.Gw Go.Proofs.Sb.D
def xx (b : List Int) (i j : Nat) : Int := if 5 ≤ i + j then IntKind.u64.wrap (b.getD j 0 * 19) else b.getD j 0
theorem l1_step (a b h l : List Int) (k i j : Nat) (hi : i < 5) (hj : j < 5) : limb_Mul_l1 a b (i : Int) (k + 1) h l (j : Int) =
    (math_bits_Mul64 (a.getD i 0) (xx b i j)).bind fun p => (add64 (l.getD ((i + j) % 5) 0) p.2 0).bind fun q =>
      limb_Mul_l1 a b (i : Int) k (h.set ((i + j) % 5) (IntKind.u64.wrap (h.getD ((i + j) % 5) 0 + IntKind.u64.wrap (p.1 + q.2)))) (l.set ((i + j) % 5) q.1) ((j + 1 : Nat) : Int) := by
  have ci : i = 0 ∨ i = 1 ∨ i = 2 ∨ i = 3 ∨ i = 4 := by omega
  have cj : j = 0 ∨ j = 1 ∨ j = 2 ∨ j = 3 ∨ j = 4 := by omega
  rcases ci with rfl | rfl | rfl | rfl | rfl <;> rcases cj with rfl | rfl | rfl | rfl | rfl <;> (show _ = _; kernel_rfl)
theorem l1_end (a b h l : List Int) (k i : Nat) : limb_Mul_l1 a b (i : Int) (k + 1) h l 5 = some (h, l) := by kernel_rfl
abbrev MM : Int := 649037107316853453566312041152512
structure Acc (h l : List Int) (T : Nat → Int) (n : Int) : Prop where
  lh : h.length = 5
  ll : l.length = 5
  at' : ∀ t, t < 5 → 0 ≤ h.getD t 0 ∧ 0 ≤ l.getD t 0 ∧ l.getD t 0 < 18446744073709551616 ∧ h.getD t 0 * 18446744073709551616 + l.getD t 0 = T t ∧ T t ≤ n * MM
def upd (T : Nat → Int) (at' : Nat) (v : Int) : Nat → Int := fun s => if s = at' then T s + v else T s
theorem getD_set_of (l : List Int) (i : Nat) (v : Int) (t : Nat) (hi : i < l.length) : (l.set i v).getD t 0 = if t = i then v else l.getD t 0 := by
  simp only [List.getD_eq_getElem?_getD, List.getElem?_set]
  by_cases h : i = t
  · subst h; simp [hi]
  · simp [h, Ne.symm h]
theorem acc_step {a b h l : List Int} {T : Nat → Int} {n : Int} (hA : Acc h l T n) (hn' : n ≤ 40) (k i j : Nat) (hi : i < 5) (hj : j < 5)
    (b1 : 0 ≤ a.getD i 0 ∧ a.getD i 0 < 4503599627370496) (b2 : 0 ≤ xx b i j ∧ xx b i j < 144115188075855872) :
    ∃ h' l', limb_Mul_l1 a b (i : Int) (k + 1) h l (j : Int) = limb_Mul_l1 a b (i : Int) k h' l' ((j + 1 : Nat) : Int) ∧ Acc h' l' (upd T ((i + j) % 5) (a.getD i 0 * xx b i j)) (n + 1) := by
  rw [l1_step _ _ _ _ _ _ _ hi hj, mul64_ok _ _ b1.1 (by omega) b2.1 (by omega), Option.bind_some]
  have pb : 0 ≤ a.getD i 0 * xx b i j ∧ a.getD i 0 * xx b i j ≤ MM := by
    refine ⟨Int.mul_nonneg b1.1 b2.1, ?_⟩
    have := Int.mul_le_mul (a := a.getD i 0) (c := 4503599627370496) (b := xx b i j) (d := 144115188075855872) (by omega) (by omega) b2.1 (by decide)
    have e : (4503599627370496 : Int) * 144115188075855872 = MM := by decide
    omega
  generalize a.getD i 0 * xx b i j = p at *
  have hat := hA.at' ((i + j) % 5) (by omega)
  have mm : MM = 649037107316853453566312041152512 := rfl
  have nM : n * MM ≤ 40 * MM := Int.mul_le_mul_of_nonneg_right hn' (by decide)
  generalize hnm : n * MM = nm at *
  have l64 : 0 ≤ p % 18446744073709551616 := by omega
  have ea : add64 (l.getD ((i + j) % 5) 0) (p % 18446744073709551616) 0 = some ((l.getD ((i + j) % 5) 0 + p % 18446744073709551616 + 0) % 18446744073709551616, (l.getD ((i + j) % 5) 0 + p % 18446744073709551616 + 0) / 18446744073709551616) := by
    unfold add64; rw [if_pos ⟨hat.2.1, l64, by decide, by decide⟩]
  simp only [ea, Option.bind_some]
  refine ⟨_, _, rfl, ?_, ?_, ?_⟩
  · rw [List.length_set, hA.lh]
  · rw [List.length_set, hA.ll]
  · intro t ht
    rw [getD_set_of _ _ _ _ (by rw [hA.lh]; omega), getD_set_of _ _ _ _ (by rw [hA.ll]; omega)]
    have e1 : (n + 1) * MM = nm + MM := by rw [Int.add_mul, hnm, Int.one_mul]
    unfold upd
    by_cases c : t = (i + j) % 5
    · subst c
      simp only [if_true]
      generalize h.getD ((i + j) % 5) 0 = hh at *
      generalize l.getD ((i + j) % 5) 0 = l0 at *
      generalize T ((i + j) % 5) = tt at *
      obtain ⟨q1, q2, q3, q4, q5⟩ := hat
      have hr : IntKind.u64.wrap (p / 18446744073709551616 + (l0 + p % 18446744073709551616 + 0) / 18446744073709551616) = p / 18446744073709551616 + (l0 + p % 18446744073709551616 + 0) / 18446744073709551616 := u64_id (by omega) (by omega)
      rw [hr, u64_id (by omega) (by omega)]
      omega
    · simp only [if_neg c]
      have := hA.at' t ht
      rw [hnm] at this
      omega
theorem l1_all {a b h l : List Int} {T : Nat → Int} {n : Int} (hA : Acc h l T n) (hn : 0 ≤ n) (hn' : n ≤ 30) (i : Nat) (hi : i < 5) (b1 : 0 ≤ a.getD i 0 ∧ a.getD i 0 < 4503599627370496) (b2 : ∀ j, j < 5 → 0 ≤ xx b i j ∧ xx b i j < 144115188075855872) :
    ∃ h' l', limb_Mul_l1 a b (i : Int) (((5 : Int) - (0 : Int)).toNat + 1) h l 0 = some (h', l') ∧
      Acc h' l' (upd (upd (upd (upd (upd T ((i + 0) % 5) (a.getD i 0 * xx b i 0)) ((i + 1) % 5) (a.getD i 0 * xx b i 1)) ((i + 2) % 5) (a.getD i 0 * xx b i 2)) ((i + 3) % 5) (a.getD i 0 * xx b i 3)) ((i + 4) % 5) (a.getD i 0 * xx b i 4)) (n + 1 + 1 + 1 + 1 + 1) := by
  obtain ⟨h1, l1, e1, A1⟩ := acc_step hA (by omega) 5 i 0 hi (by decide) b1 (b2 0 (by decide))
  obtain ⟨h2, l2, e2, A2⟩ := acc_step A1 (by omega) 4 i 1 hi (by decide) b1 (b2 1 (by decide))
  obtain ⟨h3, l3, e3, A3⟩ := acc_step A2 (by omega) 3 i 2 hi (by decide) b1 (b2 2 (by decide))
  obtain ⟨h4, l4, e4, A4⟩ := acc_step A3 (by omega) 2 i 3 hi (by decide) b1 (b2 3 (by decide))
  obtain ⟨h5, l5, e5, A5⟩ := acc_step A4 (by omega) 1 i 4 hi (by decide) b1 (b2 4 (by decide))
  refine ⟨h5, l5, ?_, A5⟩
  exact e1.trans (e2.trans (e3.trans (e4.trans (e5.trans (l1_end a b h5 l5 0 i)))))
theorem l0_step (a b h l : List Int) (k i : Nat) (hi : i < 5) : limb_Mul_l0 a b (k + 1) h l (i : Int) =
    (limb_Mul_l1 a b (i : Int) (((5 : Int) - (0 : Int)).toNat + 1) h l 0).bind fun p => limb_Mul_l0 a b k p.1 p.2 ((i + 1 : Nat) : Int) := by
  have ci : i = 0 ∨ i = 1 ∨ i = 2 ∨ i = 3 ∨ i = 4 := by omega
  rcases ci with rfl | rfl | rfl | rfl | rfl <;> (show _ = _; kernel_rfl)
theorem l0_end (a b h l : List Int) (k : Nat) : limb_Mul_l0 a b (k + 1) h l 5 = some (h, l) := by kernel_rfl
end Go.Pn
