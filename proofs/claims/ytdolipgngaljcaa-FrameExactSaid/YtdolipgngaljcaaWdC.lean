/- SHA-512 of the program: the sum hangs on the parts' bytes alone, and there is one. -/
import Derived.Test.YtdolipgngaljcaaWdB
namespace Go.Wd
open Go Go.Gw Go.Proofs.Sa.D
theorem number_l0 (x : Int) : ∀ (j : Nat) (b : List Int), j ≤ 8 → b.length + j ≤ 1000000 → ∃ r, wide_number_l0 x (j + 1) b ((j : Int) - 1) = some r ∧ r.length = b.length + j := by
  intro j
  induction j with
  | zero => intro b _ _; exact ⟨b, by rw [wide_number_l0, if_neg (by decide)], rfl⟩
  | succ j ih =>
    intro b hj hb
    have e0 : ((j + 1 : Nat) : Int) - 1 = (j : Int) := by omega
    have e8 : IntKind.i64.wrap ((8 : Int) * (j : Int)) = ((8 * j : Nat) : Int) := by rw [i64s _ (by omega) (by omega)]; omega
    have e1 : IntKind.i64.wrap ((j : Int) - 1) = (j : Int) - 1 := by
      by_cases h : j = 0
      · subst h; decide
      · rw [i64s _ (by omega) (by omega)]
    rw [e0, wide_number_l0, if_pos (decide_eq_true (by omega)), e8, if_pos (by omega), if_pos (by simp; unfold maxN; omega), e1]
    obtain ⟨r, h1, h2⟩ := ih (b ++ [IntKind.u8.wrap (shr .u64 x ((8 * j : Nat) : Int))]) (by omega) (by simp; omega)
    exact ⟨r, h1, by rw [h2]; simp; omega⟩
theorem number_ok (b : List Int) (x : Int) (h : b.length ≤ 100000) : ∃ r, wide_number b x = some r ∧ r.length = b.length + 8 := by
  obtain ⟨r, h1, h2⟩ := number_l0 x 8 b (by omega) (by omega)
  exact ⟨r, by unfold wide_number; exact (congrArg (fun z => Option.bind z _) h1).trans rfl, h2⟩
theorem padded_l0 (b : List Int) : ∀ (d : Nat) (f : Nat) (out : List Int), (out.length + d) % 128 = 112 → d < f → out.length + d ≤ 100000 →
    ∃ r, wide_padded_l0 b f out = some r ∧ r.length % 128 = 112 ∧ r.length ≤ out.length + d := by
  intro d
  induction d with
  | zero =>
    intro f out h hf hl
    obtain ⟨f, rfl⟩ : ∃ g, f = g + 1 := ⟨f - 1, by omega⟩
    have e : (out.length : Int).tmod 128 = ((out.length % 128 : Nat) : Int) := rfl
    refine ⟨out, ?_, by omega, by omega⟩
    rw [wide_padded_l0, e, show out.length % 128 = 112 by omega, if_neg (by decide)]
  | succ d ih =>
    intro f out h hf hl
    obtain ⟨f, rfl⟩ : ∃ g, f = g + 1 := ⟨f - 1, by omega⟩
    have e : (out.length : Int).tmod 128 = ((out.length % 128 : Nat) : Int) := rfl
    by_cases hq : out.length % 128 = 112
    · refine ⟨out, ?_, hq, by omega⟩
      rw [wide_padded_l0, e, hq, if_neg (by decide)]
    · have hc : ((((out.length % 128 : Nat) : Int)) != 112) = true := by simp; omega
      obtain ⟨r, h1, h2, h3⟩ := ih f (out ++ [0]) (by simp; omega) (by omega) (by simp; omega)
      refine ⟨r, ?_, h2, by simp at h3; omega⟩
      rw [wide_padded_l0, e, if_pos hc, if_pos (by simp; unfold maxN; omega)]
      exact h1
theorem padded_ok (b : List Int) (h : b.length ≤ 10000) : ∃ r, wide_padded b = some r ∧ r.length % 128 = 0 ∧ r.length ≤ 20000 := by
  obtain ⟨r, h1, h2, h3⟩ := padded_l0 b ((112 + 128 - (b.length + 1) % 128) % 128) 130 (b ++ [128]) (by simp; omega) (by omega) (by simp; omega)
  simp only [List.length_append, List.length_singleton] at h3
  obtain ⟨s, g1, g2⟩ := number_ok r (shr .u64 (IntKind.u64.wrap (↑(List.length b) : Int)) (61 : Int)) (by omega)
  obtain ⟨t, k1, k2⟩ := number_ok s (shl .u64 (IntKind.u64.wrap (↑(List.length b) : Int)) (3 : Int)) (by omega)
  refine ⟨t, ?_, by omega, by omega⟩
  unfold wide_padded
  rw [clone_ok b (by omega), Option.bind_some, if_pos (by simp; unfold maxN; omega), h1, Option.bind_some, g1, Option.bind_some, k1, Option.bind_some]
theorem sum_l0 : ∀ (j f : Nat) (h p : List Int), p.length = 128 * j → j < f → j ≤ 1000 → ∃ r, wide_Sum_l0 f h p = some r := by
  intro j
  induction j with
  | zero =>
    intro f h p hp hf _
    obtain ⟨f, rfl⟩ : ∃ g, f = g + 1 := ⟨f - 1, by omega⟩
    have h0 : p.length = 0 := by omega
    exact ⟨h, by rw [wide_Sum_l0, h0, if_neg (by decide)]⟩
  | succ j ih =>
    intro f h p hp hf hj
    obtain ⟨f, rfl⟩ : ∃ g, f = g + 1 := ⟨f - 1, by omega⟩
    obtain ⟨a, ha⟩ := take_ok h ((p.take 128).drop 0) (by simp; omega)
    obtain ⟨r, hr⟩ := ih f a ((p.take (((↑(List.length p) : Int)).toNat)).drop 128) (by simp; omega) (by omega) (by omega)
    refine ⟨r, ?_⟩
    rw [wide_Sum_l0, if_pos (decide_eq_true (by omega)), if_pos ⟨by omega, by omega, by omega⟩, ha, Option.bind_some, if_pos ⟨by omega, by omega, by omega⟩]
    exact hr
theorem sum_l1 (m7 : List Int) : ∀ j i : Nat, i + j = 64 → ∀ m, ∃ r, wide_Sum_l1 m7 (j + 1) m (i : Int) = some r := by
  intro j
  induction j with
  | zero =>
    intro i hi m
    have : i = 64 := by omega
    subst this
    exact ⟨m, by rw [wide_Sum_l1, if_neg (by decide)]⟩
  | succ j ih =>
    intro i hi m
    have e1 : (i : Int).tdiv 8 = ((i / 8 : Nat) : Int) := rfl
    have e2 : (i : Int).tmod 8 = ((i % 8 : Nat) : Int) := rfl
    have e3 : IntKind.i64.wrap ((i / 8 : Nat) : Int) = ((i / 8 : Nat) : Int) := i64n _ (by omega)
    have e4 : IntKind.i64.wrap ((8 : Int) * ((i % 8 : Nat) : Int)) = ((8 * (i % 8) : Nat) : Int) := by rw [i64s _ (by omega) (by omega)]; omega
    have e5 : IntKind.i64.wrap ((56 : Int) - ((8 * (i % 8) : Nat) : Int)) = ((56 - 8 * (i % 8) : Nat) : Int) := by rw [i64s _ (by omega) (by omega)]; omega
    rw [wide_Sum_l1, if_pos (decide_eq_true (by omega)), e1, e2, e3, e4, e5, if_pos ⟨by omega, by omega⟩, if_pos (by omega), if_pos ⟨by omega, by omega⟩, next i (by omega)]
    exact ih (i + 1) (by omega) _
/-- the sum of bytes, whatever parts they come in -/
def S (a1 : List Int) : Option (List Int) := wide_Sum [a1]
theorem sum_some (ls : List (List Int)) (hb : ls.flatten.length ≤ 10000) (hl : ls.length ≤ 1000) : ∃ r, wide_Sum ls = some r ∧ ∀ ls' : List (List Int), ls'.flatten = ls.flatten → ls'.length ≤ 1000 → wide_Sum ls' = some r := by
  obtain ⟨p, h1, h2, h3⟩ := padded_ok ls.flatten hb
  obtain ⟨m, k1⟩ := sum_l0 (p.length / 128) (List.length p + 1) [(7640891576956012808 : Int), (13503953896175478587 : Int), (4354685564936845355 : Int), (11912009170470909681 : Int), (5840696475078001361 : Int), (11170449401992604703 : Int), (2270897969802886507 : Int), (6620516959819538809 : Int)] p (by omega) (by omega) (by omega)
  obtain ⟨r, g1⟩ := sum_l1 m 64 0 (by omega) (List.replicate 64 0)
  have key : ∀ ls' : List (List Int), ls'.flatten = ls.flatten → ls'.length ≤ 1000 → wide_Sum ls' = some r := by
    intro ls' he hl'
    unfold wide_Sum
    rw [concat_ok ls' (by rw [he]; omega) (by omega), Option.bind_some, he, h1, Option.bind_some, k1, Option.bind_some]
    exact (congrArg (fun z => Option.bind z _) g1).trans rfl
  exact ⟨r, key ls rfl hl, key⟩
set_option maxRecDepth 100000 in
theorem wakes2 : law02_wakes = some true := by kernel_rfl
end Go.Wd
