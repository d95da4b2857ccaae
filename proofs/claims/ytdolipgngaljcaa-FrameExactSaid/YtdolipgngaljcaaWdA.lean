/- What slices.Concat and slices.Clone answer. -/
import Derived.Test.YtdolipgngaljcaaSaD
namespace Go.Wd
open Go Go.Gw Go.Proofs.Sa.D
theorem i64s (x : Int) (h0 : 0 ≤ x) (h1 : x < 9223372036854775808) : IntKind.i64.wrap x = x := by
  simp only [IntKind.wrap, IntKind.bits, IntKind.signed]
  simp
  omega
theorem take_succ' (ls : List (List Int)) (i : Nat) (h : i < ls.length) : ls.take (i + 1) = ls.take i ++ [ls.getD i []] := by
  rw [List.take_succ_eq_append_getElem h]
  simp [List.getD, h]
theorem flat_le (ls : List (List Int)) (i : Nat) : (ls.take i).flatten.length ≤ ls.flatten.length := by
  conv => rhs; rw [← List.take_append_drop i ls, List.flatten_append, List.length_append]
  omega
theorem cc_l0 (ls : List (List Int)) (hb : ls.flatten.length ≤ 1000000) (hl : ls.length ≤ 1000000) : ∀ j i : Nat, i + j = ls.length →
    slices_Concat_byte_byte_l0 ls (j + 1) (((ls.take i).flatten.length : Nat) : Int) (i : Int) = some ((ls.flatten.length : Nat) : Int) := by
  intro j
  induction j with
  | zero =>
    intro i hi
    have : i = ls.length := by omega
    subst this
    rw [slices_Concat_byte_byte_l0, if_neg (by simp), List.take_length]
  | succ j ih =>
    intro i hi
    have hlt : i < ls.length := by omega
    have e1 : (i : Int).toNat = i := rfl
    have f1 := flat_le ls (i + 1)
    have f2 : (ls.take (i + 1)).flatten.length = (ls.take i).flatten.length + (ls.getD i []).length := by
      rw [take_succ' ls i hlt, List.flatten_append, List.length_append]; simp
    have e2 : IntKind.i64.wrap ((((ls.take i).flatten.length : Nat) : Int) + ((ls.getD i []).length : Int)) = (((ls.take (i + 1)).flatten.length : Nat) : Int) := by
      rw [i64s _ (by omega) (by omega)]; omega
    have e3 : IntKind.i64.wrap ((i : Int) + 1) = ((i + 1 : Nat) : Int) := by rw [i64s _ (by omega) (by omega)]; omega
    rw [slices_Concat_byte_byte_l0, if_pos (decide_eq_true (by omega)), if_pos ⟨by omega, by omega⟩, e1, e2, e3, if_neg (by simp), ih (i + 1) (by omega)]
theorem cc_l1 (ls : List (List Int)) (hb : ls.flatten.length ≤ 1000000) (hl : ls.length ≤ 1000000) : ∀ j i : Nat, i + j = ls.length →
    slices_Concat_byte_byte_l1 ls (j + 1) (ls.take i).flatten (i : Int) = some ls.flatten := by
  intro j
  induction j with
  | zero =>
    intro i hi
    have : i = ls.length := by omega
    subst this
    rw [slices_Concat_byte_byte_l1, if_neg (by simp), List.take_length]
  | succ j ih =>
    intro i hi
    have hlt : i < ls.length := by omega
    have e1 : (i : Int).toNat = i := rfl
    have f1 := flat_le ls (i + 1)
    have f2 : (ls.take i).flatten ++ ls.getD i [] = (ls.take (i + 1)).flatten := by
      rw [take_succ' ls i hlt, List.flatten_append]; simp
    have e3 : IntKind.i64.wrap ((i : Int) + 1) = ((i + 1 : Nat) : Int) := by rw [i64s _ (by omega) (by omega)]; omega
    rw [slices_Concat_byte_byte_l1, if_pos (decide_eq_true (by omega)), if_pos ⟨by omega, by omega⟩, e1, e3, f2, if_pos (by unfold maxN; omega), ih (i + 1) (by omega)]
theorem grow_ok (n : Nat) (h : n ≤ 1000000) : slices_Grow_byte_byte (n : Int) = some [] := by
  unfold slices_Grow_byte_byte
  have e : IntKind.i64.wrap ((n : Int) - 0) = (n : Int) := by rw [i64s _ (by omega) (by omega)]; omega
  rw [if_neg (by simp), Option.bind_some, e]
  by_cases hn : n = 0
  · subst hn; rfl
  · rw [if_pos (decide_eq_true (by omega)), if_pos ⟨by omega, by unfold maxN; omega⟩, if_pos ⟨by decide, by omega⟩]; rfl
/-- THE PARTS, one behind the other -/
theorem concat_ok (ls : List (List Int)) (hb : ls.flatten.length ≤ 1000000) (hl : ls.length ≤ 1000000) : slices_Concat_byte_byte ls = some ls.flatten := by
  have a := cc_l0 ls hb hl ls.length 0 (by omega)
  have b := cc_l1 ls hb hl ls.length 0 (by omega)
  have e : (((↑(List.length ls) : Int) - (0 : Int)).toNat + 1) = ls.length + 1 := by omega
  unfold slices_Concat_byte_byte
  rw [e]
  exact (congrArg (fun z => Option.bind z _) a).trans (by
    rw [Option.bind_some, grow_ok _ hb, Option.bind_some]
    exact (congrArg (fun z => Option.bind z _) b).trans rfl)
theorem clone_ok (l : List Int) (h : l.length ≤ 1000000) : slices_Clone_byte_byte l = some l := by
  unfold slices_Clone_byte_byte slices_Clone_byte_byte_x
  rw [List.nil_append, if_pos (by unfold maxN; omega)]
end Go.Wd
