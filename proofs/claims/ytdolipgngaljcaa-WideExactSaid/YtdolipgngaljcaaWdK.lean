/- WideExact. -/
import Derived.Test.YtdolipgngaljcaaWdJ
import Derived.Test.YtdolipgngaljcaaShE
namespace Go.Wd
open Go Go.Gw Go.Proofs.Sa.D
theorem obs {α β : Type} (a : α) (f : α → Option β) : (some a).bind f = f a := by rw [Option.bind_some]
theorem getD_i (ls : List (List Int)) (i : Nat) (h : i < ls.length) : ls.getD (i : Int).toNat [] = ls[i] := by simp [List.getD, h]
theorem take_i (ls : List (List Int)) (i : Nat) (h : i < ls.length) : (ls.take i).flatten ++ ls[i] = (ls.take (i + 1)).flatten := by
  rw [List.take_succ_eq_append_getElem h, List.flatten_append]; simp
theorem flat_small : ∀ (ls : List (List Int)), (∀ l ∈ ls, l.length ≤ 400) → ls.flatten.length ≤ 400 * ls.length
  | [], _ => by simp
  | l :: r, h => by
    have := flat_small r fun x hx => h x (List.mem_cons_of_mem _ hx)
    have := h l (by simp)
    rw [List.flatten_cons, List.length_append, List.length_cons]; omega
theorem all_l0 (ls : List (List Int)) (hl : ls.length ≤ 20) : ∀ (d i : Nat), i + d = ls.length → (∀ l ∈ ls.take i, l.length ≤ 400) →
    law02_WideExact_l0 ls (d + 1) (ls.take i).flatten (i : Int) = some (.inr true) ∨ (law02_WideExact_l0 ls (d + 1) (ls.take i).flatten (i : Int) = some (.inl ls.flatten) ∧ ∀ l ∈ ls, l.length ≤ 400) := by
  intro d
  induction d with
  | zero =>
    intro i hi h
    have : i = ls.length := by omega
    subst this
    rw [List.take_length] at *
    exact .inr ⟨by rw [law02_WideExact_l0, if_neg (by simp)], h⟩
  | succ d ih =>
    intro i hi h
    have hil : i < ls.length := by omega
    have c : 0 ≤ (i : Int) ∧ (i : Int) < (ls.length : Int) := ⟨by omega, by omega⟩
    rw [law02_WideExact_l0, if_pos (decide_eq_true (by omega)), if_pos c, getD_i ls i hil]
    by_cases h4 : ls[i].length > 400
    · rw [if_pos (decide_eq_true (by omega))]; exact .inl rfl
    · have h' : ∀ l ∈ ls.take (i + 1), l.length ≤ 400 := fun l hm => by
        rw [List.take_succ_eq_append_getElem hil, List.mem_append] at hm
        rcases hm with hm | hm
        · exact h l hm
        · simp only [List.mem_singleton] at hm; rw [hm]; omega
      have fs := flat_small _ h'
      rw [if_neg (by simp; omega), if_pos c, take_i ls i hil, next i (by omega), if_pos (by rw [List.length_take] at fs; unfold maxN; omega)]
      exact ih (i + 1) (by omega) h'
theorem rows_l0 (ls : List (List Int)) (hl : ls.length ≤ 1000) (h : ∀ l ∈ ls, l.length ≤ 900000) : ∀ (d i : Nat), i + d = ls.length → keep_TwinRows_l0 ls (d + 1) (ls.take i) (i : Int) = some ls := by
  intro d
  induction d with
  | zero =>
    intro i hi
    have : i = ls.length := by omega
    subst this
    rw [List.take_length, keep_TwinRows_l0, if_neg (by simp)]
  | succ d ih =>
    intro i hi
    have hil : i < ls.length := by omega
    rw [keep_TwinRows_l0, if_pos (decide_eq_true (by omega)), if_pos ⟨by omega, by omega⟩, getD_i ls i hil, Sh.twin _ (h _ (List.getElem_mem hil)), obs, ← List.take_succ_eq_append_getElem hil, next i (by omega), if_pos (by rw [List.length_take]; unfold maxR; omega)]
    exact ih (i + 1) (by omega)
theorem rows_twin (ls : List (List Int)) (hl : ls.length ≤ 1000) (h : ∀ l ∈ ls, l.length ≤ 900000) : keep_TwinRows ls = some ls := by
  have r := rows_l0 ls hl h ls.length 0 (by omega)
  have e : (((↑(List.length ls) : Int) - (0 : Int)).toNat + 1) = ls.length + 1 := by omega
  unfold keep_TwinRows
  rw [e]
  exact (congrArg (fun z => Option.bind z _) r).trans rfl
theorem same_l1 (ls : List (List Int)) (x : List Int) (y : List Int) (hl : ls.length ≤ 1000) (h : ∀ l ∈ ls, l.length ≤ 900000) : ∀ (d i : Nat), i + d = ls.length → law02_WideExact_l1 ls x ls y (d + 1) (i : Int) = some (.inl ()) := by
  intro d
  induction d with
  | zero => intro i hi; rw [law02_WideExact_l1, if_neg (by simp; omega)]
  | succ d ih =>
    intro i hi
    have hil : i < ls.length := by omega
    have c : 0 ≤ (i : Int) ∧ (i : Int) < (ls.length : Int) := ⟨by omega, by omega⟩
    rw [law02_WideExact_l1, if_pos (decide_eq_true (by omega)), if_pos c, if_pos c, getD_i ls i hil, Sh.same _ (h _ (List.getElem_mem hil)), obs, if_neg (by decide), next i (by omega)]
    exact ih (i + 1) (by omega)
theorem WideExact (ls : List (List Int)) (_w0 : ∀ l ∈ ls, ∀ x ∈ l, (Lit.int .u8 x).wf = true) : law02_WideExact ls = some true := by
  unfold law02_WideExact
  by_cases hl : ls.length > 20
  · rw [if_pos (decide_eq_true (by omega))]
  rw [if_neg (by simp; omega)]
  have e : (((↑(List.length ls) : Int) - (0 : Int)).toNat + 1) = ls.length + 1 := by omega
  have h0 := all_l0 ls (by omega) ls.length 0 (by omega) (by simp)
  rw [e]
  rcases h0 with h0 | ⟨h0, h4⟩
  · exact (congrArg (fun z => Option.bind z _) h0).trans rfl
  · refine (congrArg (fun z => Option.bind z _) h0).trans ?_
    have fs := flat_small ls h4
    have h9 : ∀ l ∈ ls, l.length ≤ 900000 := fun l hl => by have := h4 l hl; omega
    obtain ⟨r, h1, h2⟩ := sum_some ls (by omega) (by omega)
    have h3 := h2 [ls.flatten] (by simp) (by simp)
    have l1 := same_l1 ls ls.flatten r (by omega) h9 ls.length 0 (by omega)
    have s5 := sum512_eq ls.flatten (by omega)
    rw [h3] at s5
    rw [obs]
    simp only
    rw [rows_twin ls (by omega) h9, obs, h1, obs]
    refine (congrArg (fun z => Option.bind z _) l1).trans ?_
    rw [obs]
    simp only
    rw [s5, obs, if_pos (decide_eq_true rfl), h3, obs, if_pos (decide_eq_true rfl), wakes2, obs]
end Go.Wd
