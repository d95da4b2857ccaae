/- What is done, one by one; whether it is too much. -/
import Derived.Test.YtdbheiibkpendaaMDkL
import Derived.Test.YtdbheiibkpendaaGwL0
namespace Go.Dk
open Go Go.Gw Go.Proofs.Sd.D
set_option linter.unusedSimpArgs false
set_option linter.unusedVariables false

abbrev AK : List LK := [.int .i64, .int .i64, .int .i64, .bytes .u8 5, .bools 4, .int .i64, .int .i64]
theorem act_of {r : List DL} (h : LKs AK r) : ∃ (a b c : Int) (bs : List Int) (kp : List Bool) (t u : Int), r = [.int .i64 a, .int .i64 b, .int .i64 c, .bytes .u8 bs, .bools kp, .int .i64 t, .int .i64 u] ∧
    (Lit.int .i64 a).wf = true ∧ (Lit.int .i64 b).wf = true ∧ (Lit.int .i64 c).wf = true ∧ (Lit.int .i64 t).wf = true ∧ (Lit.int .i64 u).wf = true := by
  obtain ⟨hl, h⟩ := h
  match r, hl with
  | [d0, d1, d2, d3, d4, d5, d6], _ =>
    obtain ⟨a, rfl, ha⟩ := h 0 _ _ rfl rfl
    obtain ⟨b, rfl, hb⟩ := h 1 _ _ rfl rfl
    obtain ⟨c, rfl, hc⟩ := h 2 _ _ rfl rfl
    obtain ⟨bs, rfl, _⟩ := h 3 _ _ rfl rfl
    obtain ⟨kp, rfl⟩ := h 4 _ _ rfl rfl
    obtain ⟨t, rfl, ht⟩ := h 5 _ _ rfl rfl
    obtain ⟨u, rfl, hu⟩ := h 6 _ _ rfl rfl
    exact ⟨a, b, c, bs, kp, t, u, rfl, ha, hb, hc, ht, hu⟩
/-- The i-th of them. -/
structure ActAt (l : List (List DL)) (i : Nat) (a b c : Int) (bs : List Int) (kp : List Bool) (t u : Int) : Prop where
  r : l.getD i [] = [.int .i64 a, .int .i64 b, .int .i64 c, .bytes .u8 bs, .bools kp, .int .i64 t, .int .i64 u]
  wc : (Lit.int .i64 c).wf = true
theorem act_at {l : List (List DL)} (h : ∀ r ∈ l, LKs AK r) {i : Nat} (hi : i < l.length) : ∃ (a b c : Int) (bs : List Int) (kp : List Bool) (t u : Int), ActAt l i a b c bs kp t u := by
  obtain ⟨a, b, c, bs, kp, t, u, hr, h1, h2, h3, _⟩ := act_of (h l[i] (List.getElem_mem hi))
  exact ⟨a, b, c, bs, kp, t, u, by rw [List.getD_eq_getElem?_getD, List.getElem?_eq_getElem hi]; exact hr, h3⟩
section
variable {l : List (List DL)} {i : Nat} {a b c : Int} {bs : List Int} {kp : List Bool} {t u : Int}
theorem ActAt.d0 (h : ActAt l i a b c bs kp t u) : dlAt l i 0 = .int .i64 a := by rw [dlAt, h.r]; rfl
theorem ActAt.d1 (h : ActAt l i a b c bs kp t u) : dlAt l i 1 = .int .i64 b := by rw [dlAt, h.r]; rfl
theorem ActAt.d2 (h : ActAt l i a b c bs kp t u) : dlAt l i 2 = .int .i64 c := by rw [dlAt, h.r]; rfl
theorem ActAt.d3 (h : ActAt l i a b c bs kp t u) : dlAt l i 3 = .bytes .u8 bs := by rw [dlAt, h.r]; rfl
theorem ActAt.d4 (h : ActAt l i a b c bs kp t u) : dlAt l i 4 = .bools kp := by rw [dlAt, h.r]; rfl
theorem ActAt.d5 (h : ActAt l i a b c bs kp t u) : dlAt l i 5 = .int .i64 t := by rw [dlAt, h.r]; rfl
theorem ActAt.d6 (h : ActAt l i a b c bs kp t u) : dlAt l i 6 = .int .i64 u := by rw [dlAt, h.r]; rfl
theorem ActAt.g3 (h : ActAt l i a b c bs kp t u) (κ : Nat) : gkAll l i 3 [.bs .u8 κ] = true := by simp [gkAll, h.d3, gkOk, ikc]
theorem ActAt.g4 (h : ActAt l i a b c bs kp t u) (κ : Nat) : gkAll l i 4 [.bb κ] = true := by simp [gkAll, h.d4, gkOk]
theorem ActAt.g (h : ActAt l i a b c bs kp t u) : gkAll l i 0 [.int .i64, .int .i64, .int .i64, .bs .u8 0, .bb 0, .int .i64, .int .i64] = true := by
  simp [gkAll, h.d0, h.d1, h.d2, h.d3, h.d4, h.d5, h.d6, gkOk, ikc]
end
/-- Not too much: no Act of those that are played has more than 300 bytes, or truths. -/
def Light (l : List (List DL)) : Prop := l.length ≤ 200 ∧ ∀ i, i < l.length → i < 50 → (dlAt l i 3).ints.length ≤ 300 ∧ (dlAt l i 4).boolL.length ≤ 300
theorem heavy_l0 {l : List (List DL)} (h : ∀ r ∈ l, LKs AK r) (hl : l.length ≤ 200) : ∀ (j i : Nat), i + j = l.length → (∀ x, x < i → x < 50 → (dlAt l x 3).ints.length ≤ 300 ∧ (dlAt l x 4).boolL.length ≤ 300) →
    law14_Heavy_l0 l (j + 1) (i : Int) = some (.inr true) ∨ (law14_Heavy_l0 l (j + 1) (i : Int) = some (.inl ()) ∧ Light l) := by
  intro j
  induction j with
  | zero =>
    intro i hi hb
    refine .inr ⟨by rw [law14_Heavy_l0, if_neg (by simp; omega)], hl, fun x hx hx2 => hb x (by omega) hx2⟩
  | succ j ih =>
    intro i hi hb
    rw [law14_Heavy_l0, if_pos (decide_eq_true (by omega))]
    by_cases h50 : i < 50
    · obtain ⟨a, b, c, bs, kp, t, u, ha⟩ := act_at h (show i < l.length by omega)
      have w2 : IntKind.i64.wrap ((i : Int) + 1) = ((i + 1 : Nat) : Int) := by rw [wrap_i (by omega) (by omega)]; omega
      rw [if_pos (decide_eq_true (by omega)), if_pos (by omega), Int.toNat_natCast, if_pos (ha.g3 0), if_pos (ha.g4 0), w2]
      by_cases h3 : (dlAt l i 3).ints.length > 300
      · rw [if_pos (decide_eq_true (by omega))]; exact .inl rfl
      rw [if_neg (by rw [decide_eq_true_eq]; omega)]
      by_cases h4 : (dlAt l i 4).boolL.length > 300
      · rw [if_pos (decide_eq_true (by omega))]; exact .inl rfl
      rw [if_neg (by rw [decide_eq_true_eq]; omega)]
      exact ih (i + 1) (by omega) fun x hx hx2 => by
        by_cases e : x = i
        · subst e; omega
        · exact hb x (by omega) hx2
    · rw [if_neg (by rw [decide_eq_true_eq]; omega)]
      exact .inr ⟨rfl, hl, fun x hx hx2 => hb x (by omega) hx2⟩
theorem heavy_ok {l : List (List DL)} (h : ∀ r ∈ l, LKs AK r) : law14_Heavy l = some true ∨ (law14_Heavy l = some false ∧ Light l) := by
  unfold law14_Heavy
  by_cases hl : l.length > 200
  · rw [if_pos (decide_eq_true (by omega))]; exact .inl rfl
  rw [if_neg (by rw [decide_eq_true_eq]; omega), show ((l.length : Int) - 0).toNat + 1 = l.length + 1 by omega]
  rcases heavy_l0 h (by omega) l.length 0 (by omega) (fun x hx => by omega) with e | ⟨e, hL⟩
  · rw [show ((0 : Nat) : Int) = 0 from rfl] at e
    rw [e]; exact .inl rfl
  · rw [show ((0 : Nat) : Int) = 0 from rfl] at e
    rw [e]; exact .inr ⟨rfl, hL⟩
end Go.Dk
