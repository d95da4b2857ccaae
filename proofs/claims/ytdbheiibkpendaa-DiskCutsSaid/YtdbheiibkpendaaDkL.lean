/- DiskCuts, DiskRoom. -/
import Derived.Test.YtdbheiibkpendaaMDkA
namespace Go.Dk
open Go Go.Gw Go.Proofs.Sd.D
set_option linter.unusedSimpArgs false
set_option linter.unusedVariables false

theorem wu {x : Int} (h1 : 0 ≤ x) (h2 : x < 18446744073709551616) : IntKind.u64.wrap x = x := by
  simp [IntKind.wrap, IntKind.bits, IntKind.signed]; omega
theorem wu_pos (x : Int) : 0 ≤ IntKind.u64.wrap x := by
  simp [IntKind.wrap, IntKind.bits, IntKind.signed]; omega
theorem modN (x : Int) (n : Nat) (h0 : 0 < n) (h1 : n < 1000000000) : ∃ m : Nat, m < n ∧ IntKind.i64.wrap ((IntKind.u64.wrap x).tmod (n : Int)) = (m : Int) := by
  have q0 := wu_pos x
  rw [Int.tmod_eq_emod_of_nonneg q0]
  have q1 := Int.emod_nonneg (IntKind.u64.wrap x) (show (n : Int) ≠ 0 by omega)
  have q2 := Int.emod_lt_of_pos (IntKind.u64.wrap x) (show (0 : Int) < (n : Int) by omega)
  refine ⟨(IntKind.u64.wrap x % (n : Int)).toNat, by omega, ?_⟩
  rw [wrap_i (by omega) (by omega)]; omega
theorem ptr_ok {c : Nat} {H : AH} {i : Nat} {A : Dk} (h : DiskAt c H (.ptr i 0) A) : AH.ok H (.ptr i 0) 0 1 = true := by
  obtain ⟨i', m, js, hi, L, a, h, _⟩ := h
  simp only [MV.ptr.injEq, and_true] at hi
  subst hi
  rw [okC h.d]; rfl
theorem new_at (lim : Int) (h1 : 1 ≤ lim) (h2 : lim ≤ 131072) : ∃ H, disk_New lim = some (.ptr 1 0, 0, H) ∧ DiskAt 0 H (.ptr 1 0) (On lim [] 0) := new_ok lim h1 h2
theorem ite_f {α : Type} {c : Prop} [Decidable c] {a b : α} (h : ¬ c) : (if c then a else b) = b := if_neg h
theorem get_new {fs : List (Int × Fl)} {n : Int} (h : (getL fs n).isNone = true) : getL fs n = none := by simpa using h

theorem tear_none (at_ : Int) (k : Nat) (p : List Int) : tear [] (-1) at_ k p = List.replicate p.length 0 := by
  unfold tear
  rw [if_neg (by omega), if_neg (by simp)]
theorem DiskCuts (a b : List Int) (at_ : Int) (_w0 : ∀ x ∈ a, (Lit.int .u8 x).wf = true) (_w1 : ∀ x ∈ b, (Lit.int .u8 x).wf = true) (_w2 : (Lit.int .i64 at_).wf = true) : law14_DiskCuts a b at_ = some true := by
  unfold law14_DiskCuts
  by_cases ha : a.length > 300
  · rw [if_pos (decide_eq_true (by omega))]
  rw [if_neg (by simp; omega)]
  by_cases hb : b.length > 300
  · rw [if_pos (decide_eq_true (by omega))]
  rw [if_neg (by simp; omega)]
  have w1 : IntKind.i64.wrap ((a.length : Int) + 1) = ((a.length + 1 : Nat) : Int) := by rw [wrap_i (by omega) (by omega)]; omega
  have w2 : IntKind.u64.wrap ((a.length + 1 : Nat) : Int) = ((a.length + 1 : Nat) : Int) := wu (by omega) (by omega)
  obtain ⟨m, hm, w3⟩ := modN at_ (a.length + 1) (by omega) (by omega)
  rw [w1, w2, w3]
  obtain ⟨H, e0, h0⟩ := new_at 131072 (by decide) (by decide)
  have hd := ptr_ok h0
  obtain ⟨H1, e1, h1⟩ := create_at h0 9
  rw [on_create (by decide) (by decide) rfl] at e1 h1
  obtain ⟨H2, e2, h2⟩ := append_at h1 9 a (by omega) (by decide)
  simp only [List.nil_append] at e2 h2
  rw [on_append (one_get _ _) _ (by rw [one_used]; simp [Fl.all]; omega), one_upd] at e2 h2
  simp only [List.nil_append] at e2 h2
  have f2 : (⟨[], [a]⟩ : Fl).all = a := by simp [Fl.all]
  obtain ⟨H3, e3, h3⟩ := cut_at h2 9 ((a.length + 1 : Nat) : Int)
  rw [on_cut_arg (one_get _ _) _ (by rw [f2]; omega)] at e3 h3
  obtain ⟨H4, e4, h4⟩ := cut_at h3 9 (-1)
  rw [on_cut_arg (one_get _ _) _ (by omega)] at e4 h4
  obtain ⟨H5, e5, h5⟩ := cut_at h4 8 0
  rw [on_cut_none (by simp [getL])] at e5 h5
  obtain ⟨H6, e6, h6⟩ := cut_at h5 9 (m : Int)
  rw [on_cut (one_get _ _) m (by rw [f2]; omega), one_upd, f2] at e6 h6
  have s6 := size_at h6 9
  rw [on_size (one_get _ _), show (⟨a.take m, []⟩ : Fl).all = a.take m by simp [Fl.all], List.length_take, Nat.min_eq_left (by omega)] at s6
  obtain ⟨H7, e7, h7⟩ := append_at h6 9 b (by omega) (by decide)
  rw [on_append (one_get _ _) _ (by rw [one_used]; simp [Fl.all]; omega), one_upd] at e7 h7
  simp only [List.nil_append] at e7 h7
  have r7 := read_ok h7 9
  rw [on_read (one_get _ _), show (⟨a.take m, [b]⟩ : Fl).all = a.take m ++ b by simp [Fl.all]] at r7
  obtain ⟨H8, e8, h8⟩ := crash_at h7 [] (-1) 0
  obtain ⟨H9, e9, h9⟩ := start_at h8
  rw [on_crash, one_crash, show Fl.crash [] (-1) 0 0 ⟨a.take m, [b]⟩ = ⟨a.take m ++ List.replicate b.length 0, []⟩ by simp [Fl.crash, tears, tear_none]] at h9
  have r9 := read_ok h9 9
  rw [on_read (one_get _ _), show (⟨a.take m ++ List.replicate b.length 0, []⟩ : Fl).all = a.take m ++ List.replicate b.length 0 by simp [Fl.all]] at r9
  obtain ⟨H10, e10, h10⟩ := remove_at h9 9
  rw [on_remove (one_get _ _), show List.filter (fun p : Int × Fl => !(p.1 == 9)) [(9, ⟨a.take m ++ List.replicate b.length 0, []⟩)] = [] by simp] at e10 h10
  obtain ⟨H11, e11, h11⟩ := create_at h10 9
  rw [on_create (by decide) (by decide) rfl] at e11 h11
  simp only [List.nil_append] at e11 h11
  have r11 := read_ok h11 9
  rw [on_read (one_get _ _), show (⟨[], []⟩ : Fl).all = [] from rfl] at r11
  have s11 := size_at h11 9
  rw [on_size (one_get _ _), show (⟨[], []⟩ : Fl).all = [] from rfl] at s11
  have c1 : ((a.length + 1 : Nat) : Int) ≠ 0 := by omega
  have c2 : (0 : Int) ≤ 0 ∧ (0 : Int) ≤ (m : Int) ∧ (m : Int) ≤ (a.length : Int) := by omega
  have t1 : keep_Twin ((a.take m).drop 0) = some (a.take m) := by rw [List.drop_zero]; exact twin_ok _ (by simp; omega)
  have c3 : List.length (a.take m ++ b) ≤ maxN := by unfold maxN; simp; omega
  have c4 : (0 : Int) ≤ (b.length : Int) ∧ ((a.take m).length : Int) + (b.length : Int) ≤ ((maxN : Nat) : Int) := by unfold maxN; simp; omega
  have b1 := bytes_same (a.take m ++ b) (by simp; omega)
  have b2 := bytes_same (a.take m ++ List.replicate b.length 0) (by simp; omega)
  simp only [e0, Option.bind_some, hd, MV.isN, MV.isP, e1, e2, e3, e4, e5, e6, s6, e7, r7, e8, e9, r9, e10, e11, r11, s11, c1, c2, t1, c3, c4, b1, b2, bne_self_eq_false, beq_self_eq_true, Bool.false_eq_true, if_false, if_true, and_self, or_true, Int.toNat_natCast, ne_eq, not_false_eq_true, Bool.not_true, wakes_ok]
  rfl
end Go.Dk
