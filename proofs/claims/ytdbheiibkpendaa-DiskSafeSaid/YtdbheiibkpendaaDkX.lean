/- DiskTwo. -/
import Derived.Test.YtdbheiibkpendaaDkU
namespace Go.Dk
open Go Go.Gw Go.Proofs.Sd.D
set_option linter.unusedSimpArgs false
set_option linter.unusedVariables false

theorem two_l1 {l : List (List DL)} (hl : ∀ r ∈ l, LKs AK r) (hL : Light l) (p6 d : MV) (H31 : AH) (all : List Int) : ∀ (j i : Nat) (H : AH) (A : Dk), i + j = l.length → DiskAt i H d A → law14_DiskTwo_l1 l p6 d H31 all (j + 1) H (i : Int) = some () := by
  intro j
  induction j with
  | zero => intro i H A hi h; rw [law14_DiskTwo_l1, if_neg (by simp; omega)]
  | succ j ih =>
    intro i H A hi h
    have hil : i < l.length := by omega
    have h200 := hL.1
    rw [law14_DiskTwo_l1, if_pos (decide_eq_true (by omega))]
    by_cases h50 : ¬ i < 50
    · rw [if_neg (by rw [decide_eq_true_eq]; omega)]
    have h50 : i < 50 := by omega
    obtain ⟨a, b, c, bs, kp, t, u, ha⟩ := act_at hl hil
    obtain ⟨b3, b4⟩ := hL.2 i hil h50
    rw [ha.d3] at b3
    rw [ha.d4] at b4
    simp only [DL.ints, DL.boolL] at b3 b4
    have w2 : IntKind.i64.wrap ((i : Int) + 1) = ((i + 1 : Nat) : Int) := by rw [wrap_i (by omega) (by omega)]; omega
    have nx : ∀ {H' : AH} {A' : Dk}, DiskAt (i + 1) H' d A' → law14_DiskTwo_l1 l p6 d H31 all (j + 1) H' ((i + 1 : Nat) : Int) = some () := fun {H' A'} h' => ih (i + 1) H' A' (by omega) h'
    have up : ∀ {H' : AH} {A' : Dk}, DiskAt i H' d A' → DiskAt (i + 1) H' d A' := fun {H' A'} h' => by
      obtain ⟨i', m, js, e, h'⟩ := h'
      exact ⟨i', m, js, e, h'.mono (by omega) (by omega)⟩
    rw [if_pos (decide_eq_true (by omega)), if_pos (by omega), Int.toNat_natCast, if_pos ha.g]
    simp only [ha.d0, ha.d1, ha.d2, ha.d3, ha.d4, ha.d5, ha.d6, DL.num, DL.ints, DL.boolL, w2]
    obtain ⟨Ha, ea, h1⟩ := append_at h b bs (by omega) (by omega)
    obtain ⟨Hb, eb, h2⟩ := create_at h b
    obtain ⟨Hc, ec, h3⟩ := sync_at h b
    obtain ⟨Hd, ed, h4⟩ := cut_at h b c
    obtain ⟨He, ee, h5⟩ := remove_at h b
    obtain ⟨Hf, ef, h6⟩ := crash_at h kp t u
    obtain ⟨Hg, eg, h7⟩ := start_at h
    obtain ⟨Hh, eh, h8⟩ := trip_at h c kp t u (by unfold maxR; omega)
    simp only [ea, eb, ec, ed, ee, ef, eg, eh, Option.bind_some, nx h1, nx (up h2), nx (up h3), nx (up h4), nx (up h5), nx (up h6), nx (up h7), nx (up h8), ite_self]
theorem two_l0 (rows : List (List Int)) (l : List (List DL)) (p10 : MV) (H12 : AH) (hr : rows.length ≤ 20) : ∀ (j i : Nat) (H : AH), i + j = rows.length → (rows.take i).flatten.length ≤ 300 * i → DiskAt i H (.ptr 1 0) (On 131072 [(1, ⟨[], rows.take i⟩)] 0) →
    law14_DiskTwo_l0 rows l (.ptr 1 0) p10 H12 (j + 1) H (rows.take i).flatten (i : Int) = some (.inr true) ∨
    ∃ H', law14_DiskTwo_l0 rows l (.ptr 1 0) p10 H12 (j + 1) H (rows.take i).flatten (i : Int) = some (.inl (H', rows.flatten)) ∧ DiskAt rows.length H' (.ptr 1 0) (On 131072 [(1, ⟨[], rows⟩)] 0) ∧ rows.flatten.length ≤ 6000 := by
  intro j
  induction j with
  | zero =>
    intro i H hi hb h
    obtain rfl : i = rows.length := by omega
    rw [List.take_length] at hb h ⊢
    exact .inr ⟨H, by rw [law14_DiskTwo_l0, if_neg (by simp)], h, by omega⟩
  | succ j ih =>
    intro i H hi hb h
    have hil : i < rows.length := by omega
    rw [law14_DiskTwo_l0, if_pos (decide_eq_true (by omega)), if_pos (by omega)]
    simp only [Int.toNat_natCast]
    by_cases hp : (rows.getD i []).length > 300
    · rw [if_pos (decide_eq_true (by omega))]; exact .inl rfl
    rw [if_neg (by rw [decide_eq_true_eq]; omega)]
    have htk : rows.take (i + 1) = rows.take i ++ [rows.getD i []] := by
      rw [List.take_succ_eq_append_getElem hil]
      simp [List.getD_eq_getElem?_getD, hil]
    obtain ⟨H1, e1, h1⟩ := append_at h 1 (rows.getD i []) (by omega) (by omega)
    rw [on_append (one_get _ _) _ (by rw [one_used]; simp only [Fl.all, List.nil_append]; omega), one_upd, ← htk] at e1 h1
    have w2 : IntKind.i64.wrap ((i : Int) + 1) = ((i + 1 : Nat) : Int) := by rw [wrap_i (by omega) (by omega)]; omega
    have e2 : (rows.take i).flatten ++ rows.getD i [] = (rows.take (i + 1)).flatten := by rw [htk]; simp
    have h3 := ih (i + 1) H1 (by omega) (by rw [htk]; simp only [List.flatten_append, List.length_append, List.flatten_cons, List.flatten_nil, List.append_nil]; omega) h1
    have c1 : ((rows.take i).flatten ++ rows.getD i []).length ≤ maxN := by rw [List.length_append]; unfold maxN; omega
    rw [e2] at c1
    simp only [e1, Option.bind_some, bne_self_eq_false, Bool.false_eq_true, if_false, e2, c1, if_true, w2]
    exact h3
theorem DiskTwo (rows : List (List Int)) (l : List (List DL)) (_w0 : ∀ r ∈ rows, ∀ x ∈ r, (Lit.int .u8 x).wf = true) (hl : ∀ r ∈ l, LKs AK r) : law14_DiskTwo rows l = some true := by
  unfold law14_DiskTwo
  rcases heavy_ok hl with e | ⟨e, hL⟩
  · rw [e]; rfl
  rw [e]
  simp only [Option.bind_some, Bool.false_eq_true, if_false]
  by_cases hr : rows.length > 20
  · rw [if_pos (decide_eq_true (by omega))]
  rw [if_neg (by rw [decide_eq_true_eq]; omega)]
  obtain ⟨H, e0, h0⟩ := new_at 131072 (by decide) (by decide)
  obtain ⟨G, f0, g0⟩ := new_at 500 (by decide) (by decide)
  have hd := ptr_ok h0
  have gd := ptr_ok g0
  obtain ⟨H1, e1, h1⟩ := create_at h0 1
  rw [on_create (by decide) (by decide) rfl] at e1 h1
  simp only [List.nil_append] at e1 h1
  have c1 : ((rows.length : Int) - 0).toNat + 1 = rows.length + 1 := by omega
  have c2 : ((l.length : Int) - 0).toNat + 1 = l.length + 1 := by omega
  simp only [e0, f0, hd, gd, Option.bind_some, MV.isN, MV.isP, e1, c1, c2, bne_self_eq_false, beq_self_eq_true, Bool.false_eq_true, if_false, if_true, and_self, or_true]
  rcases two_l0 rows l (.ptr 1 0) G (by omega) rows.length 0 H1 (by omega) (by simp) h1 with e2 | ⟨H2, e2, h2, hb⟩
  · have e2 : law14_DiskTwo_l0 rows l (.ptr 1 0) (.ptr 1 0) G (rows.length + 1) H1 [] (0 : Int) = some (.inr true) := e2
    rw [e2]; rfl
  · have e2 : law14_DiskTwo_l0 rows l (.ptr 1 0) (.ptr 1 0) G (rows.length + 1) H1 [] (0 : Int) = some (.inl (H2, rows.flatten)) := e2
    have e3 := two_l1 hl hL (.ptr 1 0) (.ptr 1 0) H2 rows.flatten l.length 0 G _ (by omega) g0
    rw [show ((0 : Nat) : Int) = 0 from rfl] at e3
    have r2 := read_ok h2 1
    rw [on_read (one_get _ _), show (⟨[], rows⟩ : Fl).all = rows.flatten by simp [Fl.all]] at r2
    have f2 := files_at h2
    rw [one_keys] at f2
    have o2 := off_at h2
    have l2 := life_at h2
    have b2 := bytes_same rows.flatten (by omega)
    have i2 := ints_same [1] (by simp)
    simp only [e2, Option.bind_some, e3, r2, b2, f2, i2, o2, l2, bne_self_eq_false, beq_self_eq_true, Bool.false_eq_true, if_false, if_true, Bool.not_false, wakes_ok]
end Go.Dk
