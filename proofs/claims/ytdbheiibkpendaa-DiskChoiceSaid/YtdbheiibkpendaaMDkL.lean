/- DiskCuts, DiskRoom. -/
import Derived.Test.YtdbheiibkpendaaMDkA
namespace Go.Dk
open Go Go.Gw Go.Proofs.Sd.D
set_option linter.unusedSimpArgs false
set_option linter.unusedVariables false

theorem wu {x : Int} (h1 : 0 ≤ x) (h2 : x < 18446744073709551616) : IntKind.u64.wrap x = x := by
  simp [IntKind.wrap, IntKind.bits, IntKind.signed]; omega
theorem wu_pos (x : Int) : 0 ≤ IntKind.u64.wrap x := by
  simp [IntKind.wrap, IntKind.bits, IntKind.signed]; omega
theorem modN (x : Int) (n : Nat) (h0 : 0 < n) (h1 : n < 1000000000) : ∃ m : Nat, m < n ∧ IntKind.i64.wrap ((IntKind.u64.wrap x).tmod (n : Int)) = (m : Int) := by
  have q0 := wu_pos x
  rw [Int.tmod_eq_emod_of_nonneg q0]
  have q1 := Int.emod_nonneg (IntKind.u64.wrap x) (show (n : Int) ≠ 0 by omega)
  have q2 := Int.emod_lt_of_pos (IntKind.u64.wrap x) (show (0 : Int) < (n : Int) by omega)
  refine ⟨(IntKind.u64.wrap x % (n : Int)).toNat, by omega, ?_⟩
  rw [wrap_i (by omega) (by omega)]; omega
theorem ptr_ok {c : Nat} {H : AH} {i : Nat} {A : Dk} (h : DiskAt c H (.ptr i 0) A) : AH.ok H (.ptr i 0) 0 1 = true := by
  obtain ⟨i', m, js, hi, L, a, h, _⟩ := h
  simp only [MV.ptr.injEq, and_true] at hi
  subst hi
  rw [okC h.d]; rfl
theorem new_at (lim : Int) (h1 : 1 ≤ lim) (h2 : lim ≤ 131072) : ∃ H, disk_New lim = some (.ptr 1 0, 0, H) ∧ DiskAt 0 H (.ptr 1 0) (On lim [] 0) := new_ok lim h1 h2
theorem ite_f {α : Type} {c : Prop} [Decidable c] {a b : α} (h : ¬ c) : (if c then a else b) = b := if_neg h
theorem get_new {fs : List (Int × Fl)} {n : Int} (h : (getL fs n).isNone = true) : getL fs n = none := by simpa using h

theorem tear_none (at_ : Int) (k : Nat) (p : List Int) : tear [] (-1) at_ k p = List.replicate p.length 0 := by
  unfold tear
  rw [if_neg (by omega), if_neg (by simp)]
theorem DiskCuts (a b : List Int) (at_ : Int) (_w0 : ∀ x ∈ a, (Lit.int .u8 x).wf = true) (_w1 : ∀ x ∈ b, (Lit.int .u8 x).wf = true) (_w2 : (Lit.int .i64 at_).wf = true) : law14_DiskCuts a b at_ = some true := by
  unfold law14_DiskCuts
  by_cases ha : a.length > 300
  · rw [if_pos (decide_eq_true (by omega))]
  rw [if_neg (by simp; omega)]
  by_cases hb : b.length > 300
  · rw [if_pos (decide_eq_true (by omega))]
  rw [if_neg (by simp; omega)]
  have w1 : IntKind.i64.wrap ((a.length : Int) + 1) = ((a.length + 1 : Nat) : Int) := by rw [wrap_i (by omega) (by omega)]; omega
  have w2 : IntKind.u64.wrap ((a.length + 1 : Nat) : Int) = ((a.length + 1 : Nat) : Int) := wu (by omega) (by omega)
  obtain ⟨m, hm, w3⟩ := modN at_ (a.length + 1) (by omega) (by omega)
  rw [w1, w2, w3]
  obtain ⟨H, e0, h0⟩ := new_at 131072 (by decide) (by decide)
  have hd := ptr_ok h0
  obtain ⟨H1, e1, h1⟩ := create_at h0 9
  rw [on_create (by decide) (by decide) rfl] at e1 h1
  obtain ⟨H2, e2, h2⟩ := append_at h1 9 a (by omega) (by decide)
  simp only [List.nil_append] at e2 h2
  rw [on_append (one_get _ _) _ (by rw [one_used]; simp [Fl.all]; omega), one_upd] at e2 h2
  simp only [List.nil_append] at e2 h2
  have f2 : (⟨[], [a]⟩ : Fl).all = a := by simp [Fl.all]
  obtain ⟨H3, e3, h3⟩ := cut_at h2 9 ((a.length + 1 : Nat) : Int)
  rw [on_cut_arg (one_get _ _) _ (by rw [f2]; omega)] at e3 h3
  obtain ⟨H4, e4, h4⟩ := cut_at h3 9 (-1)
  rw [on_cut_arg (one_get _ _) _ (by omega)] at e4 h4
  obtain ⟨H5, e5, h5⟩ := cut_at h4 8 0
  rw [on_cut_none (by simp [getL])] at e5 h5
  obtain ⟨H6, e6, h6⟩ := cut_at h5 9 (m : Int)
  rw [on_cut (one_get _ _) m (by rw [f2]; omega), one_upd, f2] at e6 h6
  have s6 := size_at h6 9
  rw [on_size (one_get _ _), show (⟨a.take m, []⟩ : Fl).all = a.take m by simp [Fl.all], List.length_take, Nat.min_eq_left (by omega)] at s6
  obtain ⟨H7, e7, h7⟩ := append_at h6 9 b (by omega) (by decide)
  rw [on_append (one_get _ _) _ (by rw [one_used]; simp [Fl.all]; omega), one_upd] at e7 h7
  simp only [List.nil_append] at e7 h7
  have r7 := read_ok h7 9
  rw [on_read (one_get _ _), show (⟨a.take m, [b]⟩ : Fl).all = a.take m ++ b by simp [Fl.all]] at r7
  obtain ⟨H8, e8, h8⟩ := crash_at h7 [] (-1) 0
  obtain ⟨H9, e9, h9⟩ := start_at h8
  rw [on_crash, one_crash, show Fl.crash [] (-1) 0 0 ⟨a.take m, [b]⟩ = ⟨a.take m ++ List.replicate b.length 0, []⟩ by simp [Fl.crash, tears, tear_none]] at h9
  have r9 := read_ok h9 9
  rw [on_read (one_get _ _), show (⟨a.take m ++ List.replicate b.length 0, []⟩ : Fl).all = a.take m ++ List.replicate b.length 0 by simp [Fl.all]] at r9
  obtain ⟨H10, e10, h10⟩ := remove_at h9 9
  rw [on_remove (one_get _ _), show List.filter (fun p : Int × Fl => !(p.1 == 9)) [(9, ⟨a.take m ++ List.replicate b.length 0, []⟩)] = [] by simp] at e10 h10
  obtain ⟨H11, e11, h11⟩ := create_at h10 9
  rw [on_create (by decide) (by decide) rfl] at e11 h11
  simp only [List.nil_append] at e11 h11
  have r11 := read_ok h11 9
  rw [on_read (one_get _ _), show (⟨[], []⟩ : Fl).all = [] from rfl] at r11
  have s11 := size_at h11 9
  rw [on_size (one_get _ _), show (⟨[], []⟩ : Fl).all = [] from rfl] at s11
  have c1 : ((a.length + 1 : Nat) : Int) ≠ 0 := by omega
  have c2 : (0 : Int) ≤ 0 ∧ (0 : Int) ≤ (m : Int) ∧ (m : Int) ≤ (a.length : Int) := by omega
  have t1 : keep_Twin ((a.take m).drop 0) = some (a.take m) := by rw [List.drop_zero]; exact twin_ok _ (by simp; omega)
  have c3 : List.length (a.take m ++ b) ≤ maxN := by unfold maxN; simp; omega
  have c4 : (0 : Int) ≤ (b.length : Int) ∧ ((a.take m).length : Int) + (b.length : Int) ≤ ((maxN : Nat) : Int) := by unfold maxN; simp; omega
  have b1 := bytes_same (a.take m ++ b) (by simp; omega)
  have b2 := bytes_same (a.take m ++ List.replicate b.length 0) (by simp; omega)
  simp only [e0, Option.bind_some, hd, MV.isN, MV.isP, e1, e2, e3, e4, e5, e6, s6, e7, r7, e8, e9, r9, e10, e11, r11, s11, c1, c2, t1, c3, c4, b1, b2, bne_self_eq_false, beq_self_eq_true, Bool.false_eq_true, if_false, if_true, and_self, or_true, Int.toNat_natCast, ne_eq, not_false_eq_true, Bool.not_true, wakes_ok]
  rfl
end Go.Dk
/- DiskRoom. -/
namespace Go.Dk
open Go Go.Gw Go.Proofs.Sd.D
set_option linter.unusedSimpArgs false
set_option linter.unusedVariables false

theorem two_get0 {x y : Int} (h : x ≠ y) (f g : Fl) : getL [(x, f), (y, g)] x = some f := by simp [getL]
theorem two_get1 {x y : Int} (h : x ≠ y) (f g : Fl) : getL [(x, f), (y, g)] y = some g := by simp [getL, h]
theorem two_upd0 {x y : Int} (h : x ≠ y) (f g k : Fl) : updL [(x, f), (y, g)] x k = [(x, k), (y, g)] := by simp [updL, Ne.symm h]
theorem two_upd1 {x y : Int} (h : x ≠ y) (f g k : Fl) : updL [(x, f), (y, g)] y k = [(x, f), (y, k)] := by simp [updL, h]
theorem two_used (x y : Int) (f g : Fl) : usedF [(x, f), (y, g)] = (f.all.length : Int) + (g.all.length : Int) := by simp [usedF]
theorem all1 (b : List Int) : (⟨[], [b]⟩ : Fl).all = b := by simp [Fl.all]
theorem all0 (b : List Int) : (⟨b, []⟩ : Fl).all = b := by simp [Fl.all]
theorem wn (n : Nat) (h : n < 9223372036854775808) : IntKind.i64.wrap (n : Int) = (n : Int) := wrap_i (by omega) (by omega)
theorem wun (n : Nat) (h : n < 9223372036854775808) : IntKind.u64.wrap (n : Int) = (n : Int) := wu (by omega) (by omega)

theorem DiskRoom (limit a b : Int) (_w0 : (Lit.int .i64 limit).wf = true) (_w1 : (Lit.int .i64 a).wf = true) (_w2 : (Lit.int .i64 b).wf = true) : law14_DiskRoom limit a b = some true := by
  unfold law14_DiskRoom
  obtain ⟨l, hl, w1⟩ := modN limit 500 (by omega) (by omega)
  rw [show ((500 : Nat) : Int) = 500 from rfl] at w1
  have w2 : IntKind.i64.wrap (1 + (l : Int)) = ((l + 1 : Nat) : Int) := by rw [wrap_i (by omega) (by omega)]; omega
  have w3 : IntKind.i64.wrap (((l + 1 : Nat) : Int) + 1) = ((l + 2 : Nat) : Int) := by rw [wrap_i (by omega) (by omega)]; omega
  have w4 := wun (l + 2) (by omega)
  obtain ⟨m, hm, w5⟩ := modN a (l + 2) (by omega) (by omega)
  have w6 : IntKind.i64.wrap ((m : Int) + 1) = ((m + 1 : Nat) : Int) := by rw [wrap_i (by omega) (by omega)]; omega
  have w7 := wun (m + 1) (by omega)
  obtain ⟨k, hk, w8⟩ := modN b (m + 1) (by omega) (by omega)
  have w9 : IntKind.i64.wrap (((l + 1 : Nat) : Int) - (m : Int)) = ((l + 1 - m : Nat) : Int) := by rw [wrap_i (by omega) (by omega)]; omega
  have w10 : IntKind.i64.wrap ((m : Int) - (k : Int)) = ((m - k : Nat) : Int) := by rw [wrap_i (by omega) (by omega)]; omega
  have w11 : IntKind.i64.wrap (((l + 1 : Nat) : Int) - (k : Int)) = ((l + 1 - k : Nat) : Int) := by rw [wrap_i (by omega) (by omega)]; omega
  simp only [w1, w2, w3, w4, w5, w6, w7, w8, w9, w10, w11]
  obtain ⟨H, e0, h0⟩ := new_at ((l + 1 : Nat) : Int) (by omega) (by omega)
  have hd := ptr_ok h0
  obtain ⟨H1, e1, h1⟩ := create_at h0 0
  rw [on_create (by decide) (by decide) rfl] at e1 h1
  simp only [List.nil_append] at e1 h1
  obtain ⟨H2, e2, h2⟩ := create_at h1 1
  rw [on_create (by decide) (by decide) rfl] at e2 h2
  simp only [List.cons_append, List.nil_append] at e2 h2
  have n01 : (0 : Int) ≠ 1 := by decide
  obtain ⟨H3, e3, h3⟩ := append_at h2 0 (List.replicate m 0) (by simp; omega) (by decide)
  rw [on_append (two_get0 n01 _ _) _ (by rw [two_used]; simp [Fl.all]; omega), two_upd0 n01] at e3 h3
  simp only [List.nil_append] at e3 h3
  obtain ⟨H4, e4, h4⟩ := append_at h3 1 (List.replicate (l + 1 - m) 0) (by simp; omega) (by decide)
  rw [on_append (two_get1 n01 _ _) _ (by rw [two_used, all1]; simp [Fl.all]; omega), two_upd1 n01] at e4 h4
  simp only [List.nil_append] at e4 h4
  obtain ⟨H5, e5, h5⟩ := append_at h4 0 [1] (by simp) (by decide)
  rw [on_append_full (two_get0 n01 _ _) _ (by rw [two_used, all1, all1]; simp; omega)] at e5 h5
  obtain ⟨H6, e6, h6⟩ := append_at h5 0 [] (by simp) (by decide)
  rw [on_append (two_get0 n01 _ _) _ (by rw [two_used, all1, all1]; simp; omega), two_upd0 n01] at e6 h6
  have f6 : (⟨[], [List.replicate m 0] ++ [[]]⟩ : Fl).all = List.replicate m 0 := by simp [Fl.all]
  have s6 := size_at h6 0
  rw [on_size (two_get0 n01 _ _), f6, List.length_replicate] at s6
  obtain ⟨H7, e7, h7⟩ := cut_at h6 0 (k : Int)
  rw [on_cut (two_get0 n01 _ _) k (by rw [f6]; simp; omega), two_upd0 n01, f6] at e7 h7
  have f7 : (⟨List.take k (List.replicate m (0 : Int)), []⟩ : Fl).all = List.replicate k 0 := by
    rw [all0, List.take_replicate, Nat.min_eq_left (by omega)]
  obtain ⟨H8, e8, h8⟩ := append_at h7 1 (List.replicate (m - k) 0) (by simp; omega) (by decide)
  rw [on_append (two_get1 n01 _ _) _ (by rw [two_used, f7, all1]; simp; omega), two_upd1 n01] at e8 h8
  have f8 : (⟨[], [List.replicate (l + 1 - m) (0 : Int)] ++ [List.replicate (m - k) 0]⟩ : Fl).all = List.replicate (l + 1 - k) 0 := by
    simp only [Fl.all, List.nil_append, List.cons_append, List.flatten_cons, List.flatten_nil, List.append_nil, List.replicate_append_replicate]
    congr 1; omega
  obtain ⟨H9, e9, h9⟩ := append_at h8 1 [1] (by simp) (by decide)
  rw [on_append_full (two_get1 n01 _ _) _ (by rw [two_used, f7, f8]; simp; omega)] at e9 h9
  obtain ⟨H10, e10, h10⟩ := remove_at h9 1
  rw [on_remove (two_get1 n01 _ _), show ∀ f g : Fl, List.filter (fun p : Int × Fl => !(p.1 == 1)) [(0, f), (1, g)] = [(0, f)] from fun f g => by simp] at e10 h10
  have s10 := size_at h10 1
  rw [show (On ((l + 1 : Nat) : Int) [(0, (⟨List.take k (List.replicate m (0 : Int)), []⟩ : Fl))] 0).size 1 = 0 from by simp [Dk.size, getL]] at s10
  obtain ⟨H11, e11, h11⟩ := append_at h10 0 (List.replicate (l + 1 - k) 0) (by simp; omega) (by decide)
  rw [on_append (one_get _ _) _ (by rw [one_used, f7]; simp; omega), one_upd] at e11 h11
  obtain ⟨H12, e12, h12⟩ := append_at h11 0 [1] (by simp) (by decide)
  rw [on_append_full (one_get _ _) _ (by rw [one_used]; simp [Fl.all]; omega)] at e12 h12
  obtain ⟨H13, e13, h13⟩ := append_at h12 1 [] (by simp) (by decide)
  rw [on_append_none (by simp [getL])] at e13 h13
  have c1 : ((l + 2 : Nat) : Int) ≠ 0 := by omega
  have c2 : ((m + 1 : Nat) : Int) ≠ 0 := by omega
  have c3 : (0 : Int) ≤ (m : Int) ∧ (m : Int) ≤ ((maxN : Nat) : Int) := by unfold maxN; omega
  have c4 : (0 : Int) ≤ ((l + 1 - m : Nat) : Int) ∧ ((l + 1 - m : Nat) : Int) ≤ ((maxN : Nat) : Int) := by unfold maxN; omega
  have c5 : (0 : Int) ≤ ((m - k : Nat) : Int) ∧ ((m - k : Nat) : Int) ≤ ((maxN : Nat) : Int) := by unfold maxN; omega
  have c6 : (0 : Int) ≤ ((l + 1 - k : Nat) : Int) ∧ ((l + 1 - k : Nat) : Int) ≤ ((maxN : Nat) : Int) := by unfold maxN; omega
  simp only [e0, Option.bind_some, hd, MV.isN, MV.isP, e1, e2, e3, e4, e5, e6, s6, e7, e8, e9, e10, s10, e11, e12, e13, c1, c2, c3, c4, c5, c6, bne_self_eq_false, beq_self_eq_true, Bool.false_eq_true, if_false, if_true, and_self, or_true, Int.toNat_natCast, ne_eq, not_false_eq_true, Bool.not_true, wakes_ok]
end Go.Dk
/- DiskLives. -/
namespace Go.Dk
open Go Go.Gw Go.Proofs.Sd.D
set_option linter.unusedSimpArgs false
set_option linter.unusedVariables false

def bs (i : Nat) : List Int := (List.range i).map fun j => ((j + 1 : Nat) : Int)
theorem bs_succ (i : Nat) : bs (i + 1) = bs i ++ [((i + 1 : Nat) : Int)] := by simp [bs, List.range_succ]
theorem bs_len (i : Nat) : (bs i).length = i := by simp [bs]
theorem bs_get (i j : Nat) (h : j < i) : (bs i).getD j 0 = ((j + 1 : Nat) : Int) := by
  simp [bs, List.getD_eq_getElem?_getD, List.getElem?_map, List.getElem?_range h]
theorem w8 {x : Int} (h1 : 0 ≤ x) (h2 : x < 256) : IntKind.u8.wrap x = x := by
  simp [IntKind.wrap, IntKind.bits, IntKind.signed]; omega

theorem DiskAt.re {c c' : Nat} {H : AH} {d : MV} {A : Dk} (h : DiskAt c H d A) (hc : c' ≤ 1000000) (hp : ∀ p ∈ A.fs, p.2.ps.length ≤ c') : DiskAt c' H d A := by
  obtain ⟨i, m, js, hi, L, a, h1, h2, h3, h4, h5⟩ := h
  exact ⟨i, m, js, hi, L, a, h1, h2, h3, h4, ⟨hc, h5.rg, hp, h5.us, h5.lim, h5.nd⟩⟩
theorem lives_l2 (n : Int) (tw : Bool) (x : Int) {c : Nat} {d : MV} {lim life : Int} {f : Fl} (hf : f.ps = []) : ∀ (j k : Nat) (H : AH), k + j = 4 → DiskAt c H d (On lim [(0, f)] life) →
    ∃ H', law14_DiskLives_l2 n tw d x (j + 1) H (k : Int) = some (.inl H') ∧ DiskAt c H' d (On lim [(0, f)] life) := by
  intro j
  induction j with
  | zero => intro k H hk h; exact ⟨H, by rw [law14_DiskLives_l2, if_neg (by simp; omega)], h⟩
  | succ j ih =>
    intro k H hk h
    obtain ⟨H1, e1, h1⟩ := sync_at h 0
    rw [on_sync (one_get _ _), one_upd, show f.settle = f by cases f; simp only at hf; subst hf; simp [Fl.settle, Fl.all]] at e1 h1
    obtain ⟨H2, e2, h2⟩ := ih (k + 1) H1 (by omega) h1
    refine ⟨H2, ?_, h2⟩
    have e : IntKind.i64.wrap ((k : Int) + 1) = ((k + 1 : Nat) : Int) := by rw [wrap_i (by omega) (by omega)]; omega
    rw [law14_DiskLives_l2, if_pos (by simp; omega), e1]
    refine (Option.bind_some _ _).trans ?_
    simp only [bne_self_eq_false, Bool.false_eq_true, if_false, e]
    exact e2
theorem lives_l0 (n : Int) (tw : Bool) (N : Nat) (hN : N < 15) (hn : IntKind.i64.wrap ((IntKind.u64.wrap n).tmod (15 : Int)) = (N : Int)) : ∀ (j i : Nat) (H : AH), i + j = N → DiskAt 0 H (.ptr 1 0) (On 1000 [(0, ⟨bs i, []⟩)] (i : Int)) →
    ∃ H', law14_DiskLives_l0 n tw (.ptr 1 0) (j + 1) H (i : Int) = some (.inl H') ∧ DiskAt 0 H' (.ptr 1 0) (On 1000 [(0, ⟨bs N, []⟩)] (N : Int)) := by
  intro j
  induction j with
  | zero =>
    intro i H hi h
    obtain rfl : i = N := by omega
    exact ⟨H, by rw [law14_DiskLives_l0, hn, if_neg (by simp)], h⟩
  | succ j ih =>
    intro i H hi h
    obtain ⟨H1, e1, h1⟩ := trip_at h 3 [] (-1) 0 (by decide)
    obtain ⟨H2, e2, h2⟩ := append_at h1 0 [((i + 1 : Nat) : Int)] (by simp) (by omega)
    have va : (Dk.trip (On 1000 [(0, ⟨bs i, []⟩)] (i : Int)) 3 [] (-1) 0).append 0 [((i + 1 : Nat) : Int)] = (0, ⟨1000, [(0, ⟨bs i, [[((i + 1 : Nat) : Int)]]⟩)], false, (i : Int), some (2, [], -1, 0)⟩) := by
      unfold Dk.append Dk.trip
      simp only [one_get, one_used, one_upd, all0, bs_len, List.length_cons, List.length_nil, Bool.false_eq_true, if_false]
      rw [if_neg (by omega)]
      rfl
    rw [va] at e2 h2
    obtain ⟨H3, e3, h3⟩ := crash_at h2 [true] (-1) 0
    have vc : Dk.crash ⟨1000, [(0, ⟨bs i, [[((i + 1 : Nat) : Int)]]⟩)], false, (i : Int), some (2, [], -1, 0)⟩ [true] (-1) 0 = ⟨1000, [(0, ⟨bs (i + 1), []⟩)], true, ((i + 1 : Nat) : Int), none⟩ := by
      unfold Dk.crash
      simp only [Bool.false_eq_true, if_false]
      rw [one_crash, wrap_i (by omega) (by omega)]
      simp only [Fl.crash, tears, tear, bs_succ, List.flatten_cons, List.flatten_nil, List.append_nil]
      rw [if_neg (by decide), if_pos (by decide)]
      rfl
    rw [vc] at h3
    obtain ⟨H4, e4, h4⟩ := crash_at h3 [] 0 0
    rw [show Dk.crash ⟨1000, [(0, ⟨bs (i + 1), []⟩)], true, ((i + 1 : Nat) : Int), none⟩ [] 0 0 = ⟨1000, [(0, ⟨bs (i + 1), []⟩)], true, ((i + 1 : Nat) : Int), none⟩ by simp [Dk.crash]] at h4
    have mid : ∃ H5, (if tw = true then (disk_Disk_Crash H3 (.ptr 1 0) [] (0 : Int) (0 : Int)).bind (fun H33 => some H33) else some H3) = some H5 ∧ DiskAt 1 H5 (.ptr 1 0) ⟨1000, [(0, ⟨bs (i + 1), []⟩)], true, ((i + 1 : Nat) : Int), none⟩ := by
      cases tw
      · exact ⟨H3, rfl, h3⟩
      · exact ⟨H4, by rw [e4]; rfl, h4⟩
    obtain ⟨H5, e5, h5⟩ := mid
    have l5 := life_at h5
    have o5 := off_at h5
    obtain ⟨H6, e6, h6⟩ := append_at h5 0 [] (by simp) (by omega)
    rw [show Dk.append ⟨1000, [(0, ⟨bs (i + 1), []⟩)], true, ((i + 1 : Nat) : Int), none⟩ 0 [] = (8, ⟨1000, [(0, ⟨bs (i + 1), []⟩)], true, ((i + 1 : Nat) : Int), none⟩) by simp [Dk.append]] at e6 h6
    obtain ⟨H7, e7, h7⟩ := start_at h6
    obtain ⟨H8, e8, h8⟩ := start_at h7
    have h8' : DiskAt 0 H8 (.ptr 1 0) (On 1000 [(0, ⟨bs (i + 1), []⟩)] ((i + 1 : Nat) : Int)) := h8.re (by omega) (by simp [Dk.start])
    obtain ⟨H9, e9, h9⟩ := lives_l2 n tw (i : Int) rfl 4 0 H8 (by omega) h8'
    obtain ⟨H10, e10, h10⟩ := ih (i + 1) H9 (by omega) h9
    refine ⟨H10, ?_, h10⟩
    have w1 : IntKind.u8.wrap (IntKind.i64.wrap (1 + (i : Int))) = ((i + 1 : Nat) : Int) := by rw [wrap_i (by omega) (by omega), w8 (by omega) (by omega)]; omega
    have w2 : IntKind.i64.wrap ((i : Int) + 1) = ((i + 1 : Nat) : Int) := by rw [wrap_i (by omega) (by omega)]; omega
    have b1 : AH.isBools (([] : AH) ++ [MO.row 4 1 [MV.bool true]]) (MV.slc (List.length ([] : AH)) 1 0 1) = true := rfl
    have b2 : AH.bools (([] : AH) ++ [MO.row 4 1 [MV.bool true]]) (MV.slc (List.length ([] : AH)) 1 0 1) = [true] := rfl
    have e9 : law14_DiskLives_l2 n tw (.ptr 1 0) (i : Int) (((4 : Int) - (0 : Int)).toNat + 1) H8 (0 : Int) = some (.inl H9) := e9
    have c1 : decide ((i : Int) < (N : Int)) = true := by simp; omega
    rw [law14_DiskLives_l0]
    simp only [hn, w1, w2, b1, b2, c1, e1, e2, e3, e5, l5, o5, e6, e7, e8, e9, e10, Option.bind_some, bne_self_eq_false, beq_self_eq_true, Bool.false_eq_true, if_false, if_true, Bool.not_true]
theorem lives_l3 (n : Int) (N : Nat) (hN : N < 15) (hn : IntKind.i64.wrap ((IntKind.u64.wrap n).tmod (15 : Int)) = (N : Int)) : ∀ (j i : Nat), i + j = N → law14_DiskLives_l3 n (bs N) (j + 1) (i : Int) = some (.inl ()) := by
  intro j
  induction j with
  | zero => intro i hi; rw [law14_DiskLives_l3, hn, if_neg (by simp; omega)]
  | succ j ih =>
    intro i hi
    have w1 : IntKind.u8.wrap (IntKind.i64.wrap (1 + (i : Int))) = ((i + 1 : Nat) : Int) := by rw [wrap_i (by omega) (by omega), w8 (by omega) (by omega)]; omega
    have w2 : IntKind.i64.wrap ((i : Int) + 1) = ((i + 1 : Nat) : Int) := by rw [wrap_i (by omega) (by omega)]; omega
    rw [law14_DiskLives_l3, hn, if_pos (by simp; omega), if_pos ⟨by omega, by rw [bs_len]; omega⟩, w1, w2, Int.toNat_natCast, bs_get _ _ (by omega), if_neg (by simp)]
    exact ih (i + 1) (by omega)
theorem DiskLives (n : Int) (tw : Bool) (_w0 : (Lit.int .i64 n).wf = true) : law14_DiskLives n tw = some true := by
  unfold law14_DiskLives
  obtain ⟨N, hN, hn⟩ := modN n 15 (by omega) (by omega)
  rw [show ((15 : Nat) : Int) = 15 from rfl] at hn
  obtain ⟨H, e0, h0⟩ := new_at 1000 (by decide) (by decide)
  have hd := ptr_ok h0
  have l0 := life_at h0
  obtain ⟨H1, e1, h1⟩ := create_at h0 0
  rw [on_create (by decide) (by decide) rfl] at e1 h1
  simp only [List.nil_append] at e1 h1
  obtain ⟨H2, e2, h2⟩ := lives_l0 n tw N hN hn N 0 H1 (by omega) h1
  have r2 := read_ok h2 0
  rw [on_read (one_get _ _), all0] at r2
  have e3 := lives_l3 n N hN hn N 0 (by omega)
  rw [show ((0 : Nat) : Int) = 0 from rfl] at e2 e3
  have c1 : ((N : Int) - 0).toNat + 1 = N + 1 := by omega
  simp only [hn, e0, hd, l0, Option.bind_some, MV.isN, MV.isP, e1, c1, e2, r2, e3, bs_len, bne_self_eq_false, beq_self_eq_true, Bool.false_eq_true, if_false, if_true, and_self, or_true, Bool.not_true, wakes_ok]
end Go.Dk
/- DiskTrips. -/
namespace Go.Dk
open Go Go.Gw Go.Proofs.Sd.D
set_option linter.unusedSimpArgs false
set_option linter.unusedVariables false

section
variable {A : Dk} {n : Int}
theorem up_create_twice (ho : A.off = false) (h0 : 0 ≤ n) (h1 : n < 64) {f : Fl} (hn : getL A.fs n = some f) : A.create n = (11, A) := by
  unfold Dk.create
  rw [if_neg (by simp [ho]), if_neg (by omega), if_neg (by omega)]
  simp only [hn, Option.isSome_some, if_true]
theorem up_sync_none (ho : A.off = false) (hn : getL A.fs n = none) : A.sync n = (10, A) := by
  unfold Dk.sync
  rw [if_neg (by simp [ho])]
  simp only [hn]
theorem up_cut_arg (ho : A.off = false) {f : Fl} (hn : getL A.fs n = some f) (m : Int) (hm : ¬ (0 ≤ m ∧ m ≤ (f.all.length : Int))) : A.cut n m = (1, A) := by
  unfold Dk.cut
  rw [if_neg (by simp [ho])]
  simp only [hn]
  by_cases h0 : m < 0
  · rw [if_pos h0]
  · rw [if_neg h0, if_pos (by omega)]
theorem up_remove_none (ho : A.off = false) (hn : getL A.fs n = none) : A.remove n = (10, A) := by
  unfold Dk.remove
  rw [if_neg (by simp [ho])]
  simp only [hn]
theorem up_append_none (ho : A.off = false) (hn : getL A.fs n = none) (b : List Int) : A.append n b = (10, A) := by
  unfold Dk.append
  rw [if_neg (by simp [ho])]
  simp only [hn]
theorem up_append (ho : A.off = false) {f : Fl} (hn : getL A.fs n = some f) (b : List Int) (hb : (b.length : Int) ≤ A.lim - usedF A.fs) : A.append n b = Dk.spend { A with fs := updL A.fs n ⟨f.s, f.ps ++ [b]⟩ } := by
  unfold Dk.append
  rw [if_neg (by simp [ho])]
  simp only [hn]
  rw [if_neg (by omega)]
end

theorem putL_fill (i m : Nat) (x y : MV) (h : i < m) : putL (List.replicate i x ++ List.replicate (m - i) y) i [x] = List.replicate (i + 1) x ++ List.replicate (m - (i + 1)) y := by
  simp only [putL, List.length_cons, List.length_nil]
  rw [List.take_left' (by simp)]
  rw [show List.drop (i + (0 + 1)) (List.replicate i x ++ List.replicate (m - i) y) = List.replicate (m - (i + 1)) y by
    rw [List.drop_append]
    simp [List.drop_replicate]
    omega]
  rw [List.replicate_succ', List.append_assoc]
theorem trips_l0 (n : Int) (K : Bool) (d : MV) (H0 : AH) : ∀ (j i : Nat), i + j = 40 →
    law14_DiskTrips_l0 n K d H0 (j + 1) [MO.row 4 1 (List.replicate i (.bool K) ++ List.replicate (40 - i) (.bool false))] (i : Int) = some [MO.row 4 1 (List.replicate 40 (.bool K))] := by
  intro j
  induction j with
  | zero =>
    intro i hi
    obtain rfl : i = 40 := by omega
    rw [law14_DiskTrips_l0]
    have h : AH.at [MO.row 4 1 (List.replicate 40 (.bool K) ++ List.replicate (40 - 40) (.bool false))] 0 = .row 4 1 (List.replicate 40 (.bool K) ++ List.replicate (40 - 40) (.bool false)) := rfl
    simp only [List.length_nil]
    rw [if_pos (show AH.isRow _ 1 (.slc 0 1 0 40) = true from isRow_of h 0 40 (by simp)), if_neg (by simp [len_slc])]
    simp
  | succ j ih =>
    intro i hi
    rw [law14_DiskTrips_l0]
    have h : AH.at [MO.row 4 1 (List.replicate i (.bool K) ++ List.replicate (40 - i) (.bool false))] 0 = .row 4 1 (List.replicate i (.bool K) ++ List.replicate (40 - i) (.bool false)) := rfl
    have hr : AH.isRow [MO.row 4 1 (List.replicate i (.bool K) ++ List.replicate (40 - i) (.bool false))] 1 (.slc 0 1 0 40) = true := isRow_of h 0 40 (by simp; omega)
    have ho : AH.ok [MO.row 4 1 (List.replicate i (.bool K) ++ List.replicate (40 - i) (.bool false))] (.slc 0 1 0 40) (i * 1 + 0) 1 = true := by
      rw [okS h 0 40 _ _ (by simp; omega)]
      exact Nat.ble_eq_true_of_le (by simp; omega)
    have hw : AH.wr [MO.row 4 1 (List.replicate i (.bool K) ++ List.replicate (40 - i) (.bool false))] (.slc 0 1 0 40) (i * 1 + 0) [.bool K] = [MO.row 4 1 (List.replicate (i + 1) (.bool K) ++ List.replicate (40 - (i + 1)) (.bool false))] := by
      rw [wrS h, Nat.zero_mul, Nat.zero_add, Nat.mul_one, Nat.add_zero, putL_fill i 40 _ _ (by omega)]; rfl
    have w2 : IntKind.i64.wrap ((i : Int) + 1) = ((i + 1 : Nat) : Int) := by rw [wrap_i (by omega) (by omega)]; omega
    have c1 : (0 : Int) ≤ (i : Int) ∧ (i : Int) < ((40 : Nat) : Int) := by omega
    have c2 : decide ((i : Int) < ((40 : Nat) : Int)) = true := by simp; omega
    simp only [List.length_nil, hr, len_slc, c1, c2, Int.toNat_natCast, ho, hw, w2, and_self, if_true]
    exact ih (i + 1) (by omega)
theorem tears_all (K : Bool) : ∀ (m k : Nat), k + m ≤ 40 → tears (List.replicate 40 K) (-1) 0 k (List.replicate m [9]) = List.replicate m [if K = true then 9 else 0] := by
  intro m
  induction m with
  | zero => intro k _; rfl
  | succ m ih =>
    intro k hk
    show tear (List.replicate 40 K) (-1) 0 k [9] :: tears (List.replicate 40 K) (-1) 0 (k + 1) (List.replicate m [9]) = [if K = true then 9 else 0] :: List.replicate m [if K = true then 9 else 0]
    rw [ih (k + 1) (by omega)]
    congr 1
    unfold tear
    rw [if_neg (by omega)]
    have hg : (List.replicate 40 K).getD k false = K := by
      rw [List.getD_eq_getElem?_getD, List.getElem?_replicate, if_pos (by omega)]; rfl
    rw [hg]
    cases K <;> rfl
/-- Armed, with some bytes put. -/
def T (K : Bool) (N i : Nat) : Dk := ⟨131072, [(0, ⟨[], List.replicate i [9]⟩)], false, 0, some (((N - i : Nat) : Int), List.replicate 40 K, -1, 0)⟩
theorem flat_rep (m : Nat) (x : Int) : (List.replicate m [x]).flatten = List.replicate m x := by
  induction m with
  | zero => rfl
  | succ m ih => rw [List.replicate_succ, List.flatten_cons, ih, List.replicate_succ]; rfl
theorem trips_l1 (n : Int) (K : Bool) (N : Nat) (h0 : 0 < N) (hN : N ≤ 20) (hn : IntKind.i64.wrap (1 + IntKind.i64.wrap ((IntKind.u64.wrap n).tmod (20 : Int))) = (N : Int)) : ∀ (j i fu : Nat) (H : AH), i + j = N → 0 < j → j + 1 ≤ fu → DiskAt (2 * i) H (.ptr 1 0) (T K N i) →
    ∃ H', law14_DiskTrips_l1 n K (.ptr 1 0) fu H ((i + 1 : Nat) : Int) = some (.inl H') ∧ DiskAt 0 H' (.ptr 1 0) ⟨131072, [(0, ⟨List.replicate N (if K = true then 9 else 0), []⟩)], true, 1, none⟩ := by
  intro j
  induction j with
  | zero => intro i fu H _ hj; omega
  | succ j ih =>
    intro i fu H hi _ hfu h
    obtain ⟨fu, rfl⟩ : ∃ f', fu = f' + 1 := ⟨fu - 1, by omega⟩
    obtain ⟨H1, e1, h1⟩ := create_at h 0
    rw [up_create_twice rfl (by decide) (by decide) (one_get _ _)] at e1 h1
    obtain ⟨H2, e2, h2⟩ := sync_at h1 5
    rw [up_sync_none rfl rfl] at e2 h2
    obtain ⟨H3, e3, h3⟩ := cut_at h2 0 (-1)
    rw [up_cut_arg rfl (one_get _ _) _ (by omega)] at e3 h3
    obtain ⟨H4, e4, h4⟩ := remove_at h3 5
    rw [up_remove_none rfl rfl] at e4 h4
    obtain ⟨H5, e5, h5⟩ := append_at h4 5 [] (by simp) (by omega)
    rw [up_append_none rfl rfl] at e5 h5
    obtain ⟨H6, e6, h6⟩ := append_at h5 0 [9] (by simp) (by omega)
    have hfl : (⟨[], List.replicate i [9]⟩ : Fl).all.length = i := by simp [Fl.all]
    rw [up_append rfl (one_get _ _) _ (by simp only [T, one_used, hfl, List.length_cons, List.length_nil]; omega)] at e6 h6
    have w2 : IntKind.i64.wrap (((i + 1 : Nat) : Int) + 1) = ((i + 1 + 1 : Nat) : Int) := by rw [wrap_i (by omega) (by omega)]; omega
    have w3 : IntKind.i64.wrap (((N - i : Nat) : Int) - 1) = ((N - (i + 1) : Nat) : Int) := by rw [wrap_i (by omega) (by omega)]; omega
    have c1 : decide (((i + 1 : Nat) : Int) ≤ (N : Int)) = true := by simp; omega
    have hsp : Dk.spend { T K N i with fs := updL (T K N i).fs 0 ⟨[], List.replicate i [9] ++ [[9]]⟩ } = if ((N - (i + 1) : Nat) : Int) > 0 then (0, T K N (i + 1)) else (8, ⟨131072, [(0, ⟨List.replicate N (if K = true then 9 else 0), []⟩)], true, 1, none⟩) := by
      rw [show updL (T K N i).fs 0 ⟨[], List.replicate i [9] ++ [[9]]⟩ = [(0, ⟨[], List.replicate (i + 1) [9]⟩)] by rw [List.replicate_succ']; exact one_upd _ _ _]
      unfold Dk.spend
      simp only [T, w3]
      split
      · rfl
      · unfold Dk.crash
        simp only [Bool.false_eq_true, if_false, one_crash, Fl.crash, List.nil_append]
        rw [tears_all K (i + 1) 0 (by omega), show i + 1 = N by omega, flat_rep]
        rfl
    rw [hsp] at e6 h6
    by_cases hl : j = 0
    · have hz : ¬ ((N - (i + 1) : Nat) : Int) > 0 := by omega
      rw [if_neg hz] at e6 h6
      have hb : (((i + 1 : Nat) : Int) == (N : Int)) = true := by simp; omega
      obtain ⟨fu, rfl⟩ : ∃ f', fu = f' + 1 := ⟨fu - 1, by omega⟩
      refine ⟨H6, ?_, h6.re (by omega) (by simp)⟩
      have hend : law14_DiskTrips_l1 n K (.ptr 1 0) (fu + 1) H6 ((i + 1 + 1 : Nat) : Int) = some (.inl H6) := by rw [law14_DiskTrips_l1, hn, if_neg (by simp; omega)]
      rw [law14_DiskTrips_l1]
      simp only [hn, c1, e1, e2, e3, e4, e5, e6, hb, w2, hend, Option.bind_some, bne_self_eq_false, beq_self_eq_true, Bool.false_eq_true, if_false, if_true, Bool.not_true, show ((8 : Int) != 0) = true from rfl]
    · have hz : ((N - (i + 1) : Nat) : Int) > 0 := by omega
      rw [if_pos hz] at e6 h6
      have hb : (((i + 1 : Nat) : Int) == (N : Int)) = false := by simp; omega
      obtain ⟨H7, e7, h7⟩ := ih (i + 1) fu H6 (by omega) (by omega) (by omega) (by
        have : 2 * i + 1 + 1 = 2 * (i + 1) := by omega
        rw [← this]; exact h6)
      refine ⟨H7, ?_, h7⟩
      rw [law14_DiskTrips_l1]
      simp only [hn, c1, e1, e2, e3, e4, e5, e6, hb, w2, e7, Option.bind_some, bne_self_eq_false, beq_self_eq_true, Bool.false_eq_true, if_false, if_true, Bool.not_true, show ((0 : Int) == 8) = false from rfl]
theorem trips_l2 (n : Int) (K : Bool) (d : MV) (H : AH) (N : Nat) (hN : N ≤ 20) (hn : IntKind.i64.wrap (1 + IntKind.i64.wrap ((IntKind.u64.wrap n).tmod (20 : Int))) = (N : Int)) : ∀ (j i : Nat), i + j = N →
    law14_DiskTrips_l2 n K d H (List.replicate N (if K = true then 9 else 0)) (j + 1) (i : Int) = some (.inl ()) := by
  intro j
  induction j with
  | zero => intro i hi; rw [law14_DiskTrips_l2, hn, if_neg (by simp; omega)]
  | succ j ih =>
    intro i hi
    have w2 : IntKind.i64.wrap ((i : Int) + 1) = ((i + 1 : Nat) : Int) := by rw [wrap_i (by omega) (by omega)]; omega
    have hg : (List.replicate N (if K = true then (9 : Int) else 0)).getD i 0 = if K = true then 9 else 0 := by
      rw [List.getD_eq_getElem?_getD, List.getElem?_replicate, if_pos (by omega)]; rfl
    have := ih (i + 1) (by omega)
    rw [law14_DiskTrips_l2, hn, if_pos (by simp; omega), if_pos ⟨by omega, by simp; omega⟩]
    simp only [Int.toNat_natCast, hg, w2, this]
    cases K <;> rfl
theorem DiskTrips (n : Int) (K : Bool) (_w0 : (Lit.int .i64 n).wf = true) : law14_DiskTrips n K = some true := by
  unfold law14_DiskTrips
  obtain ⟨N0, hN0, hn0⟩ := modN n 20 (by omega) (by omega)
  rw [show ((20 : Nat) : Int) = 20 from rfl] at hn0
  have hn : IntKind.i64.wrap (1 + IntKind.i64.wrap ((IntKind.u64.wrap n).tmod (20 : Int))) = ((N0 + 1 : Nat) : Int) := by
    rw [hn0, wrap_i (by omega) (by omega)]; omega
  obtain ⟨H, e0, h0⟩ := new_at 131072 (by decide) (by decide)
  have hd := ptr_ok h0
  obtain ⟨H1, e1, h1⟩ := create_at h0 0
  rw [on_create (by decide) (by decide) rfl] at e1 h1
  simp only [List.nil_append] at e1 h1
  have e2 : law14_DiskTrips_l0 n K (.ptr 1 0) H1 41 (([] : AH) ++ [MO.row 4 1 (List.replicate 40 (MV.bool false))]) (0 : Int) = some [MO.row 4 1 (List.replicate 40 (.bool K))] := trips_l0 n K (.ptr 1 0) H1 40 0 (by omega)
  have hrow : rowAt [MO.row 4 1 (List.replicate 40 (.bool K))] 4 1 (some 0) ((List.replicate 40 K).map .bool) := by rw [List.map_replicate]; rfl
  obtain ⟨b1, b2⟩ := row_bools hrow
  have b1 : AH.bools [MO.row 4 1 (List.replicate 40 (.bool K))] (.slc (List.length ([] : AH)) 1 0 40) = List.replicate 40 K := b1
  have b2 : AH.isBools [MO.row 4 1 (List.replicate 40 (.bool K))] (.slc (List.length ([] : AH)) 1 0 40) = true := b2
  obtain ⟨H3, e3, h3⟩ := trip_at h1 ((N0 + 1 : Nat) : Int) (List.replicate 40 K) (-1) 0 (by rw [List.length_replicate]; unfold maxR; omega)
  have h3' : DiskAt (2 * 0) H3 (.ptr 1 0) (T K (N0 + 1) 0) := by
    have : Dk.trip (On 131072 [(0, ⟨[], []⟩)] 0) ((N0 + 1 : Nat) : Int) (List.replicate 40 K) (-1) 0 = T K (N0 + 1) 0 := by
      unfold Dk.trip T
      rw [if_pos (by omega)]
      rfl
    rw [this] at h3
    exact h3
  obtain ⟨H4, e4, h4⟩ := trips_l1 n K (N0 + 1) (by omega) (by omega) hn (N0 + 1) 0 22 H3 (by omega) (by omega) (by omega) h3'
  have o4 := off_at h4
  have l4 := life_at h4
  obtain ⟨H5, e5, h5⟩ := sync_at h4 0
  rw [show Dk.sync ⟨131072, [(0, ⟨List.replicate (N0 + 1) (if K = true then 9 else 0), []⟩)], true, 1, none⟩ 0 = (8, ⟨131072, [(0, ⟨List.replicate (N0 + 1) (if K = true then 9 else 0), []⟩)], true, 1, none⟩) from rfl] at e5 h5
  obtain ⟨H6, e6, h6⟩ := start_at h5
  have h6 : DiskAt 0 H6 (.ptr 1 0) (On 131072 [(0, ⟨List.replicate (N0 + 1) (if K = true then 9 else 0), []⟩)] 1) := h6
  have r6 := read_ok h6 0
  rw [on_read (one_get _ _), all0] at r6
  have e7 := trips_l2 n K (.ptr 1 0) H6 (N0 + 1) (by omega) hn (N0 + 1) 0 (by omega)
  obtain ⟨H8, e8, h8⟩ := sync_at h6 0
  rw [on_sync (one_get _ _)] at e8
  rw [show ((0 : Nat) : Int) = 0 from rfl] at e7
  rw [show ((0 + 1 : Nat) : Int) = 1 from rfl] at e4
  have c1 : (((N0 + 1 : Nat) : Int) - 0).toNat + 1 = N0 + 1 + 1 := by omega
  simp only [hn, e0, hd, Option.bind_some, MV.isN, MV.isP, e1, e2, b1, b2, e3, e4, o4, l4, e5, e6, r6, c1, e7, e8, List.length_replicate, bne_self_eq_false, beq_self_eq_true, Bool.false_eq_true, if_false, if_true, and_self, or_true, Bool.not_true, wakes_ok]
end Go.Dk
/- DiskTorn. -/
namespace Go.Dk
open Go Go.Gw Go.Proofs.Sd.D
set_option linter.unusedSimpArgs false
set_option linter.unusedVariables false

theorem tears_app (keep : List Bool) (torn at_ : Int) (ps qs : List (List Int)) : ∀ k, tears keep torn at_ k (ps ++ qs) = tears keep torn at_ k ps ++ tears keep torn at_ (k + ps.length) qs := by
  induction ps with
  | nil => intro k; rfl
  | cons p ps ih => intro k; simp only [List.cons_append, tears, ih, List.length_cons]; rw [show k + 1 + ps.length = k + (ps.length + 1) by omega]
theorem tears_congr {keep keep' : List Bool} (torn at_ : Int) (ps : List (List Int)) : ∀ k, (∀ j, k ≤ j → j < k + ps.length → keep.getD j false = keep'.getD j false) → tears keep torn at_ k ps = tears keep' torn at_ k ps := by
  induction ps with
  | nil => intro k _; rfl
  | cons p ps ih =>
    intro k h
    simp only [List.length_cons] at h
    simp only [tears]
    rw [ih (k + 1) (fun j h1 h2 => h j (by omega) (by omega))]
    congr 1
    unfold tear
    rw [h k (Nat.le_refl _) (by omega)]
theorem tears_lens (keep : List Bool) (torn at_ : Int) (ps : List (List Int)) : ∀ k, (tears keep torn at_ k ps).flatten.length = ps.flatten.length := by
  induction ps with
  | nil => intro k; rfl
  | cons p ps ih => intro k; simp only [tears, List.flatten_cons, List.length_append, tear_len, ih]
def KE : List Bool := (List.range 30).map fun j => j % 2 == 0
def KB (i : Nat) : List Bool := (List.range 30).map fun j => decide (j < i) && j % 2 == 0
theorem putL_set {l : List MV} {i : Nat} (h : i < l.length) (v : MV) : putL l i [v] = l.set i v := by
  rw [List.set_eq_take_append_cons_drop, if_pos h]; rfl
theorem KB_set (i : Nat) (h : i < 30) : ((KB i).map MV.bool).set i (.bool (((i : Int).tmod 2) == 0)) = (KB (i + 1)).map MV.bool := by
  refine List.ext_getElem (by simp [KB]) fun j h1 h2 => ?_
  simp only [List.getElem_set, KB, List.getElem_map, List.getElem_range]
  split
  · rename_i e
    subst e
    rw [show (((i : Int).tmod 2) == 0) = (i % 2 == 0) from by
      rw [Int.tmod_eq_emod_of_nonneg (by omega), Bool.eq_iff_iff]; simp; omega]
    simp
  · have : decide (j < i) = decide (j < i + 1) := by
      rw [decide_eq_decide]; omega
    rw [this]
theorem KE_get (k : Nat) (h : k < 30) : KE.getD k false = (k % 2 == 0) := by
  simp [KE, List.getD_eq_getElem?_getD, List.getElem?_map, List.getElem?_range h]
theorem KB_get (n k : Nat) (h : k < n) (hn : n ≤ 30) : (KB n).getD k false = KE.getD k false := by
  rw [KE_get k (by omega)]
  simp [KB, List.getD_eq_getElem?_getD, List.getElem?_map, List.getElem?_range (show k < 30 by omega), h]
/-- One byte of what is left. -/
theorem tear_get (torn at_ : Int) (k : Nat) (hk : k < 30) (p : List Int) (c : Nat) (hc : c < p.length) :
    (tear KE torn at_ k p)[c]'(by rw [tear_len]; exact hc) = if (k : Int) = torn then (if (c : Int) ≥ at_ then 0 else p.getD c 0) else (if k % 2 = 1 then 0 else p.getD c 0) := by
  have hp : p.getD c 0 = p[c] := by simp [List.getD_eq_getElem?_getD, hc]
  rw [hp]
  unfold tear
  by_cases ht : (k : Int) = torn
  · simp only [if_pos ht]
    rw [List.getElem_append]
    split
    · rename_i h
      rw [List.length_take] at h
      rw [List.getElem_take, if_neg (show ¬ (c : Int) ≥ at_ by omega)]
    · rename_i h
      rw [List.length_take] at h
      rw [List.getElem_replicate, if_pos (show (c : Int) ≥ at_ by omega)]
  · simp only [if_neg ht, KE_get k hk]
    by_cases h2 : k % 2 = 1
    · have : ¬ (k % 2 == 0) = true := by simp; omega
      simp only [if_neg this, if_pos h2, List.getElem_replicate]
    · have : (k % 2 == 0) = true := by simp; omega
      simp only [if_pos this, if_neg h2]
theorem take_succ_get {l : List Int} {c : Nat} (h : c < l.length) : l.take (c + 1) = l.take c ++ [l[c]] := by rw [List.take_succ_eq_append_getElem h]
theorem all_fl (l : List (List Int)) : (⟨[], l⟩ : Fl).all = l.flatten := by simp [Fl.all]
theorem torn_l1 (l : List (List Int)) (torn at_ : Int) (d : MV) (H15 H26 : AH) (i : Nat) (hi : i < 20) (p : List Int) (hp : l.getD i [] = p) (hpl : p.length ≤ 300) (want : List Int) (hw : want.length ≤ 6000) : ∀ (j c fu : Nat), c + j = p.length → j + 1 ≤ fu →
    law14_DiskTorn_l1 l torn at_ d H15 (i : Int) H26 fu (want ++ (tear KE torn at_ i p).take c) (c : Int) = some (want ++ tear KE torn at_ i p) := by
  intro j
  induction j with
  | zero =>
    intro c fu hc hfu
    obtain ⟨fu, rfl⟩ : ∃ f', fu = f' + 1 := ⟨fu - 1, by omega⟩
    rw [law14_DiskTorn_l1, Int.toNat_natCast, hp, if_neg (by simp; omega), List.take_of_length_le (by rw [tear_len]; omega)]
  | succ j ih =>
    intro c fu hc hfu
    obtain ⟨fu, rfl⟩ : ∃ f', fu = f' + 1 := ⟨fu - 1, by omega⟩
    have hcl : c < (tear KE torn at_ i p).length := by rw [tear_len]; omega
    have h1 := ih (c + 1) fu (by omega) (by omega)
    rw [take_succ_get hcl, tear_get torn at_ i (by omega) p c (by omega), ← List.append_assoc] at h1
    have w2 : IntKind.i64.wrap ((c : Int) + 1) = ((c + 1 : Nat) : Int) := by rw [wrap_i (by omega) (by omega)]; omega
    have c1 : decide ((c : Int) < (p.length : Int)) = true := by simp; omega
    have c2 : (0 : Int) ≤ (c : Int) ∧ (c : Int) < (p.length : Int) := by omega
    have c3 : ∀ x : Int, List.length (want ++ (tear KE torn at_ i p).take c ++ [x]) ≤ maxN := fun x => by
      unfold maxN; simp only [List.length_append, List.length_take, List.length_cons, List.length_nil]; omega
    have c4 : ((i : Int).tmod 2 == 1) = decide (i % 2 = 1) := by
      rw [Int.tmod_eq_emod_of_nonneg (by omega), Bool.eq_iff_iff]; simp; omega
    rw [law14_DiskTorn_l1]
    simp only [Int.toNat_natCast, hp, c1, c2, decide_true, and_self, if_true, w2, c3, c4]
    by_cases ht : (i : Int) = torn
    · have t1 : ((i : Int) == torn) = true := by simpa using ht
      have t2 : ((i : Int) != torn) = false := by simpa using ht
      simp only [if_pos ht] at h1
      simp only [t1, t2, if_true, Bool.false_eq_true, if_false]
      by_cases ha : (c : Int) ≥ at_
      · rw [if_pos ha] at h1
        simp only [ha, decide_true, if_true]; exact h1
      · rw [if_neg ha] at h1
        simp only [ha, decide_false, Bool.false_eq_true, if_false]; exact h1
    · have t1 : ((i : Int) == torn) = false := by simpa using ht
      have t2 : ((i : Int) != torn) = true := by simpa using ht
      simp only [if_neg ht] at h1
      simp only [t1, t2, if_true, Bool.false_eq_true, if_false]
      by_cases ha : i % 2 = 1
      · rw [if_pos ha] at h1
        simp only [ha, decide_true, if_true, Option.bind_some]; exact h1
      · rw [if_neg ha] at h1
        simp only [ha, decide_false, Bool.false_eq_true, if_false, Option.bind_some]; exact h1
theorem take_flat (l : List (List Int)) (i : Nat) (h : i < l.length) : l.take (i + 1) = l.take i ++ [l.getD i []] := by
  rw [List.take_succ_eq_append_getElem h]
  simp [List.getD_eq_getElem?_getD, h]
theorem torn_l0 (l : List (List Int)) (torn at_ : Int) (hl : l.length ≤ 20) : ∀ (j i : Nat) (H : AH), i + j = l.length → (l.take i).flatten.length ≤ 300 * i → DiskAt i H (.ptr 1 0) (On 131072 [(2, ⟨[], l.take i⟩)] 0) →
    law14_DiskTorn_l0 l torn at_ (.ptr 1 0) (j + 1) [MO.row 4 1 ((KB i).map .bool)] H (tears KE torn at_ 0 (l.take i)).flatten (i : Int) = some (.inr true) ∨
    ∃ H', law14_DiskTorn_l0 l torn at_ (.ptr 1 0) (j + 1) [MO.row 4 1 ((KB i).map .bool)] H (tears KE torn at_ 0 (l.take i)).flatten (i : Int) = some (.inl ([MO.row 4 1 ((KB l.length).map .bool)], H', (tears KE torn at_ 0 l).flatten)) ∧
      DiskAt l.length H' (.ptr 1 0) (On 131072 [(2, ⟨[], l⟩)] 0) ∧ l.flatten.length ≤ 6000 := by
  intro j
  induction j with
  | zero =>
    intro i H hi hb h
    obtain rfl : i = l.length := by omega
    rw [List.take_length] at hb h ⊢
    exact .inr ⟨H, by rw [law14_DiskTorn_l0, if_neg (by simp)], h, by omega⟩
  | succ j ih =>
    intro i H hi hb h
    have hil : i < l.length := by omega
    rw [law14_DiskTorn_l0]
    rw [if_pos (by simp; omega), if_pos (by omega)]
    simp only [Int.toNat_natCast]
    by_cases hp : (l.getD i []).length > 300
    · rw [if_pos (decide_eq_true (by omega))]; exact .inl rfl
    rw [if_neg (by rw [decide_eq_true_eq]; omega)]
    obtain ⟨H1, e1, h1⟩ := append_at h 2 (l.getD i []) (by omega) (by omega)
    rw [on_append (one_get _ _) _ (by rw [one_used]; simp only [Fl.all, List.nil_append]; omega), one_upd, ← take_flat l i hil] at e1 h1
    have hrow : AH.at [MO.row 4 1 ((KB i).map .bool)] 0 = .row 4 1 ((KB i).map .bool) := rfl
    have hkl : ((KB i).map MV.bool).length = 30 := by simp [KB]
    have b1 : AH.isRow [MO.row 4 1 ((KB i).map .bool)] 1 (MV.slc (List.length ([] : AH)) 1 0 30) = true := isRow_of hrow 0 30 (by omega)
    have b2 : AH.ok [MO.row 4 1 ((KB i).map .bool)] (MV.slc (List.length ([] : AH)) 1 0 30) (i * 1 + 0) 1 = true := by
      rw [List.length_nil, okS hrow 0 30 _ _ (by omega)]
      exact Nat.ble_eq_true_of_le (by omega)
    have b3 : AH.wr [MO.row 4 1 ((KB i).map .bool)] (MV.slc (List.length ([] : AH)) 1 0 30) (i * 1 + 0) [MV.bool ((i : Int).tmod 2 == 0)] = [MO.row 4 1 ((KB (i + 1)).map .bool)] := by
      rw [List.length_nil, wrS hrow, Nat.zero_mul, Nat.zero_add, Nat.mul_one, Nat.add_zero, putL_set (by omega), KB_set i (by omega)]; rfl
    have b4 : (0 : Int) ≤ (i : Int) ∧ (i : Int) < (((MV.slc (List.length ([] : AH)) 1 0 30).len : Nat) : Int) := by rw [len_slc]; omega
    have w2 : IntKind.i64.wrap ((i : Int) + 1) = ((i + 1 : Nat) : Int) := by rw [wrap_i (by omega) (by omega)]; omega
    have e2 := torn_l1 l torn at_ (.ptr 1 0) [MO.row 4 1 ((KB i).map .bool)] H1 i (by omega) (l.getD i []) rfl (by omega) (tears KE torn at_ 0 (l.take i)).flatten (by rw [tears_lens]; omega) (l.getD i []).length 0 301 (by omega) (by omega)
    rw [List.take_zero, List.append_nil] at e2
    have hw : (tears KE torn at_ 0 (l.take i)).flatten ++ tear KE torn at_ i (l.getD i []) = (tears KE torn at_ 0 (l.take (i + 1))).flatten := by
      rw [take_flat l i hil, tears_app]
      simp [tears, Nat.min_eq_left (Nat.le_of_lt hil)]
    rw [hw] at e2
    have e2 : law14_DiskTorn_l1 l torn at_ (.ptr 1 0) [MO.row 4 1 ((KB i).map .bool)] (i : Int) H1 301 (tears KE torn at_ 0 (l.take i)).flatten (0 : Int) = some (tears KE torn at_ 0 (l.take (i + 1))).flatten := e2
    have h3 := ih (i + 1) H1 (by omega) (by rw [take_flat l i hil]; simp only [List.flatten_append, List.length_append, List.flatten_cons, List.flatten_nil, List.append_nil]; omega) h1
    simp only [e1, Option.bind_some, bne_self_eq_false, Bool.false_eq_true, if_false, b1, b2, b3, b4, and_self, if_true, e2, w2]
    exact h3
theorem DiskTorn (l : List (List Int)) (torn at_ : Int) (_w0 : ∀ r ∈ l, ∀ x ∈ r, (Lit.int .u8 x).wf = true) (_w1 : (Lit.int .i64 torn).wf = true) (_w2 : (Lit.int .i64 at_).wf = true) : law14_DiskTorn l torn at_ = some true := by
  unfold law14_DiskTorn
  by_cases hl : l.length > 20
  · rw [if_pos (by simp; omega)]
  rw [if_neg (by simp; omega)]
  obtain ⟨H, e0, h0⟩ := new_at 131072 (by decide) (by decide)
  have hd := ptr_ok h0
  obtain ⟨H1, e1, h1⟩ := create_at h0 2
  rw [on_create (by decide) (by decide) rfl] at e1 h1
  simp only [List.nil_append] at e1 h1
  have hk0 : (List.replicate 30 (MV.bool false)) = (KB 0).map .bool := rfl
  have c1 : ((l.length : Int) - 0).toNat + 1 = l.length + 1 := by omega
  simp only [e0, hd, Option.bind_some, MV.isN, MV.isP, e1, c1, bne_self_eq_false, beq_self_eq_true, Bool.false_eq_true, if_false, if_true, and_self, or_true, List.nil_append, hk0]
  rcases torn_l0 l torn at_ (by omega) l.length 0 H1 (by omega) (by simp) h1 with e2 | ⟨H2, e2, h2, hb⟩
  · have e2 : law14_DiskTorn_l0 l torn at_ (.ptr 1 0) (l.length + 1) [MO.row 4 1 ((KB 0).map .bool)] H1 [] (0 : Int) = some (.inr true) := e2
    rw [e2]; rfl
  · have e2 : law14_DiskTorn_l0 l torn at_ (.ptr 1 0) (l.length + 1) [MO.row 4 1 ((KB 0).map .bool)] H1 [] (0 : Int) = _ := e2
    have s2 := size_at h2 2
    rw [on_size (one_get _ _), all_fl] at s2
    have hrow : rowAt [MO.row 4 1 ((KB l.length).map .bool)] 4 1 (some 0) ((KB l.length).map .bool) := rfl
    obtain ⟨b1, b2⟩ := row_bools hrow
    have hkl : (KB l.length).length = 30 := by simp [KB]
    rw [hkl] at b1 b2
    have b1 : AH.bools [MO.row 4 1 ((KB l.length).map .bool)] (.slc (List.length ([] : AH)) 1 0 30) = KB l.length := b1
    have b2 : AH.isBools [MO.row 4 1 ((KB l.length).map .bool)] (.slc (List.length ([] : AH)) 1 0 30) = true := b2
    obtain ⟨H3, e3, h3⟩ := crash_at h2 (KB l.length) torn at_
    have hcr : (On 131072 [(2, ⟨[], l⟩)] 0).crash (KB l.length) torn at_ = ⟨131072, [(2, ⟨(tears KE torn at_ 0 l).flatten, []⟩)], true, 1, none⟩ := by
      unfold Dk.crash
      simp only [Bool.false_eq_true, if_false, one_crash, Fl.crash, List.nil_append]
      rw [tears_congr torn at_ l 0 (fun j _ hj => KB_get l.length j (by omega) (by omega))]
      rfl
    rw [hcr] at h3
    have s3 := size_at h3 2
    rw [show Dk.size ⟨131072, [(2, ⟨(tears KE torn at_ 0 l).flatten, []⟩)], true, 1, none⟩ 2 = (l.flatten.length : Int) by
      unfold Dk.size
      simp only [one_get, all0, tears_lens]] at s3
    have r3 := read_ok h3 2
    rw [show Dk.read ⟨131072, [(2, ⟨(tears KE torn at_ 0 l).flatten, []⟩)], true, 1, none⟩ 2 = ([], 8) from rfl] at r3
    obtain ⟨H4, e4, h4⟩ := start_at h3
    have h4 : DiskAt l.length H4 (.ptr 1 0) (On 131072 [(2, ⟨(tears KE torn at_ 0 l).flatten, []⟩)] 1) := h4
    have r4 := read_ok h4 2
    rw [on_read (one_get _ _), all0] at r4
    have by' := bytes_same (tears KE torn at_ 0 l).flatten (by rw [tears_lens]; omega)
    have tl := tears_lens KE torn at_ l 0
    simp only [e2, Option.bind_some, s2, b1, b2, e3, s3, r3, e4, r4, by', tl, bne_self_eq_false, beq_self_eq_true, Bool.false_eq_true, if_false, if_true, Bool.not_true, wakes_ok]
end Go.Dk
/- DiskChoice. -/
namespace Go.Dk
open Go Go.Gw Go.Proofs.Sd.D
set_option linter.unusedSimpArgs false
set_option linter.unusedVariables false

/-- Two slices of bytes in an array, with rows of their own. -/
def WantAt (H : AH) (w : Nat → List Int) : Prop := ∃ b : Nat → Option Nat, AH.at H 0 = .cells 30 [slcOf 1 (b 0) (w 0).length, slcOf 1 (b 1) (w 1).length] ∧ (∀ f, f < 2 → rowAt H 5 1 (b f) ((w f).map (.int .u8))) ∧ (∀ r, b 0 = some r → b 1 ≠ some r)
def updW (w : Nat → List Int) (f : Nat) (v : List Int) : Nat → List Int := fun g => if g = f then v else w g
theorem updW_same (w : Nat → List Int) (f : Nat) (v : List Int) : updW w f v f = v := by simp [updW]
theorem updW_ne (w : Nat → List Int) {f g : Nat} (v : List Int) (h : g ≠ f) : updW w f v g = w g := by simp [updW, h]
theorem want_put {H : AH} {w : Nat → List Int} (h : WantAt H w) (f : Nat) (hf : f < 2) (x : Int) : ∃ v, AH.ok H (.ptr 0 0) 0 1 = true ∧ AH.ok H (.ptr 0 0) (f * 1 + 0) 1 = true ∧ AH.rd H (.ptr 0 0) (f * 1 + 0) = v ∧ AH.isEnd H 5 1 v = true ∧ v.len = (w f).length ∧
    AH.ok (AH.app H v 5 1 ([x].map (.int .u8))) (.ptr 0 0) 0 1 = true ∧ AH.ok (AH.app H v 5 1 ([x].map (.int .u8))) (.ptr 0 0) (f * 1 + 0) 1 = true ∧
    WantAt (AH.wr (AH.app H v 5 1 ([x].map (.int .u8))) (.ptr 0 0) (f * 1 + 0) [.slc H.length 1 0 ((w f).length + 1)]) (updW w f (w f ++ [x])) := by
  obtain ⟨b, h0, hb, hd⟩ := h
  have hlt := at_lt h0 rfl
  have hfb := hb f hf
  have hne : ∀ r, slcOf 1 (b f) (w f).length = .slc r 1 0 (slcOf 1 (b f) (w f).length).len → b f = some r := by
    intro r hr
    cases he : b f with
    | none => rw [he] at hr; cases hr
    | some r' => rw [he] at hr; simp only [slcOf, MV.slc.injEq] at hr; rw [hr.1]
  have hv : slcOf 1 (b f) (w f).length = .nils ∨ ∃ r, slcOf 1 (b f) (w f).length = .slc r 1 0 (slcOf 1 (b f) (w f).length).len := by
    cases b f with
    | none => exact .inl rfl
    | some r => exact .inr ⟨r, rfl⟩
  have hl : ((w f).map (MV.int .u8)).length = (w f).length := by simp
  have keep : ∀ y o, AH.at H y = o → o.live = true → b f ≠ some y → AH.at (AH.app H (slcOf 1 (b f) (w f).length) 5 1 ([x].map (.int .u8))) y = o := fun y o hy hlv hn => app_old hy hlv (fun r hr e => hn (by rw [hne r hr, e])) hv
  have h1 := keep 0 _ h0 rfl (fun e => by
    rw [e] at hfb
    rw [show AH.at H 0 = _ from hfb] at h0; cases h0)
  have h2 : AH.at (AH.app H (slcOf 1 (b f) (w f).length) 5 1 ([x].map (.int .u8))) H.length = .row 5 1 (AH.view H (slcOf 1 (b f) (w f).length) ++ [x].map (.int .u8)) := app_new
  rw [row_view hfb (by omega)] at h2
  have e1 : AH.rd H (.ptr 0 0) (f * 1 + 0) = slcOf 1 (b f) (w f).length := by
    rw [Nat.mul_one, Nat.add_zero, rdC h0]
    rcases (show f = 0 ∨ f = 1 by omega) with rfl | rfl <;> rfl
  have okf : ∀ {H' : AH} {l : List MV}, AH.at H' 0 = .cells 30 l → l.length = 2 → AH.ok H' (.ptr 0 0) (f * 1 + 0) 1 = true := fun h hl => by
    rw [okC h, hl]; exact Nat.ble_eq_true_of_le (by omega)
  refine ⟨_, by rw [okC h0]; rfl, okf h0 rfl, e1, row_end hfb (by omega), slc_len hfb hl, by rw [okC h1]; rfl, okf h1 rfl, fun g => if g = f then some H.length else b g, ?_, fun g hg => ?_, fun r hr hr' => ?_⟩
  · rw [wrC h1, at_set_eq h1 rfl]
    rcases (show f = 0 ∨ f = 1 by omega) with rfl | rfl <;> simp [putL, updW, slcOf]
  · rw [wrC h1]
    by_cases hgf : g = f
    · subst hgf
      rw [updW_same]
      simp only [if_true]
      show AH.at _ H.length = _
      rw [at_set_ne (by omega), h2]; simp
    · rw [updW_ne _ _ hgf]
      simp only [if_neg hgf]
      refine rowAt_to (hb g hg) fun r hr e => (at_set_ne ?_).trans (keep r _ e rfl fun e' => ?_)
      · rintro rfl
        rw [h0] at e; cases e
      · rcases (show (f = 0 ∧ g = 1) ∨ (f = 1 ∧ g = 0) by omega) with ⟨rfl, rfl⟩ | ⟨rfl, rfl⟩
        · exact hd r e' hr
        · exact hd r hr e'
  · have lt : ∀ g, g < 2 → ∀ r, b g = some r → r < H.length := fun g hg r hr => by
      have := hb g hg
      rw [hr] at this
      exact at_lt (show AH.at H r = _ from this) rfl
    rcases (show f = 0 ∨ f = 1 by omega) with rfl | rfl
    · simp at hr hr'
      have := lt 1 (by omega) r hr'; omega
    · simp at hr hr'
      have := lt 0 (by omega) r hr; omega
theorem tear_at (keep : List Bool) (torn at_ : Int) (k : Nat) (p : List Int) (c : Nat) (hc : c < p.length) :
    (tear keep torn at_ k p)[c]'(by rw [tear_len]; exact hc) = if (k : Int) = torn then (if (c : Int) ≥ at_ then 0 else p.getD c 0) else (if keep.getD k false = true then p.getD c 0 else 0) := by
  have hp : p.getD c 0 = p[c] := by simp [List.getD_eq_getElem?_getD, hc]
  rw [hp]
  unfold tear
  by_cases ht : (k : Int) = torn
  · simp only [if_pos ht]
    rw [List.getElem_append]
    split
    · rename_i h
      rw [List.length_take] at h
      rw [List.getElem_take, if_neg (show ¬ (c : Int) ≥ at_ by omega)]
    · rename_i h
      rw [List.length_take] at h
      rw [List.getElem_replicate, if_pos (show (c : Int) ≥ at_ by omega)]
  · simp only [if_neg ht]
    by_cases h2 : keep.getD k false = true
    · simp only [if_pos h2]
    · simp only [if_neg h2, List.getElem_replicate]

section
variable (sizes : List Int) (keep : List Bool) (torn at_ : Int)
/-- How many bytes the i-th Append has; the bytes; its number in a crash. -/
def sz (i : Nat) : Nat := (IntKind.i64.wrap ((IntKind.u64.wrap (sizes.getD i 0)).tmod 9)).toNat
def piece (i : Nat) : List Int := List.replicate (sz sizes i) ((i + 1 : Nat) : Int)
def kk (i : Nat) : Nat := i / 2 + (i % 2) * ((sizes.length + 1) / 2)
theorem sz_eq (i : Nat) : IntKind.i64.wrap ((IntKind.u64.wrap (sizes.getD i 0)).tmod 9) = (sz sizes i : Int) ∧ sz sizes i < 9 := by
  obtain ⟨m, hm, h⟩ := modN (sizes.getD i 0) 9 (by omega) (by omega)
  rw [show ((9 : Nat) : Int) = 9 from rfl] at h
  unfold sz
  rw [h]; exact ⟨by simp, by simpa using hm⟩
def PS (f i : Nat) : List (List Int) := ((List.range i).filter fun j => j % 2 == f).map (piece sizes)
def WT (f i : Nat) : List Int := (((List.range i).filter fun j => j % 2 == f).map fun j => tear keep torn at_ (kk sizes j) (piece sizes j)).flatten
theorem PS_succ (f i : Nat) : PS sizes f (i + 1) = if i % 2 = f then PS sizes f i ++ [piece sizes i] else PS sizes f i := by
  unfold PS
  rw [List.range_succ, List.filter_append]
  by_cases h : i % 2 = f
  · rw [if_pos h]; simp [h]
  · rw [if_neg h]; simp [h]
theorem WT_succ (f i : Nat) : WT sizes keep torn at_ f (i + 1) = if i % 2 = f then WT sizes keep torn at_ f i ++ tear keep torn at_ (kk sizes i) (piece sizes i) else WT sizes keep torn at_ f i := by
  unfold WT
  rw [List.range_succ, List.filter_append]
  by_cases h : i % 2 = f
  · rw [if_pos h]; simp [h]
  · rw [if_neg h]; simp [h]
theorem PS_len (f i : Nat) (hf : f < 2) : (PS sizes f i).length = (i + 1 - f) / 2 := by
  induction i with
  | zero => simp [PS]; omega
  | succ i ih =>
    rw [PS_succ]
    split
    · rw [List.length_append, ih]; simp; omega
    · rw [ih]; omega
theorem PS_tears (f : Nat) (hf : f < 2) (k0 : Nat) (hk : ∀ j, j % 2 = f → kk sizes j = k0 + j / 2) (i : Nat) : (tears keep torn at_ k0 (PS sizes f i)).flatten = WT sizes keep torn at_ f i := by
  induction i with
  | zero => rfl
  | succ i ih =>
    rw [PS_succ, WT_succ]
    by_cases h : i % 2 = f
    · rw [if_pos h, if_pos h, tears_app, List.flatten_append, ih, PS_len sizes f i hf, hk i h]
      simp only [tears, List.flatten_cons, List.flatten_nil, List.append_nil]
      rw [show (i + 1 - f) / 2 = i / 2 by omega]
    · rw [if_neg h, if_neg h, ih]
end
theorem choice_l1 (sizes : List Int) (keep : List Bool) (torn at_ : Int) (d : MV) (H22 H23 : AH) (i : Nat) (hi : i < 20) : ∀ (j c : Nat), c + j = sz sizes i →
    law14_DiskChoice_l1 sizes keep torn at_ d H22 H23 (i : Int) (j + 1) (List.replicate c ((i + 1 : Nat) : Int) ++ List.replicate j 0) (c : Int) = some (piece sizes i) := by
  obtain ⟨s1, s2⟩ := sz_eq sizes i
  intro j
  induction j with
  | zero =>
    intro c hc
    rw [law14_DiskChoice_l1, Int.toNat_natCast, s1, if_neg (by simp; omega)]
    simp only [piece]
    rw [← hc]; simp
  | succ j ih =>
    intro c hc
    have w1 : IntKind.u8.wrap (IntKind.i64.wrap (1 + (i : Int))) = ((i + 1 : Nat) : Int) := by rw [wrap_i (by omega) (by omega), w8 (by omega) (by omega)]; omega
    have w2 : IntKind.i64.wrap ((c : Int) + 1) = ((c + 1 : Nat) : Int) := by rw [wrap_i (by omega) (by omega)]; omega
    rw [law14_DiskChoice_l1]
    simp only [Int.toNat_natCast, s1, w1, w2]
    rw [if_pos (decide_eq_true (by omega)), if_pos ⟨by omega, by simp; omega⟩]
    have e : (List.replicate c ((i + 1 : Nat) : Int) ++ List.replicate (j + 1) 0).set c ((i + 1 : Nat) : Int) = List.replicate (c + 1) ((i + 1 : Nat) : Int) ++ List.replicate j 0 := by
      rw [List.set_append, if_neg (by simp), List.length_replicate, Nat.sub_self, List.replicate_succ (n := j), List.set_cons_zero, List.replicate_succ', List.append_assoc]; rfl
    rw [e]
    exact ih (c + 1) (by omega)
theorem choice_l2 (sizes : List Int) (keep : List Bool) (torn at_ : Int) (d : MV) (H37 : AH) (i : Nat) (hi : i < 20) (hs : sizes.length ≤ 20) (w : Nat → List Int) (hw : ∀ f, (w f).length ≤ 1000) : ∀ (j c : Nat) (H : AH), c + j = sz sizes i →
    WantAt H (updW w (i % 2) (w (i % 2) ++ (tear keep torn at_ (kk sizes i) (piece sizes i)).take c)) →
    ∃ H', law14_DiskChoice_l2 sizes keep torn at_ d (i : Int) H37 (j + 1) H (c : Int) = some H' ∧ WantAt H' (updW w (i % 2) (w (i % 2) ++ tear keep torn at_ (kk sizes i) (piece sizes i))) := by
  obtain ⟨s1, s2⟩ := sz_eq sizes i
  have hpl : (piece sizes i).length = sz sizes i := by simp [piece]
  intro j
  induction j with
  | zero =>
    intro c H hc h
    refine ⟨H, by rw [law14_DiskChoice_l2, Int.toNat_natCast, s1, if_neg (by simp; omega)], ?_⟩
    rw [List.take_of_length_le (by rw [tear_len]; omega)] at h
    exact h
  | succ j ih =>
    intro c H hc h
    have hcl : c < (tear keep torn at_ (kk sizes i) (piece sizes i)).length := by rw [tear_len]; omega
    have hg := tear_at keep torn at_ (kk sizes i) (piece sizes i) c (by omega)
    have hpg : (piece sizes i).getD c 0 = ((i + 1 : Nat) : Int) := by
      rw [piece, List.getD_eq_getElem?_getD, List.getElem?_replicate, if_pos (by omega)]; rfl
    rw [hpg] at hg
    obtain ⟨v, a1, a2, a3, a4, a5, a6, a7, a8⟩ := want_put h (i % 2) (by omega) ((tear keep torn at_ (kk sizes i) (piece sizes i))[c])
    have hup : updW (updW w (i % 2) (w (i % 2) ++ (tear keep torn at_ (kk sizes i) (piece sizes i)).take c)) (i % 2) (updW w (i % 2) (w (i % 2) ++ (tear keep torn at_ (kk sizes i) (piece sizes i)).take c) (i % 2) ++ [(tear keep torn at_ (kk sizes i) (piece sizes i))[c]]) =
        updW w (i % 2) (w (i % 2) ++ (tear keep torn at_ (kk sizes i) (piece sizes i)).take (c + 1)) := by
      funext g
      by_cases hgf : g = i % 2
      · subst hgf
        rw [updW_same, updW_same, updW_same, take_succ_get hcl, List.append_assoc]
      · rw [updW_ne _ _ hgf, updW_ne _ _ hgf, updW_ne _ _ hgf]
    rw [hup] at a8
    obtain ⟨H', e, h'⟩ := ih (c + 1) _ (by omega) a8
    refine ⟨H', ?_, h'⟩
    rw [updW_same] at a5 e
    have w1 : IntKind.u8.wrap (IntKind.i64.wrap (1 + (i : Int))) = ((i + 1 : Nat) : Int) := by rw [wrap_i (by omega) (by omega), w8 (by omega) (by omega)]; omega
    have w2 : IntKind.i64.wrap ((c : Int) + 1) = ((c + 1 : Nat) : Int) := by rw [wrap_i (by omega) (by omega)]; omega
    have t1 : (i : Int).tdiv 2 = ((i / 2 : Nat) : Int) := rfl
    have t2 : (i : Int).tmod 2 = ((i % 2 : Nat) : Int) := rfl
    have w3 : IntKind.i64.wrap ((i / 2 : Nat) : Int) = ((i / 2 : Nat) : Int) := wrap_i (by omega) (by omega)
    have w4 : IntKind.i64.wrap ((sizes.length : Int) + 1) = ((sizes.length + 1 : Nat) : Int) := by rw [wrap_i (by omega) (by omega)]; omega
    have t3 : ((sizes.length + 1 : Nat) : Int).tdiv 2 = (((sizes.length + 1) / 2 : Nat) : Int) := rfl
    have w5 : IntKind.i64.wrap (((sizes.length + 1) / 2 : Nat) : Int) = (((sizes.length + 1) / 2 : Nat) : Int) := wrap_i (by omega) (by omega)
    have hkk : kk sizes i ≤ 40 := by
      unfold kk
      rcases (show i % 2 = 0 ∨ i % 2 = 1 by omega) with h | h <;> rw [h] <;> omega
    have w6 : IntKind.i64.wrap (((i % 2 : Nat) : Int) * (((sizes.length + 1) / 2 : Nat) : Int)) = ((i % 2 * ((sizes.length + 1) / 2) : Nat) : Int) := by
      rw [← Int.natCast_mul]
      refine wrap_i (by omega) ?_
      unfold kk at hkk; omega
    have w7 : IntKind.i64.wrap (((i / 2 : Nat) : Int) + ((i % 2 * ((sizes.length + 1) / 2) : Nat) : Int)) = (kk sizes i : Int) := by
      rw [← Int.natCast_add]
      exact wrap_i (by omega) (by unfold kk at hkk; omega)
    have c1 : decide ((c : Int) < (sz sizes i : Int)) = true := by simp; omega
    have c2 : (0 : Int) ≤ ((i % 2 : Nat) : Int) ∧ ((i % 2 : Nat) : Int) < ((2 : Nat) : Int) := by omega
    have hlw := hw (i % 2)
    have htl := tear_len keep torn at_ (kk sizes i) (piece sizes i)
    have c3 : (w (i % 2) ++ (tear keep torn at_ (kk sizes i) (piece sizes i)).take c).length + List.length [(tear keep torn at_ (kk sizes i) (piece sizes i))[c]] ≤ maxR := by
      unfold maxR; simp only [List.length_append, List.length_take, List.length_cons, List.length_nil]; omega
    have hx : (if ((kk sizes i : Int) == torn) = true then if (decide ((c : Int) ≥ at_)) = true then some (0 : Int) else some ((i + 1 : Nat) : Int) else if (decide ((kk sizes i : Int) ≥ (keep.length : Int))) = true then some (0 : Int) else if 0 ≤ (kk sizes i : Int) ∧ (kk sizes i : Int) < (keep.length : Int) then if (!(keep.getD (kk sizes i) false)) = true then some (0 : Int) else some ((i + 1 : Nat) : Int) else none) = some ((tear keep torn at_ (kk sizes i) (piece sizes i))[c]) := by
      rw [hg]
      by_cases ht : (kk sizes i : Int) = torn
      · rw [if_pos ht, if_pos (by simpa using ht)]
        by_cases ha : (c : Int) ≥ at_
        · rw [if_pos ha, if_pos (decide_eq_true ha)]
        · rw [if_neg ha, if_neg (by simpa using ha)]
      · rw [if_neg ht, if_neg (by simpa using ht)]
        by_cases hkl : kk sizes i < keep.length
        · rw [if_neg (by simp; omega), if_pos (by omega)]
          cases keep.getD (kk sizes i) false <;> rfl
        · rw [if_pos (by simp; omega), if_neg (by rw [List.getD_eq_getElem?_getD, List.getElem?_eq_none (by omega)]; simp)]
    rw [law14_DiskChoice_l2]
    simp only [Int.toNat_natCast, s1, w1, w2, t1, t2, w3, w4, t3, w5, w6, w7, hx, Option.bind_some, c1, c2, and_self, if_true, List.length_nil, MV.isP, a1, a2, a3, a4, a5, a6, a7, c3]
    simp only [List.length_cons, List.length_nil, Nat.zero_add, List.length_append] at e ⊢
    exact e
end Go.Dk
/- DiskChoice, joined. -/
namespace Go.Dk
open Go Go.Gw Go.Proofs.Sd.D
set_option linter.unusedSimpArgs false
set_option linter.unusedVariables false

theorem keys_two (f g : Fl) : keysS [(3, f), (7, g)] = [3, 7] := by
  unfold keysS
  exact List.mergeSort_of_pairwise (by simp)
theorem crash_two (keep : List Bool) (torn at_ : Int) (f g : Fl) : crashF keep torn at_ (keysS [(3, f), (7, g)]) 0 [(3, f), (7, g)] = [(3, f.crash keep torn at_ 0), (7, g.crash keep torn at_ f.ps.length)] := by
  rw [keys_two]
  simp [crashF, cnt]
theorem choice_l0 (sizes : List Int) (keep : List Bool) (torn at_ : Int) (hs : sizes.length ≤ 20) : ∀ (j i : Nat) (H22 H23 : AH), i + j = sizes.length → (PS sizes 0 i).flatten.length + (PS sizes 1 i).flatten.length ≤ 8 * i →
    WantAt H22 (fun f => WT sizes keep torn at_ f i) → (∀ f, (WT sizes keep torn at_ f i).length ≤ 8 * i) → DiskAt i H23 (.ptr 1 0) (On 131072 [(3, ⟨[], PS sizes 0 i⟩), (7, ⟨[], PS sizes 1 i⟩)] 0) →
    ∃ H25 H26, law14_DiskChoice_l0 sizes keep torn at_ (.ptr 1 0) (j + 1) H22 H23 (i : Int) = some (.inl (H25, H26)) ∧ WantAt H25 (fun f => WT sizes keep torn at_ f sizes.length) ∧ (∀ f, (WT sizes keep torn at_ f sizes.length).length ≤ 160) ∧ DiskAt sizes.length H26 (.ptr 1 0) (On 131072 [(3, ⟨[], PS sizes 0 sizes.length⟩), (7, ⟨[], PS sizes 1 sizes.length⟩)] 0) := by
  intro j
  induction j with
  | zero =>
    intro i H22 H23 hi hb hw hwl h
    obtain rfl : i = sizes.length := by omega
    exact ⟨H22, H23, by rw [law14_DiskChoice_l0, if_neg (by simp)], hw, fun f => by have := hwl f; omega, h⟩
  | succ j ih =>
    intro i H22 H23 hi hb hw hwl h
    obtain ⟨s1, s2⟩ := sz_eq sizes i
    have hpl : (piece sizes i).length = sz sizes i := by simp [piece]
    have e1 := choice_l1 sizes keep torn at_ (.ptr 1 0) H22 H23 i (by omega) (sz sizes i) 0 (by omega)
    rw [List.replicate_zero, List.nil_append, show ((0 : Nat) : Int) = 0 from rfl] at e1
    have app : ∃ H37, disk_Disk_Append H23 (.ptr 1 0) (IntKind.i64.wrap (3 + IntKind.i64.wrap (4 * ((i : Int).tmod 2)))) (piece sizes i) = some (0, H37) ∧ DiskAt (i + 1) H37 (.ptr 1 0) (On 131072 [(3, ⟨[], PS sizes 0 (i + 1)⟩), (7, ⟨[], PS sizes 1 (i + 1)⟩)] 0) := by
      rcases (show i % 2 = 0 ∨ i % 2 = 1 by omega) with hp | hp
      · have e : IntKind.i64.wrap (3 + IntKind.i64.wrap (4 * ((i : Int).tmod 2))) = 3 := by
          rw [show (i : Int).tmod 2 = ((i % 2 : Nat) : Int) from rfl, hp]; decide
        rw [e]
        obtain ⟨H1, a1, a2⟩ := append_at h 3 (piece sizes i) (by omega) (by omega)
        rw [on_append (two_get0 (by decide) _ _) _ (by rw [two_used, all_fl, all_fl]; omega), two_upd0 (by decide)] at a1 a2
        refine ⟨H1, a1, ?_⟩
        rw [PS_succ, PS_succ, if_pos hp, if_neg (by omega)]
        exact a2
      · have e : IntKind.i64.wrap (3 + IntKind.i64.wrap (4 * ((i : Int).tmod 2))) = 7 := by
          rw [show (i : Int).tmod 2 = ((i % 2 : Nat) : Int) from rfl, hp]; decide
        rw [e]
        obtain ⟨H1, a1, a2⟩ := append_at h 7 (piece sizes i) (by omega) (by omega)
        rw [on_append (two_get1 (by decide) _ _) _ (by rw [two_used, all_fl, all_fl]; omega), two_upd1 (by decide)] at a1 a2
        refine ⟨H1, a1, ?_⟩
        rw [PS_succ, PS_succ, if_neg (by omega), if_pos hp]
        exact a2
    obtain ⟨H37, e2, h2⟩ := app
    have hw0 : WantAt H22 (updW (fun f => WT sizes keep torn at_ f i) (i % 2) ((fun f => WT sizes keep torn at_ f i) (i % 2) ++ (tear keep torn at_ (kk sizes i) (piece sizes i)).take 0)) := by
      have : updW (fun f => WT sizes keep torn at_ f i) (i % 2) ((fun f => WT sizes keep torn at_ f i) (i % 2) ++ (tear keep torn at_ (kk sizes i) (piece sizes i)).take 0) = fun f => WT sizes keep torn at_ f i := by
        funext g
        by_cases hg : g = i % 2
        · subst hg; rw [updW_same]; simp
        · rw [updW_ne _ _ hg]
      rw [this]; exact hw
    obtain ⟨H42, e3, h3⟩ := choice_l2 sizes keep torn at_ (.ptr 1 0) H37 i (by omega) hs (fun f => WT sizes keep torn at_ f i) (fun f => Nat.le_trans (hwl f) (by omega)) (sz sizes i) 0 H22 (by omega) hw0
    have hw1 : updW (fun f => WT sizes keep torn at_ f i) (i % 2) ((fun f => WT sizes keep torn at_ f i) (i % 2) ++ tear keep torn at_ (kk sizes i) (piece sizes i)) = fun f => WT sizes keep torn at_ f (i + 1) := by
      funext g
      by_cases hg : g = i % 2
      · subst hg; rw [updW_same, WT_succ, if_pos rfl]
      · rw [updW_ne _ _ hg, WT_succ, if_neg (Ne.symm hg)]
    rw [hw1] at h3
    have w2 : IntKind.i64.wrap ((i : Int) + 1) = ((i + 1 : Nat) : Int) := by rw [wrap_i (by omega) (by omega)]; omega
    obtain ⟨H25, H26, e4, r1, r2, r3⟩ := ih (i + 1) H42 H37 (by omega) (by
        rw [PS_succ, PS_succ]
        rcases (show i % 2 = 0 ∨ i % 2 = 1 by omega) with hp | hp
        · rw [if_pos hp, if_neg (by omega)]
          simp only [List.flatten_append, List.length_append, List.flatten_cons, List.flatten_nil, List.append_nil]; omega
        · rw [if_neg (by omega), if_pos hp]
          simp only [List.flatten_append, List.length_append, List.flatten_cons, List.flatten_nil, List.append_nil]; omega) h3 (fun f => by
        have := hwl f
        rw [WT_succ]
        split
        · rw [List.length_append, tear_len]; omega
        · omega) h2
    refine ⟨H25, H26, ?_, r1, r2, r3⟩
    rw [law14_DiskChoice_l0]
    have c1 : decide ((i : Int) < (sizes.length : Int)) = true := by simp; omega
    have c2 : (0 : Int) ≤ (i : Int) ∧ (i : Int) < (sizes.length : Int) := by omega
    have c3 : (0 : Int) ≤ (sz sizes i : Int) ∧ (sz sizes i : Int) ≤ ((maxN : Nat) : Int) := by unfold maxN; omega
    have c4 : ((sz sizes i : Int) - 0).toNat + 1 = sz sizes i + 1 := by omega
    have e3 : law14_DiskChoice_l2 sizes keep torn at_ (.ptr 1 0) (i : Int) H37 (sz sizes i + 1) H22 (0 : Int) = some H42 := e3
    rw [if_pos c1, if_pos c2]
    simp only [Int.toNat_natCast, s1, c3, and_self, if_true, c4, e1, Option.bind_some, e2, bne_self_eq_false, Bool.false_eq_true, if_false, e3, w2]
    exact e4
theorem want_get {H : AH} {w : Nat → List Int} (h : WantAt H w) (f : Nat) (hf : f < 2) : AH.ok H (.ptr 0 0) 0 1 = true ∧ AH.ok H (.ptr 0 0) f 1 = true ∧ AH.isInts H .u8 (AH.rd H (.ptr 0 0) f) = true ∧ AH.ints H (AH.rd H (.ptr 0 0) f) = w f := by
  obtain ⟨b, h0, hb, hd⟩ := h
  have e1 : AH.rd H (.ptr 0 0) f = slcOf 1 (b f) (w f).length := by
    rw [rdC h0]
    rcases (show f = 0 ∨ f = 1 by omega) with rfl | rfl <;> rfl
  obtain ⟨r1, r2⟩ := row_ints (hb f hf)
  rw [e1]
  exact ⟨by rw [okC h0]; rfl, by rw [okC h0]; exact Nat.ble_eq_true_of_le (by simp; omega), r2, r1⟩
theorem DiskChoice (sizes : List Int) (keep : List Bool) (torn at_ : Int) (_w0 : ∀ x ∈ sizes, (Lit.int .i64 x).wf = true) (_w2 : (Lit.int .i64 torn).wf = true) (_w3 : (Lit.int .i64 at_).wf = true) : law14_DiskChoice sizes keep torn at_ = some true := by
  unfold law14_DiskChoice
  by_cases hs : sizes.length > 20
  · rw [if_pos (decide_eq_true (by omega))]
  rw [if_neg (by simp; omega)]
  by_cases hk : keep.length > 100
  · rw [if_pos (decide_eq_true (by omega))]
  rw [if_neg (by simp; omega)]
  obtain ⟨H, e0, h0⟩ := new_at 131072 (by decide) (by decide)
  have hd := ptr_ok h0
  obtain ⟨H1, e1, h1⟩ := create_at h0 3
  rw [on_create (by decide) (by decide) rfl] at e1 h1
  simp only [List.nil_append] at e1 h1
  obtain ⟨H2, e2, h2⟩ := create_at h1 7
  rw [on_create (by decide) (by decide) rfl] at e2 h2
  simp only [List.cons_append, List.nil_append] at e2 h2
  obtain ⟨H25, H26, e3, w3, l3, h3⟩ := choice_l0 sizes keep torn at_ (by omega) sizes.length 0 [MO.cells 30 [MV.nils, MV.nils]] H2 (by omega) (by simp [PS]) ⟨fun _ => none, rfl, fun f _ => rfl, fun r hr => by cases hr⟩ (fun f => by simp [WT]) h2
  have e3 : law14_DiskChoice_l0 sizes keep torn at_ (.ptr 1 0) (sizes.length + 1) (([] : AH) ++ [MO.cells 30 [MV.nils, MV.nils]]) H2 (0 : Int) = some (.inl (H25, H26)) := e3
  obtain ⟨H4, e4, h4⟩ := crash_at h3 keep torn at_
  obtain ⟨H5, e5, h5⟩ := start_at h4
  have hk0 : ∀ j, j % 2 = 0 → kk sizes j = 0 + j / 2 := fun j hj => by unfold kk; rw [hj]; omega
  have hk1 : ∀ j, j % 2 = 1 → kk sizes j = (PS sizes 0 sizes.length).length + j / 2 := fun j hj => by unfold kk; rw [PS_len sizes 0 _ (by omega), hj]; omega
  have t0 := PS_tears sizes keep torn at_ 0 (by omega) 0 hk0 sizes.length
  have t1 := PS_tears sizes keep torn at_ 1 (by omega) (PS sizes 0 sizes.length).length hk1 sizes.length
  rw [on_crash, crash_two] at h5
  simp only [Fl.crash, List.nil_append, t0, t1] at h5
  have r0 := read_ok h5 3
  rw [on_read (two_get0 (by decide) _ _), all0] at r0
  have r1 := read_ok h5 7
  rw [on_read (two_get1 (by decide) _ _), all0] at r1
  obtain ⟨g1, g2, g3, g4⟩ := want_get w3 0 (by omega)
  obtain ⟨g5, g6, g7, g8⟩ := want_get w3 1 (by omega)
  have b0 := bytes_same (WT sizes keep torn at_ 0 sizes.length) (by have := l3 0; omega)
  have b1 := bytes_same (WT sizes keep torn at_ 1 sizes.length) (by have := l3 1; omega)
  have c1 : ((sizes.length : Int) - 0).toNat + 1 = sizes.length + 1 := by omega
  have c2 : (0 : Int) ≤ 0 ∧ (0 : Int) < ((2 : Nat) : Int) := by omega
  have c3 : (0 : Int) ≤ 1 ∧ (1 : Int) < ((2 : Nat) : Int) := by omega
  simp only [e0, hd, Option.bind_some, MV.isN, MV.isP, e1, e2, c1, e3, e4, e5, r0, r1, List.length_nil, g1, g2, g3, g4, g5, g6, g7, g8, b0, b1, c2, c3, bne_self_eq_false, beq_self_eq_true, Bool.false_eq_true, if_false, if_true, and_self, or_true, Bool.not_true, wakes_ok]
end Go.Dk
