/- DiskCuts, DiskRoom. -/
import Derived.Test.YtdbheiibkpendaaMDkA
namespace Go.Dk
open Go Go.Gw Go.Proofs.Sd.D
set_option linter.unusedSimpArgs false
set_option linter.unusedVariables false

theorem wu {x : Int} (h1 : 0 ≤ x) (h2 : x < 18446744073709551616) : IntKind.u64.wrap x = x := by
  simp [IntKind.wrap, IntKind.bits, IntKind.signed]; omega
theorem wu_pos (x : Int) : 0 ≤ IntKind.u64.wrap x := by
  simp [IntKind.wrap, IntKind.bits, IntKind.signed]; omega
theorem modN (x : Int) (n : Nat) (h0 : 0 < n) (h1 : n < 1000000000) : ∃ m : Nat, m < n ∧ IntKind.i64.wrap ((IntKind.u64.wrap x).tmod (n : Int)) = (m : Int) := by
  have q0 := wu_pos x
  rw [Int.tmod_eq_emod_of_nonneg q0]
  have q1 := Int.emod_nonneg (IntKind.u64.wrap x) (show (n : Int) ≠ 0 by omega)
  have q2 := Int.emod_lt_of_pos (IntKind.u64.wrap x) (show (0 : Int) < (n : Int) by omega)
  refine ⟨(IntKind.u64.wrap x % (n : Int)).toNat, by omega, ?_⟩
  rw [wrap_i (by omega) (by omega)]; omega
theorem ptr_ok {c : Nat} {H : AH} {i : Nat} {A : Dk} (h : DiskAt c H (.ptr i 0) A) : AH.ok H (.ptr i 0) 0 1 = true := by
  obtain ⟨i', m, js, hi, L, a, h, _⟩ := h
  simp only [MV.ptr.injEq, and_true] at hi
  subst hi
  rw [okC h.d]; rfl
theorem new_at (lim : Int) (h1 : 1 ≤ lim) (h2 : lim ≤ 131072) : ∃ H, disk_New lim = some (.ptr 1 0, 0, H) ∧ DiskAt 0 H (.ptr 1 0) (On lim [] 0) := new_ok lim h1 h2
theorem ite_f {α : Type} {c : Prop} [Decidable c] {a b : α} (h : ¬ c) : (if c then a else b) = b := if_neg h
theorem get_new {fs : List (Int × Fl)} {n : Int} (h : (getL fs n).isNone = true) : getL fs n = none := by simpa using h

theorem tear_none (at_ : Int) (k : Nat) (p : List Int) : tear [] (-1) at_ k p = List.replicate p.length 0 := by
  unfold tear
  rw [if_neg (by omega), if_neg (by simp)]
theorem DiskCuts (a b : List Int) (at_ : Int) (_w0 : ∀ x ∈ a, (Lit.int .u8 x).wf = true) (_w1 : ∀ x ∈ b, (Lit.int .u8 x).wf = true) (_w2 : (Lit.int .i64 at_).wf = true) : law14_DiskCuts a b at_ = some true := by
  unfold law14_DiskCuts
  by_cases ha : a.length > 300
  · rw [if_pos (decide_eq_true (by omega))]
  rw [if_neg (by simp; omega)]
  by_cases hb : b.length > 300
  · rw [if_pos (decide_eq_true (by omega))]
  rw [if_neg (by simp; omega)]
  have w1 : IntKind.i64.wrap ((a.length : Int) + 1) = ((a.length + 1 : Nat) : Int) := by rw [wrap_i (by omega) (by omega)]; omega
  have w2 : IntKind.u64.wrap ((a.length + 1 : Nat) : Int) = ((a.length + 1 : Nat) : Int) := wu (by omega) (by omega)
  obtain ⟨m, hm, w3⟩ := modN at_ (a.length + 1) (by omega) (by omega)
  rw [w1, w2, w3]
  obtain ⟨H, e0, h0⟩ := new_at 131072 (by decide) (by decide)
  have hd := ptr_ok h0
  obtain ⟨H1, e1, h1⟩ := create_at h0 9
  rw [on_create (by decide) (by decide) rfl] at e1 h1
  obtain ⟨H2, e2, h2⟩ := append_at h1 9 a (by omega) (by decide)
  simp only [List.nil_append] at e2 h2
  rw [on_append (one_get _ _) _ (by rw [one_used]; simp [Fl.all]; omega), one_upd] at e2 h2
  simp only [List.nil_append] at e2 h2
  have f2 : (⟨[], [a]⟩ : Fl).all = a := by simp [Fl.all]
  obtain ⟨H3, e3, h3⟩ := cut_at h2 9 ((a.length + 1 : Nat) : Int)
  rw [on_cut_arg (one_get _ _) _ (by rw [f2]; omega)] at e3 h3
  obtain ⟨H4, e4, h4⟩ := cut_at h3 9 (-1)
  rw [on_cut_arg (one_get _ _) _ (by omega)] at e4 h4
  obtain ⟨H5, e5, h5⟩ := cut_at h4 8 0
  rw [on_cut_none (by simp [getL])] at e5 h5
  obtain ⟨H6, e6, h6⟩ := cut_at h5 9 (m : Int)
  rw [on_cut (one_get _ _) m (by rw [f2]; omega), one_upd, f2] at e6 h6
  have s6 := size_at h6 9
  rw [on_size (one_get _ _), show (⟨a.take m, []⟩ : Fl).all = a.take m by simp [Fl.all], List.length_take, Nat.min_eq_left (by omega)] at s6
  obtain ⟨H7, e7, h7⟩ := append_at h6 9 b (by omega) (by decide)
  rw [on_append (one_get _ _) _ (by rw [one_used]; simp [Fl.all]; omega), one_upd] at e7 h7
  simp only [List.nil_append] at e7 h7
  have r7 := read_ok h7 9
  rw [on_read (one_get _ _), show (⟨a.take m, [b]⟩ : Fl).all = a.take m ++ b by simp [Fl.all]] at r7
  obtain ⟨H8, e8, h8⟩ := crash_at h7 [] (-1) 0
  obtain ⟨H9, e9, h9⟩ := start_at h8
  rw [on_crash, one_crash, show Fl.crash [] (-1) 0 0 ⟨a.take m, [b]⟩ = ⟨a.take m ++ List.replicate b.length 0, []⟩ by simp [Fl.crash, tears, tear_none]] at h9
  have r9 := read_ok h9 9
  rw [on_read (one_get _ _), show (⟨a.take m ++ List.replicate b.length 0, []⟩ : Fl).all = a.take m ++ List.replicate b.length 0 by simp [Fl.all]] at r9
  obtain ⟨H10, e10, h10⟩ := remove_at h9 9
  rw [on_remove (one_get _ _), show List.filter (fun p : Int × Fl => !(p.1 == 9)) [(9, ⟨a.take m ++ List.replicate b.length 0, []⟩)] = [] by simp] at e10 h10
  obtain ⟨H11, e11, h11⟩ := create_at h10 9
  rw [on_create (by decide) (by decide) rfl] at e11 h11
  simp only [List.nil_append] at e11 h11
  have r11 := read_ok h11 9
  rw [on_read (one_get _ _), show (⟨[], []⟩ : Fl).all = [] from rfl] at r11
  have s11 := size_at h11 9
  rw [on_size (one_get _ _), show (⟨[], []⟩ : Fl).all = [] from rfl] at s11
  have c1 : ((a.length + 1 : Nat) : Int) ≠ 0 := by omega
  have c2 : (0 : Int) ≤ 0 ∧ (0 : Int) ≤ (m : Int) ∧ (m : Int) ≤ (a.length : Int) := by omega
  have t1 : keep_Twin ((a.take m).drop 0) = some (a.take m) := by rw [List.drop_zero]; exact twin_ok _ (by simp; omega)
  have c3 : List.length (a.take m ++ b) ≤ maxN := by unfold maxN; simp; omega
  have c4 : (0 : Int) ≤ (b.length : Int) ∧ ((a.take m).length : Int) + (b.length : Int) ≤ ((maxN : Nat) : Int) := by unfold maxN; simp; omega
  have b1 := bytes_same (a.take m ++ b) (by simp; omega)
  have b2 := bytes_same (a.take m ++ List.replicate b.length 0) (by simp; omega)
  simp only [e0, Option.bind_some, hd, MV.isN, MV.isP, e1, e2, e3, e4, e5, e6, s6, e7, r7, e8, e9, r9, e10, e11, r11, s11, c1, c2, t1, c3, c4, b1, b2, bne_self_eq_false, beq_self_eq_true, Bool.false_eq_true, if_false, if_true, and_self, or_true, Int.toNat_natCast, ne_eq, not_false_eq_true, Bool.not_true, wakes_ok]
  rfl
end Go.Dk
/- DiskRoom. -/
namespace Go.Dk
open Go Go.Gw Go.Proofs.Sd.D
set_option linter.unusedSimpArgs false
set_option linter.unusedVariables false

theorem two_get0 {x y : Int} (h : x ≠ y) (f g : Fl) : getL [(x, f), (y, g)] x = some f := by simp [getL]
theorem two_get1 {x y : Int} (h : x ≠ y) (f g : Fl) : getL [(x, f), (y, g)] y = some g := by simp [getL, h]
theorem two_upd0 {x y : Int} (h : x ≠ y) (f g k : Fl) : updL [(x, f), (y, g)] x k = [(x, k), (y, g)] := by simp [updL, Ne.symm h]
theorem two_upd1 {x y : Int} (h : x ≠ y) (f g k : Fl) : updL [(x, f), (y, g)] y k = [(x, f), (y, k)] := by simp [updL, h]
theorem two_used (x y : Int) (f g : Fl) : usedF [(x, f), (y, g)] = (f.all.length : Int) + (g.all.length : Int) := by simp [usedF]
theorem all1 (b : List Int) : (⟨[], [b]⟩ : Fl).all = b := by simp [Fl.all]
theorem all0 (b : List Int) : (⟨b, []⟩ : Fl).all = b := by simp [Fl.all]
theorem wn (n : Nat) (h : n < 9223372036854775808) : IntKind.i64.wrap (n : Int) = (n : Int) := wrap_i (by omega) (by omega)
theorem wun (n : Nat) (h : n < 9223372036854775808) : IntKind.u64.wrap (n : Int) = (n : Int) := wu (by omega) (by omega)

theorem DiskRoom (limit a b : Int) (_w0 : (Lit.int .i64 limit).wf = true) (_w1 : (Lit.int .i64 a).wf = true) (_w2 : (Lit.int .i64 b).wf = true) : law14_DiskRoom limit a b = some true := by
  unfold law14_DiskRoom
  obtain ⟨l, hl, w1⟩ := modN limit 500 (by omega) (by omega)
  rw [show ((500 : Nat) : Int) = 500 from rfl] at w1
  have w2 : IntKind.i64.wrap (1 + (l : Int)) = ((l + 1 : Nat) : Int) := by rw [wrap_i (by omega) (by omega)]; omega
  have w3 : IntKind.i64.wrap (((l + 1 : Nat) : Int) + 1) = ((l + 2 : Nat) : Int) := by rw [wrap_i (by omega) (by omega)]; omega
  have w4 := wun (l + 2) (by omega)
  obtain ⟨m, hm, w5⟩ := modN a (l + 2) (by omega) (by omega)
  have w6 : IntKind.i64.wrap ((m : Int) + 1) = ((m + 1 : Nat) : Int) := by rw [wrap_i (by omega) (by omega)]; omega
  have w7 := wun (m + 1) (by omega)
  obtain ⟨k, hk, w8⟩ := modN b (m + 1) (by omega) (by omega)
  have w9 : IntKind.i64.wrap (((l + 1 : Nat) : Int) - (m : Int)) = ((l + 1 - m : Nat) : Int) := by rw [wrap_i (by omega) (by omega)]; omega
  have w10 : IntKind.i64.wrap ((m : Int) - (k : Int)) = ((m - k : Nat) : Int) := by rw [wrap_i (by omega) (by omega)]; omega
  have w11 : IntKind.i64.wrap (((l + 1 : Nat) : Int) - (k : Int)) = ((l + 1 - k : Nat) : Int) := by rw [wrap_i (by omega) (by omega)]; omega
  simp only [w1, w2, w3, w4, w5, w6, w7, w8, w9, w10, w11]
  obtain ⟨H, e0, h0⟩ := new_at ((l + 1 : Nat) : Int) (by omega) (by omega)
  have hd := ptr_ok h0
  obtain ⟨H1, e1, h1⟩ := create_at h0 0
  rw [on_create (by decide) (by decide) rfl] at e1 h1
  simp only [List.nil_append] at e1 h1
  obtain ⟨H2, e2, h2⟩ := create_at h1 1
  rw [on_create (by decide) (by decide) rfl] at e2 h2
  simp only [List.cons_append, List.nil_append] at e2 h2
  have n01 : (0 : Int) ≠ 1 := by decide
  obtain ⟨H3, e3, h3⟩ := append_at h2 0 (List.replicate m 0) (by simp; omega) (by decide)
  rw [on_append (two_get0 n01 _ _) _ (by rw [two_used]; simp [Fl.all]; omega), two_upd0 n01] at e3 h3
  simp only [List.nil_append] at e3 h3
  obtain ⟨H4, e4, h4⟩ := append_at h3 1 (List.replicate (l + 1 - m) 0) (by simp; omega) (by decide)
  rw [on_append (two_get1 n01 _ _) _ (by rw [two_used, all1]; simp [Fl.all]; omega), two_upd1 n01] at e4 h4
  simp only [List.nil_append] at e4 h4
  obtain ⟨H5, e5, h5⟩ := append_at h4 0 [1] (by simp) (by decide)
  rw [on_append_full (two_get0 n01 _ _) _ (by rw [two_used, all1, all1]; simp; omega)] at e5 h5
  obtain ⟨H6, e6, h6⟩ := append_at h5 0 [] (by simp) (by decide)
  rw [on_append (two_get0 n01 _ _) _ (by rw [two_used, all1, all1]; simp; omega), two_upd0 n01] at e6 h6
  have f6 : (⟨[], [List.replicate m 0] ++ [[]]⟩ : Fl).all = List.replicate m 0 := by simp [Fl.all]
  have s6 := size_at h6 0
  rw [on_size (two_get0 n01 _ _), f6, List.length_replicate] at s6
  obtain ⟨H7, e7, h7⟩ := cut_at h6 0 (k : Int)
  rw [on_cut (two_get0 n01 _ _) k (by rw [f6]; simp; omega), two_upd0 n01, f6] at e7 h7
  have f7 : (⟨List.take k (List.replicate m (0 : Int)), []⟩ : Fl).all = List.replicate k 0 := by
    rw [all0, List.take_replicate, Nat.min_eq_left (by omega)]
  obtain ⟨H8, e8, h8⟩ := append_at h7 1 (List.replicate (m - k) 0) (by simp; omega) (by decide)
  rw [on_append (two_get1 n01 _ _) _ (by rw [two_used, f7, all1]; simp; omega), two_upd1 n01] at e8 h8
  have f8 : (⟨[], [List.replicate (l + 1 - m) (0 : Int)] ++ [List.replicate (m - k) 0]⟩ : Fl).all = List.replicate (l + 1 - k) 0 := by
    simp only [Fl.all, List.nil_append, List.cons_append, List.flatten_cons, List.flatten_nil, List.append_nil, List.replicate_append_replicate]
    congr 1; omega
  obtain ⟨H9, e9, h9⟩ := append_at h8 1 [1] (by simp) (by decide)
  rw [on_append_full (two_get1 n01 _ _) _ (by rw [two_used, f7, f8]; simp; omega)] at e9 h9
  obtain ⟨H10, e10, h10⟩ := remove_at h9 1
  rw [on_remove (two_get1 n01 _ _), show ∀ f g : Fl, List.filter (fun p : Int × Fl => !(p.1 == 1)) [(0, f), (1, g)] = [(0, f)] from fun f g => by simp] at e10 h10
  have s10 := size_at h10 1
  rw [show (On ((l + 1 : Nat) : Int) [(0, (⟨List.take k (List.replicate m (0 : Int)), []⟩ : Fl))] 0).size 1 = 0 from by simp [Dk.size, getL]] at s10
  obtain ⟨H11, e11, h11⟩ := append_at h10 0 (List.replicate (l + 1 - k) 0) (by simp; omega) (by decide)
  rw [on_append (one_get _ _) _ (by rw [one_used, f7]; simp; omega), one_upd] at e11 h11
  obtain ⟨H12, e12, h12⟩ := append_at h11 0 [1] (by simp) (by decide)
  rw [on_append_full (one_get _ _) _ (by rw [one_used]; simp [Fl.all]; omega)] at e12 h12
  obtain ⟨H13, e13, h13⟩ := append_at h12 1 [] (by simp) (by decide)
  rw [on_append_none (by simp [getL])] at e13 h13
  have c1 : ((l + 2 : Nat) : Int) ≠ 0 := by omega
  have c2 : ((m + 1 : Nat) : Int) ≠ 0 := by omega
  have c3 : (0 : Int) ≤ (m : Int) ∧ (m : Int) ≤ ((maxN : Nat) : Int) := by unfold maxN; omega
  have c4 : (0 : Int) ≤ ((l + 1 - m : Nat) : Int) ∧ ((l + 1 - m : Nat) : Int) ≤ ((maxN : Nat) : Int) := by unfold maxN; omega
  have c5 : (0 : Int) ≤ ((m - k : Nat) : Int) ∧ ((m - k : Nat) : Int) ≤ ((maxN : Nat) : Int) := by unfold maxN; omega
  have c6 : (0 : Int) ≤ ((l + 1 - k : Nat) : Int) ∧ ((l + 1 - k : Nat) : Int) ≤ ((maxN : Nat) : Int) := by unfold maxN; omega
  simp only [e0, Option.bind_some, hd, MV.isN, MV.isP, e1, e2, e3, e4, e5, e6, s6, e7, e8, e9, e10, s10, e11, e12, e13, c1, c2, c3, c4, c5, c6, bne_self_eq_false, beq_self_eq_true, Bool.false_eq_true, if_false, if_true, and_self, or_true, Int.toNat_natCast, ne_eq, not_false_eq_true, Bool.not_true, wakes_ok]
end Go.Dk
/- DiskLives. -/
namespace Go.Dk
open Go Go.Gw Go.Proofs.Sd.D
set_option linter.unusedSimpArgs false
set_option linter.unusedVariables false

def bs (i : Nat) : List Int := (List.range i).map fun j => ((j + 1 : Nat) : Int)
theorem bs_succ (i : Nat) : bs (i + 1) = bs i ++ [((i + 1 : Nat) : Int)] := by simp [bs, List.range_succ]
theorem bs_len (i : Nat) : (bs i).length = i := by simp [bs]
theorem bs_get (i j : Nat) (h : j < i) : (bs i).getD j 0 = ((j + 1 : Nat) : Int) := by
  simp [bs, List.getD_eq_getElem?_getD, List.getElem?_map, List.getElem?_range h]
theorem w8 {x : Int} (h1 : 0 ≤ x) (h2 : x < 256) : IntKind.u8.wrap x = x := by
  simp [IntKind.wrap, IntKind.bits, IntKind.signed]; omega

theorem DiskAt.re {c c' : Nat} {H : AH} {d : MV} {A : Dk} (h : DiskAt c H d A) (hc : c' ≤ 1000000) (hp : ∀ p ∈ A.fs, p.2.ps.length ≤ c') : DiskAt c' H d A := by
  obtain ⟨i, m, js, hi, L, a, h1, h2, h3, h4, h5⟩ := h
  exact ⟨i, m, js, hi, L, a, h1, h2, h3, h4, ⟨hc, h5.rg, hp, h5.us, h5.lim, h5.nd⟩⟩
theorem lives_l2 (n : Int) (tw : Bool) (x : Int) {c : Nat} {d : MV} {lim life : Int} {f : Fl} (hf : f.ps = []) : ∀ (j k : Nat) (H : AH), k + j = 4 → DiskAt c H d (On lim [(0, f)] life) →
    ∃ H', law14_DiskLives_l2 n tw d x (j + 1) H (k : Int) = some (.inl H') ∧ DiskAt c H' d (On lim [(0, f)] life) := by
  intro j
  induction j with
  | zero => intro k H hk h; exact ⟨H, by rw [law14_DiskLives_l2, if_neg (by simp; omega)], h⟩
  | succ j ih =>
    intro k H hk h
    obtain ⟨H1, e1, h1⟩ := sync_at h 0
    rw [on_sync (one_get _ _), one_upd, show f.settle = f by cases f; simp only at hf; subst hf; simp [Fl.settle, Fl.all]] at e1 h1
    obtain ⟨H2, e2, h2⟩ := ih (k + 1) H1 (by omega) h1
    refine ⟨H2, ?_, h2⟩
    have e : IntKind.i64.wrap ((k : Int) + 1) = ((k + 1 : Nat) : Int) := by rw [wrap_i (by omega) (by omega)]; omega
    rw [law14_DiskLives_l2, if_pos (by simp; omega), e1]
    refine (Option.bind_some _ _).trans ?_
    simp only [bne_self_eq_false, Bool.false_eq_true, if_false, e]
    exact e2
theorem lives_l0 (n : Int) (tw : Bool) (N : Nat) (hN : N < 15) (hn : IntKind.i64.wrap ((IntKind.u64.wrap n).tmod (15 : Int)) = (N : Int)) : ∀ (j i : Nat) (H : AH), i + j = N → DiskAt 0 H (.ptr 1 0) (On 1000 [(0, ⟨bs i, []⟩)] (i : Int)) →
    ∃ H', law14_DiskLives_l0 n tw (.ptr 1 0) (j + 1) H (i : Int) = some (.inl H') ∧ DiskAt 0 H' (.ptr 1 0) (On 1000 [(0, ⟨bs N, []⟩)] (N : Int)) := by
  intro j
  induction j with
  | zero =>
    intro i H hi h
    obtain rfl : i = N := by omega
    exact ⟨H, by rw [law14_DiskLives_l0, hn, if_neg (by simp)], h⟩
  | succ j ih =>
    intro i H hi h
    obtain ⟨H1, e1, h1⟩ := trip_at h 3 [] (-1) 0 (by decide)
    obtain ⟨H2, e2, h2⟩ := append_at h1 0 [((i + 1 : Nat) : Int)] (by simp) (by omega)
    have va : (Dk.trip (On 1000 [(0, ⟨bs i, []⟩)] (i : Int)) 3 [] (-1) 0).append 0 [((i + 1 : Nat) : Int)] = (0, ⟨1000, [(0, ⟨bs i, [[((i + 1 : Nat) : Int)]]⟩)], false, (i : Int), some (2, [], -1, 0)⟩) := by
      unfold Dk.append Dk.trip
      simp only [one_get, one_used, one_upd, all0, bs_len, List.length_cons, List.length_nil, Bool.false_eq_true, if_false]
      rw [if_neg (by omega)]
      rfl
    rw [va] at e2 h2
    obtain ⟨H3, e3, h3⟩ := crash_at h2 [true] (-1) 0
    have vc : Dk.crash ⟨1000, [(0, ⟨bs i, [[((i + 1 : Nat) : Int)]]⟩)], false, (i : Int), some (2, [], -1, 0)⟩ [true] (-1) 0 = ⟨1000, [(0, ⟨bs (i + 1), []⟩)], true, ((i + 1 : Nat) : Int), none⟩ := by
      unfold Dk.crash
      simp only [Bool.false_eq_true, if_false]
      rw [one_crash, wrap_i (by omega) (by omega)]
      simp only [Fl.crash, tears, tear, bs_succ, List.flatten_cons, List.flatten_nil, List.append_nil]
      rw [if_neg (by decide), if_pos (by decide)]
      rfl
    rw [vc] at h3
    obtain ⟨H4, e4, h4⟩ := crash_at h3 [] 0 0
    rw [show Dk.crash ⟨1000, [(0, ⟨bs (i + 1), []⟩)], true, ((i + 1 : Nat) : Int), none⟩ [] 0 0 = ⟨1000, [(0, ⟨bs (i + 1), []⟩)], true, ((i + 1 : Nat) : Int), none⟩ by simp [Dk.crash]] at h4
    have mid : ∃ H5, (if tw = true then (disk_Disk_Crash H3 (.ptr 1 0) [] (0 : Int) (0 : Int)).bind (fun H33 => some H33) else some H3) = some H5 ∧ DiskAt 1 H5 (.ptr 1 0) ⟨1000, [(0, ⟨bs (i + 1), []⟩)], true, ((i + 1 : Nat) : Int), none⟩ := by
      cases tw
      · exact ⟨H3, rfl, h3⟩
      · exact ⟨H4, by rw [e4]; rfl, h4⟩
    obtain ⟨H5, e5, h5⟩ := mid
    have l5 := life_at h5
    have o5 := off_at h5
    obtain ⟨H6, e6, h6⟩ := append_at h5 0 [] (by simp) (by omega)
    rw [show Dk.append ⟨1000, [(0, ⟨bs (i + 1), []⟩)], true, ((i + 1 : Nat) : Int), none⟩ 0 [] = (8, ⟨1000, [(0, ⟨bs (i + 1), []⟩)], true, ((i + 1 : Nat) : Int), none⟩) by simp [Dk.append]] at e6 h6
    obtain ⟨H7, e7, h7⟩ := start_at h6
    obtain ⟨H8, e8, h8⟩ := start_at h7
    have h8' : DiskAt 0 H8 (.ptr 1 0) (On 1000 [(0, ⟨bs (i + 1), []⟩)] ((i + 1 : Nat) : Int)) := h8.re (by omega) (by simp [Dk.start])
    obtain ⟨H9, e9, h9⟩ := lives_l2 n tw (i : Int) rfl 4 0 H8 (by omega) h8'
    obtain ⟨H10, e10, h10⟩ := ih (i + 1) H9 (by omega) h9
    refine ⟨H10, ?_, h10⟩
    have w1 : IntKind.u8.wrap (IntKind.i64.wrap (1 + (i : Int))) = ((i + 1 : Nat) : Int) := by rw [wrap_i (by omega) (by omega), w8 (by omega) (by omega)]; omega
    have w2 : IntKind.i64.wrap ((i : Int) + 1) = ((i + 1 : Nat) : Int) := by rw [wrap_i (by omega) (by omega)]; omega
    have b1 : AH.isBools (([] : AH) ++ [MO.row 4 1 [MV.bool true]]) (MV.slc (List.length ([] : AH)) 1 0 1) = true := rfl
    have b2 : AH.bools (([] : AH) ++ [MO.row 4 1 [MV.bool true]]) (MV.slc (List.length ([] : AH)) 1 0 1) = [true] := rfl
    have e9 : law14_DiskLives_l2 n tw (.ptr 1 0) (i : Int) (((4 : Int) - (0 : Int)).toNat + 1) H8 (0 : Int) = some (.inl H9) := e9
    have c1 : decide ((i : Int) < (N : Int)) = true := by simp; omega
    rw [law14_DiskLives_l0]
    simp only [hn, w1, w2, b1, b2, c1, e1, e2, e3, e5, l5, o5, e6, e7, e8, e9, e10, Option.bind_some, bne_self_eq_false, beq_self_eq_true, Bool.false_eq_true, if_false, if_true, Bool.not_true]
theorem lives_l3 (n : Int) (N : Nat) (hN : N < 15) (hn : IntKind.i64.wrap ((IntKind.u64.wrap n).tmod (15 : Int)) = (N : Int)) : ∀ (j i : Nat), i + j = N → law14_DiskLives_l3 n (bs N) (j + 1) (i : Int) = some (.inl ()) := by
  intro j
  induction j with
  | zero => intro i hi; rw [law14_DiskLives_l3, hn, if_neg (by simp; omega)]
  | succ j ih =>
    intro i hi
    have w1 : IntKind.u8.wrap (IntKind.i64.wrap (1 + (i : Int))) = ((i + 1 : Nat) : Int) := by rw [wrap_i (by omega) (by omega), w8 (by omega) (by omega)]; omega
    have w2 : IntKind.i64.wrap ((i : Int) + 1) = ((i + 1 : Nat) : Int) := by rw [wrap_i (by omega) (by omega)]; omega
    rw [law14_DiskLives_l3, hn, if_pos (by simp; omega), if_pos ⟨by omega, by rw [bs_len]; omega⟩, w1, w2, Int.toNat_natCast, bs_get _ _ (by omega), if_neg (by simp)]
    exact ih (i + 1) (by omega)
theorem DiskLives (n : Int) (tw : Bool) (_w0 : (Lit.int .i64 n).wf = true) : law14_DiskLives n tw = some true := by
  unfold law14_DiskLives
  obtain ⟨N, hN, hn⟩ := modN n 15 (by omega) (by omega)
  rw [show ((15 : Nat) : Int) = 15 from rfl] at hn
  obtain ⟨H, e0, h0⟩ := new_at 1000 (by decide) (by decide)
  have hd := ptr_ok h0
  have l0 := life_at h0
  obtain ⟨H1, e1, h1⟩ := create_at h0 0
  rw [on_create (by decide) (by decide) rfl] at e1 h1
  simp only [List.nil_append] at e1 h1
  obtain ⟨H2, e2, h2⟩ := lives_l0 n tw N hN hn N 0 H1 (by omega) h1
  have r2 := read_ok h2 0
  rw [on_read (one_get _ _), all0] at r2
  have e3 := lives_l3 n N hN hn N 0 (by omega)
  rw [show ((0 : Nat) : Int) = 0 from rfl] at e2 e3
  have c1 : ((N : Int) - 0).toNat + 1 = N + 1 := by omega
  simp only [hn, e0, hd, l0, Option.bind_some, MV.isN, MV.isP, e1, c1, e2, r2, e3, bs_len, bne_self_eq_false, beq_self_eq_true, Bool.false_eq_true, if_false, if_true, and_self, or_true, Bool.not_true, wakes_ok]
end Go.Dk
