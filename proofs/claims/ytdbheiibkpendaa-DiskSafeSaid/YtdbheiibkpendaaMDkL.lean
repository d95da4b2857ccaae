/- DiskCuts, DiskRoom. -/
import Derived.Test.YtdbheiibkpendaaMDkA
namespace Go.Dk
open Go Go.Gw Go.Proofs.Sd.D
set_option linter.unusedSimpArgs false
set_option linter.unusedVariables false

theorem wu {x : Int} (h1 : 0 ≤ x) (h2 : x < 18446744073709551616) : IntKind.u64.wrap x = x := by
  simp [IntKind.wrap, IntKind.bits, IntKind.signed]; omega
theorem wu_pos (x : Int) : 0 ≤ IntKind.u64.wrap x := by
  simp [IntKind.wrap, IntKind.bits, IntKind.signed]; omega
theorem modN (x : Int) (n : Nat) (h0 : 0 < n) (h1 : n < 1000000000) : ∃ m : Nat, m < n ∧ IntKind.i64.wrap ((IntKind.u64.wrap x).tmod (n : Int)) = (m : Int) := by
  have q0 := wu_pos x
  rw [Int.tmod_eq_emod_of_nonneg q0]
  have q1 := Int.emod_nonneg (IntKind.u64.wrap x) (show (n : Int) ≠ 0 by omega)
  have q2 := Int.emod_lt_of_pos (IntKind.u64.wrap x) (show (0 : Int) < (n : Int) by omega)
  refine ⟨(IntKind.u64.wrap x % (n : Int)).toNat, by omega, ?_⟩
  rw [wrap_i (by omega) (by omega)]; omega
theorem ptr_ok {c : Nat} {H : AH} {i : Nat} {A : Dk} (h : DiskAt c H (.ptr i 0) A) : AH.ok H (.ptr i 0) 0 1 = true := by
  obtain ⟨i', m, js, hi, L, a, h, _⟩ := h
  simp only [MV.ptr.injEq, and_true] at hi
  subst hi
  rw [okC h.d]; rfl
theorem new_at (lim : Int) (h1 : 1 ≤ lim) (h2 : lim ≤ 131072) : ∃ H, disk_New lim = some (.ptr 1 0, 0, H) ∧ DiskAt 0 H (.ptr 1 0) (On lim [] 0) := new_ok lim h1 h2
theorem ite_f {α : Type} {c : Prop} [Decidable c] {a b : α} (h : ¬ c) : (if c then a else b) = b := if_neg h
theorem get_new {fs : List (Int × Fl)} {n : Int} (h : (getL fs n).isNone = true) : getL fs n = none := by simpa using h

theorem tear_none (at_ : Int) (k : Nat) (p : List Int) : tear [] (-1) at_ k p = List.replicate p.length 0 := by
  unfold tear
  rw [if_neg (by omega), if_neg (by simp)]
theorem DiskCuts (a b : List Int) (at_ : Int) (_w0 : ∀ x ∈ a, (Lit.int .u8 x).wf = true) (_w1 : ∀ x ∈ b, (Lit.int .u8 x).wf = true) (_w2 : (Lit.int .i64 at_).wf = true) : law14_DiskCuts a b at_ = some true := by
  unfold law14_DiskCuts
  by_cases ha : a.length > 300
  · rw [if_pos (decide_eq_true (by omega))]
  rw [if_neg (by simp; omega)]
  by_cases hb : b.length > 300
  · rw [if_pos (decide_eq_true (by omega))]
  rw [if_neg (by simp; omega)]
  have w1 : IntKind.i64.wrap ((a.length : Int) + 1) = ((a.length + 1 : Nat) : Int) := by rw [wrap_i (by omega) (by omega)]; omega
  have w2 : IntKind.u64.wrap ((a.length + 1 : Nat) : Int) = ((a.length + 1 : Nat) : Int) := wu (by omega) (by omega)
  obtain ⟨m, hm, w3⟩ := modN at_ (a.length + 1) (by omega) (by omega)
  rw [w1, w2, w3]
  obtain ⟨H, e0, h0⟩ := new_at 131072 (by decide) (by decide)
  have hd := ptr_ok h0
  obtain ⟨H1, e1, h1⟩ := create_at h0 9
  rw [on_create (by decide) (by decide) rfl] at e1 h1
  obtain ⟨H2, e2, h2⟩ := append_at h1 9 a (by omega) (by decide)
  simp only [List.nil_append] at e2 h2
  rw [on_append (one_get _ _) _ (by rw [one_used]; simp [Fl.all]; omega), one_upd] at e2 h2
  simp only [List.nil_append] at e2 h2
  have f2 : (⟨[], [a]⟩ : Fl).all = a := by simp [Fl.all]
  obtain ⟨H3, e3, h3⟩ := cut_at h2 9 ((a.length + 1 : Nat) : Int)
  rw [on_cut_arg (one_get _ _) _ (by rw [f2]; omega)] at e3 h3
  obtain ⟨H4, e4, h4⟩ := cut_at h3 9 (-1)
  rw [on_cut_arg (one_get _ _) _ (by omega)] at e4 h4
  obtain ⟨H5, e5, h5⟩ := cut_at h4 8 0
  rw [on_cut_none (by simp [getL])] at e5 h5
  obtain ⟨H6, e6, h6⟩ := cut_at h5 9 (m : Int)
  rw [on_cut (one_get _ _) m (by rw [f2]; omega), one_upd, f2] at e6 h6
  have s6 := size_at h6 9
  rw [on_size (one_get _ _), show (⟨a.take m, []⟩ : Fl).all = a.take m by simp [Fl.all], List.length_take, Nat.min_eq_left (by omega)] at s6
  obtain ⟨H7, e7, h7⟩ := append_at h6 9 b (by omega) (by decide)
  rw [on_append (one_get _ _) _ (by rw [one_used]; simp [Fl.all]; omega), one_upd] at e7 h7
  simp only [List.nil_append] at e7 h7
  have r7 := read_ok h7 9
  rw [on_read (one_get _ _), show (⟨a.take m, [b]⟩ : Fl).all = a.take m ++ b by simp [Fl.all]] at r7
  obtain ⟨H8, e8, h8⟩ := crash_at h7 [] (-1) 0
  obtain ⟨H9, e9, h9⟩ := start_at h8
  rw [on_crash, one_crash, show Fl.crash [] (-1) 0 0 ⟨a.take m, [b]⟩ = ⟨a.take m ++ List.replicate b.length 0, []⟩ by simp [Fl.crash, tears, tear_none]] at h9
  have r9 := read_ok h9 9
  rw [on_read (one_get _ _), show (⟨a.take m ++ List.replicate b.length 0, []⟩ : Fl).all = a.take m ++ List.replicate b.length 0 by simp [Fl.all]] at r9
  obtain ⟨H10, e10, h10⟩ := remove_at h9 9
  rw [on_remove (one_get _ _), show List.filter (fun p : Int × Fl => !(p.1 == 9)) [(9, ⟨a.take m ++ List.replicate b.length 0, []⟩)] = [] by simp] at e10 h10
  obtain ⟨H11, e11, h11⟩ := create_at h10 9
  rw [on_create (by decide) (by decide) rfl] at e11 h11
  simp only [List.nil_append] at e11 h11
  have r11 := read_ok h11 9
  rw [on_read (one_get _ _), show (⟨[], []⟩ : Fl).all = [] from rfl] at r11
  have s11 := size_at h11 9
  rw [on_size (one_get _ _), show (⟨[], []⟩ : Fl).all = [] from rfl] at s11
  have c1 : ((a.length + 1 : Nat) : Int) ≠ 0 := by omega
  have c2 : (0 : Int) ≤ 0 ∧ (0 : Int) ≤ (m : Int) ∧ (m : Int) ≤ (a.length : Int) := by omega
  have t1 : keep_Twin ((a.take m).drop 0) = some (a.take m) := by rw [List.drop_zero]; exact twin_ok _ (by simp; omega)
  have c3 : List.length (a.take m ++ b) ≤ maxN := by unfold maxN; simp; omega
  have c4 : (0 : Int) ≤ (b.length : Int) ∧ ((a.take m).length : Int) + (b.length : Int) ≤ ((maxN : Nat) : Int) := by unfold maxN; simp; omega
  have b1 := bytes_same (a.take m ++ b) (by simp; omega)
  have b2 := bytes_same (a.take m ++ List.replicate b.length 0) (by simp; omega)
  simp only [e0, Option.bind_some, hd, MV.isN, MV.isP, e1, e2, e3, e4, e5, e6, s6, e7, r7, e8, e9, r9, e10, e11, r11, s11, c1, c2, t1, c3, c4, b1, b2, bne_self_eq_false, beq_self_eq_true, Bool.false_eq_true, if_false, if_true, and_self, or_true, Int.toNat_natCast, ne_eq, not_false_eq_true, Bool.not_true, wakes_ok]
  rfl
end Go.Dk
/- DiskRoom. -/
namespace Go.Dk
open Go Go.Gw Go.Proofs.Sd.D
set_option linter.unusedSimpArgs false
set_option linter.unusedVariables false

theorem two_get0 {x y : Int} (h : x ≠ y) (f g : Fl) : getL [(x, f), (y, g)] x = some f := by simp [getL]
theorem two_get1 {x y : Int} (h : x ≠ y) (f g : Fl) : getL [(x, f), (y, g)] y = some g := by simp [getL, h]
theorem two_upd0 {x y : Int} (h : x ≠ y) (f g k : Fl) : updL [(x, f), (y, g)] x k = [(x, k), (y, g)] := by simp [updL, Ne.symm h]
theorem two_upd1 {x y : Int} (h : x ≠ y) (f g k : Fl) : updL [(x, f), (y, g)] y k = [(x, f), (y, k)] := by simp [updL, h]
theorem two_used (x y : Int) (f g : Fl) : usedF [(x, f), (y, g)] = (f.all.length : Int) + (g.all.length : Int) := by simp [usedF]
theorem all1 (b : List Int) : (⟨[], [b]⟩ : Fl).all = b := by simp [Fl.all]
theorem all0 (b : List Int) : (⟨b, []⟩ : Fl).all = b := by simp [Fl.all]
theorem wn (n : Nat) (h : n < 9223372036854775808) : IntKind.i64.wrap (n : Int) = (n : Int) := wrap_i (by omega) (by omega)
theorem wun (n : Nat) (h : n < 9223372036854775808) : IntKind.u64.wrap (n : Int) = (n : Int) := wu (by omega) (by omega)

theorem DiskRoom (limit a b : Int) (_w0 : (Lit.int .i64 limit).wf = true) (_w1 : (Lit.int .i64 a).wf = true) (_w2 : (Lit.int .i64 b).wf = true) : law14_DiskRoom limit a b = some true := by
  unfold law14_DiskRoom
  obtain ⟨l, hl, w1⟩ := modN limit 500 (by omega) (by omega)
  rw [show ((500 : Nat) : Int) = 500 from rfl] at w1
  have w2 : IntKind.i64.wrap (1 + (l : Int)) = ((l + 1 : Nat) : Int) := by rw [wrap_i (by omega) (by omega)]; omega
  have w3 : IntKind.i64.wrap (((l + 1 : Nat) : Int) + 1) = ((l + 2 : Nat) : Int) := by rw [wrap_i (by omega) (by omega)]; omega
  have w4 := wun (l + 2) (by omega)
  obtain ⟨m, hm, w5⟩ := modN a (l + 2) (by omega) (by omega)
  have w6 : IntKind.i64.wrap ((m : Int) + 1) = ((m + 1 : Nat) : Int) := by rw [wrap_i (by omega) (by omega)]; omega
  have w7 := wun (m + 1) (by omega)
  obtain ⟨k, hk, w8⟩ := modN b (m + 1) (by omega) (by omega)
  have w9 : IntKind.i64.wrap (((l + 1 : Nat) : Int) - (m : Int)) = ((l + 1 - m : Nat) : Int) := by rw [wrap_i (by omega) (by omega)]; omega
  have w10 : IntKind.i64.wrap ((m : Int) - (k : Int)) = ((m - k : Nat) : Int) := by rw [wrap_i (by omega) (by omega)]; omega
  have w11 : IntKind.i64.wrap (((l + 1 : Nat) : Int) - (k : Int)) = ((l + 1 - k : Nat) : Int) := by rw [wrap_i (by omega) (by omega)]; omega
  simp only [w1, w2, w3, w4, w5, w6, w7, w8, w9, w10, w11]
  obtain ⟨H, e0, h0⟩ := new_at ((l + 1 : Nat) : Int) (by omega) (by omega)
  have hd := ptr_ok h0
  obtain ⟨H1, e1, h1⟩ := create_at h0 0
  rw [on_create (by decide) (by decide) rfl] at e1 h1
  simp only [List.nil_append] at e1 h1
  obtain ⟨H2, e2, h2⟩ := create_at h1 1
  rw [on_create (by decide) (by decide) rfl] at e2 h2
  simp only [List.cons_append, List.nil_append] at e2 h2
  have n01 : (0 : Int) ≠ 1 := by decide
  obtain ⟨H3, e3, h3⟩ := append_at h2 0 (List.replicate m 0) (by simp; omega) (by decide)
  rw [on_append (two_get0 n01 _ _) _ (by rw [two_used]; simp [Fl.all]; omega), two_upd0 n01] at e3 h3
  simp only [List.nil_append] at e3 h3
  obtain ⟨H4, e4, h4⟩ := append_at h3 1 (List.replicate (l + 1 - m) 0) (by simp; omega) (by decide)
  rw [on_append (two_get1 n01 _ _) _ (by rw [two_used, all1]; simp [Fl.all]; omega), two_upd1 n01] at e4 h4
  simp only [List.nil_append] at e4 h4
  obtain ⟨H5, e5, h5⟩ := append_at h4 0 [1] (by simp) (by decide)
  rw [on_append_full (two_get0 n01 _ _) _ (by rw [two_used, all1, all1]; simp; omega)] at e5 h5
  obtain ⟨H6, e6, h6⟩ := append_at h5 0 [] (by simp) (by decide)
  rw [on_append (two_get0 n01 _ _) _ (by rw [two_used, all1, all1]; simp; omega), two_upd0 n01] at e6 h6
  have f6 : (⟨[], [List.replicate m 0] ++ [[]]⟩ : Fl).all = List.replicate m 0 := by simp [Fl.all]
  have s6 := size_at h6 0
  rw [on_size (two_get0 n01 _ _), f6, List.length_replicate] at s6
  obtain ⟨H7, e7, h7⟩ := cut_at h6 0 (k : Int)
  rw [on_cut (two_get0 n01 _ _) k (by rw [f6]; simp; omega), two_upd0 n01, f6] at e7 h7
  have f7 : (⟨List.take k (List.replicate m (0 : Int)), []⟩ : Fl).all = List.replicate k 0 := by
    rw [all0, List.take_replicate, Nat.min_eq_left (by omega)]
  obtain ⟨H8, e8, h8⟩ := append_at h7 1 (List.replicate (m - k) 0) (by simp; omega) (by decide)
  rw [on_append (two_get1 n01 _ _) _ (by rw [two_used, f7, all1]; simp; omega), two_upd1 n01] at e8 h8
  have f8 : (⟨[], [List.replicate (l + 1 - m) (0 : Int)] ++ [List.replicate (m - k) 0]⟩ : Fl).all = List.replicate (l + 1 - k) 0 := by
    simp only [Fl.all, List.nil_append, List.cons_append, List.flatten_cons, List.flatten_nil, List.append_nil, List.replicate_append_replicate]
    congr 1; omega
  obtain ⟨H9, e9, h9⟩ := append_at h8 1 [1] (by simp) (by decide)
  rw [on_append_full (two_get1 n01 _ _) _ (by rw [two_used, f7, f8]; simp; omega)] at e9 h9
  obtain ⟨H10, e10, h10⟩ := remove_at h9 1
  rw [on_remove (two_get1 n01 _ _), show ∀ f g : Fl, List.filter (fun p : Int × Fl => !(p.1 == 1)) [(0, f), (1, g)] = [(0, f)] from fun f g => by simp] at e10 h10
  have s10 := size_at h10 1
  rw [show (On ((l + 1 : Nat) : Int) [(0, (⟨List.take k (List.replicate m (0 : Int)), []⟩ : Fl))] 0).size 1 = 0 from by simp [Dk.size, getL]] at s10
  obtain ⟨H11, e11, h11⟩ := append_at h10 0 (List.replicate (l + 1 - k) 0) (by simp; omega) (by decide)
  rw [on_append (one_get _ _) _ (by rw [one_used, f7]; simp; omega), one_upd] at e11 h11
  obtain ⟨H12, e12, h12⟩ := append_at h11 0 [1] (by simp) (by decide)
  rw [on_append_full (one_get _ _) _ (by rw [one_used]; simp [Fl.all]; omega)] at e12 h12
  obtain ⟨H13, e13, h13⟩ := append_at h12 1 [] (by simp) (by decide)
  rw [on_append_none (by simp [getL])] at e13 h13
  have c1 : ((l + 2 : Nat) : Int) ≠ 0 := by omega
  have c2 : ((m + 1 : Nat) : Int) ≠ 0 := by omega
  have c3 : (0 : Int) ≤ (m : Int) ∧ (m : Int) ≤ ((maxN : Nat) : Int) := by unfold maxN; omega
  have c4 : (0 : Int) ≤ ((l + 1 - m : Nat) : Int) ∧ ((l + 1 - m : Nat) : Int) ≤ ((maxN : Nat) : Int) := by unfold maxN; omega
  have c5 : (0 : Int) ≤ ((m - k : Nat) : Int) ∧ ((m - k : Nat) : Int) ≤ ((maxN : Nat) : Int) := by unfold maxN; omega
  have c6 : (0 : Int) ≤ ((l + 1 - k : Nat) : Int) ∧ ((l + 1 - k : Nat) : Int) ≤ ((maxN : Nat) : Int) := by unfold maxN; omega
  simp only [e0, Option.bind_some, hd, MV.isN, MV.isP, e1, e2, e3, e4, e5, e6, s6, e7, e8, e9, e10, s10, e11, e12, e13, c1, c2, c3, c4, c5, c6, bne_self_eq_false, beq_self_eq_true, Bool.false_eq_true, if_false, if_true, and_self, or_true, Int.toNat_natCast, ne_eq, not_false_eq_true, Bool.not_true, wakes_ok]
end Go.Dk
/- DiskLives. -/
namespace Go.Dk
open Go Go.Gw Go.Proofs.Sd.D
set_option linter.unusedSimpArgs false
set_option linter.unusedVariables false

def bs (i : Nat) : List Int := (List.range i).map fun j => ((j + 1 : Nat) : Int)
theorem bs_succ (i : Nat) : bs (i + 1) = bs i ++ [((i + 1 : Nat) : Int)] := by simp [bs, List.range_succ]
theorem bs_len (i : Nat) : (bs i).length = i := by simp [bs]
theorem bs_get (i j : Nat) (h : j < i) : (bs i).getD j 0 = ((j + 1 : Nat) : Int) := by
  simp [bs, List.getD_eq_getElem?_getD, List.getElem?_map, List.getElem?_range h]
theorem w8 {x : Int} (h1 : 0 ≤ x) (h2 : x < 256) : IntKind.u8.wrap x = x := by
  simp [IntKind.wrap, IntKind.bits, IntKind.signed]; omega

theorem DiskAt.re {c c' : Nat} {H : AH} {d : MV} {A : Dk} (h : DiskAt c H d A) (hc : c' ≤ 1000000) (hp : ∀ p ∈ A.fs, p.2.ps.length ≤ c') : DiskAt c' H d A := by
  obtain ⟨i, m, js, hi, L, a, h1, h2, h3, h4, h5⟩ := h
  exact ⟨i, m, js, hi, L, a, h1, h2, h3, h4, ⟨hc, h5.rg, hp, h5.us, h5.lim, h5.nd⟩⟩
theorem lives_l2 (n : Int) (tw : Bool) (x : Int) {c : Nat} {d : MV} {lim life : Int} {f : Fl} (hf : f.ps = []) : ∀ (j k : Nat) (H : AH), k + j = 4 → DiskAt c H d (On lim [(0, f)] life) →
    ∃ H', law14_DiskLives_l2 n tw d x (j + 1) H (k : Int) = some (.inl H') ∧ DiskAt c H' d (On lim [(0, f)] life) := by
  intro j
  induction j with
  | zero => intro k H hk h; exact ⟨H, by rw [law14_DiskLives_l2, if_neg (by simp; omega)], h⟩
  | succ j ih =>
    intro k H hk h
    obtain ⟨H1, e1, h1⟩ := sync_at h 0
    rw [on_sync (one_get _ _), one_upd, show f.settle = f by cases f; simp only at hf; subst hf; simp [Fl.settle, Fl.all]] at e1 h1
    obtain ⟨H2, e2, h2⟩ := ih (k + 1) H1 (by omega) h1
    refine ⟨H2, ?_, h2⟩
    have e : IntKind.i64.wrap ((k : Int) + 1) = ((k + 1 : Nat) : Int) := by rw [wrap_i (by omega) (by omega)]; omega
    rw [law14_DiskLives_l2, if_pos (by simp; omega), e1]
    refine (Option.bind_some _ _).trans ?_
    simp only [bne_self_eq_false, Bool.false_eq_true, if_false, e]
    exact e2
theorem lives_l0 (n : Int) (tw : Bool) (N : Nat) (hN : N < 15) (hn : IntKind.i64.wrap ((IntKind.u64.wrap n).tmod (15 : Int)) = (N : Int)) : ∀ (j i : Nat) (H : AH), i + j = N → DiskAt 0 H (.ptr 1 0) (On 1000 [(0, ⟨bs i, []⟩)] (i : Int)) →
    ∃ H', law14_DiskLives_l0 n tw (.ptr 1 0) (j + 1) H (i : Int) = some (.inl H') ∧ DiskAt 0 H' (.ptr 1 0) (On 1000 [(0, ⟨bs N, []⟩)] (N : Int)) := by
  intro j
  induction j with
  | zero =>
    intro i H hi h
    obtain rfl : i = N := by omega
    exact ⟨H, by rw [law14_DiskLives_l0, hn, if_neg (by simp)], h⟩
  | succ j ih =>
    intro i H hi h
    obtain ⟨H1, e1, h1⟩ := trip_at h 3 [] (-1) 0 (by decide)
    obtain ⟨H2, e2, h2⟩ := append_at h1 0 [((i + 1 : Nat) : Int)] (by simp) (by omega)
    have va : (Dk.trip (On 1000 [(0, ⟨bs i, []⟩)] (i : Int)) 3 [] (-1) 0).append 0 [((i + 1 : Nat) : Int)] = (0, ⟨1000, [(0, ⟨bs i, [[((i + 1 : Nat) : Int)]]⟩)], false, (i : Int), some (2, [], -1, 0)⟩) := by
      unfold Dk.append Dk.trip
      simp only [one_get, one_used, one_upd, all0, bs_len, List.length_cons, List.length_nil, Bool.false_eq_true, if_false]
      rw [if_neg (by omega)]
      rfl
    rw [va] at e2 h2
    obtain ⟨H3, e3, h3⟩ := crash_at h2 [true] (-1) 0
    have vc : Dk.crash ⟨1000, [(0, ⟨bs i, [[((i + 1 : Nat) : Int)]]⟩)], false, (i : Int), some (2, [], -1, 0)⟩ [true] (-1) 0 = ⟨1000, [(0, ⟨bs (i + 1), []⟩)], true, ((i + 1 : Nat) : Int), none⟩ := by
      unfold Dk.crash
      simp only [Bool.false_eq_true, if_false]
      rw [one_crash, wrap_i (by omega) (by omega)]
      simp only [Fl.crash, tears, tear, bs_succ, List.flatten_cons, List.flatten_nil, List.append_nil]
      rw [if_neg (by decide), if_pos (by decide)]
      rfl
    rw [vc] at h3
    obtain ⟨H4, e4, h4⟩ := crash_at h3 [] 0 0
    rw [show Dk.crash ⟨1000, [(0, ⟨bs (i + 1), []⟩)], true, ((i + 1 : Nat) : Int), none⟩ [] 0 0 = ⟨1000, [(0, ⟨bs (i + 1), []⟩)], true, ((i + 1 : Nat) : Int), none⟩ by simp [Dk.crash]] at h4
    have mid : ∃ H5, (if tw = true then (disk_Disk_Crash H3 (.ptr 1 0) [] (0 : Int) (0 : Int)).bind (fun H33 => some H33) else some H3) = some H5 ∧ DiskAt 1 H5 (.ptr 1 0) ⟨1000, [(0, ⟨bs (i + 1), []⟩)], true, ((i + 1 : Nat) : Int), none⟩ := by
      cases tw
      · exact ⟨H3, rfl, h3⟩
      · exact ⟨H4, by rw [e4]; rfl, h4⟩
    obtain ⟨H5, e5, h5⟩ := mid
    have l5 := life_at h5
    have o5 := off_at h5
    obtain ⟨H6, e6, h6⟩ := append_at h5 0 [] (by simp) (by omega)
    rw [show Dk.append ⟨1000, [(0, ⟨bs (i + 1), []⟩)], true, ((i + 1 : Nat) : Int), none⟩ 0 [] = (8, ⟨1000, [(0, ⟨bs (i + 1), []⟩)], true, ((i + 1 : Nat) : Int), none⟩) by simp [Dk.append]] at e6 h6
    obtain ⟨H7, e7, h7⟩ := start_at h6
    obtain ⟨H8, e8, h8⟩ := start_at h7
    have h8' : DiskAt 0 H8 (.ptr 1 0) (On 1000 [(0, ⟨bs (i + 1), []⟩)] ((i + 1 : Nat) : Int)) := h8.re (by omega) (by simp [Dk.start])
    obtain ⟨H9, e9, h9⟩ := lives_l2 n tw (i : Int) rfl 4 0 H8 (by omega) h8'
    obtain ⟨H10, e10, h10⟩ := ih (i + 1) H9 (by omega) h9
    refine ⟨H10, ?_, h10⟩
    have w1 : IntKind.u8.wrap (IntKind.i64.wrap (1 + (i : Int))) = ((i + 1 : Nat) : Int) := by rw [wrap_i (by omega) (by omega), w8 (by omega) (by omega)]; omega
    have w2 : IntKind.i64.wrap ((i : Int) + 1) = ((i + 1 : Nat) : Int) := by rw [wrap_i (by omega) (by omega)]; omega
    have b1 : AH.isBools (([] : AH) ++ [MO.row 4 1 [MV.bool true]]) (MV.slc (List.length ([] : AH)) 1 0 1) = true := rfl
    have b2 : AH.bools (([] : AH) ++ [MO.row 4 1 [MV.bool true]]) (MV.slc (List.length ([] : AH)) 1 0 1) = [true] := rfl
    have e9 : law14_DiskLives_l2 n tw (.ptr 1 0) (i : Int) (((4 : Int) - (0 : Int)).toNat + 1) H8 (0 : Int) = some (.inl H9) := e9
    have c1 : decide ((i : Int) < (N : Int)) = true := by simp; omega
    rw [law14_DiskLives_l0]
    simp only [hn, w1, w2, b1, b2, c1, e1, e2, e3, e5, l5, o5, e6, e7, e8, e9, e10, Option.bind_some, bne_self_eq_false, beq_self_eq_true, Bool.false_eq_true, if_false, if_true, Bool.not_true]
theorem lives_l3 (n : Int) (N : Nat) (hN : N < 15) (hn : IntKind.i64.wrap ((IntKind.u64.wrap n).tmod (15 : Int)) = (N : Int)) : ∀ (j i : Nat), i + j = N → law14_DiskLives_l3 n (bs N) (j + 1) (i : Int) = some (.inl ()) := by
  intro j
  induction j with
  | zero => intro i hi; rw [law14_DiskLives_l3, hn, if_neg (by simp; omega)]
  | succ j ih =>
    intro i hi
    have w1 : IntKind.u8.wrap (IntKind.i64.wrap (1 + (i : Int))) = ((i + 1 : Nat) : Int) := by rw [wrap_i (by omega) (by omega), w8 (by omega) (by omega)]; omega
    have w2 : IntKind.i64.wrap ((i : Int) + 1) = ((i + 1 : Nat) : Int) := by rw [wrap_i (by omega) (by omega)]; omega
    rw [law14_DiskLives_l3, hn, if_pos (by simp; omega), if_pos ⟨by omega, by rw [bs_len]; omega⟩, w1, w2, Int.toNat_natCast, bs_get _ _ (by omega), if_neg (by simp)]
    exact ih (i + 1) (by omega)
theorem DiskLives (n : Int) (tw : Bool) (_w0 : (Lit.int .i64 n).wf = true) : law14_DiskLives n tw = some true := by
  unfold law14_DiskLives
  obtain ⟨N, hN, hn⟩ := modN n 15 (by omega) (by omega)
  rw [show ((15 : Nat) : Int) = 15 from rfl] at hn
  obtain ⟨H, e0, h0⟩ := new_at 1000 (by decide) (by decide)
  have hd := ptr_ok h0
  have l0 := life_at h0
  obtain ⟨H1, e1, h1⟩ := create_at h0 0
  rw [on_create (by decide) (by decide) rfl] at e1 h1
  simp only [List.nil_append] at e1 h1
  obtain ⟨H2, e2, h2⟩ := lives_l0 n tw N hN hn N 0 H1 (by omega) h1
  have r2 := read_ok h2 0
  rw [on_read (one_get _ _), all0] at r2
  have e3 := lives_l3 n N hN hn N 0 (by omega)
  rw [show ((0 : Nat) : Int) = 0 from rfl] at e2 e3
  have c1 : ((N : Int) - 0).toNat + 1 = N + 1 := by omega
  simp only [hn, e0, hd, l0, Option.bind_some, MV.isN, MV.isP, e1, c1, e2, r2, e3, bs_len, bne_self_eq_false, beq_self_eq_true, Bool.false_eq_true, if_false, if_true, and_self, or_true, Bool.not_true, wakes_ok]
end Go.Dk
/- DiskTrips. -/
namespace Go.Dk
open Go Go.Gw Go.Proofs.Sd.D
set_option linter.unusedSimpArgs false
set_option linter.unusedVariables false

section
variable {A : Dk} {n : Int}
theorem up_create_twice (ho : A.off = false) (h0 : 0 ≤ n) (h1 : n < 64) {f : Fl} (hn : getL A.fs n = some f) : A.create n = (11, A) := by
  unfold Dk.create
  rw [if_neg (by simp [ho]), if_neg (by omega), if_neg (by omega)]
  simp only [hn, Option.isSome_some, if_true]
theorem up_sync_none (ho : A.off = false) (hn : getL A.fs n = none) : A.sync n = (10, A) := by
  unfold Dk.sync
  rw [if_neg (by simp [ho])]
  simp only [hn]
theorem up_cut_arg (ho : A.off = false) {f : Fl} (hn : getL A.fs n = some f) (m : Int) (hm : ¬ (0 ≤ m ∧ m ≤ (f.all.length : Int))) : A.cut n m = (1, A) := by
  unfold Dk.cut
  rw [if_neg (by simp [ho])]
  simp only [hn]
  by_cases h0 : m < 0
  · rw [if_pos h0]
  · rw [if_neg h0, if_pos (by omega)]
theorem up_remove_none (ho : A.off = false) (hn : getL A.fs n = none) : A.remove n = (10, A) := by
  unfold Dk.remove
  rw [if_neg (by simp [ho])]
  simp only [hn]
theorem up_append_none (ho : A.off = false) (hn : getL A.fs n = none) (b : List Int) : A.append n b = (10, A) := by
  unfold Dk.append
  rw [if_neg (by simp [ho])]
  simp only [hn]
theorem up_append (ho : A.off = false) {f : Fl} (hn : getL A.fs n = some f) (b : List Int) (hb : (b.length : Int) ≤ A.lim - usedF A.fs) : A.append n b = Dk.spend { A with fs := updL A.fs n ⟨f.s, f.ps ++ [b]⟩ } := by
  unfold Dk.append
  rw [if_neg (by simp [ho])]
  simp only [hn]
  rw [if_neg (by omega)]
end

theorem putL_fill (i m : Nat) (x y : MV) (h : i < m) : putL (List.replicate i x ++ List.replicate (m - i) y) i [x] = List.replicate (i + 1) x ++ List.replicate (m - (i + 1)) y := by
  simp only [putL, List.length_cons, List.length_nil]
  rw [List.take_left' (by simp)]
  rw [show List.drop (i + (0 + 1)) (List.replicate i x ++ List.replicate (m - i) y) = List.replicate (m - (i + 1)) y by
    rw [List.drop_append]
    simp [List.drop_replicate]
    omega]
  rw [List.replicate_succ', List.append_assoc]
theorem trips_l0 (n : Int) (K : Bool) (d : MV) (H0 : AH) : ∀ (j i : Nat), i + j = 40 →
    law14_DiskTrips_l0 n K d H0 (j + 1) [MO.row 4 1 (List.replicate i (.bool K) ++ List.replicate (40 - i) (.bool false))] (i : Int) = some [MO.row 4 1 (List.replicate 40 (.bool K))] := by
  intro j
  induction j with
  | zero =>
    intro i hi
    obtain rfl : i = 40 := by omega
    rw [law14_DiskTrips_l0]
    have h : AH.at [MO.row 4 1 (List.replicate 40 (.bool K) ++ List.replicate (40 - 40) (.bool false))] 0 = .row 4 1 (List.replicate 40 (.bool K) ++ List.replicate (40 - 40) (.bool false)) := rfl
    simp only [List.length_nil]
    rw [if_pos (show AH.isRow _ 1 (.slc 0 1 0 40) = true from isRow_of h 0 40 (by simp)), if_neg (by simp [len_slc])]
    simp
  | succ j ih =>
    intro i hi
    rw [law14_DiskTrips_l0]
    have h : AH.at [MO.row 4 1 (List.replicate i (.bool K) ++ List.replicate (40 - i) (.bool false))] 0 = .row 4 1 (List.replicate i (.bool K) ++ List.replicate (40 - i) (.bool false)) := rfl
    have hr : AH.isRow [MO.row 4 1 (List.replicate i (.bool K) ++ List.replicate (40 - i) (.bool false))] 1 (.slc 0 1 0 40) = true := isRow_of h 0 40 (by simp; omega)
    have ho : AH.ok [MO.row 4 1 (List.replicate i (.bool K) ++ List.replicate (40 - i) (.bool false))] (.slc 0 1 0 40) (i * 1 + 0) 1 = true := by
      rw [okS h 0 40 _ _ (by simp; omega)]
      exact Nat.ble_eq_true_of_le (by simp; omega)
    have hw : AH.wr [MO.row 4 1 (List.replicate i (.bool K) ++ List.replicate (40 - i) (.bool false))] (.slc 0 1 0 40) (i * 1 + 0) [.bool K] = [MO.row 4 1 (List.replicate (i + 1) (.bool K) ++ List.replicate (40 - (i + 1)) (.bool false))] := by
      rw [wrS h, Nat.zero_mul, Nat.zero_add, Nat.mul_one, Nat.add_zero, putL_fill i 40 _ _ (by omega)]; rfl
    have w2 : IntKind.i64.wrap ((i : Int) + 1) = ((i + 1 : Nat) : Int) := by rw [wrap_i (by omega) (by omega)]; omega
    have c1 : (0 : Int) ≤ (i : Int) ∧ (i : Int) < ((40 : Nat) : Int) := by omega
    have c2 : decide ((i : Int) < ((40 : Nat) : Int)) = true := by simp; omega
    simp only [List.length_nil, hr, len_slc, c1, c2, Int.toNat_natCast, ho, hw, w2, and_self, if_true]
    exact ih (i + 1) (by omega)
theorem tears_all (K : Bool) : ∀ (m k : Nat), k + m ≤ 40 → tears (List.replicate 40 K) (-1) 0 k (List.replicate m [9]) = List.replicate m [if K = true then 9 else 0] := by
  intro m
  induction m with
  | zero => intro k _; rfl
  | succ m ih =>
    intro k hk
    show tear (List.replicate 40 K) (-1) 0 k [9] :: tears (List.replicate 40 K) (-1) 0 (k + 1) (List.replicate m [9]) = [if K = true then 9 else 0] :: List.replicate m [if K = true then 9 else 0]
    rw [ih (k + 1) (by omega)]
    congr 1
    unfold tear
    rw [if_neg (by omega)]
    have hg : (List.replicate 40 K).getD k false = K := by
      rw [List.getD_eq_getElem?_getD, List.getElem?_replicate, if_pos (by omega)]; rfl
    rw [hg]
    cases K <;> rfl
/-- Armed, with some bytes put. -/
def T (K : Bool) (N i : Nat) : Dk := ⟨131072, [(0, ⟨[], List.replicate i [9]⟩)], false, 0, some (((N - i : Nat) : Int), List.replicate 40 K, -1, 0)⟩
theorem flat_rep (m : Nat) (x : Int) : (List.replicate m [x]).flatten = List.replicate m x := by
  induction m with
  | zero => rfl
  | succ m ih => rw [List.replicate_succ, List.flatten_cons, ih, List.replicate_succ]; rfl
theorem trips_l1 (n : Int) (K : Bool) (N : Nat) (h0 : 0 < N) (hN : N ≤ 20) (hn : IntKind.i64.wrap (1 + IntKind.i64.wrap ((IntKind.u64.wrap n).tmod (20 : Int))) = (N : Int)) : ∀ (j i fu : Nat) (H : AH), i + j = N → 0 < j → j + 1 ≤ fu → DiskAt (2 * i) H (.ptr 1 0) (T K N i) →
    ∃ H', law14_DiskTrips_l1 n K (.ptr 1 0) fu H ((i + 1 : Nat) : Int) = some (.inl H') ∧ DiskAt 0 H' (.ptr 1 0) ⟨131072, [(0, ⟨List.replicate N (if K = true then 9 else 0), []⟩)], true, 1, none⟩ := by
  intro j
  induction j with
  | zero => intro i fu H _ hj; omega
  | succ j ih =>
    intro i fu H hi _ hfu h
    obtain ⟨fu, rfl⟩ : ∃ f', fu = f' + 1 := ⟨fu - 1, by omega⟩
    obtain ⟨H1, e1, h1⟩ := create_at h 0
    rw [up_create_twice rfl (by decide) (by decide) (one_get _ _)] at e1 h1
    obtain ⟨H2, e2, h2⟩ := sync_at h1 5
    rw [up_sync_none rfl rfl] at e2 h2
    obtain ⟨H3, e3, h3⟩ := cut_at h2 0 (-1)
    rw [up_cut_arg rfl (one_get _ _) _ (by omega)] at e3 h3
    obtain ⟨H4, e4, h4⟩ := remove_at h3 5
    rw [up_remove_none rfl rfl] at e4 h4
    obtain ⟨H5, e5, h5⟩ := append_at h4 5 [] (by simp) (by omega)
    rw [up_append_none rfl rfl] at e5 h5
    obtain ⟨H6, e6, h6⟩ := append_at h5 0 [9] (by simp) (by omega)
    have hfl : (⟨[], List.replicate i [9]⟩ : Fl).all.length = i := by simp [Fl.all]
    rw [up_append rfl (one_get _ _) _ (by simp only [T, one_used, hfl, List.length_cons, List.length_nil]; omega)] at e6 h6
    have w2 : IntKind.i64.wrap (((i + 1 : Nat) : Int) + 1) = ((i + 1 + 1 : Nat) : Int) := by rw [wrap_i (by omega) (by omega)]; omega
    have w3 : IntKind.i64.wrap (((N - i : Nat) : Int) - 1) = ((N - (i + 1) : Nat) : Int) := by rw [wrap_i (by omega) (by omega)]; omega
    have c1 : decide (((i + 1 : Nat) : Int) ≤ (N : Int)) = true := by simp; omega
    have hsp : Dk.spend { T K N i with fs := updL (T K N i).fs 0 ⟨[], List.replicate i [9] ++ [[9]]⟩ } = if ((N - (i + 1) : Nat) : Int) > 0 then (0, T K N (i + 1)) else (8, ⟨131072, [(0, ⟨List.replicate N (if K = true then 9 else 0), []⟩)], true, 1, none⟩) := by
      rw [show updL (T K N i).fs 0 ⟨[], List.replicate i [9] ++ [[9]]⟩ = [(0, ⟨[], List.replicate (i + 1) [9]⟩)] by rw [List.replicate_succ']; exact one_upd _ _ _]
      unfold Dk.spend
      simp only [T, w3]
      split
      · rfl
      · unfold Dk.crash
        simp only [Bool.false_eq_true, if_false, one_crash, Fl.crash, List.nil_append]
        rw [tears_all K (i + 1) 0 (by omega), show i + 1 = N by omega, flat_rep]
        rfl
    rw [hsp] at e6 h6
    by_cases hl : j = 0
    · have hz : ¬ ((N - (i + 1) : Nat) : Int) > 0 := by omega
      rw [if_neg hz] at e6 h6
      have hb : (((i + 1 : Nat) : Int) == (N : Int)) = true := by simp; omega
      obtain ⟨fu, rfl⟩ : ∃ f', fu = f' + 1 := ⟨fu - 1, by omega⟩
      refine ⟨H6, ?_, h6.re (by omega) (by simp)⟩
      have hend : law14_DiskTrips_l1 n K (.ptr 1 0) (fu + 1) H6 ((i + 1 + 1 : Nat) : Int) = some (.inl H6) := by rw [law14_DiskTrips_l1, hn, if_neg (by simp; omega)]
      rw [law14_DiskTrips_l1]
      simp only [hn, c1, e1, e2, e3, e4, e5, e6, hb, w2, hend, Option.bind_some, bne_self_eq_false, beq_self_eq_true, Bool.false_eq_true, if_false, if_true, Bool.not_true, show ((8 : Int) != 0) = true from rfl]
    · have hz : ((N - (i + 1) : Nat) : Int) > 0 := by omega
      rw [if_pos hz] at e6 h6
      have hb : (((i + 1 : Nat) : Int) == (N : Int)) = false := by simp; omega
      obtain ⟨H7, e7, h7⟩ := ih (i + 1) fu H6 (by omega) (by omega) (by omega) (by
        have : 2 * i + 1 + 1 = 2 * (i + 1) := by omega
        rw [← this]; exact h6)
      refine ⟨H7, ?_, h7⟩
      rw [law14_DiskTrips_l1]
      simp only [hn, c1, e1, e2, e3, e4, e5, e6, hb, w2, e7, Option.bind_some, bne_self_eq_false, beq_self_eq_true, Bool.false_eq_true, if_false, if_true, Bool.not_true, show ((0 : Int) == 8) = false from rfl]
theorem trips_l2 (n : Int) (K : Bool) (d : MV) (H : AH) (N : Nat) (hN : N ≤ 20) (hn : IntKind.i64.wrap (1 + IntKind.i64.wrap ((IntKind.u64.wrap n).tmod (20 : Int))) = (N : Int)) : ∀ (j i : Nat), i + j = N →
    law14_DiskTrips_l2 n K d H (List.replicate N (if K = true then 9 else 0)) (j + 1) (i : Int) = some (.inl ()) := by
  intro j
  induction j with
  | zero => intro i hi; rw [law14_DiskTrips_l2, hn, if_neg (by simp; omega)]
  | succ j ih =>
    intro i hi
    have w2 : IntKind.i64.wrap ((i : Int) + 1) = ((i + 1 : Nat) : Int) := by rw [wrap_i (by omega) (by omega)]; omega
    have hg : (List.replicate N (if K = true then (9 : Int) else 0)).getD i 0 = if K = true then 9 else 0 := by
      rw [List.getD_eq_getElem?_getD, List.getElem?_replicate, if_pos (by omega)]; rfl
    have := ih (i + 1) (by omega)
    rw [law14_DiskTrips_l2, hn, if_pos (by simp; omega), if_pos ⟨by omega, by simp; omega⟩]
    simp only [Int.toNat_natCast, hg, w2, this]
    cases K <;> rfl
theorem DiskTrips (n : Int) (K : Bool) (_w0 : (Lit.int .i64 n).wf = true) : law14_DiskTrips n K = some true := by
  unfold law14_DiskTrips
  obtain ⟨N0, hN0, hn0⟩ := modN n 20 (by omega) (by omega)
  rw [show ((20 : Nat) : Int) = 20 from rfl] at hn0
  have hn : IntKind.i64.wrap (1 + IntKind.i64.wrap ((IntKind.u64.wrap n).tmod (20 : Int))) = ((N0 + 1 : Nat) : Int) := by
    rw [hn0, wrap_i (by omega) (by omega)]; omega
  obtain ⟨H, e0, h0⟩ := new_at 131072 (by decide) (by decide)
  have hd := ptr_ok h0
  obtain ⟨H1, e1, h1⟩ := create_at h0 0
  rw [on_create (by decide) (by decide) rfl] at e1 h1
  simp only [List.nil_append] at e1 h1
  have e2 : law14_DiskTrips_l0 n K (.ptr 1 0) H1 41 (([] : AH) ++ [MO.row 4 1 (List.replicate 40 (MV.bool false))]) (0 : Int) = some [MO.row 4 1 (List.replicate 40 (.bool K))] := trips_l0 n K (.ptr 1 0) H1 40 0 (by omega)
  have hrow : rowAt [MO.row 4 1 (List.replicate 40 (.bool K))] 4 1 (some 0) ((List.replicate 40 K).map .bool) := by rw [List.map_replicate]; rfl
  obtain ⟨b1, b2⟩ := row_bools hrow
  have b1 : AH.bools [MO.row 4 1 (List.replicate 40 (.bool K))] (.slc (List.length ([] : AH)) 1 0 40) = List.replicate 40 K := b1
  have b2 : AH.isBools [MO.row 4 1 (List.replicate 40 (.bool K))] (.slc (List.length ([] : AH)) 1 0 40) = true := b2
  obtain ⟨H3, e3, h3⟩ := trip_at h1 ((N0 + 1 : Nat) : Int) (List.replicate 40 K) (-1) 0 (by rw [List.length_replicate]; unfold maxR; omega)
  have h3' : DiskAt (2 * 0) H3 (.ptr 1 0) (T K (N0 + 1) 0) := by
    have : Dk.trip (On 131072 [(0, ⟨[], []⟩)] 0) ((N0 + 1 : Nat) : Int) (List.replicate 40 K) (-1) 0 = T K (N0 + 1) 0 := by
      unfold Dk.trip T
      rw [if_pos (by omega)]
      rfl
    rw [this] at h3
    exact h3
  obtain ⟨H4, e4, h4⟩ := trips_l1 n K (N0 + 1) (by omega) (by omega) hn (N0 + 1) 0 22 H3 (by omega) (by omega) (by omega) h3'
  have o4 := off_at h4
  have l4 := life_at h4
  obtain ⟨H5, e5, h5⟩ := sync_at h4 0
  rw [show Dk.sync ⟨131072, [(0, ⟨List.replicate (N0 + 1) (if K = true then 9 else 0), []⟩)], true, 1, none⟩ 0 = (8, ⟨131072, [(0, ⟨List.replicate (N0 + 1) (if K = true then 9 else 0), []⟩)], true, 1, none⟩) from rfl] at e5 h5
  obtain ⟨H6, e6, h6⟩ := start_at h5
  have h6 : DiskAt 0 H6 (.ptr 1 0) (On 131072 [(0, ⟨List.replicate (N0 + 1) (if K = true then 9 else 0), []⟩)] 1) := h6
  have r6 := read_ok h6 0
  rw [on_read (one_get _ _), all0] at r6
  have e7 := trips_l2 n K (.ptr 1 0) H6 (N0 + 1) (by omega) hn (N0 + 1) 0 (by omega)
  obtain ⟨H8, e8, h8⟩ := sync_at h6 0
  rw [on_sync (one_get _ _)] at e8
  rw [show ((0 : Nat) : Int) = 0 from rfl] at e7
  rw [show ((0 + 1 : Nat) : Int) = 1 from rfl] at e4
  have c1 : (((N0 + 1 : Nat) : Int) - 0).toNat + 1 = N0 + 1 + 1 := by omega
  simp only [hn, e0, hd, Option.bind_some, MV.isN, MV.isP, e1, e2, b1, b2, e3, e4, o4, l4, e5, e6, r6, c1, e7, e8, List.length_replicate, bne_self_eq_false, beq_self_eq_true, Bool.false_eq_true, if_false, if_true, and_self, or_true, Bool.not_true, wakes_ok]
end Go.Dk
