/- DiskFiles. -/
import Derived.Test.YtdbheiibkpendaaMDkL
namespace Go.Dk
open Go Go.Gw Go.Proofs.Sd.D
set_option linter.unusedSimpArgs false
set_option linter.unusedVariables false

theorem getL_isSome {fs : List (Int × Fl)} {n : Int} : (getL fs n).isSome = true ↔ n ∈ fs.map (·.1) := by
  constructor
  · intro h
    obtain ⟨f, hf⟩ := Option.isSome_iff_exists.1 h
    exact List.mem_map.2 ⟨_, getL_some hf, rfl⟩
  · intro h
    cases hg : getL fs n with
    | none => exact absurd h (getL_none hg)
    | some f => rfl
/-- The numbers, rising: all numbers that there are, asked one by one. -/
theorem keysS_eq {fs : List (Int × Fl)} (hn : (fs.map (·.1)).Nodup) (hr : ∀ n ∈ fs.map (·.1), 0 ≤ n ∧ n < 64) : keysS fs = ((List.range 64).map fun n => ((n : Nat) : Int)).filter fun n => (getL fs n).isSome := by
  have hp := List.mergeSort_perm (fs.map (·.1)) fun x y : Int => decide (x ≤ y)
  have hlt : (((List.range 64).map fun n => ((n : Nat) : Int)).filter fun n => (getL fs n).isSome).Pairwise (· < ·) := by
    refine List.Pairwise.filter _ ?_
    rw [List.pairwise_map]
    exact List.pairwise_lt_range.imp fun h => by omega
  refine List.Perm.eq_of_pairwise (le := fun x y => x ≤ y) (fun a b _ _ h1 h2 => by omega) ?_ (hlt.imp fun h => by omega) ?_
  · have := List.pairwise_mergeSort (le := fun x y : Int => decide (x ≤ y)) (fun a b c h1 h2 => by simp at *; omega) (fun a b => by simp; omega) (fs.map (·.1))
    exact this.imp fun h => by simpa using h
  · refine (List.perm_ext_iff_of_nodup (hp.nodup_iff.2 hn) (hlt.imp fun h => by omega)).2 fun a => ?_
    have hk := keysS_mem fs a
    unfold keysS at hk
    rw [hk, List.mem_filter, getL_isSome]
    refine ⟨fun h => ⟨?_, h⟩, fun h => h.2⟩
    have := hr a h
    exact List.mem_map.2 ⟨a.toNat, by rw [List.mem_range]; omega, by omega⟩
theorem getL_app (fs : List (Int × Fl)) (n m : Int) (f : Fl) : (getL (fs ++ [(n, f)]) m).isSome = ((getL fs m).isSome || (n == m)) := by
  rw [Bool.eq_iff_iff, getL_isSome, Bool.or_eq_true, getL_isSome, List.map_append, List.mem_append, beq_iff_eq]
  refine or_congr Iff.rfl ?_
  simp only [List.map_cons, List.map_nil, List.mem_singleton]
  exact eq_comm
theorem getL_del (fs : List (Int × Fl)) (n m : Int) : (getL (fs.filter fun p => !(p.1 == n)) m).isSome = ((getL fs m).isSome && !(m == n)) := by
  rw [Bool.eq_iff_iff, getL_isSome, Bool.and_eq_true, getL_isSome]
  constructor
  · intro h
    obtain ⟨p, hp, rfl⟩ := List.mem_map.1 h
    rw [List.mem_filter] at hp
    exact ⟨List.mem_map.2 ⟨p, hp.1, rfl⟩, hp.2⟩
  · rintro ⟨h, h2⟩
    obtain ⟨p, hp, rfl⟩ := List.mem_map.1 h
    exact List.mem_map.2 ⟨p, List.mem_filter.2 ⟨hp, h2⟩, rfl⟩

theorem putL_set' {l : List MV} {i : Nat} (h : i < l.length) (v : MV) : putL l i [v] = l.set i v := by
  rw [List.set_eq_take_append_cons_drop, if_pos h]; rfl
def HV (hv : List Bool) : AH := [MO.cells 42 (hv.map .bool)]
theorem HV_ok {hv : List Bool} (hl : hv.length = 64) (k : Nat) (hk : k < 64) : AH.ok (HV hv) (.ptr 0 0) (k * 1 + 0) 1 = true := by
  rw [okC (show AH.at (HV hv) 0 = _ from rfl)]; exact Nat.ble_eq_true_of_le (by simp; omega)
theorem HV_rd {hv : List Bool} (hl : hv.length = 64) (k : Nat) (hk : k < 64) : AH.rd (HV hv) (.ptr 0 0) (k * 1 + 0) = .bool (hv.getD k false) := by
  rw [rdC (show AH.at (HV hv) 0 = _ from rfl), Nat.mul_one, Nat.add_zero, List.getD_eq_getElem?_getD, List.getD_eq_getElem?_getD, List.getElem?_map, List.getElem?_eq_getElem (by omega)]; rfl
theorem HV_wr {hv : List Bool} (hl : hv.length = 64) (k : Nat) (hk : k < 64) (b : Bool) : AH.wr (HV hv) (.ptr 0 0) (k * 1 + 0) [.bool b] = HV (hv.set k b) := by
  rw [wrC (show AH.at (HV hv) 0 = _ from rfl), Nat.mul_one, Nat.add_zero, putL_set' (by simp; omega)]
  simp [HV, List.map_set]
structure FInv (hv : List Bool) (fs : List (Int × Fl)) : Prop where
  len : hv.length = 64
  h : ∀ n : Int, (getL fs n).isSome = (decide (0 ≤ n ∧ n < 64) && hv.getD n.toNat false)
theorem getD_set (l : List Bool) (k j : Nat) (b : Bool) (h : k < l.length) : (l.set k b).getD j false = if j = k then b else l.getD j false := by
  rw [List.getD_eq_getElem?_getD, List.getD_eq_getElem?_getD, List.getElem?_set]
  by_cases hj : k = j
  · subst hj; simp [h]
  · rw [if_neg hj, if_neg (Ne.symm hj)]
theorem FInv.put {hv : List Bool} {fs : List (Int × Fl)} (h : FInv hv fs) {n : Int} (h0 : 0 ≤ n) (h1 : n < 64) (f : Fl) : FInv (hv.set n.toNat true) (fs ++ [(n, f)]) := by
  refine ⟨by simp [h.len], fun m => ?_⟩
  rw [getL_app, h.h, getD_set _ _ _ _ (by rw [h.len]; omega)]
  by_cases hm : n = m
  · subst hm; simp [h0, h1]
  · have hb : (n == m) = false := by simpa using hm
    rw [hb, Bool.or_false]
    by_cases hr : 0 ≤ m ∧ m < 64
    · rw [if_neg (by omega)]
    · rw [decide_eq_false hr]; rfl
theorem FInv.del {hv : List Bool} {fs : List (Int × Fl)} (h : FInv hv fs) {n : Int} (h0 : 0 ≤ n) (h1 : n < 64) : FInv (hv.set n.toNat false) (fs.filter fun p => !(p.1 == n)) := by
  refine ⟨by simp [h.len], fun m => ?_⟩
  rw [getL_del, h.h, getD_set _ _ _ _ (by rw [h.len]; omega)]
  by_cases hm : m = n
  · subst hm; simp
  · have hb : (m == n) = false := by simpa using hm
    rw [hb, Bool.not_false, Bool.and_true]
    by_cases hr : 0 ≤ m ∧ m < 64
    · rw [if_neg (by omega)]
    · rw [decide_eq_false hr]; rfl
theorem files_l0 (l : List Int) (gone : List Bool) (hl : l.length ≤ 80) : ∀ (j i : Nat) (H : AH) (hv : List Bool) (fs : List (Int × Fl)), i + j = l.length → FInv hv fs → DiskAt 0 H (.ptr 1 0) (On 10 fs 0) →
    ∃ hv' H' fs', law14_DiskFiles_l0 l gone (.ptr 1 0) (j + 1) (HV hv) H (i : Int) = some (.inl (HV hv', H')) ∧ FInv hv' fs' ∧ DiskAt 0 H' (.ptr 1 0) (On 10 fs' 0) := by
  intro j
  induction j with
  | zero =>
    intro i H hv fs hi hf h
    exact ⟨hv, H, fs, by rw [law14_DiskFiles_l0, if_neg (by simp; omega)], hf, h⟩
  | succ j ih =>
    intro i H hv fs hi hf h
    have w2 : IntKind.i64.wrap ((i : Int) + 1) = ((i + 1 : Nat) : Int) := by rw [wrap_i (by omega) (by omega)]; omega
    have c1 : decide ((i : Int) < (l.length : Int)) = true := by simp; omega
    have c2 : (0 : Int) ≤ (i : Int) ∧ (i : Int) < (l.length : Int) := by omega
    have hl64 := hf.len
    obtain ⟨Hc, ec, hc⟩ := create_at h (l.getD i 0)
    obtain ⟨Hr, er, hr⟩ := remove_at h (l.getD i 0)
    have ok0 : AH.ok (HV hv) (.ptr 0 0) 0 1 = true := HV_ok hl64 0 (by omega)
    generalize hn : l.getD i 0 = n at *
    have hfn := hf.h n
    have hh := fun hv' H' fs' (g : FInv hv' fs') (g2 : DiskAt 0 H' (.ptr 1 0) (On 10 fs' 0)) => ih (i + 1) H' hv' fs' (by omega) g g2
    have c3 : ∀ b : Bool, gone.getD i false = b → b = true → decide ((i : Int) < (gone.length : Int)) = true ∧ (0 : Int) ≤ (i : Int) ∧ (i : Int) < (gone.length : Int) := fun b hb hb' => by
      have : i < gone.length := by
        rcases Nat.lt_or_ge i gone.length with h | h
        · exact h
        · rw [List.getD_eq_getElem?_getD, List.getElem?_eq_none h] at hb; subst hb; cases hb'
      exact ⟨by simp; omega, by omega, by omega⟩
    rw [law14_DiskFiles_l0, if_pos c1, if_pos c2]
    simp only [Int.toNat_natCast, hn, w2]
    by_cases h0 : 0 ≤ n
    · have d0 : decide (n ≥ 0) = true := by simpa using h0
      by_cases h1 : n < 64
      · -- a number that may be
        have d1 : decide (n < 64) = true := by simpa using h1
        have c4 : (0 : Int) ≤ n ∧ n < ((64 : Nat) : Int) := by omega
        have okn := HV_ok hl64 n.toNat (by omega)
        have rdn := HV_rd hl64 n.toNat (by omega)
        have wrt := HV_wr hl64 n.toNat (by omega) true
        have wrf := HV_wr hl64 n.toNat (by omega) false
        have m1 : (if (63 : Int) < n then (63 : Int) else n) = n := if_neg (by omega)
        have m2 : (if (0 : Int) > n then (0 : Int) else n) = n := if_neg (by omega)
        have hfn : (getL fs n).isSome = hv.getD n.toNat false := by rw [hfn, decide_eq_true (by omega : 0 ≤ n ∧ n < 64), Bool.true_and]
        by_cases hg : gone.getD i false = true
        · obtain ⟨g1, g2⟩ := c3 _ rfl hg
          cases hb : hv.getD n.toNat false with
          | true =>
            rw [hb] at hfn rdn
            obtain ⟨f, hfs⟩ := Option.isSome_iff_exists.1 hfn
            rw [on_remove hfs] at er hr
            obtain ⟨hv', H', fs', r1, r2, r3⟩ := hh _ _ _ (hf.del h0 h1) hr
            refine ⟨hv', H', fs', ?_, r2, r3⟩
            simp only [d0, d1, g1, g2, hg, er, Option.bind_some, m1, m2, c4, List.length_nil, MV.isP, ok0, okn, rdn, MV.isB, MV.tr, wrf, and_self, if_true, beq_self_eq_true, bne_self_eq_false, Bool.not_true, Bool.false_eq_true, if_false, decide_true]
            exact r1
          | false =>
            rw [hb] at hfn rdn
            have hfs : getL fs n = none := by simpa using hfn
            rw [on_remove_none hfs] at er hr
            obtain ⟨hv', H', fs', r1, r2, r3⟩ := hh _ _ _ hf hr
            refine ⟨hv', H', fs', ?_, r2, r3⟩
            simp only [d0, d1, g1, g2, hg, er, Option.bind_some, m1, m2, c4, List.length_nil, MV.isP, ok0, okn, rdn, MV.isB, MV.tr, wrf, and_self, if_true, beq_self_eq_true, bne_self_eq_false, Bool.not_true, Bool.false_eq_true, if_false, show ((10 : Int) == 0) = false from rfl, show ((10 : Int) != 0) = true from rfl, decide_true]
            exact r1
        · have hg : gone.getD i false = false := by simpa using hg
          have fin : ∀ X : Option (Sum (AH × AH) Bool), (∃ hv' H' fs', X = some (.inl (HV hv', H')) ∧ FInv hv' fs' ∧ DiskAt 0 H' (.ptr 1 0) (On 10 fs' 0)) → ∃ hv' H' fs', (if (decide ((i : Int) < (gone.length : Int))) = true then if 0 ≤ (i : Int) ∧ (i : Int) < (gone.length : Int) then X else none else X) = some (.inl (HV hv', H')) ∧ FInv hv' fs' ∧ DiskAt 0 H' (.ptr 1 0) (On 10 fs' 0) := fun X hX => by
            by_cases hi : i < gone.length
            · rw [if_pos (by simp; omega), if_pos (by omega)]; exact hX
            · rw [if_neg (by simp; omega)]; exact hX
          cases hb : hv.getD n.toNat false with
          | true =>
            rw [hb] at hfn rdn
            obtain ⟨f, hfs⟩ := Option.isSome_iff_exists.1 hfn
            rw [on_create_twice h0 h1 hfs] at ec hc
            simp only [d0, d1, hg, ec, Option.bind_some, c4, List.length_nil, MV.isP, ok0, okn, rdn, MV.isB, MV.tr, wrt, and_self, if_true, beq_self_eq_true, bne_self_eq_false, Bool.not_true, Bool.false_eq_true, if_false]
            exact fin _ (hh _ _ _ hf hc)
          | false =>
            rw [hb] at hfn rdn
            have hfs : getL fs n = none := by simpa using hfn
            rw [on_create h0 h1 hfs] at ec hc
            simp only [d0, d1, hg, ec, Option.bind_some, c4, List.length_nil, MV.isP, ok0, okn, rdn, MV.isB, MV.tr, wrt, and_self, if_true, beq_self_eq_true, bne_self_eq_false, Bool.not_true, Bool.false_eq_true, if_false]
            exact fin _ (hh _ _ _ (hf.put h0 h1 _) hc)
      · -- too large
        have d1 : decide (n < 64) = false := by simpa using h1
        have hfs : getL fs n = none := by rw [decide_eq_false (by omega : ¬ (0 ≤ n ∧ n < 64)), Bool.false_and] at hfn; simpa using hfn
        rw [on_remove_none hfs] at er hr
        rw [on_create_arg (by omega)] at ec hc
        by_cases hg : gone.getD i false = true
        · obtain ⟨g1, g2⟩ := c3 _ rfl hg
          obtain ⟨hv', H', fs', r1, r2, r3⟩ := hh _ _ _ hf hr
          refine ⟨hv', H', fs', ?_, r2, r3⟩
          simp only [d0, d1, g1, g2, hg, er, Option.bind_some, and_self, if_true, beq_self_eq_true, bne_self_eq_false, Bool.not_true, Bool.false_eq_true, if_false, show ((10 : Int) == 0) = false from rfl, show ((10 : Int) != 0) = true from rfl, decide_true]
          exact r1
        · have hg : gone.getD i false = false := by simpa using hg
          obtain ⟨hv', H', fs', r1, r2, r3⟩ := hh _ _ _ hf hc
          refine ⟨hv', H', fs', ?_, r2, r3⟩
          by_cases hi : i < gone.length
          · have g1 : decide ((i : Int) < (gone.length : Int)) = true := by simp; omega
            have g2 : (0 : Int) ≤ (i : Int) ∧ (i : Int) < (gone.length : Int) := by omega
            simp only [d0, d1, g1, g2, hg, ec, Option.bind_some, and_self, if_true, beq_self_eq_true, bne_self_eq_false, Bool.not_true, Bool.not_false, Bool.false_eq_true, if_false, decide_true]
            exact r1
          · have g1 : decide ((i : Int) < (gone.length : Int)) = false := by simp; omega
            simp only [d0, d1, g1, hg, ec, Option.bind_some, and_self, if_true, beq_self_eq_true, bne_self_eq_false, Bool.not_true, Bool.not_false, Bool.false_eq_true, if_false, decide_true]
            exact r1
    · -- below nought
      have d0 : decide (n ≥ 0) = false := by simp; omega
      have hfs : getL fs n = none := by rw [decide_eq_false (by omega : ¬ (0 ≤ n ∧ n < 64)), Bool.false_and] at hfn; simpa using hfn
      rw [on_remove_none hfs] at er hr
      rw [on_create_arg (by omega)] at ec hc
      by_cases hg : gone.getD i false = true
      · obtain ⟨g1, g2⟩ := c3 _ rfl hg
        obtain ⟨hv', H', fs', r1, r2, r3⟩ := hh _ _ _ hf hr
        refine ⟨hv', H', fs', ?_, r2, r3⟩
        simp only [d0, g1, g2, hg, er, Option.bind_some, and_self, if_true, beq_self_eq_true, bne_self_eq_false, Bool.not_true, Bool.false_eq_true, if_false, show ((10 : Int) == 0) = false from rfl, show ((10 : Int) != 0) = true from rfl, decide_true]
        exact r1
      · have hg : gone.getD i false = false := by simpa using hg
        obtain ⟨hv', H', fs', r1, r2, r3⟩ := hh _ _ _ hf hc
        refine ⟨hv', H', fs', ?_, r2, r3⟩
        by_cases hi : i < gone.length
        · have g1 : decide ((i : Int) < (gone.length : Int)) = true := by simp; omega
          have g2 : (0 : Int) ≤ (i : Int) ∧ (i : Int) < (gone.length : Int) := by omega
          simp only [d0, g1, g2, hg, ec, Option.bind_some, and_self, if_true, beq_self_eq_true, bne_self_eq_false, Bool.not_true, Bool.not_false, Bool.false_eq_true, if_false, decide_true]
          exact r1
        · have g1 : decide ((i : Int) < (gone.length : Int)) = false := by simp; omega
          simp only [d0, g1, hg, ec, Option.bind_some, and_self, if_true, beq_self_eq_true, bne_self_eq_false, Bool.not_true, Bool.not_false, Bool.false_eq_true, if_false, decide_true]
          exact r1
theorem files_l7 (d : MV) (H16 : AH) (hv : List Bool) (hl : hv.length = 64) : ∀ (j i : Nat), i + j = 64 →
    law14_DiskFiles_l7 d (HV hv) H16 (j + 1) (((List.range i).map fun n => ((n : Nat) : Int)).filter fun n => hv.getD n.toNat false) (i : Int) = some (((List.range 64).map fun n => ((n : Nat) : Int)).filter fun n => hv.getD n.toNat false) := by
  intro j
  induction j with
  | zero =>
    intro i hi
    obtain rfl : i = 64 := by omega
    rw [law14_DiskFiles_l7, if_neg (by simp)]
  | succ j ih =>
    intro i hi
    have w2 : IntKind.i64.wrap ((i : Int) + 1) = ((i + 1 : Nat) : Int) := by rw [wrap_i (by omega) (by omega)]; omega
    have c1 : decide ((i : Int) < 64) = true := by simp; omega
    have c4 : (0 : Int) ≤ (i : Int) ∧ (i : Int) < ((64 : Nat) : Int) := by omega
    have ok0 : AH.ok (HV hv) (.ptr 0 0) 0 1 = true := HV_ok hl 0 (by omega)
    have okn := HV_ok hl i (by omega)
    have rdn := HV_rd hl i (by omega)
    have h1 := ih (i + 1) (by omega)
    rw [List.range_succ, List.map_append, List.filter_append] at h1
    have hlen : ((((List.range i).map fun n => ((n : Nat) : Int)).filter fun n => hv.getD n.toNat false) ++ [(i : Int)]).length ≤ maxN := by
      have := List.length_filter_le (fun n : Int => hv.getD n.toNat false) ((List.range i).map fun n => ((n : Nat) : Int))
      simp only [List.length_map, List.length_range] at this
      rw [List.length_append]
      unfold maxN; simp only [List.length_cons, List.length_nil]; omega
    rw [law14_DiskFiles_l7]
    cases hb : hv.getD i false with
    | true =>
      rw [hb] at rdn
      simp only [List.map_cons, List.map_nil, List.filter_cons, Int.toNat_natCast, hb, if_true, List.filter_nil] at h1
      simp only [c1, c4, List.length_nil, MV.isP, ok0, Int.toNat_natCast, okn, rdn, MV.isB, MV.tr, and_self, if_true, hlen, Option.bind_some, w2]
      exact h1
    | false =>
      rw [hb] at rdn
      simp only [List.map_cons, List.map_nil, List.filter_cons, Int.toNat_natCast, hb, Bool.false_eq_true, if_false, List.filter_nil, List.append_nil] at h1
      simp only [c1, c4, List.length_nil, MV.isP, ok0, Int.toNat_natCast, okn, rdn, MV.isB, MV.tr, and_self, if_true, Bool.false_eq_true, if_false, Option.bind_some, w2]
      exact h1
theorem DiskAt.good {c : Nat} {H : AH} {d : MV} {A : Dk} (h : DiskAt c H d A) : Good c A := by
  obtain ⟨i, m, js, hi, L, a, h1, h2, h3, h4, h5⟩ := h
  exact h5
theorem DiskFiles (l : List Int) (gone : List Bool) (_w0 : ∀ x ∈ l, (Lit.int .i64 x).wf = true) : law14_DiskFiles l gone = some true := by
  unfold law14_DiskFiles
  by_cases hl : l.length > 80
  · rw [if_pos (decide_eq_true (by omega))]
  rw [if_neg (by simp; omega)]
  by_cases hg : gone.length > 100
  · rw [if_pos (decide_eq_true (by omega))]
  rw [if_neg (by simp; omega)]
  obtain ⟨H, e0, h0⟩ := new_at 10 (by decide) (by decide)
  have hd := ptr_ok h0
  obtain ⟨hv, H1, fs, e1, f1, h1⟩ := files_l0 l gone (by omega) l.length 0 H (List.replicate 64 false) [] (by omega) ⟨by simp, fun n => by
    rw [show getL ([] : List (Int × Fl)) n = none from rfl]
    have : (List.replicate 64 false).getD n.toNat false = false := by
      rw [List.getD_eq_getElem?_getD, List.getElem?_replicate]
      split <;> rfl
    rw [this]; simp⟩ h0
  have e2 := files_l7 (.ptr 1 0) H1 hv f1.len 64 0 (by omega)
  have ef := files_at h1
  have g := h1.good
  rw [keysS_eq g.nd g.rg] at ef
  have hfil : (((List.range 64).map fun n => ((n : Nat) : Int)).filter fun n => (getL fs n).isSome) = (((List.range 64).map fun n => ((n : Nat) : Int)).filter fun n => hv.getD n.toNat false) := by
    refine List.filter_congr fun n hn => ?_
    obtain ⟨k, hk, rfl⟩ := List.mem_map.1 hn
    rw [List.mem_range] at hk
    rw [f1.h, decide_eq_true (by omega : 0 ≤ (k : Int) ∧ (k : Int) < 64), Bool.true_and]
  rw [hfil] at ef
  have hlen := List.length_filter_le (fun n : Int => hv.getD n.toNat false) ((List.range 64).map fun n => ((n : Nat) : Int))
  simp only [List.length_map, List.length_range] at hlen
  have ei := ints_same (((List.range 64).map fun n => ((n : Nat) : Int)).filter fun n => hv.getD n.toNat false) (by omega)
  have c1 : ((l.length : Int) - 0).toNat + 1 = l.length + 1 := by omega
  have e1 : law14_DiskFiles_l0 l gone (.ptr 1 0) (l.length + 1) (([] : AH) ++ [MO.cells 42 ((List.replicate 64 false).map .bool)]) H (0 : Int) = some (.inl (HV hv, H1)) := e1
  have e2 : law14_DiskFiles_l7 (.ptr 1 0) (HV hv) H1 (((64 : Int) - (0 : Int)).toNat + 1) [] (0 : Int) = _ := e2
  simp only [List.map_replicate] at e1
  simp only [e0, hd, Option.bind_some, MV.isN, MV.isP, c1, bne_self_eq_false, beq_self_eq_true, Bool.false_eq_true, if_false, if_true, and_self, or_true]
  refine (congrArg (fun z => Option.bind z _) e1).trans ?_
  simp only [Option.bind_some, e2, ef, ei, if_true, wakes_ok]
end Go.Dk
