/- DiskSafe. -/
import Derived.Test.YtdbheiibkpendaaDkX
namespace Go.Dk
open Go Go.Gw Go.Proofs.Sd.D
set_option linter.unusedSimpArgs false
set_option linter.unusedVariables false

theorem getL_mapIf (fs : List (Int × Fl)) (n m : Int) (g : Fl → Fl) : getL (fs.map fun p => if p.1 = n then (n, g p.2) else p) m = if m = n then (getL fs m).map g else getL fs m := by
  induction fs with
  | nil => simp [getL]
  | cons p fs ih =>
    obtain ⟨p1, p2⟩ := p
    unfold getL at ih ⊢
    simp only [List.map_cons, List.find?_cons]
    by_cases hp : p1 = n
    · subst hp
      simp only [if_true]
      by_cases hm : p1 = m
      · subst hm; simp
      · have hb : (p1 == m) = false := by simpa using hm
        simp only [hb]
        exact ih
    · simp only [if_neg hp]
      by_cases hm : p1 = m
      · subst hm; simp [hp]
      · have hb : (p1 == m) = false := by simpa using hm
        simp only [hb]
        exact ih
theorem getL_upd (fs : List (Int × Fl)) (n m : Int) (f : Fl) : getL (updL fs n f) m = if m = n then (getL fs m).map (fun _ => f) else getL fs m := getL_mapIf fs n m fun _ => f
theorem getL_filter (fs : List (Int × Fl)) (n m : Int) (h : m ≠ n) : getL (fs.filter fun p => !(p.1 == n)) m = getL fs m := by
  induction fs with
  | nil => rfl
  | cons p fs ih =>
    unfold getL at ih ⊢
    simp only [List.filter_cons]
    by_cases hp : p.1 = n
    · have hb : (p.1 == n) = true := by simpa using hp
      have hb2 : (p.1 == m) = false := by simp [hp, Ne.symm h]
      simp only [hb, Bool.not_true, Bool.false_eq_true, if_false, List.find?_cons, hb2]
      exact ih
    · have hb : (p.1 == n) = false := by simpa using hp
      simp only [hb, Bool.not_false, if_true, List.find?_cons]
      by_cases hm : p.1 = m
      · simp [hm]
      · have hb2 : (p.1 == m) = false := by simpa using hm
        simp only [hb2]
        exact ih
theorem getL_end (fs : List (Int × Fl)) (n m : Int) (f : Fl) (h : m ≠ n) : getL (fs ++ [(n, f)]) m = getL fs m := by
  unfold getL
  rw [List.find?_append]
  have : List.find? (fun p : Int × Fl => p.1 == m) [(n, f)] = none := by simp [Ne.symm h]
  rw [this, Option.or_none]
/-- What is safe stays. -/
def Keeps (al : List Int) (A : Dk) : Prop := ∃ F t, getL A.fs 0 = some F ∧ F.s = al ++ t
theorem keeps_crashF {al : List Int} (keep : List Bool) (torn at_ : Int) (ns : List Int) : ∀ (k : Nat) (fs : List (Int × Fl)), (∃ F t, getL fs 0 = some F ∧ F.s = al ++ t) → ∃ F t, getL (crashF keep torn at_ ns k fs) 0 = some F ∧ F.s = al ++ t := by
  induction ns with
  | nil => intro k fs h; exact h
  | cons n ns ih =>
    intro k fs ⟨F, t, h1, h2⟩
    refine ih _ _ ?_
    rw [getL_mapIf fs n 0 (Fl.crash keep torn at_ k), h1]
    split
    · exact ⟨_, _, rfl, by rw [Fl.crash, h2, List.append_assoc]⟩
    · exact ⟨F, t, rfl, h2⟩
theorem Keeps.crash {al : List Int} {A : Dk} (h : Keeps al A) (keep : List Bool) (torn at_ : Int) : Keeps al (A.crash keep torn at_) := by
  unfold Dk.crash
  split
  · exact h
  · exact keeps_crashF keep torn at_ _ _ _ h
theorem Keeps.spend {al : List Int} {A : Dk} (h : Keeps al A) : Keeps al A.spend.2 := by
  unfold Dk.spend
  split
  · exact h
  · split
    · exact h
    · rename_i n keep torn at_ _ _
      exact Keeps.crash (A := ⟨A.lim, A.fs, A.off, A.life, some (IntKind.i64.wrap (n - 1), keep, torn, at_)⟩) h keep torn at_
theorem Keeps.andThen {al : List Int} {A : Dk} (h : Keeps al A) (g : Dk → Dk) (hg : ∀ r, Keeps al (g { A with arm := r })) : Keeps al (A.andThen g).2 := by
  unfold Dk.andThen
  split
  · rename_i hz
    obtain ⟨r, hr⟩ := spend_zero hz
    simp only [hr]; exact hg r
  · exact h.spend
theorem Keeps.create {al : List Int} {A : Dk} (h : Keeps al A) {n : Int} (hn : n ≠ 0) : Keeps al (A.create n).2 := by
  unfold Dk.create
  split
  · exact h
  split
  · exact h
  split
  · exact h
  split
  · exact h
  · refine h.andThen _ fun r => ?_
    obtain ⟨F, t, h1, h2⟩ := h
    exact ⟨F, t, by rw [getL_end _ _ _ _ (Ne.symm hn)]; exact h1, h2⟩
theorem Keeps.append {al : List Int} {A : Dk} (h : Keeps al A) (n : Int) (b : List Int) : Keeps al (A.append n b).2 := by
  unfold Dk.append
  split
  · exact h
  split
  · exact h
  · rename_i f hf
    split
    · exact h
    · refine Keeps.spend ?_
      obtain ⟨F, t, h1, h2⟩ := h
      by_cases hn : (0 : Int) = n
      · subst hn
        rw [hf] at h1; cases h1
        exact ⟨⟨f.s, f.ps ++ [b]⟩, t, by simp only; rw [getL_upd, if_pos rfl, hf]; rfl, h2⟩
      · exact ⟨F, t, by simp only; rw [getL_upd, if_neg hn]; exact h1, h2⟩
theorem Keeps.sync {al : List Int} {A : Dk} (h : Keeps al A) (n : Int) : Keeps al (A.sync n).2 := by
  unfold Dk.sync
  split
  · exact h
  split
  · exact h
  · rename_i f hf
    refine h.andThen _ fun r => ?_
    obtain ⟨F, t, h1, h2⟩ := h
    by_cases hn : (0 : Int) = n
    · subst hn
      rw [hf] at h1; cases h1
      exact ⟨f.settle, t ++ f.ps.flatten, by simp only; rw [getL_upd, if_pos rfl, hf]; rfl, by simp only [Fl.settle, Fl.all, h2, List.append_assoc]⟩
    · exact ⟨F, t, by simp only; rw [getL_upd, if_neg hn]; exact h1, h2⟩
theorem Keeps.cut {al : List Int} {A : Dk} (h : Keeps al A) {n : Int} (hn : n ≠ 0) (m : Int) : Keeps al (A.cut n m).2 := by
  unfold Dk.cut
  split
  · exact h
  split
  · exact h
  · split
    · exact h
    split
    · exact h
    · refine h.andThen _ fun r => ?_
      obtain ⟨F, t, h1, h2⟩ := h
      exact ⟨F, t, by simp only; rw [getL_upd, if_neg (Ne.symm hn)]; exact h1, h2⟩
theorem Keeps.remove {al : List Int} {A : Dk} (h : Keeps al A) {n : Int} (hn : n ≠ 0) : Keeps al (A.remove n).2 := by
  unfold Dk.remove
  split
  · exact h
  split
  · exact h
  · refine h.andThen _ fun r => ?_
    obtain ⟨F, t, h1, h2⟩ := h
    exact ⟨F, t, by simp only; rw [getL_filter _ _ _ (Ne.symm hn)]; exact h1, h2⟩
theorem size_lens (fs : List (Int × Fl)) (n : Int) : (match getL fs n with | none => (0 : Int) | some f => (f.all.length : Int)) = (match ((fs.map fun p => (p.1, p.2.all.length)).find? fun p => p.1 == n) with | none => 0 | some p => (p.2 : Int)) := by
  induction fs with
  | nil => rfl
  | cons p fs ih =>
    unfold getL at ih ⊢
    simp only [List.map_cons, List.find?_cons]
    cases hp : p.1 == n with
    | true => rfl
    | false => exact ih
theorem crash_size (A : Dk) (keep : List Bool) (torn at_ n : Int) : (A.crash keep torn at_).size n = A.size n := by
  unfold Dk.crash
  split
  · rfl
  · exact (size_lens (crashF keep torn at_ (keysS A.fs) 0 A.fs) n).trans (by rw [crashF_lens]; exact (size_lens A.fs n).symm)

theorem safe_l1 {l : List (List DL)} (hl : ∀ r ∈ l, LKs AK r) (hL : Light l) (al all : List Int) (d : MV) : ∀ (j i : Nat) (H : AH) (A : Dk), i + j = l.length → DiskAt (40 + i) H d A → Keeps al A →
    ∃ H' A', law14_DiskSafe_l1 l d all (j + 1) H (i : Int) = some (.inl H') ∧ DiskAt 1000 H' d A' ∧ Keeps al A' := by
  intro j
  have re : ∀ {c : Nat} {H' : AH} {A' : Dk}, DiskAt c H' d A' → c ≤ 1000 → DiskAt 1000 H' d A' := fun {c H' A'} h' hc => by
    obtain ⟨i', m, js, e, h'⟩ := h'
    exact ⟨i', m, js, e, h'.mono hc (by omega)⟩
  have h200 := hL.1
  induction j with
  | zero => intro i H A hi h hk; exact ⟨H, A, by rw [law14_DiskSafe_l1, if_neg (by simp; omega)], re h (by omega), hk⟩
  | succ j ih =>
    intro i H A hi h hk
    have hil : i < l.length := by omega
    rw [law14_DiskSafe_l1, if_pos (decide_eq_true (by omega))]
    by_cases h50 : ¬ i < 50
    · rw [if_neg (by rw [decide_eq_true_eq]; omega)]; exact ⟨H, A, rfl, re h (by omega), hk⟩
    have h50 : i < 50 := by omega
    obtain ⟨a, b, c, bs, kp, t, u, ha⟩ := act_at hl hil
    obtain ⟨b3, b4⟩ := hL.2 i hil h50
    rw [ha.d3] at b3
    rw [ha.d4] at b4
    simp only [DL.ints, DL.boolL] at b3 b4
    have w2 : IntKind.i64.wrap ((i : Int) + 1) = ((i + 1 : Nat) : Int) := by rw [wrap_i (by omega) (by omega)]; omega
    have nx : ∀ {H' : AH} {A' : Dk}, DiskAt (40 + (i + 1)) H' d A' → Keeps al A' → ∃ H2 A2, law14_DiskSafe_l1 l d all (j + 1) H' ((i + 1 : Nat) : Int) = some (.inl H2) ∧ DiskAt 1000 H2 d A2 ∧ Keeps al A2 := fun {H' A'} h' hk' => ih (i + 1) H' A' (by omega) h' hk'
    have up : ∀ {H' : AH} {A' : Dk}, DiskAt (40 + i) H' d A' → DiskAt (40 + (i + 1)) H' d A' := fun {H' A'} h' => by
      obtain ⟨i', m, js, e, h'⟩ := h'
      exact ⟨i', m, js, e, h'.mono (by omega) (by omega)⟩
    rw [if_pos (decide_eq_true (by omega)), if_pos (by omega), Int.toNat_natCast, if_pos ha.g]
    simp only [ha.d0, ha.d1, ha.d2, ha.d3, ha.d4, ha.d5, ha.d6, DL.num, DL.ints, DL.boolL, w2]
    generalize IntKind.i64.wrap ((IntKind.u64.wrap b).tmod 2) = n
    rw [size_at h n]
    obtain ⟨Ha, ea, h1⟩ := append_at h n bs (by omega) (by omega)
    obtain ⟨Hb, eb, h2⟩ := create_at h 2
    obtain ⟨Hc, ec, h3⟩ := sync_at h n
    obtain ⟨Hd, ed, h4⟩ := cut_at h 1 c
    obtain ⟨He, ee, h5⟩ := remove_at h 2
    obtain ⟨Hf, ef, h6⟩ := crash_at h kp t u
    obtain ⟨Hg, eg, h7⟩ := start_at h
    obtain ⟨Hh, eh, h8⟩ := trip_at h c kp t u (by unfold maxR; omega)
    have s6 := size_at h6 n
    rw [crash_size] at s6
    have t2 : (2 : Int) ≠ 0 := by decide
    have t1 : (1 : Int) ≠ 0 := by decide
    simp only [ea, eb, ec, ed, ee, ef, eg, eh, s6, Option.bind_some, bne_self_eq_false, Bool.false_eq_true, if_false]
    split
    · exact nx (up h2) (hk.create t2)
    split
    · exact nx (up h3) (hk.sync n)
    split
    · exact nx (up h4) (hk.cut t1 c)
    split
    · exact nx (up h5) (hk.remove t2)
    split
    · exact nx (up h6) (hk.crash kp t u)
    split
    · exact nx (up h7) hk
    split
    · exact nx (up h8) hk
    · exact nx (by rw [show 40 + (i + 1) = 40 + i + 1 by omega]; exact h1) (hk.append n bs)
theorem safe_l0 (rows : List (List Int)) (l : List (List DL)) (hr : rows.length ≤ 20) : ∀ (j i : Nat) (H : AH), i + j = rows.length → (rows.take i).flatten.length ≤ 300 * i → DiskAt i H (.ptr 1 0) (On 131072 [(0, ⟨[], rows.take i⟩), (1, ⟨[], []⟩)] 0) →
    law14_DiskSafe_l0 rows l (.ptr 1 0) (j + 1) H (rows.take i).flatten (i : Int) = some (.inr true) ∨
    ∃ H', law14_DiskSafe_l0 rows l (.ptr 1 0) (j + 1) H (rows.take i).flatten (i : Int) = some (.inl (H', rows.flatten)) ∧ DiskAt rows.length H' (.ptr 1 0) (On 131072 [(0, ⟨[], rows⟩), (1, ⟨[], []⟩)] 0) ∧ rows.flatten.length ≤ 6000 := by
  intro j
  induction j with
  | zero =>
    intro i H hi hb h
    obtain rfl : i = rows.length := by omega
    rw [List.take_length] at hb h ⊢
    exact .inr ⟨H, by rw [law14_DiskSafe_l0, if_neg (by simp)], h, by omega⟩
  | succ j ih =>
    intro i H hi hb h
    have hil : i < rows.length := by omega
    rw [law14_DiskSafe_l0, if_pos (decide_eq_true (by omega)), if_pos (by omega)]
    simp only [Int.toNat_natCast]
    by_cases hp : (rows.getD i []).length > 300
    · rw [if_pos (decide_eq_true (by omega))]; exact .inl rfl
    rw [if_neg (by rw [decide_eq_true_eq]; omega)]
    have htk : rows.take (i + 1) = rows.take i ++ [rows.getD i []] := by
      rw [List.take_succ_eq_append_getElem hil]
      simp [List.getD_eq_getElem?_getD, hil]
    obtain ⟨H1, e1, h1⟩ := append_at h 0 (rows.getD i []) (by omega) (by omega)
    rw [on_append (two_get0 (by decide) _ _) _ (by rw [two_used]; simp only [Fl.all, List.nil_append, List.flatten_nil, List.length_nil]; omega), two_upd0 (by decide), ← htk] at e1 h1
    have w2 : IntKind.i64.wrap ((i : Int) + 1) = ((i + 1 : Nat) : Int) := by rw [wrap_i (by omega) (by omega)]; omega
    have e2 : (rows.take i).flatten ++ rows.getD i [] = (rows.take (i + 1)).flatten := by rw [htk]; simp
    have h3 := ih (i + 1) H1 (by omega) (by rw [htk]; simp only [List.flatten_append, List.length_append, List.flatten_cons, List.flatten_nil, List.append_nil]; omega) h1
    have c1 : ((rows.take i).flatten ++ rows.getD i []).length ≤ maxN := by rw [List.length_append]; unfold maxN; omega
    rw [e2] at c1
    simp only [e1, Option.bind_some, bne_self_eq_false, Bool.false_eq_true, if_false, e2, c1, if_true, w2]
    exact h3
theorem read_keeps {al : List Int} {A : Dk} (h : Keeps al A) : ∃ t, (A.start).read 0 = (al ++ t, 0) := by
  obtain ⟨F, t, h1, h2⟩ := h
  refine ⟨t ++ F.ps.flatten, ?_⟩
  unfold Dk.read Dk.start
  simp only [Bool.false_eq_true, if_false, h1, Fl.all, h2, List.append_assoc]
theorem DiskSafe (rows : List (List Int)) (l : List (List DL)) (_w0 : ∀ r ∈ rows, ∀ x ∈ r, (Lit.int .u8 x).wf = true) (hl : ∀ r ∈ l, LKs AK r) : law14_DiskSafe rows l = some true := by
  unfold law14_DiskSafe
  rcases heavy_ok hl with e | ⟨e, hL⟩
  · rw [e]; rfl
  rw [e]
  simp only [Option.bind_some, Bool.false_eq_true, if_false]
  by_cases hr : rows.length > 20
  · rw [if_pos (decide_eq_true (by omega))]
  rw [if_neg (by rw [decide_eq_true_eq]; omega)]
  obtain ⟨H, e0, h0⟩ := new_at 131072 (by decide) (by decide)
  have hd := ptr_ok h0
  obtain ⟨H1, e1, h1⟩ := create_at h0 0
  rw [on_create (by decide) (by decide) rfl] at e1 h1
  simp only [List.nil_append] at e1 h1
  obtain ⟨H2, e2, h2⟩ := create_at h1 1
  rw [on_create (by decide) (by decide) rfl] at e2 h2
  simp only [List.cons_append, List.nil_append] at e2 h2
  have c1 : ((rows.length : Int) - 0).toNat + 1 = rows.length + 1 := by omega
  have c2 : ((l.length : Int) - 0).toNat + 1 = l.length + 1 := by omega
  simp only [e0, hd, Option.bind_some, MV.isN, MV.isP, e1, e2, c1, c2, bne_self_eq_false, beq_self_eq_true, Bool.false_eq_true, if_false, if_true, and_self, or_true]
  rcases safe_l0 rows l (by omega) rows.length 0 H2 (by omega) (by simp) h2 with e3 | ⟨H3, e3, h3, hb⟩
  · have e3 : law14_DiskSafe_l0 rows l (.ptr 1 0) (rows.length + 1) H2 [] (0 : Int) = some (.inr true) := e3
    rw [e3]; rfl
  · have e3 : law14_DiskSafe_l0 rows l (.ptr 1 0) (rows.length + 1) H2 [] (0 : Int) = some (.inl (H3, rows.flatten)) := e3
    obtain ⟨H4, e4, h4⟩ := sync_at h3 0
    rw [on_sync (two_get0 (by decide) _ _), two_upd0 (by decide)] at e4 h4
    have k4 : Keeps rows.flatten (On 131072 [(0, (⟨[], rows⟩ : Fl).settle), (1, ⟨[], []⟩)] 0) := ⟨_, [], two_get0 (by decide) _ _, by simp [Fl.settle, Fl.all]⟩
    obtain ⟨H5, A5, e5, h5, k5⟩ := safe_l1 hl hL rows.flatten rows.flatten (.ptr 1 0) l.length 0 H4 _ (by omega) (h4.re (by omega) (by simp [Fl.settle])) k4
    rw [show ((0 : Nat) : Int) = 0 from rfl] at e5
    obtain ⟨H6, e6, h6⟩ := crash_at h5 [] (-1) 0
    have k6 := k5.crash [] (-1) 0
    obtain ⟨H7, e7, h7⟩ := start_at h6
    have r7 := read_ok h7 0
    obtain ⟨t, ht⟩ := read_keeps k6
    rw [ht] at r7
    have b7 := bytes_same rows.flatten (by omega)
    have c3 : decide (((rows.flatten ++ t).length : Int) ≥ (rows.flatten.length : Int)) = true := by simp; omega
    have c4 : (0 : Int) ≤ 0 ∧ (0 : Int) ≤ (rows.flatten.length : Int) ∧ (rows.flatten.length : Int) ≤ ((rows.flatten ++ t).length : Int) := by rw [List.length_append]; omega
    have c5 : (((rows.flatten ++ t).take rows.flatten.length).drop 0) = rows.flatten := by rw [List.drop_zero, List.take_left]
    simp only [e3, Option.bind_some, e4, e5, e6, e7, r7, bne_self_eq_false, beq_self_eq_true, Bool.false_eq_true, if_false, if_true]
    rw [if_pos c3, if_pos c4, Int.toNat_natCast, c5, b7]
    simp only [Option.bind_some, if_true, wakes_ok]
end Go.Dk
