/- What is done, one by one; whether it is too much. -/
import Derived.Test.YtdbheiibkpendaaMDkL
import Derived.Test.YtdbheiibkpendaaGwL0
namespace Go.Dk
open Go Go.Gw Go.Proofs.Sd.D
set_option linter.unusedSimpArgs false
set_option linter.unusedVariables false
abbrev AK : List LK := [.int .i64, .int .i64, .int .i64, .bytes .u8 5, .bools 4, .int .i64, .int .i64]
theorem act_of {r : List DL} (h : LKs AK r) : ∃ (a b c : Int) (bs : List Int) (kp : List Bool) (t u : Int), r = [.int .i64 a, .int .i64 b, .int .i64 c, .bytes .u8 bs, .bools kp, .int .i64 t, .int .i64 u] ∧
  (Lit.int .i64 a).wf = true ∧ (Lit.int .i64 b).wf = true ∧ (Lit.int .i64 c).wf = true ∧ (Lit.int .i64 t).wf = true ∧ (Lit.int .i64 u).wf = true := by
 obtain ⟨hl, h⟩ := h
 match r, hl with
 | [d0, d1, d2, d3, d4, d5, d6], _ =>
  obtain ⟨a, rfl, ha⟩ := h 0 _ _ rfl rfl
  obtain ⟨b, rfl, hb⟩ := h 1 _ _ rfl rfl
  obtain ⟨c, rfl, hc⟩ := h 2 _ _ rfl rfl
  obtain ⟨bs, rfl, _⟩ := h 3 _ _ rfl rfl
  obtain ⟨kp, rfl⟩ := h 4 _ _ rfl rfl
  obtain ⟨t, rfl, ht⟩ := h 5 _ _ rfl rfl
  obtain ⟨u, rfl, hu⟩ := h 6 _ _ rfl rfl
  exact ⟨a, b, c, bs, kp, t, u, rfl, ha, hb, hc, ht, hu⟩
structure ActAt (l : List (List DL)) (i : Nat) (a b c : Int) (bs : List Int) (kp : List Bool) (t u : Int) : Prop where
 r : l.getD i [] = [.int .i64 a, .int .i64 b, .int .i64 c, .bytes .u8 bs, .bools kp, .int .i64 t, .int .i64 u]
 wc : (Lit.int .i64 c).wf = true
theorem act_at {l : List (List DL)} (h : ∀ r ∈ l, LKs AK r) {i : Nat} (hi : i < l.length) : ∃ (a b c : Int) (bs : List Int) (kp : List Bool) (t u : Int), ActAt l i a b c bs kp t u := by
 obtain ⟨a, b, c, bs, kp, t, u, hr, h1, h2, h3, _⟩ := act_of (h l[i] (List.getElem_mem hi))
 exact ⟨a, b, c, bs, kp, t, u, by rw [List.getD_eq_getElem?_getD, List.getElem?_eq_getElem hi]; exact hr, h3⟩
section
variable {l : List (List DL)} {i : Nat} {a b c : Int} {bs : List Int} {kp : List Bool} {t u : Int}
theorem ActAt.d0 (h : ActAt l i a b c bs kp t u) : dlAt l i 0 = .int .i64 a := by rw [dlAt, h.r]; rfl
theorem ActAt.d1 (h : ActAt l i a b c bs kp t u) : dlAt l i 1 = .int .i64 b := by rw [dlAt, h.r]; rfl
theorem ActAt.d2 (h : ActAt l i a b c bs kp t u) : dlAt l i 2 = .int .i64 c := by rw [dlAt, h.r]; rfl
theorem ActAt.d3 (h : ActAt l i a b c bs kp t u) : dlAt l i 3 = .bytes .u8 bs := by rw [dlAt, h.r]; rfl
theorem ActAt.d4 (h : ActAt l i a b c bs kp t u) : dlAt l i 4 = .bools kp := by rw [dlAt, h.r]; rfl
theorem ActAt.d5 (h : ActAt l i a b c bs kp t u) : dlAt l i 5 = .int .i64 t := by rw [dlAt, h.r]; rfl
theorem ActAt.d6 (h : ActAt l i a b c bs kp t u) : dlAt l i 6 = .int .i64 u := by rw [dlAt, h.r]; rfl
theorem ActAt.g3 (h : ActAt l i a b c bs kp t u) (κ : Nat) : gkAll l i 3 [.bs .u8 κ] = true := by simp [gkAll, h.d3, gkOk, ikc]
theorem ActAt.g4 (h : ActAt l i a b c bs kp t u) (κ : Nat) : gkAll l i 4 [.bb κ] = true := by simp [gkAll, h.d4, gkOk]
theorem ActAt.g (h : ActAt l i a b c bs kp t u) : gkAll l i 0 [.int .i64, .int .i64, .int .i64, .bs .u8 0, .bb 0, .int .i64, .int .i64] = true := by
 simp [gkAll, h.d0, h.d1, h.d2, h.d3, h.d4, h.d5, h.d6, gkOk, ikc]
end
def Light (l : List (List DL)) : Prop := l.length ≤ 200 ∧ ∀ i, i < l.length → i < 50 → (dlAt l i 3).ints.length ≤ 300 ∧ (dlAt l i 4).boolL.length ≤ 300
theorem heavy_l0 {l : List (List DL)} (h : ∀ r ∈ l, LKs AK r) (hl : l.length ≤ 200) : ∀ (j i : Nat), i + j = l.length → (∀ x, x < i → x < 50 → (dlAt l x 3).ints.length ≤ 300 ∧ (dlAt l x 4).boolL.length ≤ 300) →
  law14_Heavy_l0 l (j + 1) (i : Int) = some (.inr true) ∨ (law14_Heavy_l0 l (j + 1) (i : Int) = some (.inl ()) ∧ Light l) := by
 intro j
 induction j with
 | zero =>
  intro i hi hb
  refine .inr ⟨by rw [law14_Heavy_l0, if_neg (by simp; omega)], hl, fun x hx hx2 => hb x (by omega) hx2⟩
 | succ j ih =>
  intro i hi hb
  rw [law14_Heavy_l0, if_pos (decide_eq_true (by omega))]
  by_cases h50 : i < 50
  ·obtain ⟨a, b, c, bs, kp, t, u, ha⟩ := act_at h (show i < l.length by omega)
   have w2 : IntKind.i64.wrap ((i : Int) + 1) = ((i + 1 : Nat) : Int) := by rw [wrap_i (by omega) (by omega)]; omega
   rw [if_pos (decide_eq_true (by omega)), if_pos (by omega), Int.toNat_natCast, if_pos (ha.g3 0), if_pos (ha.g4 0), w2]
   by_cases h3 : (dlAt l i 3).ints.length > 300
   ·rw [if_pos (decide_eq_true (by omega))]; exact .inl rfl
   rw [if_neg (by rw [decide_eq_true_eq]; omega)]
   by_cases h4 : (dlAt l i 4).boolL.length > 300
   ·rw [if_pos (decide_eq_true (by omega))]; exact .inl rfl
   rw [if_neg (by rw [decide_eq_true_eq]; omega)]
   exact ih (i + 1) (by omega) fun x hx hx2 => by
    by_cases e : x = i
    ·subst e; omega
    ·exact hb x (by omega) hx2
  ·rw [if_neg (by rw [decide_eq_true_eq]; omega)]
   exact .inr ⟨rfl, hl, fun x hx hx2 => hb x (by omega) hx2⟩
theorem heavy_ok {l : List (List DL)} (h : ∀ r ∈ l, LKs AK r) : law14_Heavy l = some true ∨ (law14_Heavy l = some false ∧ Light l) := by
 unfold law14_Heavy
 by_cases hl : l.length > 200
 ·rw [if_pos (decide_eq_true (by omega))]; exact .inl rfl
 rw [if_neg (by rw [decide_eq_true_eq]; omega), show ((l.length : Int) - 0).toNat + 1 = l.length + 1 by omega]
 rcases heavy_l0 h (by omega) l.length 0 (by omega) (fun x hx => by omega) with e | ⟨e, hL⟩
 ·rw [show ((0 : Nat) : Int) = 0 from rfl] at e
  rw [e]; exact .inl rfl
 ·rw [show ((0 : Nat) : Int) = 0 from rfl] at e
  rw [e]; exact .inr ⟨rfl, hL⟩
end Go.Dk
/- DiskTwo. -/
namespace Go.Dk
open Go Go.Gw Go.Proofs.Sd.D
set_option linter.unusedSimpArgs false
set_option linter.unusedVariables false
end Go.Dk
/- DiskSafe. -/
namespace Go.Dk
open Go Go.Gw Go.Proofs.Sd.D
set_option linter.unusedSimpArgs false
set_option linter.unusedVariables false
theorem getL_mapIf (fs : List (Int × Fl)) (n m : Int) (g : Fl → Fl) : getL (fs.map fun p => if p.1 = n then (n, g p.2) else p) m = if m = n then (getL fs m).map g else getL fs m := by
 induction fs with
 | nil => simp [getL]
 | cons p fs ih =>
  obtain ⟨p1, p2⟩ := p
  unfold getL at ih ⊢
  simp only [List.map_cons, List.find?_cons]
  by_cases hp : p1 = n
  ·subst hp
   simp only [if_true]
   by_cases hm : p1 = m
   ·subst hm; simp
   ·have hb : (p1 == m) = false := by simpa using hm
    simp only [hb]
    exact ih
  ·simp only [if_neg hp]
   by_cases hm : p1 = m
   ·subst hm; simp [hp]
   ·have hb : (p1 == m) = false := by simpa using hm
    simp only [hb]
    exact ih
theorem getL_upd (fs : List (Int × Fl)) (n m : Int) (f : Fl) : getL (updL fs n f) m = if m = n then (getL fs m).map (fun _ => f) else getL fs m := getL_mapIf fs n m fun _ => f
theorem getL_filter (fs : List (Int × Fl)) (n m : Int) (h : m ≠ n) : getL (fs.filter fun p => !(p.1 == n)) m = getL fs m := by
 induction fs with
 | nil => rfl
 | cons p fs ih =>
  unfold getL at ih ⊢
  simp only [List.filter_cons]
  by_cases hp : p.1 = n
  ·have hb : (p.1 == n) = true := by simpa using hp
   have hb2 : (p.1 == m) = false := by simp [hp, Ne.symm h]
   simp only [hb, Bool.not_true, Bool.false_eq_true, if_false, List.find?_cons, hb2]
   exact ih
  ·have hb : (p.1 == n) = false := by simpa using hp
   simp only [hb, Bool.not_false, if_true, List.find?_cons]
   by_cases hm : p.1 = m
   ·simp [hm]
   ·have hb2 : (p.1 == m) = false := by simpa using hm
    simp only [hb2]
    exact ih
theorem getL_end (fs : List (Int × Fl)) (n m : Int) (f : Fl) (h : m ≠ n) : getL (fs ++ [(n, f)]) m = getL fs m := by
 unfold getL
 rw [List.find?_append]
 have : List.find? (fun p : Int × Fl => p.1 == m) [(n, f)] = none := by simp [Ne.symm h]
 rw [this, Option.or_none]
def Keeps (al : List Int) (A : Dk) : Prop := ∃ F t, getL A.fs 0 = some F ∧ F.s = al ++ t
theorem keeps_crashF {al : List Int} (keep : List Bool) (torn at_ : Int) (ns : List Int) : ∀ (k : Nat) (fs : List (Int × Fl)), (∃ F t, getL fs 0 = some F ∧ F.s = al ++ t) → ∃ F t, getL (crashF keep torn at_ ns k fs) 0 = some F ∧ F.s = al ++ t := by
 induction ns with
 | nil => intro k fs h; exact h
 | cons n ns ih =>
  intro k fs ⟨F, t, h1, h2⟩
  refine ih _ _ ?_
  rw [getL_mapIf fs n 0 (Fl.crash keep torn at_ k), h1]
  split
  ·exact ⟨_, _, rfl, by rw [Fl.crash, h2, List.append_assoc]⟩
  ·exact ⟨F, t, rfl, h2⟩
theorem Keeps.crash {al : List Int} {A : Dk} (h : Keeps al A) (keep : List Bool) (torn at_ : Int) : Keeps al (A.crash keep torn at_) := by
 unfold Dk.crash
 split
 ·exact h
 ·exact keeps_crashF keep torn at_ _ _ _ h
theorem Keeps.spend {al : List Int} {A : Dk} (h : Keeps al A) : Keeps al A.spend.2 := by
 unfold Dk.spend
 split
 ·exact h
 ·split
  ·exact h
  ·rename_i n keep torn at_ _ _
   exact Keeps.crash (A := ⟨A.lim, A.fs, A.off, A.life, some (IntKind.i64.wrap (n - 1), keep, torn, at_)⟩) h keep torn at_
theorem Keeps.andThen {al : List Int} {A : Dk} (h : Keeps al A) (g : Dk → Dk) (hg : ∀ r, Keeps al (g { A with arm := r })) : Keeps al (A.andThen g).2 := by
 unfold Dk.andThen
 split
 ·rename_i hz
  obtain ⟨r, hr⟩ := spend_zero hz
  simp only [hr]; exact hg r
 ·exact h.spend
theorem Keeps.create {al : List Int} {A : Dk} (h : Keeps al A) {n : Int} (hn : n ≠ 0) : Keeps al (A.create n).2 := by
 unfold Dk.create
 split
 ·exact h
 split
 ·exact h
 split
 ·exact h
 split
 ·exact h
 ·refine h.andThen _ fun r => ?_
  obtain ⟨F, t, h1, h2⟩ := h
  exact ⟨F, t, by rw [getL_end _ _ _ _ (Ne.symm hn)]; exact h1, h2⟩
theorem Keeps.append {al : List Int} {A : Dk} (h : Keeps al A) (n : Int) (b : List Int) : Keeps al (A.append n b).2 := by
 unfold Dk.append
 split
 ·exact h
 split
 ·exact h
 ·rename_i f hf
  split
  ·exact h
  ·refine Keeps.spend ?_
   obtain ⟨F, t, h1, h2⟩ := h
   by_cases hn : (0 : Int) = n
   ·subst hn
    rw [hf] at h1; cases h1
    exact ⟨⟨f.s, f.ps ++ [b]⟩, t, by simp only; rw [getL_upd, if_pos rfl, hf]; rfl, h2⟩
   ·exact ⟨F, t, by simp only; rw [getL_upd, if_neg hn]; exact h1, h2⟩
theorem Keeps.sync {al : List Int} {A : Dk} (h : Keeps al A) (n : Int) : Keeps al (A.sync n).2 := by
 unfold Dk.sync
 split
 ·exact h
 split
 ·exact h
 ·rename_i f hf
  refine h.andThen _ fun r => ?_
  obtain ⟨F, t, h1, h2⟩ := h
  by_cases hn : (0 : Int) = n
  ·subst hn
   rw [hf] at h1; cases h1
   exact ⟨f.settle, t ++ f.ps.flatten, by simp only; rw [getL_upd, if_pos rfl, hf]; rfl, by simp only [Fl.settle, Fl.all, h2, List.append_assoc]⟩
  ·exact ⟨F, t, by simp only; rw [getL_upd, if_neg hn]; exact h1, h2⟩
theorem Keeps.cut {al : List Int} {A : Dk} (h : Keeps al A) {n : Int} (hn : n ≠ 0) (m : Int) : Keeps al (A.cut n m).2 := by
 unfold Dk.cut
 split
 ·exact h
 split
 ·exact h
 ·split
  ·exact h
  split
  ·exact h
  ·refine h.andThen _ fun r => ?_
   obtain ⟨F, t, h1, h2⟩ := h
   exact ⟨F, t, by simp only; rw [getL_upd, if_neg (Ne.symm hn)]; exact h1, h2⟩
theorem Keeps.remove {al : List Int} {A : Dk} (h : Keeps al A) {n : Int} (hn : n ≠ 0) : Keeps al (A.remove n).2 := by
 unfold Dk.remove
 split
 ·exact h
 split
 ·exact h
 ·refine h.andThen _ fun r => ?_
  obtain ⟨F, t, h1, h2⟩ := h
  exact ⟨F, t, by simp only; rw [getL_filter _ _ _ (Ne.symm hn)]; exact h1, h2⟩
end Go.Dk
/- DiskFiles. -/
namespace Go.Dk
open Go Go.Gw Go.Proofs.Sd.D
set_option linter.unusedSimpArgs false
set_option linter.unusedVariables false
theorem getL_isSome {fs : List (Int × Fl)} {n : Int} : (getL fs n).isSome = true ↔ n ∈ fs.map (·.1) := by
 constructor
 ·intro h
  obtain ⟨f, hf⟩ := Option.isSome_iff_exists.1 h
  exact List.mem_map.2 ⟨_, getL_some hf, rfl⟩
 ·intro h
  cases hg : getL fs n with
  | none => exact absurd h (getL_none hg)
  | some f => rfl
theorem keysS_eq {fs : List (Int × Fl)} (hn : (fs.map (·.1)).Nodup) (hr : ∀ n ∈ fs.map (·.1), 0 ≤ n ∧ n < 64) : keysS fs = ((List.range 64).map fun n => ((n : Nat) : Int)).filter fun n => (getL fs n).isSome := by
 have hp := List.mergeSort_perm (fs.map (·.1)) fun x y : Int => decide (x ≤ y)
 have hlt : (((List.range 64).map fun n => ((n : Nat) : Int)).filter fun n => (getL fs n).isSome).Pairwise (· < ·) := by
  refine List.Pairwise.filter _ ?_
  rw [List.pairwise_map]
  exact List.pairwise_lt_range.imp fun h => by omega
 refine List.Perm.eq_of_pairwise (le := fun x y => x ≤ y) (fun a b _ _ h1 h2 => by omega) ?_ (hlt.imp fun h => by omega) ?_
 ·have := List.pairwise_mergeSort (le := fun x y : Int => decide (x ≤ y)) (fun a b c h1 h2 => by simp at *; omega) (fun a b => by simp; omega) (fs.map (·.1))
  exact this.imp fun h => by simpa using h
 ·refine (List.perm_ext_iff_of_nodup (hp.nodup_iff.2 hn) (hlt.imp fun h => by omega)).2 fun a => ?_
  have hk := keysS_mem fs a
  unfold keysS at hk
  rw [hk, List.mem_filter, getL_isSome]
  refine ⟨fun h => ⟨?_, h⟩, fun h => h.2⟩
  have := hr a h
  exact List.mem_map.2 ⟨a.toNat, by rw [List.mem_range]; omega, by omega⟩
theorem getL_app (fs : List (Int × Fl)) (n m : Int) (f : Fl) : (getL (fs ++ [(n, f)]) m).isSome = ((getL fs m).isSome || (n == m)) := by
 rw [Bool.eq_iff_iff, getL_isSome, Bool.or_eq_true, getL_isSome, List.map_append, List.mem_append, beq_iff_eq]
 refine or_congr Iff.rfl ?_
 simp only [List.map_cons, List.map_nil, List.mem_singleton]
 exact eq_comm
theorem getL_del (fs : List (Int × Fl)) (n m : Int) : (getL (fs.filter fun p => !(p.1 == n)) m).isSome = ((getL fs m).isSome && !(m == n)) := by
 rw [Bool.eq_iff_iff, getL_isSome, Bool.and_eq_true, getL_isSome]
 constructor
 ·intro h
  obtain ⟨p, hp, rfl⟩ := List.mem_map.1 h
  rw [List.mem_filter] at hp
  exact ⟨List.mem_map.2 ⟨p, hp.1, rfl⟩, hp.2⟩
 ·rintro ⟨h, h2⟩
  obtain ⟨p, hp, rfl⟩ := List.mem_map.1 h
  exact List.mem_map.2 ⟨p, List.mem_filter.2 ⟨hp, h2⟩, rfl⟩
theorem putL_set' {l : List MV} {i : Nat} (h : i < l.length) (v : MV) : putL l i [v] = l.set i v := by
 rw [List.set_eq_take_append_cons_drop, if_pos h]; rfl
def HV (hv : List Bool) : AH := [MO.cells 42 (hv.map .bool)]
structure FInv (hv : List Bool) (fs : List (Int × Fl)) : Prop where
 len : hv.length = 64
 h : ∀ n : Int, (getL fs n).isSome = (decide (0 ≤ n ∧ n < 64) && hv.getD n.toNat false)
theorem getD_set (l : List Bool) (k j : Nat) (b : Bool) (h : k < l.length) : (l.set k b).getD j false = if j = k then b else l.getD j false := by
 rw [List.getD_eq_getElem?_getD, List.getD_eq_getElem?_getD, List.getElem?_set]
 by_cases hj : k = j
 ·subst hj; simp [h]
 ·rw [if_neg hj, if_neg (Ne.symm hj)]
theorem FInv.put {hv : List Bool} {fs : List (Int × Fl)} (h : FInv hv fs) {n : Int} (h0 : 0 ≤ n) (h1 : n < 64) (f : Fl) : FInv (hv.set n.toNat true) (fs ++ [(n, f)]) := by
 refine ⟨by simp [h.len], fun m => ?_⟩
 rw [getL_app, h.h, getD_set _ _ _ _ (by rw [h.len]; omega)]
 by_cases hm : n = m
 ·subst hm; simp [h0, h1]
 ·have hb : (n == m) = false := by simpa using hm
  rw [hb, Bool.or_false]
  by_cases hr : 0 ≤ m ∧ m < 64
  ·rw [if_neg (by omega)]
  ·rw [decide_eq_false hr]; rfl
theorem DiskAt.good {c : Nat} {H : AH} {d : MV} {A : Dk} (h : DiskAt c H d A) : Good c A := by
 obtain ⟨i, m, js, hi, L, a, h1, h2, h3, h4, h5⟩ := h
 exact h5
end Go.Dk
/- The page's disk in memory: an array of files within a block of cells. -/
namespace Go.Dk
open Go Go.Gw Go.Proofs.Sd.D
set_option linter.unusedSimpArgs false
set_option linter.unusedVariables false
theorem getD_putL {L vs : List MV} {k : Nat} (h : k + vs.length ≤ L.length) (j : Nat) : (putL L k vs).getD j .nilp = if k ≤ j ∧ j < k + vs.length then vs.getD (j - k) .nilp else L.getD j .nilp := by
 simp only [putL, List.getD_eq_getElem?_getD]
 by_cases h1 : j < k
 ·rw [if_neg (by omega), List.getElem?_append_left (by simp; omega), List.getElem?_take, if_pos h1]
 ·rw [List.getElem?_append_right (by simp; omega)]
  simp only [List.length_take, Nat.min_eq_left (show k ≤ L.length by omega)]
  by_cases h2 : j < k + vs.length
  ·rw [if_pos (by omega), List.getElem?_append_left (by omega)]
  ·rw [if_neg (by omega), List.getElem?_append_right (by omega), List.getElem?_drop]
   congr 2; omega
theorem putL_length {L vs : List MV} {k : Nat} (h : k + vs.length ≤ L.length) : (putL L k vs).length = L.length := by
 simp only [putL, List.length_append, List.length_take, List.length_drop]; omega
structure Rs where
 is : Bool
 b : Option Nat
 B : List Int
 e : Option Nat
 lo : List (Int × Int)
structure RV where
 lim : Int
 off : Bool
 life : Int
 armed : Int
 kx : Option Nat
 keep : List Bool
 torn : Int
 at_ : Int
structure RLs (L : List MV) (V : RV) (g : Nat → Rs) : Prop where
 len : L.length = 199
 l0 : L.getD 0 .nilp = .int .i64 V.lim
 l1 : L.getD 1 .nilp = .bool V.off
 l2 : L.getD 2 .nilp = .int .i64 V.life
 fi : ∀ n, n < 64 → L.getD (n * 3 + 3) .nilp = .bool (g n).is
 fb : ∀ n, n < 64 → L.getD (n * 3 + 4) .nilp = slcOf 1 (g n).b (g n).B.length
 fe : ∀ n, n < 64 → L.getD (n * 3 + 5) .nilp = slcOf 2 (g n).e (g n).lo.length
 la : L.getD 195 .nilp = .int .i64 V.armed
 lk : L.getD 196 .nilp = slcOf 1 V.kx V.keep.length
 lt : L.getD 197 .nilp = .int .i64 V.torn
 lp : L.getD 198 .nilp = .int .i64 V.at_
def loM (l : List (Int × Int)) : List MV := l.flatMap fun p => [.int .i64 p.1, .int .i64 p.2]
theorem loM_len (l : List (Int × Int)) : (loM l).length = l.length * 2 := by
 induction l with
 | nil => rfl
 | cons p l ih => simp only [loM, List.flatMap_cons, List.length_append, List.length_cons, List.length_nil] at ih ⊢; omega
structure RHs (H : AH) (V : RV) (g : Nat → Rs) : Prop where
 b : ∀ n, n < 64 → rowAt H 5 1 (g n).b ((g n).B.map (.int .u8))
 e : ∀ n, n < 64 → rowAt H 88 2 (g n).e (loM (g n).lo)
 k : rowAt H 4 1 V.kx (V.keep.map .bool)
 ab : ∀ n m, n < 64 → m < 64 → n ≠ m → ∀ r, (g n).b = some r → (g m).b ≠ some r
 ae : ∀ n m, n < 64 → m < 64 → n ≠ m → ∀ r, (g n).e = some r → (g m).e ≠ some r
def RIn (H : AH) (i : Nat) (V : RV) (g : Nat → Rs) : Prop := ∃ L, AH.at H i = .cells 64 L ∧ RLs L V g ∧ RHs H V g
def upG (g : Nat → Rs) (n : Nat) (f : Rs) : Nat → Rs := fun m => if m = n then f else g m
theorem upG_same (g : Nat → Rs) (n : Nat) (f : Rs) : upG g n f n = f := by simp [upG]
theorem upG_ne (g : Nat → Rs) {n m : Nat} (f : Rs) (h : m ≠ n) : upG g n f m = g m := by simp [upG, h]
theorem RHs.to {H H' : AH} {V : RV} {g : Nat → Rs} (h : RHs H V g) (k : ∀ r e sz l, AH.at H r = .row e sz l → AH.at H' r = .row e sz l) : RHs H' V g :=
 ⟨fun n hn => rowAt_to (h.b n hn) fun r _ e => k r _ _ _ e, fun n hn => rowAt_to (h.e n hn) fun r _ e => k r _ _ _ e, rowAt_to h.k fun r _ e => k r _ _ _ e, h.ab, h.ae⟩
section
variable {H : AH} {i : Nat} {V : RV} {g : Nat → Rs}
theorem RIn.ok (h : RIn H i V g) (j : Nat) (hj : j < 199) : AH.ok H (.ptr i 0) j 1 = true := by
 obtain ⟨L, h0, hl, _⟩ := h
 rw [okC h0, hl.len]; exact Nat.ble_eq_true_of_le (by omega)
theorem RIn.ok3 (h : RIn H i V g) (n : Nat) (hj : n < 64) : AH.ok H (.ptr i 0) (n * 3 + 3) 3 = true := by
 obtain ⟨L, h0, hl, _⟩ := h
 rw [okP h0, hl.len]; exact Nat.ble_eq_true_of_le (by omega)
theorem RIn.r0 (h : RIn H i V g) : AH.rd H (.ptr i 0) 0 = .int .i64 V.lim := by obtain ⟨L, h0, hl, _⟩ := h; rw [rdC h0]; exact hl.l0
theorem RIn.r1 (h : RIn H i V g) : AH.rd H (.ptr i 0) 1 = .bool V.off := by obtain ⟨L, h0, hl, _⟩ := h; rw [rdC h0]; exact hl.l1
theorem RIn.r2 (h : RIn H i V g) : AH.rd H (.ptr i 0) 2 = .int .i64 V.life := by obtain ⟨L, h0, hl, _⟩ := h; rw [rdC h0]; exact hl.l2
theorem RIn.ra (h : RIn H i V g) : AH.rd H (.ptr i 0) 195 = .int .i64 V.armed := by obtain ⟨L, h0, hl, _⟩ := h; rw [rdC h0]; exact hl.la
theorem RIn.rk (h : RIn H i V g) : AH.rd H (.ptr i 0) 196 = slcOf 1 V.kx V.keep.length := by obtain ⟨L, h0, hl, _⟩ := h; rw [rdC h0]; exact hl.lk
theorem RIn.rt (h : RIn H i V g) : AH.rd H (.ptr i 0) 197 = .int .i64 V.torn := by obtain ⟨L, h0, hl, _⟩ := h; rw [rdC h0]; exact hl.lt
theorem RIn.rp (h : RIn H i V g) : AH.rd H (.ptr i 0) 198 = .int .i64 V.at_ := by obtain ⟨L, h0, hl, _⟩ := h; rw [rdC h0]; exact hl.lp
theorem RIn.ri (h : RIn H i V g) (n : Nat) (hn : n < 64) : AH.rd H (.ptr i 0) (n * 3 + 3) = .bool (g n).is := by obtain ⟨L, h0, hl, _⟩ := h; rw [rdC h0]; exact hl.fi n hn
theorem RIn.rb (h : RIn H i V g) (n : Nat) (hn : n < 64) : AH.rd H (.ptr i 0) (n * 3 + 4) = slcOf 1 (g n).b (g n).B.length := by obtain ⟨L, h0, hl, _⟩ := h; rw [rdC h0]; exact hl.fb n hn
theorem RIn.re (h : RIn H i V g) (n : Nat) (hn : n < 64) : AH.rd H (.ptr i 0) (n * 3 + 5) = slcOf 2 (g n).e (g n).lo.length := by obtain ⟨L, h0, hl, _⟩ := h; rw [rdC h0]; exact hl.fe n hn
theorem RIn.wr' (h : RIn H i V g) {k : Nat} {vs : List MV} (hk : k + vs.length ≤ 199) {V' : RV} {g' : Nat → Rs} (hl : ∀ L, RLs L V g → RLs (putL L k vs) V' g') (hh : RHs H V' g') : RIn (AH.wr H (.ptr i 0) k vs) i V' g' := by
 obtain ⟨L, h0, h1, h2⟩ := h
 rw [wrC h0]
 refine ⟨_, at_set_eq h0 rfl, hl L h1, hh.to fun r e sz l hr => (at_set_ne ?_).trans hr⟩
 rintro rfl
 rw [h0] at hr; cases hr
theorem RIn.rows (h : RIn H i V g) : RHs H V g := by obtain ⟨L, h0, h1, h2⟩ := h; exact h2
theorem RIn.w_off (h : RIn H i V g) (b : Bool) : RIn (AH.wr H (.ptr i 0) 1 [.bool b]) i { V with off := b } g :=
 h.wr' (by simp) (fun L hl => by
  have e := fun j => @getD_putL L [.bool b] 1 (by rw [hl.len]; simp) j
  simp only [List.length_cons, List.length_nil] at e
  refine ⟨by rw [putL_length (by rw [hl.len]; simp)]; exact hl.len, ?_, ?_, ?_, fun n hn => ?_, fun n hn => ?_, fun n hn => ?_, ?_, ?_, ?_, ?_⟩
  ·rw [e, if_neg (by omega)]; exact hl.l0
  ·rw [e, if_pos (by omega)]; rfl
  ·rw [e, if_neg (by omega)]; exact hl.l2
  ·rw [e, if_neg (by omega)]; exact hl.fi n hn
  ·rw [e, if_neg (by omega)]; exact hl.fb n hn
  ·rw [e, if_neg (by omega)]; exact hl.fe n hn
  ·rw [e, if_neg (by omega)]; exact hl.la
  ·rw [e, if_neg (by omega)]; exact hl.lk
  ·rw [e, if_neg (by omega)]; exact hl.lt
  ·rw [e, if_neg (by omega)]; exact hl.lp) ⟨h.rows.b, h.rows.e, h.rows.k, h.rows.ab, h.rows.ae⟩
theorem RIn.w_life (h : RIn H i V g) (x : Int) : RIn (AH.wr H (.ptr i 0) 2 [.int .i64 x]) i { V with life := x } g :=
 h.wr' (by simp) (fun L hl => by
  have e := fun j => @getD_putL L [.int .i64 x] 2 (by rw [hl.len]; simp) j
  simp only [List.length_cons, List.length_nil] at e
  refine ⟨by rw [putL_length (by rw [hl.len]; simp)]; exact hl.len, ?_, ?_, ?_, fun n hn => ?_, fun n hn => ?_, fun n hn => ?_, ?_, ?_, ?_, ?_⟩
  ·rw [e, if_neg (by omega)]; exact hl.l0
  ·rw [e, if_neg (by omega)]; exact hl.l1
  ·rw [e, if_pos (by omega)]; rfl
  ·rw [e, if_neg (by omega)]; exact hl.fi n hn
  ·rw [e, if_neg (by omega)]; exact hl.fb n hn
  ·rw [e, if_neg (by omega)]; exact hl.fe n hn
  ·rw [e, if_neg (by omega)]; exact hl.la
  ·rw [e, if_neg (by omega)]; exact hl.lk
  ·rw [e, if_neg (by omega)]; exact hl.lt
  ·rw [e, if_neg (by omega)]; exact hl.lp) ⟨h.rows.b, h.rows.e, h.rows.k, h.rows.ab, h.rows.ae⟩
theorem RIn.w_armed (h : RIn H i V g) (x : Int) : RIn (AH.wr H (.ptr i 0) 195 [.int .i64 x]) i { V with armed := x } g :=
 h.wr' (by simp) (fun L hl => by
  have e := fun j => @getD_putL L [.int .i64 x] 195 (by rw [hl.len]; simp) j
  simp only [List.length_cons, List.length_nil] at e
  refine ⟨by rw [putL_length (by rw [hl.len]; simp)]; exact hl.len, ?_, ?_, ?_, fun n hn => ?_, fun n hn => ?_, fun n hn => ?_, ?_, ?_, ?_, ?_⟩
  ·rw [e, if_neg (by omega)]; exact hl.l0
  ·rw [e, if_neg (by omega)]; exact hl.l1
  ·rw [e, if_neg (by omega)]; exact hl.l2
  ·rw [e, if_neg (by omega)]; exact hl.fi n hn
  ·rw [e, if_neg (by omega)]; exact hl.fb n hn
  ·rw [e, if_neg (by omega)]; exact hl.fe n hn
  ·rw [e, if_pos (by omega)]; rfl
  ·rw [e, if_neg (by omega)]; exact hl.lk
  ·rw [e, if_neg (by omega)]; exact hl.lt
  ·rw [e, if_neg (by omega)]; exact hl.lp) ⟨h.rows.b, h.rows.e, h.rows.k, h.rows.ab, h.rows.ae⟩
theorem RIn.w_torn (h : RIn H i V g) (x : Int) : RIn (AH.wr H (.ptr i 0) 197 [.int .i64 x]) i { V with torn := x } g :=
 h.wr' (by simp) (fun L hl => by
  have e := fun j => @getD_putL L [.int .i64 x] 197 (by rw [hl.len]; simp) j
  simp only [List.length_cons, List.length_nil] at e
  refine ⟨by rw [putL_length (by rw [hl.len]; simp)]; exact hl.len, ?_, ?_, ?_, fun n hn => ?_, fun n hn => ?_, fun n hn => ?_, ?_, ?_, ?_, ?_⟩
  ·rw [e, if_neg (by omega)]; exact hl.l0
  ·rw [e, if_neg (by omega)]; exact hl.l1
  ·rw [e, if_neg (by omega)]; exact hl.l2
  ·rw [e, if_neg (by omega)]; exact hl.fi n hn
  ·rw [e, if_neg (by omega)]; exact hl.fb n hn
  ·rw [e, if_neg (by omega)]; exact hl.fe n hn
  ·rw [e, if_neg (by omega)]; exact hl.la
  ·rw [e, if_neg (by omega)]; exact hl.lk
  ·rw [e, if_pos (by omega)]; rfl
  ·rw [e, if_neg (by omega)]; exact hl.lp) ⟨h.rows.b, h.rows.e, h.rows.k, h.rows.ab, h.rows.ae⟩
theorem RIn.w_at (h : RIn H i V g) (x : Int) : RIn (AH.wr H (.ptr i 0) 198 [.int .i64 x]) i { V with at_ := x } g :=
 h.wr' (by simp) (fun L hl => by
  have e := fun j => @getD_putL L [.int .i64 x] 198 (by rw [hl.len]; simp) j
  simp only [List.length_cons, List.length_nil] at e
  refine ⟨by rw [putL_length (by rw [hl.len]; simp)]; exact hl.len, ?_, ?_, ?_, fun n hn => ?_, fun n hn => ?_, fun n hn => ?_, ?_, ?_, ?_, ?_⟩
  ·rw [e, if_neg (by omega)]; exact hl.l0
  ·rw [e, if_neg (by omega)]; exact hl.l1
  ·rw [e, if_neg (by omega)]; exact hl.l2
  ·rw [e, if_neg (by omega)]; exact hl.fi n hn
  ·rw [e, if_neg (by omega)]; exact hl.fb n hn
  ·rw [e, if_neg (by omega)]; exact hl.fe n hn
  ·rw [e, if_neg (by omega)]; exact hl.la
  ·rw [e, if_neg (by omega)]; exact hl.lk
  ·rw [e, if_neg (by omega)]; exact hl.lt
  ·rw [e, if_pos (by omega)]; rfl) ⟨h.rows.b, h.rows.e, h.rows.k, h.rows.ab, h.rows.ae⟩
theorem RIn.app (h : RIn H i V g) (o : MO) : RIn (H ++ [o]) i V g := by
 obtain ⟨L, h0, h1, h2⟩ := h
 exact ⟨L, at_app_old h0 rfl, h1, h2.to fun r e sz l hr => at_app_old hr rfl⟩
theorem RIn.w_keep (h : RIn H i V g) {x : Nat} {kp : List Bool} (hx : AH.at H x = .row 4 1 (kp.map .bool)) : RIn (AH.wr H (.ptr i 0) 196 [.slc x 1 0 kp.length]) i { V with kx := some x, keep := kp } g :=
 h.wr' (by simp) (fun L hl => by
  have e := fun j => @getD_putL L [.slc x 1 0 kp.length] 196 (by rw [hl.len]; simp) j
  simp only [List.length_cons, List.length_nil] at e
  refine ⟨by rw [putL_length (by rw [hl.len]; simp)]; exact hl.len, ?_, ?_, ?_, fun n hn => ?_, fun n hn => ?_, fun n hn => ?_, ?_, ?_, ?_, ?_⟩
  ·rw [e, if_neg (by omega)]; exact hl.l0
  ·rw [e, if_neg (by omega)]; exact hl.l1
  ·rw [e, if_neg (by omega)]; exact hl.l2
  ·rw [e, if_neg (by omega)]; exact hl.fi n hn
  ·rw [e, if_neg (by omega)]; exact hl.fb n hn
  ·rw [e, if_neg (by omega)]; exact hl.fe n hn
  ·rw [e, if_neg (by omega)]; exact hl.la
  ·rw [e, if_pos (by omega)]; rfl
  ·rw [e, if_neg (by omega)]; exact hl.lt
  ·rw [e, if_neg (by omega)]; exact hl.lp) ⟨h.rows.b, h.rows.e, hx, h.rows.ab, h.rows.ae⟩
theorem RLs.file {L : List MV} (hl : RLs L V g) {n : Nat} (hn : n < 64) {k : Nat} {vs : List MV} (hk : n * 3 + 3 ≤ k ∧ k + vs.length ≤ n * 3 + 6) (f : Rs)
  (h0 : (putL L k vs).getD (n * 3 + 3) .nilp = .bool f.is) (h1 : (putL L k vs).getD (n * 3 + 4) .nilp = slcOf 1 f.b f.B.length) (h2 : (putL L k vs).getD (n * 3 + 5) .nilp = slcOf 2 f.e f.lo.length) : RLs (putL L k vs) V (upG g n f) := by
 have e := fun j => @getD_putL L vs k (by rw [hl.len]; omega) j
 refine ⟨by rw [putL_length (by rw [hl.len]; omega)]; exact hl.len, ?_, ?_, ?_, fun m hm => ?_, fun m hm => ?_, fun m hm => ?_, ?_, ?_, ?_, ?_⟩
 ·rw [e, if_neg (by omega)]; exact hl.l0
 ·rw [e, if_neg (by omega)]; exact hl.l1
 ·rw [e, if_neg (by omega)]; exact hl.l2
 ·by_cases hm' : m = n
  ·subst hm'; rw [upG_same]; exact h0
  ·rw [upG_ne _ _ hm', e, if_neg (by omega)]; exact hl.fi m hm
 ·by_cases hm' : m = n
  ·subst hm'; rw [upG_same]; exact h1
  ·rw [upG_ne _ _ hm', e, if_neg (by omega)]; exact hl.fb m hm
 ·by_cases hm' : m = n
  ·subst hm'; rw [upG_same]; exact h2
  ·rw [upG_ne _ _ hm', e, if_neg (by omega)]; exact hl.fe m hm
 ·rw [e, if_neg (by omega)]; exact hl.la
 ·rw [e, if_neg (by omega)]; exact hl.lk
 ·rw [e, if_neg (by omega)]; exact hl.lt
 ·rw [e, if_neg (by omega)]; exact hl.lp
theorem RHs.file {n : Nat} (h : RHs H V g) (f : Rs) (hb : rowAt H 5 1 f.b (f.B.map (.int .u8))) (he : rowAt H 88 2 f.e (loM f.lo)) (nb : ∀ m r, m < 64 → m ≠ n → f.b = some r → (g m).b ≠ some r) (ne : ∀ m r, m < 64 → m ≠ n → f.e = some r → (g m).e ≠ some r) : RHs H V (upG g n f) := by
 refine ⟨fun m hm => ?_, fun m hm => ?_, h.k, fun m p hm hp hne r hr => ?_, fun m p hm hp hne r hr => ?_⟩
 ·by_cases e : m = n
  ·subst e; rw [upG_same]; exact hb
  ·rw [upG_ne _ _ e]; exact h.b m hm
 ·by_cases e : m = n
  ·subst e; rw [upG_same]; exact he
  ·rw [upG_ne _ _ e]; exact h.e m hm
 ·by_cases e : m = n
  ·subst e
   rw [upG_same] at hr
   rw [upG_ne _ _ (Ne.symm hne)]
   exact nb p r hp (Ne.symm hne) hr
  ·rw [upG_ne _ _ e] at hr
   by_cases e2 : p = n
   ·subst e2
    rw [upG_same]
    exact fun h' => nb m r hm e h' hr
   ·rw [upG_ne _ _ e2]; exact h.ab m p hm hp hne r hr
 ·by_cases e : m = n
  ·subst e
   rw [upG_same] at hr
   rw [upG_ne _ _ (Ne.symm hne)]
   exact ne p r hp (Ne.symm hne) hr
  ·rw [upG_ne _ _ e] at hr
   by_cases e2 : p = n
   ·subst e2
    rw [upG_same]
    exact fun h' => ne m r hm e h' hr
   ·rw [upG_ne _ _ e2]; exact h.ae m p hm hp hne r hr
theorem RIn.w_nolo (h : RIn H i V g) {n : Nat} (hn : n < 64) : RIn (AH.wr H (.ptr i 0) (n * 3 + 5) [.nils]) i V (upG g n { g n with e := none, lo := [] }) :=
 h.wr' (by simp; omega) (fun L hl => by
  have e := fun j => @getD_putL L [.nils] (n * 3 + 5) (by rw [hl.len]; simp; omega) j
  simp only [List.length_cons, List.length_nil] at e
  refine hl.file hn (by simp) _ ?_ ?_ ?_
  ·rw [e, if_neg (by omega)]; exact hl.fi n hn
  ·rw [e, if_neg (by omega)]; exact hl.fb n hn
  ·rw [e, if_pos (by omega), Nat.sub_self]; rfl) (h.rows.file _ (h.rows.b n hn) rfl (fun m r hm hne hr => h.rows.ab n m hn hm (Ne.symm hne) r hr) (fun m r _ _ hr => by cases hr))
theorem RIn.w_file (h : RIn H i V g) {n : Nat} (hn : n < 64) (b : Bool) : RIn (AH.wr H (.ptr i 0) (n * 3 + 3) [.bool b, .nils, .nils]) i V (upG g n ⟨b, none, [], none, []⟩) :=
 h.wr' (by simp; omega) (fun L hl => by
  have e := fun j => @getD_putL L [.bool b, .nils, .nils] (n * 3 + 3) (by rw [hl.len]; simp; omega) j
  simp only [List.length_cons, List.length_nil] at e
  refine hl.file hn (by simp) _ ?_ ?_ ?_
  ·rw [e, if_pos (by omega), Nat.sub_self]; rfl
  ·rw [e, if_pos (by omega), show n * 3 + 4 - (n * 3 + 3) = 1 by omega]; rfl
  ·rw [e, if_pos (by omega), show n * 3 + 5 - (n * 3 + 3) = 2 by omega]; rfl) (h.rows.file _ rfl rfl (fun m r _ _ hr => by cases hr) (fun m r _ _ hr => by cases hr))
theorem RIn.live (h : RIn H i V g) : i < H.length := by obtain ⟨L, h0, _⟩ := h; exact at_lt h0 rfl
theorem RHs.blt (h : RHs H V g) {n r : Nat} (hn : n < 64) (hr : (g n).b = some r) : r < H.length := by
 have := h.b n hn
 rw [hr] at this
 exact at_lt (show AH.at H r = _ from this) rfl
theorem RHs.elt (h : RHs H V g) {n r : Nat} (hn : n < 64) (hr : (g n).e = some r) : r < H.length := by
 have := h.e n hn
 rw [hr] at this
 exact at_lt (show AH.at H r = _ from this) rfl
theorem RIn.w_bytes (h : RIn H i V g) {n : Nat} (hn : n < 64) (B : List Int) : RIn (AH.wr (H ++ [.row 5 1 (B.map (.int .u8))]) (.ptr i 0) (n * 3 + 4) [.slc H.length 1 0 B.length]) i V (upG g n { g n with b := some H.length, B := B }) := by
 have h' := h.app (.row 5 1 (B.map (.int .u8)))
 refine h'.wr' (by simp; omega) (fun L hl => ?_) (h'.rows.file _ (at_app_eq H _) (h'.rows.e n hn) (fun m r hm hne hr => ?_) (fun m r hm hne hr => h.rows.ae n m hn hm (Ne.symm hne) r hr))
 ·have e := fun j => @getD_putL L [.slc H.length 1 0 B.length] (n * 3 + 4) (by rw [hl.len]; simp; omega) j
  simp only [List.length_cons, List.length_nil] at e
  refine hl.file hn (by simp) _ ?_ ?_ ?_
  ·rw [e, if_neg (by omega)]; exact hl.fi n hn
  ·rw [e, if_pos (by omega), Nat.sub_self]; rfl
  ·rw [e, if_neg (by omega)]; exact hl.fe n hn
 ·simp only [Option.some.injEq] at hr
  intro hr'
  have := h.rows.blt hm hr'
  omega
theorem RIn.w_push (h : RIn H i V g) {n : Nat} (hn : n < 64) (x y : Int) :
  RIn (AH.wr (AH.app H (slcOf 2 (g n).e (g n).lo.length) 88 2 [.int .i64 x, .int .i64 y]) (.ptr i 0) (n * 3 + 5) [.slc H.length 2 0 ((g n).lo.length + 1)]) i V (upG g n { g n with e := some H.length, lo := (g n).lo ++ [(x, y)] }) ∧
  (∀ j, j < 199 → AH.ok (AH.app H (slcOf 2 (g n).e (g n).lo.length) 88 2 [.int .i64 x, .int .i64 y]) (.ptr i 0) j 1 = true) := by
 obtain ⟨L, h0, hl, hh⟩ := h
 have hv : slcOf 2 (g n).e (g n).lo.length = .nils ∨ ∃ r, slcOf 2 (g n).e (g n).lo.length = .slc r 2 0 (g n).lo.length := by
  cases (g n).e with
  | none => exact .inl rfl
  | some r => exact .inr ⟨r, rfl⟩
 have hve : ∀ r k, slcOf 2 (g n).e (g n).lo.length = .slc r 2 0 k → (g n).e = some r := by
  intro r k hr
  cases he : (g n).e with
  | none => rw [he] at hr; cases hr
  | some r' => rw [he] at hr; simp only [slcOf, MV.slc.injEq] at hr; rw [hr.1]
 have hrow : rowAt H 88 2 (g n).e (loM (g n).lo) := hh.e n hn
 have keep : ∀ y' o, AH.at H y' = o → o.live = true → (g n).e ≠ some y' → AH.at (AH.app H (slcOf 2 (g n).e (g n).lo.length) 88 2 [.int .i64 x, .int .i64 y]) y' = o := fun y' o hy hlv hne => by
  have hlt := at_lt hy hlv
  unfold AH.app
  rcases hv with e | ⟨r, e⟩
  ·rw [e, at_app (by simpa [MV.dies] using hlt)]; exact hy
  ·have hr := hve r _ e
   rw [e]
   simp only [MV.dies]
   rw [at_app (by simpa using hlt), at_set_ne (fun e' => hne (by rw [hr, e']))]
   exact hy
 have new : AH.at (AH.app H (slcOf 2 (g n).e (g n).lo.length) 88 2 [.int .i64 x, .int .i64 y]) H.length = .row 88 2 (loM ((g n).lo ++ [(x, y)])) := by
  rw [app_new, row_view hrow (by rw [loM_len])]
  simp [loM]
 have h1 := keep i _ h0 rfl (fun e => by
  rw [e] at hrow
  rw [show AH.at H i = _ from hrow] at h0; cases h0)
 have kb : ∀ m, m < 64 → rowAt (AH.app H (slcOf 2 (g n).e (g n).lo.length) 88 2 [.int .i64 x, .int .i64 y]) 5 1 (g m).b ((g m).B.map (.int .u8)) := fun m hm => rowAt_to (hh.b m hm) fun r _ e => keep r _ e rfl fun e' => by
  rw [e'] at hrow
  rw [show AH.at H r = _ from hrow] at e; cases e
 have ke : ∀ m, m < 64 → m ≠ n → rowAt (AH.app H (slcOf 2 (g n).e (g n).lo.length) 88 2 [.int .i64 x, .int .i64 y]) 88 2 (g m).e (loM (g m).lo) := fun m hm hne => rowAt_to (hh.e m hm) fun r hr e => keep r _ e rfl fun e' => hh.ae n m hn hm (Ne.symm hne) r e' hr
 have kk : rowAt (AH.app H (slcOf 2 (g n).e (g n).lo.length) 88 2 [.int .i64 x, .int .i64 y]) 4 1 V.kx (V.keep.map .bool) := rowAt_to hh.k fun r _ e => keep r _ e rfl fun e' => by
  rw [e'] at hrow
  rw [show AH.at H r = _ from hrow] at e; cases e
 have elt : ∀ m r, m < 64 → (g m).e = some r → r < H.length := fun m r hm hr => hh.elt hm hr
 generalize AH.app H (slcOf 2 (g n).e (g n).lo.length) 88 2 [.int .i64 x, .int .i64 y] = H1 at *
 refine ⟨?_, fun j hj => by rw [okC h1, hl.len]; exact Nat.ble_eq_true_of_le (by omega)⟩
 rw [wrC h1]
 refine ⟨_, at_set_eq h1 rfl, ?_, RHs.to (H := H1) ⟨fun m hm => ?_, fun m hm => ?_, kk, fun m p hm hp hne r hr => ?_, fun m p hm hp hne r hr => ?_⟩ fun r e sz l hr => (at_set_ne ?_).trans hr⟩
 ·have e := fun j => @getD_putL L [.slc H.length 2 0 ((g n).lo.length + 1)] (n * 3 + 5) (by rw [hl.len]; simp; omega) j
  simp only [List.length_cons, List.length_nil] at e
  refine hl.file hn (by simp) _ ?_ ?_ ?_
  ·rw [e, if_neg (by omega)]; exact hl.fi n hn
  ·rw [e, if_neg (by omega)]; exact hl.fb n hn
  ·rw [e, if_pos (by omega), Nat.sub_self]; simp [slcOf]
 ·by_cases e : m = n
  ·subst e; rw [upG_same]; exact kb m hm
  ·rw [upG_ne _ _ e]; exact kb m hm
 ·by_cases e : m = n
  ·subst e; rw [upG_same]; exact new
  ·rw [upG_ne _ _ e]; exact ke m hm e
 ·have : ∀ q, (upG g n { g n with e := some H.length, lo := (g n).lo ++ [(x, y)] } q).b = (g q).b := fun q => by
   by_cases e : q = n
   ·subst e; rw [upG_same]
   ·rw [upG_ne _ _ e]
  rw [this] at hr ⊢
  exact hh.ab m p hm hp hne r hr
 ·by_cases e : m = n
  ·subst e
   rw [upG_same] at hr
   rw [upG_ne _ _ (Ne.symm hne)]
   simp only [Option.some.injEq] at hr
   intro hr'
   have := elt p r hp hr'
   omega
  ·rw [upG_ne _ _ e] at hr
   by_cases e2 : p = n
   ·subst e2
    rw [upG_same]
    simp only [ne_eq, Option.some.injEq]
    have := elt m r hm hr
    omega
   ·rw [upG_ne _ _ e2]; exact hh.ae m p hm hp hne r hr
 ·rintro rfl
  rw [h1] at hr; cases hr
theorem RIn.w_zero (h : RIn H i V g) {n : Nat} (hn : n < 64) {r : Nat} (hr : (g n).b = some r) (c : Nat) (hc : c < (g n).B.length) : RIn (AH.wr H (.slc r 1 0 (g n).B.length) (c * 1 + 0) [.int .u8 0]) i V (upG g n { g n with B := (g n).B.set c 0 }) := by
 obtain ⟨L, h0, hl, hh⟩ := h
 have hb := hh.b n hn
 rw [hr] at hb
 have hb : AH.at H r = .row 5 1 ((g n).B.map (.int .u8)) := hb
 rw [wrS hb, Nat.zero_mul, Nat.zero_add, Nat.mul_one, Nat.add_zero, putL_set' (by simpa using hc)]
 have hmap : ((g n).B.map (MV.int .u8)).set c (.int .u8 0) = ((g n).B.set c 0).map (MV.int .u8) := by simp [List.map_set]
 rw [hmap]
 have hne : i ≠ r := by
  rintro rfl
  rw [h0] at hb; cases hb
 have kk : ∀ y o, AH.at H y = o → y ≠ r → AH.at (H.set r (.row 5 1 (((g n).B.set c 0).map (.int .u8)))) y = o := fun y o hy hyr => (at_set_ne (Ne.symm hyr)).trans hy
 refine ⟨L, kk i _ h0 hne, ⟨hl.len, hl.l0, hl.l1, hl.l2, fun m hm => ?_, fun m hm => ?_, fun m hm => ?_, hl.la, hl.lk, hl.lt, hl.lp⟩, ⟨fun m hm => ?_, fun m hm => ?_, rowAt_to hh.k fun r' _ e => kk r' _ e ?_, fun m p hm hp hne r' hr' => ?_, fun m p hm hp hne r' hr' => ?_⟩⟩
 ·by_cases e : m = n
  ·subst e; rw [upG_same]; exact hl.fi m hm
  ·rw [upG_ne _ _ e]; exact hl.fi m hm
 ·by_cases e : m = n
  ·subst e; rw [upG_same]; simp only [List.length_set]; exact hl.fb m hm
  ·rw [upG_ne _ _ e]; exact hl.fb m hm
 ·by_cases e : m = n
  ·subst e; rw [upG_same]; exact hl.fe m hm
  ·rw [upG_ne _ _ e]; exact hl.fe m hm
 ·by_cases e : m = n
  ·subst e; rw [upG_same]
   simp only [hr]
   exact at_set_eq hb rfl
  ·rw [upG_ne _ _ e]
   exact rowAt_to (hh.b m hm) fun r' hr' e' => kk r' _ e' fun e2 => hh.ab n m hn hm (Ne.symm e) r hr (by rw [hr', e2])
 ·have : rowAt (H.set r (.row 5 1 (((g n).B.set c 0).map (.int .u8)))) 88 2 (g m).e (loM (g m).lo) := rowAt_to (hh.e m hm) fun r' _ e' => kk r' _ e' fun e2 => by
   rw [e2, hb] at e'; cases e'
  by_cases e : m = n
  ·subst e; rw [upG_same]; exact this
  ·rw [upG_ne _ _ e]; exact this
 ·rintro rfl
  rw [hb] at e; cases e
 ·have : ∀ q, (upG g n { g n with B := (g n).B.set c 0 } q).b = (g q).b := fun q => by
   by_cases e : q = n
   ·subst e; rw [upG_same]
   ·rw [upG_ne _ _ e]
  rw [this] at hr' ⊢
  exact hh.ab m p hm hp hne r' hr'
 ·have : ∀ q, (upG g n { g n with B := (g n).B.set c 0 } q).e = (g q).e := fun q => by
   by_cases e : q = n
   ·subst e; rw [upG_same]
   ·rw [upG_ne _ _ e]
  rw [this] at hr' ⊢
  exact hh.ae m p hm hp hne r' hr'
end
end Go.Dk
/- The page's disk: a crash. (Printed by mkDkRb.py.) -/
namespace Go.Dk
open Go Go.Gw Go.Proofs.Sd.D
set_option linter.unusedSimpArgs false
set_option linter.unusedVariables false
def looseOf : Nat → List (List Int) → List (Int × Int)
 | _, [] => []
 | n, p :: ps => ((n : Int), ((n + p.length : Nat) : Int)) :: looseOf (n + p.length) ps
theorem looseOf_len (n : Nat) (ps : List (List Int)) : (looseOf n ps).length = ps.length := by
 induction ps generalizing n with
 | nil => rfl
 | cons p ps ih => simp [looseOf, ih]
theorem looseOf_app (n : Nat) (ps qs : List (List Int)) : looseOf n (ps ++ qs) = looseOf n ps ++ looseOf (n + ps.flatten.length) qs := by
 induction ps generalizing n with
 | nil => simp [looseOf]
 | cons p ps ih => simp [looseOf, ih, Nat.add_assoc]
theorem loM_app (a b : List (Int × Int)) : loM (a ++ b) = loM a ++ loM b := by simp [loM]
theorem loM_get (n : Nat) (qs rs : List (List Int)) (p : List Int) :
  (loM (looseOf n (qs ++ p :: rs))).getD (qs.length * 2) .nilp = .int .i64 ((n + qs.flatten.length : Nat) : Int) ∧ (loM (looseOf n (qs ++ p :: rs))).getD (qs.length * 2 + 1) .nilp = .int .i64 ((n + qs.flatten.length + p.length : Nat) : Int) := by
 rw [looseOf_app, loM_app]
 have h := loM_len (looseOf n qs)
 rw [looseOf_len] at h
 constructor
 ·rw [List.getD_eq_getElem?_getD, List.getElem?_append_right (by omega), h, Nat.sub_self]; rfl
 ·rw [List.getD_eq_getElem?_getD, List.getElem?_append_right (by omega), h, show qs.length * 2 + 1 - qs.length * 2 = 1 by omega]; rfl
theorem upG_upG (g : Nat → Rs) (n : Nat) (f f' : Rs) : upG (upG g n f) n f' = upG g n f' := by
 funext m
 by_cases h : m = n
 ·subst h; rw [upG_same, upG_same]
 ·rw [upG_ne _ _ h, upG_ne _ _ h, upG_ne _ _ h]
theorem upG_id (g : Nat → Rs) (n : Nat) : upG g n (g n) = g := by
 funext m
 by_cases h : m = n
 ·subst h; rw [upG_same]
 ·rw [upG_ne _ _ h]
theorem set_take (B : List Int) (c : Nat) (h : c < B.length) : (B.set c 0).take (c + 1) = B.take c ++ [0] := by
 rw [List.set_eq_take_append_cons_drop, if_pos h, List.take_append, List.length_take, Nat.min_eq_left (by omega), show c + 1 - c = 1 by omega, List.take_of_length_le (by simp; omega)]
 rfl
theorem set_drop (B : List Int) (c t : Nat) (h : c < t) : (B.set c 0).drop t = B.drop t := by
 rw [List.drop_set_of_lt h]
theorem isI_int (z : Int) : MV.isI .i64 (.int .i64 z) = true := rfl
theorem num_int (k : IntKind) (z : Int) : (MV.int k z).num = z := rfl
section
variable {H : AH} {i : Nat} {V : RV} {g : Nat → Rs}
theorem RIn.lo_ok (h : RIn H i V g) {n : Nat} (hn : n < 64) : AH.isRow H 2 (slcOf 2 (g n).e (g n).lo.length) = true ∧ (slcOf 2 (g n).e (g n).lo.length).len = (g n).lo.length ∧ ∀ j x, j < (g n).lo.length → x < 2 → AH.ok H (slcOf 2 (g n).e (g n).lo.length) (j * 2 + x) 1 = true ∧ AH.rd H (slcOf 2 (g n).e (g n).lo.length) (j * 2 + x) = (loM (g n).lo).getD (j * 2 + x) .nilp := by
 have he := h.rows.e n hn
 have hl := loM_len (g n).lo
 refine ⟨row_isRow he hl, row_len he hl (by decide), fun j x hj hx => ⟨row_ok he hl _ _ (by omega) (by decide), row_rd he _ (by omega)⟩⟩
theorem RIn.b_ok (h : RIn H i V g) {n : Nat} (hn : n < 64) : AH.isRow H 1 (slcOf 1 (g n).b (g n).B.length) = true ∧ (slcOf 1 (g n).b (g n).B.length).len = (g n).B.length ∧ AH.isInts H .u8 (slcOf 1 (g n).b (g n).B.length) = true ∧ AH.ints H (slcOf 1 (g n).b (g n).B.length) = (g n).B ∧ ∀ j, j < (g n).B.length → AH.ok H (slcOf 1 (g n).b (g n).B.length) (j * 1 + 0) 1 = true := by
 have hb := h.rows.b n hn
 have hl : ((g n).B.map (MV.int .u8)).length = (g n).B.length * 1 := by simp
 obtain ⟨e1, e2⟩ := row_ints hb
 refine ⟨row_isRow hb hl, row_len hb hl (by decide), e2, e1, fun j hj => row_ok hb hl _ _ (by simp; omega) (by decide)⟩
end
theorem r3_ok {keep : List Bool} {torn at_ : Int} {i n : Nat} (hn : n < 64) (k0 : Int) (jj : Nat) (to : Nat) : ∀ (m c fu : Nat) (H : AH) (V : RV) (g : Nat → Rs), c + m = to → m + 1 ≤ fu → RIn H i V g → to ≤ (g n).B.length → (g n).B.length < 1000000000 → jj < (g n).lo.length → (loM (g n).lo).getD (jj * 2 + 1) .nilp = .int .i64 (to : Int) →
  ∃ H', ref14_Disk_Crash_l3 (.ptr i 0) keep torn at_ (n : Int) k0 (jj : Int) fu H (c : Int) = some H' ∧ RIn H' i V (upG g n { g n with B := (g n).B.take c ++ (List.replicate m 0 ++ (g n).B.drop to) }) := by
 intro m
 induction m with
 | zero =>
  intro c fu H V g hc hfu h hto hB hj hlo
  obtain ⟨fu, rfl⟩ : ∃ f', fu = f' + 1 := ⟨fu - 1, by omega⟩
  obtain ⟨l1, l2, l3⟩ := h.lo_ok hn
  obtain ⟨a1, a2⟩ := l3 jj 1 hj (by omega)
  obtain ⟨a3, a4⟩ := l3 jj 0 hj (by omega)
  rw [hlo] at a2
  have c1 : (0 : Int) ≤ (jj : Int) ∧ (jj : Int) < (((g n).lo.length : Nat) : Int) := by omega
  refine ⟨H, ?_, ?_⟩
  ·rw [ref14_Disk_Crash_l3]
   simp only [Int.toNat_natCast, h.ok (n * 3 + 3) (by omega), h.ok (n * 3 + 5) (by omega), h.re n hn, l1, l2, a1, a2, a3, c1, MV.isI, MV.num, kc, Nat.beq_refl, and_self, if_true]
   rw [if_neg (by simp; omega)]
  ·obtain rfl : c = to := by omega
   rw [List.replicate_zero, List.nil_append, List.take_append_drop]
   rw [show upG g n { g n with B := (g n).B } = g from upG_id g n]
   exact h
 | succ m ih =>
  intro c fu H V g hc hfu h hto hB hj hlo
  obtain ⟨fu, rfl⟩ : ∃ f', fu = f' + 1 := ⟨fu - 1, by omega⟩
  obtain ⟨l1, l2, l3⟩ := h.lo_ok hn
  obtain ⟨a1, a2⟩ := l3 jj 1 hj (by omega)
  obtain ⟨a3, a4⟩ := l3 jj 0 hj (by omega)
  rw [hlo] at a2
  obtain ⟨b1, b2, _, _, b3⟩ := h.b_ok hn
  have b4 := b3 c (by omega)
  have c1 : (0 : Int) ≤ (jj : Int) ∧ (jj : Int) < (((g n).lo.length : Nat) : Int) := by omega
  have c2 : (0 : Int) ≤ (c : Int) ∧ (c : Int) < (((g n).B.length : Nat) : Int) := by omega
  have c3 : decide ((c : Int) < (to : Int)) = true := by simp; omega
  have w2 : IntKind.i64.wrap ((c : Int) + 1) = ((c + 1 : Nat) : Int) := by rw [wrap_i (by omega) (by omega)]; omega
  obtain ⟨r, hr⟩ : ∃ r, (g n).b = some r := by
   cases hb : (g n).b with
   | some r => exact ⟨r, rfl⟩
   | none =>
    have := h.rows.b n hn
    rw [hb] at this
    have : (g n).B.map (MV.int .u8) = [] := this
    have hl := congrArg List.length this
    rw [List.length_map, List.length_nil] at hl; omega
  have h1 := h.w_zero hn hr c (by omega)
  obtain ⟨H', e, h2⟩ := ih (c + 1) fu _ V _ (by omega) (by omega) h1 (by rw [upG_same]; simp; omega) (by rw [upG_same]; simp; omega) (by rw [upG_same]; exact hj) (by rw [upG_same]; exact hlo)
  refine ⟨H', ?_, ?_⟩
  ·rw [ref14_Disk_Crash_l3]
   have hs : slcOf 1 (g n).b (g n).B.length = .slc r 1 0 (g n).B.length := by rw [hr]; rfl
   simp only [Int.toNat_natCast, h.ok (n * 3 + 3) (by omega), h.ok (n * 3 + 5) (by omega), h.ok (n * 3 + 4) (by omega), h.re n hn, h.rb n hn, l1, l2, a1, a2, a3, c1, c2, c3, b1, b2, b4, MV.isI, MV.num, kc, Nat.beq_refl, and_self, if_true, w2, decide_true]
   rw [hs]
   exact e
  ·rw [upG_upG, upG_same] at h2
   simp only at h2
   rw [set_take _ _ (by omega), set_drop _ _ _ (by omega)] at h2
   rw [List.replicate_succ]
   simpa [List.append_assoc] using h2
theorem r1_ok {keep : List Bool} {torn at_ : Int} {i n : Nat} (hn : n < 64) (s0 : Nat) : ∀ (rs qs : List (List Int)) (D : List Int) (k fu : Nat) (H : AH) (V : RV) (g : Nat → Rs), rs.length + 1 ≤ fu → RIn H i V g → (g n).lo = looseOf s0 (qs ++ rs) → (g n).B = D ++ rs.flatten → D.length = s0 + qs.flatten.length → (g n).B.length ≤ 131072 → k + rs.length < 1000000000000 → qs.length + rs.length < 1000000000000 → 
  ∃ H', ref14_Disk_Crash_l1 (.ptr i 0) keep torn at_ (n : Int) fu H (k : Int) (qs.length : Int) = some (H', ((k + rs.length : Nat) : Int)) ∧ RIn H' i V (upG g n { g n with B := D ++ (tears keep torn at_ k rs).flatten }) := by
 intro rs
 induction rs with
 | nil =>
  intro qs D k fu H V g hfu h hlo hB hD hBl hk hq 
  obtain ⟨fu, rfl⟩ : ∃ f', fu = f' + 1 := ⟨fu - 1, by omega⟩
  obtain ⟨l1, l2, l3⟩ := h.lo_ok hn
  have hll : (g n).lo.length = qs.length := by rw [hlo, looseOf_len, List.append_nil]
  refine ⟨H, ?_, ?_⟩
  ·rw [ref14_Disk_Crash_l1]
   simp only [Int.toNat_natCast, h.ok (n * 3 + 3) (by omega), h.ok (n * 3 + 5) (by omega), h.re n hn, l1, l2, if_true]
   rw [if_neg (by simp; omega)]; rfl
  ·simp only [tears, List.flatten_nil, List.append_nil] at hB ⊢
   rw [← hB]
   rw [show upG g n { g n with B := (g n).B } = g from upG_id g n]
   exact h
 | cons p rs ih =>
  intro qs D k fu H V g hfu h hlo hB hD hBl hk hq 
  simp only [List.length_cons] at hfu hk hq
  obtain ⟨fu, rfl⟩ : ∃ f', fu = f' + 1 := ⟨fu - 1, by omega⟩
  obtain ⟨l1, l2, l3⟩ := h.lo_ok hn
  have hll : (g n).lo.length = qs.length + (rs.length + 1) := by rw [hlo, looseOf_len]; simp
  obtain ⟨g0, g1⟩ := loM_get s0 qs rs p
  rw [← hlo] at g0 g1
  obtain ⟨a1, a2⟩ := l3 qs.length 1 (by omega) (by omega)
  obtain ⟨a3, a4⟩ := l3 qs.length 0 (by omega) (by omega)
  rw [g1] at a2
  rw [Nat.add_zero] at a3 a4
  rw [g0] at a4
  have hBlen : (g n).B.length = D.length + p.length + rs.flatten.length := by rw [hB]; simp; omega
  have c1 : (0 : Int) ≤ (qs.length : Int) ∧ (qs.length : Int) < (((g n).lo.length : Nat) : Int) := by omega
  have c2 : decide ((qs.length : Int) < (((g n).lo.length : Nat) : Int)) = true := by simp; omega
  have w1 : IntKind.i64.wrap ((k : Int) + 1) = ((k + 1 : Nat) : Int) := by rw [wrap_i (by omega) (by omega)]; omega
  have w2 : IntKind.i64.wrap ((qs.length : Int) + 1) = ((qs ++ [p]).length : Int) := by rw [wrap_i (by omega) (by omega)]; simp
  have key : ∃ c, c ≤ p.length ∧ tear keep torn at_ k p = p.take c ++ List.replicate (p.length - c) 0 ∧
    (if ((k : Int) == torn) = true then if AH.ok H (slcOf 2 (g n).e (g n).lo.length) (qs.length * 2 + 1) 1 = true then if MV.isI .i64 (AH.rd H (slcOf 2 (g n).e (g n).lo.length) (qs.length * 2 + 1)) = true then some (if (MV.num (AH.rd H (slcOf 2 (g n).e (g n).lo.length) (qs.length * 2 + 1))) < (IntKind.i64.wrap ((MV.num (AH.rd H (slcOf 2 (g n).e (g n).lo.length) (qs.length * 2))) + (if (0 : Int) > (if (131072 : Int) < at_ then (131072 : Int) else at_) then (0 : Int) else (if (131072 : Int) < at_ then (131072 : Int) else at_)))) then (MV.num (AH.rd H (slcOf 2 (g n).e (g n).lo.length) (qs.length * 2 + 1))) else (IntKind.i64.wrap ((MV.num (AH.rd H (slcOf 2 (g n).e (g n).lo.length) (qs.length * 2))) + (if (0 : Int) > (if (131072 : Int) < at_ then (131072 : Int) else at_) then (0 : Int) else (if (131072 : Int) < at_ then (131072 : Int) else at_))))) else none else none else if (decide ((k : Int) < (↑(List.length keep) : Int))) = true then if 0 ≤ (k : Int) ∧ (k : Int) < ↑(List.length keep) then if (keep.getD k false) = true then if AH.ok H (slcOf 2 (g n).e (g n).lo.length) (qs.length * 2 + 1) 1 = true then if MV.isI .i64 (AH.rd H (slcOf 2 (g n).e (g n).lo.length) (qs.length * 2 + 1)) = true then some (MV.num (AH.rd H (slcOf 2 (g n).e (g n).lo.length) (qs.length * 2 + 1))) else none else none else some (MV.num (AH.rd H (slcOf 2 (g n).e (g n).lo.length) (qs.length * 2))) else none else some (MV.num (AH.rd H (slcOf 2 (g n).e (g n).lo.length) (qs.length * 2)))) = some ((D.length + c : Nat) : Int) := by
   have m1 : ∀ x : Int, (if (131072 : Int) < x then (131072 : Int) else x) = min x 131072 := fun x => by split <;> omega
   have m2 : ∀ x : Int, (if (0 : Int) > x then (0 : Int) else x) = max x 0 := fun x => by split <;> omega
   by_cases ht : (k : Int) = torn
   ·refine ⟨min at_.toNat p.length, by omega, ?_, ?_⟩
    ·simp only [tear, if_pos ht]
     congr 1
     ·rcases Nat.le_total at_.toNat p.length with h | h
      ·rw [Nat.min_eq_left h]
      ·rw [Nat.min_eq_right h, List.take_of_length_le h, List.take_of_length_le (Nat.le_refl _)]
     ·congr 1; omega
    ·have w3 : IntKind.i64.wrap (((s0 + qs.flatten.length : Nat) : Int) + max (min at_ 131072) 0) = ((s0 + qs.flatten.length : Nat) : Int) + max (min at_ 131072) 0 := wrap_i (by omega) (by omega)
     simp only [ht, beq_self_eq_true, if_true, a1, a2, a4, MV.isI, MV.num, kc, Nat.beq_refl, m1, m2, w3]
     congr 1
     split <;> omega
   ·have ht' : ((k : Int) == torn) = false := by simpa using ht
    by_cases hkp : keep.getD k false = true
    ·have hkl : k < keep.length := by
      rcases Nat.lt_or_ge k keep.length with h | h
      ·exact h
      ·rw [List.getD_eq_getElem?_getD, List.getElem?_eq_none h] at hkp; cases hkp
     refine ⟨p.length, by omega, by simp only [tear, if_neg ht, if_pos hkp]; simp, ?_⟩
     have c3 : decide ((k : Int) < (keep.length : Int)) = true := by simp; omega
     have c4 : (0 : Int) ≤ (k : Int) ∧ (k : Int) < (keep.length : Int) := by omega
     simp only [ht', c3, c4, decide_true, hkp, a1, a2, MV.isI, MV.num, kc, Nat.beq_refl, and_self, if_true, Bool.false_eq_true, if_false]
     rw [show s0 + qs.flatten.length + p.length = D.length + p.length by omega]
    ·refine ⟨0, by omega, by simp only [tear, if_neg ht, if_neg hkp]; simp, ?_⟩
     have hkf : keep.getD k false = false := by simpa using hkp
     by_cases hkl : k < keep.length
     ·have c3 : decide ((k : Int) < (keep.length : Int)) = true := by simp; omega
      have c4 : (0 : Int) ≤ (k : Int) ∧ (k : Int) < (keep.length : Int) := by omega
      simp only [ht', c3, c4, decide_true, hkf, a4, MV.num, and_self, if_true, Bool.false_eq_true, if_false]
      rw [show s0 + qs.flatten.length = D.length + 0 by omega]
     ·have c3 : decide ((k : Int) < (keep.length : Int)) = false := by simp; omega
      simp only [ht', c3, a4, MV.num, Bool.false_eq_true, if_false]
      rw [show s0 + qs.flatten.length = D.length + 0 by omega]
  obtain ⟨c, hc, htr, key⟩ := key
  have hto : s0 + qs.flatten.length + p.length = D.length + p.length := by omega
  obtain ⟨H1, e1, h1⟩ := r3_ok  (torn := torn) (at_ := at_) (keep := keep) hn (k : Int) qs.length (D.length + p.length) (p.length - c) (D.length + c) 200000 H V g (by omega) (by omega) h (by omega) (by omega) (by omega) (by rw [g1, hto])
  have hB1 : (g n).B.take (D.length + c) ++ (List.replicate (p.length - c) 0 ++ (g n).B.drop (D.length + p.length)) = (D ++ tear keep torn at_ k p) ++ rs.flatten := by
   rw [hB, htr]
   simp only [List.flatten_cons]
   rw [List.take_length_add_append, List.drop_length_add_append, List.take_append_of_le_length hc, List.drop_left]
   simp [List.append_assoc]
  rw [hB1] at h1
  obtain ⟨H2, e2, h2⟩ := ih (qs ++ [p]) (D ++ tear keep torn at_ k p) (k + 1) fu H1 V _ (by omega) h1 (by rw [upG_same]; simp only; rw [hlo]; simp) (by rw [upG_same]) (by rw [List.length_append, tear_len, hD]; simp; omega) (by rw [upG_same]; simp only [List.length_append, tear_len]; omega) (by omega) (by simp; omega) 
  refine ⟨H2, ?_, ?_⟩
  ·rw [ref14_Disk_Crash_l1]
   simp only [Int.toNat_natCast, h.ok (n * 3 + 3) (by omega), h.ok (n * 3 + 5) (by omega), h.re n hn, l1, l2, Nat.add_zero, a3, a4, c1, c2, decide_true, isI_int, num_int, and_self, if_true]
   simp only [a4, isI_int, num_int, Nat.add_zero, if_true] at key
   rw [key]
   refine (Option.bind_some _ _).trans ?_
   rw [e1]
   refine (Option.bind_some _ _).trans ?_
   rw [w1, w2, e2, show k + 1 + rs.length = k + (rs.length + 1) by omega]
   rfl
  ·rw [upG_upG, upG_same] at h2
   simpa [tears, List.append_assoc] using h2
theorem r3_a_ok {keep : List Bool} {torn at_ : Int} {i n : Nat} {x : Option Nat} (hn : n < 64) (k0 : Int) (jj : Nat) (to : Nat) : ∀ (m c fu : Nat) (H : AH) (V : RV) (g : Nat → Rs), c + m = to → m + 1 ≤ fu → RIn H i V g → to ≤ (g n).B.length → (g n).B.length < 1000000000 → jj < (g n).lo.length → (loM (g n).lo).getD (jj * 2 + 1) .nilp = .int .i64 (to : Int) →
  ∃ H', ref14_Disk_Crash_a_l3 (.ptr i 0) (slcOf 1 x keep.length) torn at_ (n : Int) k0 (jj : Int) fu H (c : Int) = some H' ∧ RIn H' i V (upG g n { g n with B := (g n).B.take c ++ (List.replicate m 0 ++ (g n).B.drop to) }) := by
 intro m
 induction m with
 | zero =>
  intro c fu H V g hc hfu h hto hB hj hlo
  obtain ⟨fu, rfl⟩ : ∃ f', fu = f' + 1 := ⟨fu - 1, by omega⟩
  obtain ⟨l1, l2, l3⟩ := h.lo_ok hn
  obtain ⟨a1, a2⟩ := l3 jj 1 hj (by omega)
  obtain ⟨a3, a4⟩ := l3 jj 0 hj (by omega)
  rw [hlo] at a2
  have c1 : (0 : Int) ≤ (jj : Int) ∧ (jj : Int) < (((g n).lo.length : Nat) : Int) := by omega
  refine ⟨H, ?_, ?_⟩
  ·rw [ref14_Disk_Crash_a_l3]
   simp only [Int.toNat_natCast, h.ok (n * 3 + 3) (by omega), h.ok (n * 3 + 5) (by omega), h.re n hn, l1, l2, a1, a2, a3, c1, MV.isI, MV.num, kc, Nat.beq_refl, and_self, if_true]
   rw [if_neg (by simp; omega)]
  ·obtain rfl : c = to := by omega
   rw [List.replicate_zero, List.nil_append, List.take_append_drop]
   rw [show upG g n { g n with B := (g n).B } = g from upG_id g n]
   exact h
 | succ m ih =>
  intro c fu H V g hc hfu h hto hB hj hlo
  obtain ⟨fu, rfl⟩ : ∃ f', fu = f' + 1 := ⟨fu - 1, by omega⟩
  obtain ⟨l1, l2, l3⟩ := h.lo_ok hn
  obtain ⟨a1, a2⟩ := l3 jj 1 hj (by omega)
  obtain ⟨a3, a4⟩ := l3 jj 0 hj (by omega)
  rw [hlo] at a2
  obtain ⟨b1, b2, _, _, b3⟩ := h.b_ok hn
  have b4 := b3 c (by omega)
  have c1 : (0 : Int) ≤ (jj : Int) ∧ (jj : Int) < (((g n).lo.length : Nat) : Int) := by omega
  have c2 : (0 : Int) ≤ (c : Int) ∧ (c : Int) < (((g n).B.length : Nat) : Int) := by omega
  have c3 : decide ((c : Int) < (to : Int)) = true := by simp; omega
  have w2 : IntKind.i64.wrap ((c : Int) + 1) = ((c + 1 : Nat) : Int) := by rw [wrap_i (by omega) (by omega)]; omega
  obtain ⟨r, hr⟩ : ∃ r, (g n).b = some r := by
   cases hb : (g n).b with
   | some r => exact ⟨r, rfl⟩
   | none =>
    have := h.rows.b n hn
    rw [hb] at this
    have : (g n).B.map (MV.int .u8) = [] := this
    have hl := congrArg List.length this
    rw [List.length_map, List.length_nil] at hl; omega
  have h1 := h.w_zero hn hr c (by omega)
  obtain ⟨H', e, h2⟩ := ih (c + 1) fu _ V _ (by omega) (by omega) h1 (by rw [upG_same]; simp; omega) (by rw [upG_same]; simp; omega) (by rw [upG_same]; exact hj) (by rw [upG_same]; exact hlo)
  refine ⟨H', ?_, ?_⟩
  ·rw [ref14_Disk_Crash_a_l3]
   have hs : slcOf 1 (g n).b (g n).B.length = .slc r 1 0 (g n).B.length := by rw [hr]; rfl
   simp only [Int.toNat_natCast, h.ok (n * 3 + 3) (by omega), h.ok (n * 3 + 5) (by omega), h.ok (n * 3 + 4) (by omega), h.re n hn, h.rb n hn, l1, l2, a1, a2, a3, c1, c2, c3, b1, b2, b4, MV.isI, MV.num, kc, Nat.beq_refl, and_self, if_true, w2, decide_true]
   rw [hs]
   exact e
  ·rw [upG_upG, upG_same] at h2
   simp only at h2
   rw [set_take _ _ (by omega), set_drop _ _ _ (by omega)] at h2
   rw [List.replicate_succ]
   simpa [List.append_assoc] using h2
theorem r1_a_ok {keep : List Bool} {torn at_ : Int} {i n : Nat} {x : Option Nat} (hn : n < 64) (s0 : Nat) : ∀ (rs qs : List (List Int)) (D : List Int) (k fu : Nat) (H : AH) (V : RV) (g : Nat → Rs), rs.length + 1 ≤ fu → RIn H i V g → (g n).lo = looseOf s0 (qs ++ rs) → (g n).B = D ++ rs.flatten → D.length = s0 + qs.flatten.length → (g n).B.length ≤ 131072 → k + rs.length < 1000000000000 → qs.length + rs.length < 1000000000000 → V.kx = x → V.keep = keep → 
  ∃ H', ref14_Disk_Crash_a_l1 (.ptr i 0) (slcOf 1 x keep.length) torn at_ (n : Int) fu H (k : Int) (qs.length : Int) = some (H', ((k + rs.length : Nat) : Int)) ∧ RIn H' i V (upG g n { g n with B := D ++ (tears keep torn at_ k rs).flatten }) := by
 intro rs
 induction rs with
 | nil =>
  intro qs D k fu H V g hfu h hlo hB hD hBl hk hq hx hkk
  obtain ⟨fu, rfl⟩ : ∃ f', fu = f' + 1 := ⟨fu - 1, by omega⟩
  obtain ⟨l1, l2, l3⟩ := h.lo_ok hn
  have hll : (g n).lo.length = qs.length := by rw [hlo, looseOf_len, List.append_nil]
  refine ⟨H, ?_, ?_⟩
  ·rw [ref14_Disk_Crash_a_l1]
   simp only [Int.toNat_natCast, h.ok (n * 3 + 3) (by omega), h.ok (n * 3 + 5) (by omega), h.re n hn, l1, l2, if_true]
   rw [if_neg (by simp; omega)]; rfl
  ·simp only [tears, List.flatten_nil, List.append_nil] at hB ⊢
   rw [← hB]
   rw [show upG g n { g n with B := (g n).B } = g from upG_id g n]
   exact h
 | cons p rs ih =>
  intro qs D k fu H V g hfu h hlo hB hD hBl hk hq hx hkk
  simp only [List.length_cons] at hfu hk hq
  obtain ⟨fu, rfl⟩ : ∃ f', fu = f' + 1 := ⟨fu - 1, by omega⟩
  obtain ⟨l1, l2, l3⟩ := h.lo_ok hn
  have hll : (g n).lo.length = qs.length + (rs.length + 1) := by rw [hlo, looseOf_len]; simp
  obtain ⟨g0, g1⟩ := loM_get s0 qs rs p
  rw [← hlo] at g0 g1
  obtain ⟨a1, a2⟩ := l3 qs.length 1 (by omega) (by omega)
  obtain ⟨a3, a4⟩ := l3 qs.length 0 (by omega) (by omega)
  rw [g1] at a2
  rw [Nat.add_zero] at a3 a4
  rw [g0] at a4
  have hBlen : (g n).B.length = D.length + p.length + rs.flatten.length := by rw [hB]; simp; omega
  have c1 : (0 : Int) ≤ (qs.length : Int) ∧ (qs.length : Int) < (((g n).lo.length : Nat) : Int) := by omega
  have c2 : decide ((qs.length : Int) < (((g n).lo.length : Nat) : Int)) = true := by simp; omega
  have w1 : IntKind.i64.wrap ((k : Int) + 1) = ((k + 1 : Nat) : Int) := by rw [wrap_i (by omega) (by omega)]; omega
  have w2 : IntKind.i64.wrap ((qs.length : Int) + 1) = ((qs ++ [p]).length : Int) := by rw [wrap_i (by omega) (by omega)]; simp
  have key : ∃ c, c ≤ p.length ∧ tear keep torn at_ k p = p.take c ++ List.replicate (p.length - c) 0 ∧
    (if ((k : Int) == torn) = true then if AH.ok H (slcOf 2 (g n).e (g n).lo.length) (qs.length * 2 + 1) 1 = true then if MV.isI .i64 (AH.rd H (slcOf 2 (g n).e (g n).lo.length) (qs.length * 2 + 1)) = true then some (if (MV.num (AH.rd H (slcOf 2 (g n).e (g n).lo.length) (qs.length * 2 + 1))) < (IntKind.i64.wrap ((MV.num (AH.rd H (slcOf 2 (g n).e (g n).lo.length) (qs.length * 2))) + (if (0 : Int) > (if (131072 : Int) < at_ then (131072 : Int) else at_) then (0 : Int) else (if (131072 : Int) < at_ then (131072 : Int) else at_)))) then (MV.num (AH.rd H (slcOf 2 (g n).e (g n).lo.length) (qs.length * 2 + 1))) else (IntKind.i64.wrap ((MV.num (AH.rd H (slcOf 2 (g n).e (g n).lo.length) (qs.length * 2))) + (if (0 : Int) > (if (131072 : Int) < at_ then (131072 : Int) else at_) then (0 : Int) else (if (131072 : Int) < at_ then (131072 : Int) else at_))))) else none else none else if AH.isRow H 1 (slcOf 1 x keep.length) = true then if (decide ((k : Int) < (↑(MV.len (slcOf 1 x keep.length)) : Int))) = true then if (0 ≤ (k : Int) ∧ (k : Int) < (↑(MV.len (slcOf 1 x keep.length)) : Int)) ∧ AH.isRow H 1 (slcOf 1 x keep.length) = true then if AH.ok H (slcOf 1 x keep.length) (k * 1 + 0) 1 = true then if MV.isB (AH.rd H (slcOf 1 x keep.length) (k * 1 + 0)) = true then if (MV.tr (AH.rd H (slcOf 1 x keep.length) (k * 1 + 0))) = true then if AH.ok H (slcOf 2 (g n).e (g n).lo.length) (qs.length * 2 + 1) 1 = true then if MV.isI .i64 (AH.rd H (slcOf 2 (g n).e (g n).lo.length) (qs.length * 2 + 1)) = true then some (MV.num (AH.rd H (slcOf 2 (g n).e (g n).lo.length) (qs.length * 2 + 1))) else none else none else some (MV.num (AH.rd H (slcOf 2 (g n).e (g n).lo.length) (qs.length * 2))) else none else none else none else some (MV.num (AH.rd H (slcOf 2 (g n).e (g n).lo.length) (qs.length * 2))) else none) = some ((D.length + c : Nat) : Int) := by
   have m1 : ∀ x : Int, (if (131072 : Int) < x then (131072 : Int) else x) = min x 131072 := fun x => by split <;> omega
   have m2 : ∀ x : Int, (if (0 : Int) > x then (0 : Int) else x) = max x 0 := fun x => by split <;> omega
   by_cases ht : (k : Int) = torn
   ·refine ⟨min at_.toNat p.length, by omega, ?_, ?_⟩
    ·simp only [tear, if_pos ht]
     congr 1
     ·rcases Nat.le_total at_.toNat p.length with h | h
      ·rw [Nat.min_eq_left h]
      ·rw [Nat.min_eq_right h, List.take_of_length_le h, List.take_of_length_le (Nat.le_refl _)]
     ·congr 1; omega
    ·have w3 : IntKind.i64.wrap (((s0 + qs.flatten.length : Nat) : Int) + max (min at_ 131072) 0) = ((s0 + qs.flatten.length : Nat) : Int) + max (min at_ 131072) 0 := wrap_i (by omega) (by omega)
     simp only [ht, beq_self_eq_true, if_true, a1, a2, a4, MV.isI, MV.num, kc, Nat.beq_refl, m1, m2, w3]
     congr 1
     split <;> omega
   ·have ht' : ((k : Int) == torn) = false := by simpa using ht
    by_cases hkp : keep.getD k false = true
    ·have hkl : k < keep.length := by
      rcases Nat.lt_or_ge k keep.length with h | h
      ·exact h
      ·rw [List.getD_eq_getElem?_getD, List.getElem?_eq_none h] at hkp; cases hkp
     refine ⟨p.length, by omega, by simp only [tear, if_neg ht, if_pos hkp]; simp, ?_⟩
     have c3 : decide ((k : Int) < (keep.length : Int)) = true := by simp; omega
     have c4 : (0 : Int) ≤ (k : Int) ∧ (k : Int) < (keep.length : Int) := by omega
     have hv := h.rows.k
     rw [hx, hkk] at hv
     obtain ⟨v1, v2, v3, v4⟩ := keepv_rd hv
     simp only [ht', v1, v2, v3 k hkl, v4 k hkl, c3, c4, decide_true, hkp, a1, a2, MV.isI, MV.isB, MV.tr, MV.num, kc, Nat.beq_refl, and_self, if_true, Bool.false_eq_true, if_false]
     rw [show s0 + qs.flatten.length + p.length = D.length + p.length by omega]
    ·refine ⟨0, by omega, by simp only [tear, if_neg ht, if_neg hkp]; simp, ?_⟩
     have hkf : keep.getD k false = false := by simpa using hkp
     by_cases hkl : k < keep.length
     ·have c3 : decide ((k : Int) < (keep.length : Int)) = true := by simp; omega
      have c4 : (0 : Int) ≤ (k : Int) ∧ (k : Int) < (keep.length : Int) := by omega
      have hv := h.rows.k
      rw [hx, hkk] at hv
      obtain ⟨v1, v2, v3, v4⟩ := keepv_rd hv
      simp only [ht', v1, v2, v3 k hkl, v4 k hkl, c3, c4, decide_true, hkf, a4, MV.isB, MV.tr, MV.num, and_self, if_true, Bool.false_eq_true, if_false]
      rw [show s0 + qs.flatten.length = D.length + 0 by omega]
     ·have c3 : decide ((k : Int) < (keep.length : Int)) = false := by simp; omega
      have hv := h.rows.k
      rw [hx, hkk] at hv
      obtain ⟨v1, v2, v3, v4⟩ := keepv_rd hv
      simp only [ht', v1, v2, c3, a4, MV.num, if_true, Bool.false_eq_true, if_false]
      rw [show s0 + qs.flatten.length = D.length + 0 by omega]
  obtain ⟨c, hc, htr, key⟩ := key
  have hto : s0 + qs.flatten.length + p.length = D.length + p.length := by omega
  obtain ⟨H1, e1, h1⟩ := r3_a_ok (x := x) (torn := torn) (at_ := at_) (keep := keep) hn (k : Int) qs.length (D.length + p.length) (p.length - c) (D.length + c) 200000 H V g (by omega) (by omega) h (by omega) (by omega) (by omega) (by rw [g1, hto])
  have hB1 : (g n).B.take (D.length + c) ++ (List.replicate (p.length - c) 0 ++ (g n).B.drop (D.length + p.length)) = (D ++ tear keep torn at_ k p) ++ rs.flatten := by
   rw [hB, htr]
   simp only [List.flatten_cons]
   rw [List.take_length_add_append, List.drop_length_add_append, List.take_append_of_le_length hc, List.drop_left]
   simp [List.append_assoc]
  rw [hB1] at h1
  obtain ⟨H2, e2, h2⟩ := ih (qs ++ [p]) (D ++ tear keep torn at_ k p) (k + 1) fu H1 V _ (by omega) h1 (by rw [upG_same]; simp only; rw [hlo]; simp) (by rw [upG_same]) (by rw [List.length_append, tear_len, hD]; simp; omega) (by rw [upG_same]; simp only [List.length_append, tear_len]; omega) (by omega) (by simp; omega) hx hkk
  refine ⟨H2, ?_, ?_⟩
  ·rw [ref14_Disk_Crash_a_l1]
   simp only [Int.toNat_natCast, h.ok (n * 3 + 3) (by omega), h.ok (n * 3 + 5) (by omega), h.re n hn, l1, l2, Nat.add_zero, a3, a4, c1, c2, decide_true, isI_int, num_int, and_self, if_true]
   simp only [a4, isI_int, num_int, Nat.add_zero, if_true] at key
   rw [key]
   refine (Option.bind_some _ _).trans ?_
   rw [e1]
   refine (Option.bind_some _ _).trans ?_
   rw [w1, w2, e2, show k + 1 + rs.length = k + (rs.length + 1) by omega]
   rfl
  ·rw [upG_upG, upG_same] at h2
   simpa [tears, List.append_assoc] using h2
end Go.Dk
/- The page's disk: a crash, all files; what it is as plain data. (Printed by mkDkRc.py.) -/
namespace Go.Dk
open Go Go.Gw Go.Proofs.Sd.D
set_option linter.unusedSimpArgs false
set_option linter.unusedVariables false
def F0 : Fl := ⟨[], []⟩
def getF (fs : List (Int × Fl)) (n : Int) : Fl := (getL fs n).getD F0
def Rel (g : Nat → Rs) (fs : List (Int × Fl)) : Prop := ∀ n : Nat, n < 64 → (g n).is = (getL fs n).isSome ∧ (g n).B = (getF fs n).all ∧ (g n).lo = looseOf (getF fs n).s.length (getF fs n).ps
theorem cnt_get {fs : List (Int × Fl)} (h : (fs.map (·.1)).Nodup) (n : Int) : cnt fs n = (getF fs n).ps.length := by
 induction fs with
 | nil => rfl
 | cons p fs ih =>
  simp only [List.map_cons, List.nodup_cons] at h
  have ih := ih h.2
  unfold cnt getF getL at ih ⊢
  simp only [List.filter_cons, List.find?_cons]
  by_cases hp : p.1 = n
  ·have hb : (p.1 == n) = true := by simpa using hp
   have : fs.filter (fun p => p.1 == n) = [] := by
    rw [List.filter_eq_nil_iff]
    intro q hq
    simp only [beq_iff_eq]
    intro e
    exact h.1 (by rw [hp, ← e]; exact List.mem_map.2 ⟨q, hq, rfl⟩)
   simp [hb, this]
  ·have hb : (p.1 == n) = false := by simpa using hp
   simp only [hb, Bool.false_eq_true, if_false]
   exact ih
theorem getF_mem {fs : List (Int × Fl)} {n : Int} {P : Fl → Prop} (h0 : P F0) (h : ∀ p ∈ fs, P p.2) : P (getF fs n) := by
 unfold getF
 cases hg : getL fs n with
 | none => exact h0
 | some f => exact h _ (getL_some hg)
def crashAt (keep : List Bool) (torn at_ : Int) (n : Int) (k : Nat) (fs : List (Int × Fl)) : List (Int × Fl) := fs.map fun p => if p.1 = n then (n, p.2.crash keep torn at_ k) else p
theorem crashAt_keys (keep : List Bool) (torn at_ : Int) (n : Int) (k : Nat) (fs : List (Int × Fl)) : (crashAt keep torn at_ n k fs).map (·.1) = fs.map (·.1) := by
 unfold crashAt
 rw [List.map_map]
 refine List.map_congr_left fun p _ => ?_
 simp only [Function.comp_apply]; split <;> simp_all
theorem crashAt_get (keep : List Bool) (torn at_ : Int) (n m : Int) (k : Nat) (fs : List (Int × Fl)) : getL (crashAt keep torn at_ n k fs) m = if m = n then (getL fs m).map (Fl.crash keep torn at_ k) else getL fs m := getL_mapIf fs n m _
theorem crashF_filter (keep : List Bool) (torn at_ : Int) (ns : List Int) : ∀ (k : Nat) (fs fs0 : List (Int × Fl)), (fs.map (·.1)).Nodup → (∀ n, (getL fs n).isSome = (getL fs0 n).isSome) → crashF keep torn at_ (ns.filter fun n => (getL fs0 n).isSome) k fs = crashF keep torn at_ ns k fs := by
 induction ns with
 | nil => intro k fs fs0 _ _; rfl
 | cons n ns ih =>
  intro k fs fs0 hn h
  rw [List.filter_cons]
  have hk : ((crashAt keep torn at_ n k fs).map (·.1)).Nodup := by rw [crashAt_keys]; exact hn
  have hpr : ∀ m, (getL (crashAt keep torn at_ n k fs) m).isSome = (getL fs0 m).isSome := fun m => by
   rw [crashAt_get, ← h m]
   split
   ·simp
   ·rfl
  cases hg : (getL fs0 n).isSome with
  | true =>
   simp only [if_true]
   rw [crashF, crashF]
   exact ih _ _ fs0 hk hpr
  | false =>
   simp only [Bool.false_eq_true, if_false]
   have hnone : getL fs n = none := by
    have := h n
    rw [hg] at this
    simpa using this
   have hid : (fs.map fun p => if p.1 = n then (n, p.2.crash keep torn at_ k) else p) = fs := by
    refine (List.map_congr_left fun p hp => ?_).trans (List.map_id fs)
    rw [if_neg]; rfl
    rintro rfl
    exact getL_none hnone (List.mem_map.2 ⟨p, hp, rfl⟩)
   rw [ih k fs fs0 hn h, crashF, hid, cnt_get hn]
   unfold getF
   rw [hnone]
   rfl
def all64 : List Int := (List.range 64).map fun n => ((n : Nat) : Int)
theorem crashF_all {c : Nat} {A : Dk} (h : Good c A) (keep : List Bool) (torn at_ : Int) : crashF keep torn at_ (keysS A.fs) 0 A.fs = crashF keep torn at_ all64 0 A.fs := by
 rw [keysS_eq h.nd h.rg]
 exact crashF_filter keep torn at_ all64 0 A.fs A.fs h.nd fun _ => rfl
def ArmRel (V : RV) : Option (Int × List Bool × Int × Int) → Prop
 | none => V.armed = 0
 | some (n, keep, torn, at_) => V.armed = n ∧ 1 ≤ n ∧ n < 9223372036854775808 ∧ V.keep = keep ∧ V.torn = torn ∧ V.at_ = at_
structure RefV (c : Nat) (H : AH) (i : Nat) (V : RV) (g : Nat → Rs) (A : Dk) : Prop where
 r : RIn H i V g
 lim : V.lim = A.lim
 off : V.off = A.off
 life : V.life = A.life
 rel : Rel g A.fs
 arm : ArmRel V A.arm
 good : Good c A
 c : c ≤ 1000
def RefS (c : Nat) (H : AH) (i : Nat) (A : Dk) : Prop := ∃ V g, RefV c H i V g A
theorem r0_ok {keep : List Bool} {torn at_ : Int} {i : Nat} : ∀ (j x k : Nat) (H : AH) (V : RV) (g : Nat → Rs) (fs : List (Int × Fl)), x + j = 64 → RIn H i V g → Rel g fs → (fs.map (·.1)).Nodup → (∀ p ∈ fs, p.2.ps.length ≤ 1000 ∧ p.2.all.length ≤ 131072) → k ≤ x * 1000 → 
  ∃ H' g', ref14_Disk_Crash_l0 (.ptr i 0) keep torn at_ (j + 1) H (k : Int) (x : Int) = some H' ∧ RIn H' i V g' ∧ Rel g' (crashF keep torn at_ ((List.range' x j).map fun n => ((n : Nat) : Int)) k fs) := by
 intro j
 induction j with
 | zero =>
  intro x k H V g fs hx h hr hn hb hk 
  refine ⟨H, g, ?_, h, hr⟩
  rw [ref14_Disk_Crash_l0, if_neg (by simp; omega)]
 | succ j ih =>
  intro x k H V g fs hx h hr hn hb hk 
  obtain ⟨r1, r2, r3⟩ := hr x (by omega)
  have hF : (getF fs x).ps.length ≤ 1000 ∧ (getF fs x).all.length ≤ 131072 := getF_mem (P := fun f => f.ps.length ≤ 1000 ∧ f.all.length ≤ 131072) (by simp [F0, Fl.all]) hb
  obtain ⟨H1, e1, h1⟩ := r1_ok  (keep := keep) (torn := torn) (at_ := at_) (show x < 64 by omega) (getF fs x).s.length (getF fs x).ps [] (getF fs x).s k 100000 H V g (by omega) h (by rw [r3]; rfl) (by rw [r2]; rfl) (by simp) (by rw [r2]; exact hF.2) (by omega) (by simp; omega) 
  have h2 := h1.w_nolo (show x < 64 by omega)
  rw [upG_upG, upG_same] at h2
  simp only at h2
  have hrel : Rel (upG g x { g x with B := (getF fs x).s ++ (tears keep torn at_ k (getF fs x).ps).flatten, e := none, lo := [] }) (crashAt keep torn at_ (x : Int) k fs) := by
   intro m hm
   by_cases hmx : m = x
   ·subst hmx
    rw [upG_same]
    simp only [getF, crashAt_get, if_true]
    cases hg : getL fs (m : Int) with
    | none =>
     rw [hg] at r1
     exact ⟨r1, rfl, rfl⟩
    | some F =>
     rw [hg] at r1
     exact ⟨r1, by simp [Fl.crash, Fl.all], rfl⟩
   ·rw [upG_ne _ _ hmx]
    have : getL (crashAt keep torn at_ (x : Int) k fs) (m : Int) = getL fs (m : Int) := by rw [crashAt_get, if_neg (by omega)]
    simp only [getF, this]
    exact hr m hm
  obtain ⟨H3, g3, e3, h3, q3⟩ := ih (x + 1) (k + (getF fs x).ps.length) _ V _ (crashAt keep torn at_ (x : Int) k fs) (by omega) h2 hrel (by rw [crashAt_keys]; exact hn) (fun p hp => by
   obtain ⟨q, hq, rfl⟩ := List.mem_map.1 hp
   split
   ·refine ⟨by simp [Fl.crash], ?_⟩
    simp only [crash_len]
    exact (hb q hq).2
   ·exact hb q hq) (by omega) 
  refine ⟨H3, g3, ?_, h3, ?_⟩
  ·have c1 : decide ((x : Int) < 64) = true := by simp; omega
   have c2 : (0 : Int) ≤ (x : Int) ∧ (x : Int) < ((64 : Nat) : Int) := by omega
   have w1 : IntKind.i64.wrap ((x : Int) + 1) = ((x + 1 : Nat) : Int) := by rw [wrap_i (by omega) (by omega)]; omega
   have e1 : ref14_Disk_Crash_l1 (.ptr i 0) keep torn at_ (x : Int) 100000 H (k : Int) 0 = _ := e1
   rw [ref14_Disk_Crash_l0]
   simp only [c1, c2, MV.isP, h.ok 0 (by omega), h.ok 3 (by omega), and_self, if_true, e1, Option.bind_some, Int.toNat_natCast, h1.ok (x * 3 + 3) (by omega), h1.ok (x * 3 + 5) (by omega), w1]
   exact e3
  ·rw [List.range'_succ, List.map_cons, crashF, cnt_get hn]
   exact q3
theorem rcrash_ok {c : Nat} {H : AH} {i : Nat} {V : RV} {g : Nat → Rs} {A : Dk} (h : RefV c H i V g A) (keep : List Bool) (torn at_ : Int) : ∃ H', ref14_Disk_Crash H (.ptr i 0) keep torn at_ = some H' ∧ RefS c H' i (A.crash keep torn at_) := by
 have hg := h.good
 by_cases ho : A.off = true
 ·refine ⟨H, ?_, V, g, ?_⟩
  ·simp only [ref14_Disk_Crash, MV.isP, h.r.ok 0 (by omega), h.r.ok 1 (by omega), h.r.r1, h.off, ho, MV.isB, MV.tr, and_self, if_true]
  ·rw [Dk.crash, if_pos ho]; exact h
 ·have ho : A.off = false := by simpa using ho
  have a1 := h.r.w_off true
  have a2 := a1.w_armed 0
  have a3 := a2.w_life (IntKind.i64.wrap (A.life + 1))
  obtain ⟨H', g', e, h', q⟩ := r0_ok (keep := keep) (torn := torn) (at_ := at_)  64 0 0 _ _ g A.fs (by omega) a3 h.rel hg.nd (fun p hp => by
   have h1 := hg.ps p hp
   have h2 := used_mem (n := p.1) (f := p.2) hp
   have h3 := hg.us
   have h4 := hg.lim
   have h5 := h.c
   omega) (by omega) 
  refine ⟨H', ?_, { V with off := true, armed := 0, life := IntKind.i64.wrap (A.life + 1) }, g', h', ?_, ?_, ?_, ?_, ?_, good_crash hg keep torn at_, h.c⟩
  ·have e : ref14_Disk_Crash_l0 (.ptr i 0) keep torn at_ 65 _ 0 0 = some H' := e
   simp only [ref14_Disk_Crash, MV.isP, h.r.ok 0 (by omega), h.r.ok 1 (by omega), h.r.ok 2 (by omega), h.r.r1, h.r.r2, h.off, ho, h.life, MV.isB, MV.tr, isI_int, num_int, a1.ok 0 (by omega), a1.ok 195 (by omega), a2.ok 0 (by omega), a2.ok 2 (by omega), and_self, if_true, if_false, Bool.false_eq_true, e, Option.bind_some]
  ·rw [Dk.crash, if_neg (by simp [ho])]; exact h.lim
  ·rw [Dk.crash, if_neg (by simp [ho])]
  ·rw [Dk.crash, if_neg (by simp [ho])]
  ·rw [Dk.crash, if_neg (by simp [ho])]
   simp only
   rw [crashF_all hg]
   exact q
  ·rw [Dk.crash, if_neg (by simp [ho])]; rfl
theorem r0_a_ok {keep : List Bool} {torn at_ : Int} {i : Nat} {x0 : Option Nat} : ∀ (j x k : Nat) (H : AH) (V : RV) (g : Nat → Rs) (fs : List (Int × Fl)), x + j = 64 → RIn H i V g → Rel g fs → (fs.map (·.1)).Nodup → (∀ p ∈ fs, p.2.ps.length ≤ 1000 ∧ p.2.all.length ≤ 131072) → k ≤ x * 1000 → V.kx = x0 → V.keep = keep → 
  ∃ H' g', ref14_Disk_Crash_a_l0 (.ptr i 0) (slcOf 1 x0 keep.length) torn at_ (j + 1) H (k : Int) (x : Int) = some H' ∧ RIn H' i V g' ∧ Rel g' (crashF keep torn at_ ((List.range' x j).map fun n => ((n : Nat) : Int)) k fs) := by
 intro j
 induction j with
 | zero =>
  intro x k H V g fs hx h hr hn hb hk hx0 hkk
  refine ⟨H, g, ?_, h, hr⟩
  rw [ref14_Disk_Crash_a_l0, if_neg (by simp; omega)]
 | succ j ih =>
  intro x k H V g fs hx h hr hn hb hk hx0 hkk
  obtain ⟨r1, r2, r3⟩ := hr x (by omega)
  have hF : (getF fs x).ps.length ≤ 1000 ∧ (getF fs x).all.length ≤ 131072 := getF_mem (P := fun f => f.ps.length ≤ 1000 ∧ f.all.length ≤ 131072) (by simp [F0, Fl.all]) hb
  obtain ⟨H1, e1, h1⟩ := r1_a_ok (x := x0) (keep := keep) (torn := torn) (at_ := at_) (show x < 64 by omega) (getF fs x).s.length (getF fs x).ps [] (getF fs x).s k 100000 H V g (by omega) h (by rw [r3]; rfl) (by rw [r2]; rfl) (by simp) (by rw [r2]; exact hF.2) (by omega) (by simp; omega) hx0 hkk
  have h2 := h1.w_nolo (show x < 64 by omega)
  rw [upG_upG, upG_same] at h2
  simp only at h2
  have hrel : Rel (upG g x { g x with B := (getF fs x).s ++ (tears keep torn at_ k (getF fs x).ps).flatten, e := none, lo := [] }) (crashAt keep torn at_ (x : Int) k fs) := by
   intro m hm
   by_cases hmx : m = x
   ·subst hmx
    rw [upG_same]
    simp only [getF, crashAt_get, if_true]
    cases hg : getL fs (m : Int) with
    | none =>
     rw [hg] at r1
     exact ⟨r1, rfl, rfl⟩
    | some F =>
     rw [hg] at r1
     exact ⟨r1, by simp [Fl.crash, Fl.all], rfl⟩
   ·rw [upG_ne _ _ hmx]
    have : getL (crashAt keep torn at_ (x : Int) k fs) (m : Int) = getL fs (m : Int) := by rw [crashAt_get, if_neg (by omega)]
    simp only [getF, this]
    exact hr m hm
  obtain ⟨H3, g3, e3, h3, q3⟩ := ih (x + 1) (k + (getF fs x).ps.length) _ V _ (crashAt keep torn at_ (x : Int) k fs) (by omega) h2 hrel (by rw [crashAt_keys]; exact hn) (fun p hp => by
   obtain ⟨q, hq, rfl⟩ := List.mem_map.1 hp
   split
   ·refine ⟨by simp [Fl.crash], ?_⟩
    simp only [crash_len]
    exact (hb q hq).2
   ·exact hb q hq) (by omega) hx0 hkk
  refine ⟨H3, g3, ?_, h3, ?_⟩
  ·have c1 : decide ((x : Int) < 64) = true := by simp; omega
   have c2 : (0 : Int) ≤ (x : Int) ∧ (x : Int) < ((64 : Nat) : Int) := by omega
   have w1 : IntKind.i64.wrap ((x : Int) + 1) = ((x + 1 : Nat) : Int) := by rw [wrap_i (by omega) (by omega)]; omega
   have e1 : ref14_Disk_Crash_a_l1 (.ptr i 0) (slcOf 1 x0 keep.length) torn at_ (x : Int) 100000 H (k : Int) 0 = _ := e1
   rw [ref14_Disk_Crash_a_l0]
   simp only [c1, c2, MV.isP, h.ok 0 (by omega), h.ok 3 (by omega), and_self, if_true, e1, Option.bind_some, Int.toNat_natCast, h1.ok (x * 3 + 3) (by omega), h1.ok (x * 3 + 5) (by omega), w1]
   exact e3
  ·rw [List.range'_succ, List.map_cons, crashF, cnt_get hn]
   exact q3
theorem rcrash_a_ok {c : Nat} {H : AH} {i : Nat} {V : RV} {g : Nat → Rs} {A : Dk} (h : RefV c H i V g A) (keep : List Bool) (torn at_ : Int) (hkk : V.keep = keep) : ∃ H', ref14_Disk_Crash_a H (.ptr i 0) (slcOf 1 V.kx keep.length) torn at_ = some H' ∧ RefS c H' i (A.crash keep torn at_) := by
 have hg := h.good
 by_cases ho : A.off = true
 ·refine ⟨H, ?_, V, g, ?_⟩
  ·simp only [ref14_Disk_Crash_a, MV.isP, h.r.ok 0 (by omega), h.r.ok 1 (by omega), h.r.r1, h.off, ho, MV.isB, MV.tr, and_self, if_true]
  ·rw [Dk.crash, if_pos ho]; exact h
 ·have ho : A.off = false := by simpa using ho
  have a1 := h.r.w_off true
  have a2 := a1.w_armed 0
  have a3 := a2.w_life (IntKind.i64.wrap (A.life + 1))
  obtain ⟨H', g', e, h', q⟩ := r0_a_ok (keep := keep) (torn := torn) (at_ := at_) (x0 := V.kx) 64 0 0 _ _ g A.fs (by omega) a3 h.rel hg.nd (fun p hp => by
   have h1 := hg.ps p hp
   have h2 := used_mem (n := p.1) (f := p.2) hp
   have h3 := hg.us
   have h4 := hg.lim
   have h5 := h.c
   omega) (by omega) rfl hkk
  refine ⟨H', ?_, { V with off := true, armed := 0, life := IntKind.i64.wrap (A.life + 1) }, g', h', ?_, ?_, ?_, ?_, ?_, good_crash hg keep torn at_, h.c⟩
  ·have e : ref14_Disk_Crash_a_l0 (.ptr i 0) (slcOf 1 V.kx keep.length) torn at_ 65 _ 0 0 = some H' := e
   simp only [ref14_Disk_Crash_a, MV.isP, h.r.ok 0 (by omega), h.r.ok 1 (by omega), h.r.ok 2 (by omega), h.r.r1, h.r.r2, h.off, ho, h.life, MV.isB, MV.tr, isI_int, num_int, a1.ok 0 (by omega), a1.ok 195 (by omega), a2.ok 0 (by omega), a2.ok 2 (by omega), and_self, if_true, if_false, Bool.false_eq_true, e, Option.bind_some]
  ·rw [Dk.crash, if_neg (by simp [ho])]; exact h.lim
  ·rw [Dk.crash, if_neg (by simp [ho])]
  ·rw [Dk.crash, if_neg (by simp [ho])]
  ·rw [Dk.crash, if_neg (by simp [ho])]
   simp only
   rw [crashF_all hg]
   exact q
  ·rw [Dk.crash, if_neg (by simp [ho])]; rfl
end Go.Dk
/- The page's disk: each of its functions does what is said of plain data. -/
namespace Go.Dk
open Go Go.Gw Go.Proofs.Sd.D
set_option linter.unusedSimpArgs false
set_option linter.unusedVariables false
section
variable {c : Nat} {H : AH} {i : Nat} {V : RV} {g : Nat → Rs} {A : Dk}
theorem in_ok (n : Int) (a b : Int) : ref14_in n a b = some (decide (a ≤ n ∧ n ≤ b)) := by
 unfold ref14_in
 by_cases h : n ≥ a
 ·rw [if_pos (by simpa using h)]
  congr 1
  rw [decide_eq_decide]; omega
 ·rw [if_neg (by simpa using h), decide_eq_false (by omega)]
theorem RefV.get_rg (h : RefV c H i V g A) {n : Int} {F : Fl} (hg : getL A.fs n = some F) : 0 ≤ n ∧ n < 64 := h.good.rg n (getL_isSome.1 (by rw [hg]; rfl))
theorem RefV.file (h : RefV c H i V g A) {n : Int} {F : Fl} (hg : getL A.fs n = some F) : (g n.toNat).is = true ∧ (g n.toNat).B = F.all ∧ (g n.toNat).lo = looseOf F.s.length F.ps ∧ n.toNat < 64 ∧ ((n.toNat : Nat) : Int) = n := by
 obtain ⟨r1, r2⟩ := h.get_rg hg
 have e : ((n.toNat : Nat) : Int) = n := by omega
 obtain ⟨a, b, d⟩ := h.rel n.toNat (by omega)
 rw [e] at a b d
 unfold getF at b d
 rw [hg] at a b d
 exact ⟨a, b, d, by omega, e⟩
theorem is_ok (h : RefV c H i V g A) (n : Int) : ref14_Disk_is H (.ptr i 0) n = some (getL A.fs n).isSome := by
 unfold ref14_Disk_is
 rw [in_ok]
 by_cases hn : 0 ≤ n ∧ n < 64
 ·obtain ⟨a, _, _⟩ := h.rel n.toNat (by omega)
  rw [show ((n.toNat : Nat) : Int) = n by omega] at a
  have c1 : (0 : Int) ≤ n ∧ n ≤ 63 := by omega
  have c2 : (0 : Int) ≤ n ∧ n < ((64 : Nat) : Int) := by omega
  simp only [c1, and_self, decide_true, Option.bind_some, if_true, MV.isP, h.r.ok 0 (by omega), c2, h.r.ok 3 (by omega), h.r.ok (n.toNat * 3 + 3) (by omega), h.r.ri n.toNat (by omega), MV.isB, MV.tr, a]
 ·rw [decide_eq_false (by omega)]
  have : getL A.fs n = none := by
   cases hg : getL A.fs n with
   | none => rfl
   | some F => exact absurd (h.get_rg hg) hn
  rw [this]; rfl
theorem rread_ok (h : RefV c H i V g A) (n : Int) : ref14_Disk_Read H (.ptr i 0) n = some (A.read n) := by
 unfold ref14_Disk_Read Dk.read
 by_cases ho : A.off = true
 ·simp only [MV.isP, h.r.ok 0 (by omega), h.r.ok 1 (by omega), h.r.r1, h.off, ho, MV.isB, MV.tr, and_self, if_true]
 ·have ho : A.off = false := by simpa using ho
  simp only [MV.isP, h.r.ok 0 (by omega), h.r.ok 1 (by omega), h.r.r1, h.off, ho, MV.isB, MV.tr, and_self, if_true, Bool.false_eq_true, if_false, is_ok h n, Option.bind_some]
  cases hg : getL A.fs n with
  | none => rfl
  | some F =>
   obtain ⟨a, b, d, hn, e⟩ := h.file hg
   obtain ⟨r1, r2⟩ := h.get_rg hg
   have c2 : (0 : Int) ≤ n ∧ n < ((64 : Nat) : Int) := by omega
   obtain ⟨b1, b2, b3, b4, _⟩ := h.r.b_ok hn
   have hl := used_mem (getL_some hg)
   have h1 := h.good.us
   have h2 := h.good.lim
   rw [b] at b3 b4
   have hrb := h.r.rb n.toNat hn
   rw [b] at hrb
   simp only [Option.isSome_some, Bool.not_true, Bool.false_eq_true, if_false, c2, h.r.ok 3 (by omega), h.r.ok (n.toNat * 3 + 3) (by omega), h.r.ok (n.toNat * 3 + 4) (by omega), hrb, b3, b4, and_self, if_true, twin_ok F.all (by omega), Option.bind_some]
theorem rsize_ok (h : RefV c H i V g A) (n : Int) : ref14_Disk_Size H (.ptr i 0) n = some (A.size n) := by
 unfold ref14_Disk_Size Dk.size
 rw [is_ok h n]
 cases hg : getL A.fs n with
 | none => rfl
 | some F =>
  obtain ⟨a, b, d, hn, e⟩ := h.file hg
  obtain ⟨r1, r2⟩ := h.get_rg hg
  have c2 : (0 : Int) ≤ n ∧ n < ((64 : Nat) : Int) := by omega
  obtain ⟨b1, b2, b3, b4, _⟩ := h.r.b_ok hn
  rw [b] at b1 b2
  have hrb := h.r.rb n.toNat hn
  rw [b] at hrb
  simp only [Option.bind_some, Option.isSome_some, Bool.not_true, Bool.false_eq_true, if_false, MV.isP, h.r.ok 0 (by omega), c2, h.r.ok 3 (by omega), h.r.ok (n.toNat * 3 + 3) (by omega), h.r.ok (n.toNat * 3 + 4) (by omega), hrb, b1, b2, and_self, if_true]
theorem rfiles_l0 (h : RefV c H i V g A) : ∀ (j x : Nat), x + j = 64 →
  ref14_Disk_Files_l0 H (.ptr i 0) (j + 1) (((List.range x).map fun n => ((n : Nat) : Int)).filter fun n => (getL A.fs n).isSome) (x : Int) = some (all64.filter fun n => (getL A.fs n).isSome) := by
 intro j
 induction j with
 | zero =>
  intro x hx
  obtain rfl : x = 64 := by omega
  rw [ref14_Disk_Files_l0, if_neg (by simp)]; rfl
 | succ j ih =>
  intro x hx
  obtain ⟨a, _, _⟩ := h.rel x (by omega)
  have w2 : IntKind.i64.wrap ((x : Int) + 1) = ((x + 1 : Nat) : Int) := by rw [wrap_i (by omega) (by omega)]; omega
  have c1 : decide ((x : Int) < 64) = true := by simp; omega
  have c4 : (0 : Int) ≤ (x : Int) ∧ (x : Int) < ((64 : Nat) : Int) := by omega
  have h1 := ih (x + 1) (by omega)
  rw [List.range_succ, List.map_append, List.filter_append] at h1
  have hlen : ((((List.range x).map fun n => ((n : Nat) : Int)).filter fun n => (getL A.fs n).isSome) ++ [(x : Int)]).length ≤ maxN := by
   have := List.length_filter_le (fun n : Int => (getL A.fs n).isSome) ((List.range x).map fun n => ((n : Nat) : Int))
   simp only [List.length_map, List.length_range] at this
   rw [List.length_append]
   unfold maxN; simp only [List.length_cons, List.length_nil]; omega
  rw [ref14_Disk_Files_l0]
  cases hb : (getL A.fs (x : Int)).isSome with
  | true =>
   rw [hb] at a
   simp only [List.map_cons, List.map_nil, List.filter_cons, hb, if_true, List.filter_nil] at h1
   simp only [c1, c4, MV.isP, h.r.ok 0 (by omega), h.r.ok 3 (by omega), Int.toNat_natCast, h.r.ok (x * 3 + 3) (by omega), h.r.ri x (by omega), a, MV.isB, MV.tr, and_self, if_true, hlen, Option.bind_some, w2]
   exact h1
  | false =>
   rw [hb] at a
   simp only [List.map_cons, List.map_nil, List.filter_cons, hb, Bool.false_eq_true, if_false, List.filter_nil, List.append_nil] at h1
   simp only [c1, c4, MV.isP, h.r.ok 0 (by omega), h.r.ok 3 (by omega), Int.toNat_natCast, h.r.ok (x * 3 + 3) (by omega), h.r.ri x (by omega), a, MV.isB, MV.tr, and_self, if_true, Bool.false_eq_true, if_false, Option.bind_some, w2]
   exact h1
theorem rfiles_ok (h : RefV c H i V g A) : ref14_Disk_Files H (.ptr i 0) = some (keysS A.fs) := by
 have e := rfiles_l0 h 64 0 (by omega)
 have e : ref14_Disk_Files_l0 H (.ptr i 0) (((64 : Int) - (0 : Int)).toNat + 1) [] (0 : Int) = _ := e
 unfold ref14_Disk_Files
 rw [e, keysS_eq h.good.nd h.good.rg]; rfl
theorem rspend_ok (h : RefV c H i V g A) (ho : A.off = false) : ∃ H', ref14_Disk_spend H (.ptr i 0) = some ((A.spend.1 == 0), H') ∧ RefS c H' i A.spend.2 := by
 have ha := h.arm
 unfold Dk.spend
 cases hr : A.arm with
 | none =>
  rw [hr] at ha
  have ha : V.armed = 0 := ha
  refine ⟨H, ?_, V, g, h⟩
  simp only [ref14_Disk_spend, MV.isP, h.r.ok 0 (by omega), h.r.ok 195 (by omega), h.r.ra, ha, isI_int, num_int, and_self, if_true, show decide ((0 : Int) > 0) = false from rfl, Bool.false_eq_true, if_false]
  rfl
 | some q =>
  obtain ⟨n, keep, torn, at_⟩ := q
  rw [hr] at ha
  obtain ⟨a1, a2, a3, a4, a5, a6⟩ := ha
  have w : IntKind.i64.wrap (n - 1) = n - 1 := wrap_i (by omega) (by omega)
  have c1 : decide (n > 0) = true := by simp; omega
  have h1 := h.r.w_armed (n - 1)
  simp only [w]
  by_cases hn : n - 1 > 0
  ·have c2 : (n - 1 == 0) = false := by simp; omega
   simp only [if_pos hn]
   refine ⟨_, ?_, { V with armed := n - 1 }, g, h1, h.lim, h.off, h.life, h.rel, ⟨rfl, by omega, by omega, a4, a5, a6⟩, good_arm h.good _, h.c⟩
   ·simp only [ref14_Disk_spend, MV.isP, h.r.ok 0 (by omega), h.r.ok 195 (by omega), h.r.ra, a1, isI_int, num_int, and_self, if_true, c1, w, h1.ok 0 (by omega), h1.ok 195 (by omega), h1.ra, c2, Bool.false_eq_true, if_false, hn]
    rfl
  ·have c2 : (n - 1 == 0) = true := by simp; omega
   have hV : RefV c (AH.wr H (.ptr i 0) 195 [.int .i64 (n - 1)]) i { V with armed := n - 1 } g { A with arm := none } :=
    ⟨h1, h.lim, h.off, h.life, h.rel, by show n - 1 = 0; omega, good_arm h.good _, h.c⟩
   obtain ⟨H', e, h'⟩ := rcrash_a_ok hV keep torn at_ a4
   refine ⟨H', ?_, ?_⟩
   ·have hk := h1.rk
    simp only [a4] at hk
    have e : ref14_Disk_Crash_a (AH.wr H (.ptr i 0) 195 [.int .i64 (n - 1)]) (.ptr i 0) (slcOf 1 V.kx keep.length) torn at_ = some H' := e
    have ht := h1.rt
    have hp := h1.rp
    simp only [a5, a6] at ht hp
    simp only [ref14_Disk_spend, MV.isP, h.r.ok 0 (by omega), h.r.ok 195 (by omega), h.r.ra, a1, isI_int, num_int, and_self, if_true, c1, w, h1.ok 0 (by omega), h1.ok 195 (by omega), h1.ok 196 (by omega), h1.ok 197 (by omega), h1.ok 198 (by omega), h1.ra, hk, ht, hp, c2, hn, if_false, e, Option.bind_some]
    rfl
   ·simp only [if_neg hn]
    have e : Dk.crash { A with arm := none } keep torn at_ = Dk.crash { A with arm := some (n - 1, keep, torn, at_) } keep torn at_ := by
     unfold Dk.crash; simp only [ho, Bool.false_eq_true, if_false]
    rw [← e]; exact h'
theorem spend_eight (hz : ¬ A.spend.1 = 0) : A.spend.1 = 8 := by
 cases hr : A.arm with
 | none => exact absurd (by unfold Dk.spend; rw [hr]) hz
 | some q =>
  obtain ⟨n, keep, torn, at_⟩ := q
  unfold Dk.spend at hz ⊢
  simp only [hr] at hz ⊢
  by_cases hn : IntKind.i64.wrap (n - 1) > 0
  ·simp only [if_pos hn] at hz; exact absurd trivial hz
  ·simp only [if_neg hn]
theorem rstart_ok (h : RefV c H i V g A) : ∃ H', ref14_Disk_Start H (.ptr i 0) = some H' ∧ RefS c H' i A.start := by
 refine ⟨_, ?_, { V with off := false }, g, h.r.w_off false, h.lim, rfl, h.life, h.rel, h.arm, ⟨h.good.cle, h.good.rg, h.good.ps, h.good.us, h.good.lim, h.good.nd⟩, h.c⟩
 simp only [ref14_Disk_Start, MV.isP, h.r.ok 0 (by omega), h.r.ok 1 (by omega), and_self, if_true]
theorem rtrip_ok (h : RefV c H i V g A) (n : Int) (hn : n < 9223372036854775808) (keep : List Bool) (torn at_ : Int) (hk : keep.length ≤ maxR) : ∃ H', ref14_Disk_Trip H (.ptr i 0) n keep torn at_ = some H' ∧ RefS c H' i (A.trip n keep torn at_) := by
 have ha : AH.app H .nils 4 1 (keep.map .bool) = H ++ [.row 4 1 (keep.map .bool)] := by simp [AH.app, MV.dies, AH.view]
 have h0 := h.r.app (.row 4 1 (keep.map .bool))
 have hx : AH.at (H ++ [MO.row 4 1 (keep.map MV.bool)]) H.length = .row 4 1 (keep.map .bool) := at_app_eq _ _
 have h1 := h0.w_armed (if (0 : Int) > n then (0 : Int) else n)
 have hx1 : AH.at (AH.wr (H ++ [MO.row 4 1 (keep.map MV.bool)]) (.ptr i 0) 195 [.int .i64 (if (0 : Int) > n then (0 : Int) else n)]) H.length = .row 4 1 (keep.map .bool) := by
  obtain ⟨L, l0, _⟩ := h0
  rw [wrC l0]
  refine (at_set_ne ?_).trans hx
  have := h.r.live
  omega
 have h2 := h1.w_keep hx1
 have h3 := h2.w_torn torn
 have h4 := h3.w_at at_
 have c1 : MV.len MV.nils + keep.length ≤ maxR := by simp only [MV.len]; omega
 have c2 : MV.len MV.nils + keep.length = keep.length := by simp [MV.len]
 refine ⟨_, ?_, _, g, h4, h.lim, h.off, h.life, h.rel, ?_, ⟨h.good.cle, h.good.rg, h.good.ps, h.good.us, h.good.lim, h.good.nd⟩, h.c⟩
 ·unfold ref14_Disk_Trip
  rw [if_pos c1, ha, c2]
  simp only [MV.isP, h0.ok 0 (by omega), h0.ok 195 (by omega), h1.ok 0 (by omega), h1.ok 196 (by omega), h2.ok 0 (by omega), h2.ok 197 (by omega), h3.ok 0 (by omega), h3.ok 198 (by omega), and_self, if_true]
 ·unfold Dk.trip
  by_cases hn1 : n ≥ 1
  ·simp only [if_pos hn1]
   refine ⟨?_, hn1, hn, rfl, rfl, rfl⟩
   show (if (0 : Int) > n then (0 : Int) else n) = n
   rw [if_neg (by omega)]
  ·simp only [if_neg hn1]
   show (if (0 : Int) > n then (0 : Int) else n) = 0
   split <;> omega
theorem Rel.up {fs fs' : List (Int × Fl)} (hr : Rel g fs) {n : Nat} (hn : n < 64) (f : Rs) (hf : f.is = (getL fs' n).isSome ∧ f.B = (getF fs' n).all ∧ f.lo = looseOf (getF fs' n).s.length (getF fs' n).ps) (ho : ∀ m : Nat, m ≠ n → getL fs' m = getL fs m) : Rel (upG g n f) fs' := by
 intro m hm
 by_cases e : m = n
 ·subst e; rw [upG_same]; exact hf
 ·rw [upG_ne _ _ e]
  have := hr m hm
  unfold getF at this ⊢
  rw [ho m e]
  exact this
theorem getL_end_same (fs : List (Int × Fl)) (n : Int) (f : Fl) (h : getL fs n = none) : getL (fs ++ [(n, f)]) n = some f := by
 unfold getL at h ⊢
 rw [Option.map_eq_none_iff] at h
 rw [List.find?_append, h]
 simp
theorem getL_filter_same (fs : List (Int × Fl)) (n : Int) : getL (fs.filter fun p => !(p.1 == n)) n = none := by
 have := getL_del fs n n
 simp at this
 exact this
theorem rcreate_ok (h : RefV c H i V g A) (n : Int) : ∃ H', ref14_Disk_Create H (.ptr i 0) n = some ((A.create n).1, H') ∧ RefS c H' i (A.create n).2 := by
 unfold Dk.create
 by_cases ho : A.off = true
 ·rw [if_pos ho]
  refine ⟨H, ?_, V, g, h⟩
  simp only [ref14_Disk_Create, MV.isP, h.r.ok 0 (by omega), h.r.ok 1 (by omega), h.r.r1, h.off, ho, MV.isB, MV.tr, and_self, if_true]
 have ho : A.off = false := by simpa using ho
 rw [if_neg (by simp [ho])]
 by_cases hn : ¬ (0 ≤ n ∧ n < 64)
 ·have e : (if n < 0 then ((1 : Int), A) else if n ≥ 64 then (1, A) else if (getL A.fs n).isSome = true then (11, A) else A.andThen fun A => { A with fs := A.fs ++ [(n, ⟨[], []⟩)] }) = (1, A) := by
   by_cases h0 : n < 0
   ·rw [if_pos h0]
   ·rw [if_neg h0, if_pos (by omega)]
  rw [e]
  refine ⟨H, ?_, V, g, h⟩
  simp only [ref14_Disk_Create, MV.isP, h.r.ok 0 (by omega), h.r.ok 1 (by omega), h.r.r1, h.off, ho, MV.isB, MV.tr, and_self, if_true, in_ok, Bool.false_eq_true, if_false, Option.bind_some]
  rw [decide_eq_false (by omega)]; rfl
 have hn : 0 ≤ n ∧ n < 64 := by omega
 rw [if_neg (by omega), if_neg (by omega)]
 obtain ⟨a, b, d⟩ := h.rel n.toNat (by omega)
 have e : ((n.toNat : Nat) : Int) = n := by omega
 rw [e] at a b d
 have c1 : (0 : Int) ≤ n ∧ n ≤ 63 := by omega
 have c2 : (0 : Int) ≤ n ∧ n < ((64 : Nat) : Int) := by omega
 cases hg : getL A.fs n with
 | some F =>
  rw [hg] at a
  simp only [Option.isSome_some, if_true]
  refine ⟨H, ?_, V, g, h⟩
  simp only [ref14_Disk_Create, MV.isP, h.r.ok 0 (by omega), h.r.ok 1 (by omega), h.r.r1, h.off, ho, MV.isB, MV.tr, and_self, if_true, in_ok, Bool.false_eq_true, if_false, Option.bind_some, c1, c2, decide_true, Bool.not_true, h.r.ok 3 (by omega), h.r.ok (n.toNat * 3 + 3) (by omega), h.r.ri n.toNat (by omega), a, Option.isSome_some]
 | none =>
  rw [hg] at a
  simp only [Option.isSome_none, Bool.false_eq_true, if_false, Dk.andThen]
  obtain ⟨H1, s1, V1, g1, h1⟩ := rspend_ok h ho
  by_cases hz : A.spend.1 = 0
  ·obtain ⟨r, hr⟩ := spend_zero hz
   rw [hr] at h1
   have h2 := h1.r.w_file (show n.toNat < 64 by omega) true
   have hgn : getL A.fs n = none := hg
   refine ⟨_, ?_, V1, _, h2, ?_, ?_, ?_, ?_, ?_, ?_, h1.c⟩
   ·simp only [ref14_Disk_Create, MV.isP, h.r.ok 0 (by omega), h.r.ok 1 (by omega), h.r.r1, h.off, ho, MV.isB, MV.tr, and_self, if_true, in_ok, Bool.false_eq_true, if_false, Option.bind_some, c1, c2, decide_true, Bool.not_true, h.r.ok 3 (by omega), h.r.ok (n.toNat * 3 + 3) (by omega), h.r.ri n.toNat (by omega), a, Option.isSome_none, s1, hz, beq_self_eq_true, h1.r.ok 0 (by omega), h1.r.ok 3 (by omega), h1.r.ok3 n.toNat (by omega)]
   ·simp only [hz, hr, if_true]; exact h1.lim
   ·simp only [hz, hr, if_true]; exact h1.off
   ·simp only [hz, hr, if_true]; exact h1.life
   ·simp only [hz, hr, if_true]
    refine h1.rel.up (by omega) _ ?_ (fun m hm => getL_end _ _ _ _ (by omega))
    rw [e]
    unfold getF
    rw [getL_end_same _ _ _ hgn]
    exact ⟨rfl, rfl, rfl⟩
   ·simp only [hz, hr, if_true]; exact h1.arm
   ·simp only [hz, hr, if_true]
    exact good_new h1.good hn.1 hn.2 (getL_none hgn)
  ·have hz' : (A.spend.1 == 0) = false := by simpa using hz
   simp only [if_neg hz]
   have h8 := spend_eight hz
   refine ⟨H1, ?_, V1, g1, h1⟩
   simp only [ref14_Disk_Create, MV.isP, h.r.ok 0 (by omega), h.r.ok 1 (by omega), h.r.r1, h.off, ho, MV.isB, MV.tr, and_self, if_true, in_ok, Bool.false_eq_true, if_false, Option.bind_some, c1, c2, decide_true, Bool.not_true, h.r.ok 3 (by omega), h.r.ok (n.toNat * 3 + 3) (by omega), h.r.ri n.toNat (by omega), a, Option.isSome_none, s1, hz', Bool.not_false, h8]
   rfl
theorem rsync_ok (h : RefV c H i V g A) (n : Int) : ∃ H', ref14_Disk_Sync H (.ptr i 0) n = some ((A.sync n).1, H') ∧ RefS c H' i (A.sync n).2 := by
 unfold Dk.sync
 by_cases ho : A.off = true
 ·rw [if_pos ho]
  refine ⟨H, ?_, V, g, h⟩
  simp only [ref14_Disk_Sync, MV.isP, h.r.ok 0 (by omega), h.r.ok 1 (by omega), h.r.r1, h.off, ho, MV.isB, MV.tr, and_self, if_true]
 have ho : A.off = false := by simpa using ho
 rw [if_neg (by simp [ho])]
 cases hg : getL A.fs n with
 | none =>
  refine ⟨H, ?_, V, g, h⟩
  simp only [ref14_Disk_Sync, MV.isP, h.r.ok 0 (by omega), h.r.ok 1 (by omega), h.r.r1, h.off, ho, MV.isB, MV.tr, and_self, if_true, Bool.false_eq_true, if_false, is_ok h n, hg, Option.isSome_none, Option.bind_some, Bool.not_false]
 | some F =>
  obtain ⟨a, b, d, hn, e⟩ := h.file hg
  obtain ⟨q1, q2⟩ := h.get_rg hg
  have c2 : (0 : Int) ≤ n ∧ n < ((64 : Nat) : Int) := by omega
  obtain ⟨H1, s1, V1, g1, h1⟩ := rspend_ok h ho
  simp only [Dk.andThen]
  by_cases hz : A.spend.1 = 0
  ·obtain ⟨r, hr⟩ := spend_zero hz
   rw [hr] at h1
   obtain ⟨a1, b1, d1, _, _⟩ := h1.file hg
   have h2 := h1.r.w_nolo hn
   simp only [hz, hr, if_true]
   have hm := getL_some hg
   have gu : Good c { A with fs := updL A.fs n F.settle } := by
    have g1' := h1.good
    refine good_upd h.good (Nat.le_refl _) h.good.cle hm (by simp [Fl.settle]) ?_
    rw [show F.settle.all = F.all by simp [Fl.settle, Fl.all]]
    have := h.good.us
    omega
   refine ⟨_, ?_, V1, _, h2, h1.lim, h1.off, h1.life, ?_, h1.arm, good_arm gu r, h1.c⟩
   ·simp only [ref14_Disk_Sync, MV.isP, h.r.ok 0 (by omega), h.r.ok 1 (by omega), h.r.r1, h.off, ho, MV.isB, MV.tr, and_self, if_true, Bool.false_eq_true, if_false, is_ok h n, hg, Option.isSome_some, Option.bind_some, Bool.not_true, s1, hz, beq_self_eq_true, c2, h1.r.ok 0 (by omega), h1.r.ok 3 (by omega), h1.r.ok (n.toNat * 3 + 3) (by omega), h1.r.ok (n.toNat * 3 + 5) (by omega)]
   ·refine h1.rel.up hn _ ?_ (fun m hm => by rw [getL_upd, if_neg (by omega)])
    rw [e]
    unfold getF
    rw [getL_upd, if_pos rfl, hg]
    exact ⟨a1, by simp only [b1]; simp [Fl.settle, Fl.all], rfl⟩
  ·have h8 := spend_eight hz
   have hz' : (A.spend.1 == 0) = false := by simpa using hz
   simp only [if_neg hz]
   refine ⟨H1, ?_, V1, g1, h1⟩
   simp only [ref14_Disk_Sync, MV.isP, h.r.ok 0 (by omega), h.r.ok 1 (by omega), h.r.r1, h.off, ho, MV.isB, MV.tr, and_self, if_true, Bool.false_eq_true, if_false, is_ok h n, hg, Option.isSome_some, Option.bind_some, Bool.not_true, s1, hz', Bool.not_false, h8]
   rfl
theorem rremove_ok (h : RefV c H i V g A) (n : Int) : ∃ H', ref14_Disk_Remove H (.ptr i 0) n = some ((A.remove n).1, H') ∧ RefS c H' i (A.remove n).2 := by
 unfold Dk.remove
 by_cases ho : A.off = true
 ·rw [if_pos ho]
  refine ⟨H, ?_, V, g, h⟩
  simp only [ref14_Disk_Remove, MV.isP, h.r.ok 0 (by omega), h.r.ok 1 (by omega), h.r.r1, h.off, ho, MV.isB, MV.tr, and_self, if_true]
 have ho : A.off = false := by simpa using ho
 rw [if_neg (by simp [ho])]
 cases hg : getL A.fs n with
 | none =>
  refine ⟨H, ?_, V, g, h⟩
  simp only [ref14_Disk_Remove, MV.isP, h.r.ok 0 (by omega), h.r.ok 1 (by omega), h.r.r1, h.off, ho, MV.isB, MV.tr, and_self, if_true, Bool.false_eq_true, if_false, is_ok h n, hg, Option.isSome_none, Option.bind_some, Bool.not_false]
 | some F =>
  obtain ⟨a, b, d, hn, e⟩ := h.file hg
  obtain ⟨q1, q2⟩ := h.get_rg hg
  have c2 : (0 : Int) ≤ n ∧ n < ((64 : Nat) : Int) := by omega
  obtain ⟨H1, s1, V1, g1, h1⟩ := rspend_ok h ho
  simp only [Dk.andThen]
  by_cases hz : A.spend.1 = 0
  ·obtain ⟨r, hr⟩ := spend_zero hz
   rw [hr] at h1
   have h2 := h1.r.w_file hn false
   simp only [hz, hr, if_true]
   have sub : (A.fs.filter fun p => !(p.1 == n)).Sublist A.fs := List.filter_sublist
   have gg := h1.good
   refine ⟨_, ?_, V1, _, h2, h1.lim, h1.off, h1.life, ?_, h1.arm, ⟨gg.cle, fun x hx => gg.rg x ((sub.map _).subset hx), fun p hp => gg.ps p (sub.subset hp), Int.le_trans (used_filter _ _) gg.us, gg.lim, gg.nd.sublist (sub.map _)⟩, h1.c⟩
   ·simp only [ref14_Disk_Remove, MV.isP, h.r.ok 0 (by omega), h.r.ok 1 (by omega), h.r.r1, h.off, ho, MV.isB, MV.tr, and_self, if_true, Bool.false_eq_true, if_false, is_ok h n, hg, Option.isSome_some, Option.bind_some, Bool.not_true, s1, hz, beq_self_eq_true, c2, h1.r.ok 0 (by omega), h1.r.ok 3 (by omega), h1.r.ok3 n.toNat hn]
   ·refine h1.rel.up hn _ ?_ (fun m hm => getL_filter _ _ _ (by omega))
    rw [e]
    unfold getF
    rw [getL_filter_same]
    exact ⟨rfl, rfl, rfl⟩
  ·have h8 := spend_eight hz
   have hz' : (A.spend.1 == 0) = false := by simpa using hz
   simp only [if_neg hz]
   refine ⟨H1, ?_, V1, g1, h1⟩
   simp only [ref14_Disk_Remove, MV.isP, h.r.ok 0 (by omega), h.r.ok 1 (by omega), h.r.r1, h.off, ho, MV.isB, MV.tr, and_self, if_true, Bool.false_eq_true, if_false, is_ok h n, hg, Option.isSome_some, Option.bind_some, Bool.not_true, s1, hz', Bool.not_false, h8]
   rfl
theorem rcut_ok (h : RefV c H i V g A) (n size : Int) : ∃ H', ref14_Disk_Cut H (.ptr i 0) n size = some ((A.cut n size).1, H') ∧ RefS c H' i (A.cut n size).2 := by
 unfold Dk.cut
 by_cases ho : A.off = true
 ·rw [if_pos ho]
  refine ⟨H, ?_, V, g, h⟩
  simp only [ref14_Disk_Cut, MV.isP, h.r.ok 0 (by omega), h.r.ok 1 (by omega), h.r.r1, h.off, ho, MV.isB, MV.tr, and_self, if_true]
 have ho : A.off = false := by simpa using ho
 rw [if_neg (by simp [ho])]
 cases hg : getL A.fs n with
 | none =>
  refine ⟨H, ?_, V, g, h⟩
  simp only [ref14_Disk_Cut, MV.isP, h.r.ok 0 (by omega), h.r.ok 1 (by omega), h.r.r1, h.off, ho, MV.isB, MV.tr, and_self, if_true, Bool.false_eq_true, if_false, is_ok h n, hg, Option.isSome_none, Option.bind_some, Bool.not_false]
 | some F =>
  obtain ⟨a, b, d, hn, e⟩ := h.file hg
  obtain ⟨q1, q2⟩ := h.get_rg hg
  have c2 : (0 : Int) ≤ n ∧ n < ((64 : Nat) : Int) := by omega
  obtain ⟨b1, b2, b3, b4, _⟩ := h.r.b_ok hn
  rw [b] at b1 b2
  have hrb := h.r.rb n.toNat hn
  rw [b] at hrb
  simp only
  by_cases hs : ¬ (0 ≤ size ∧ size ≤ (F.all.length : Int))
  ·have e2 : (if size < 0 then ((1 : Int), A) else if size > (F.all.length : Int) then (1, A) else A.andThen fun A => { A with fs := updL A.fs n ⟨F.all.take size.toNat, []⟩ }) = (1, A) := by
    by_cases h0 : size < 0
    ·rw [if_pos h0]
    ·rw [if_neg h0, if_pos (by omega)]
   rw [e2]
   refine ⟨H, ?_, V, g, h⟩
   simp only [ref14_Disk_Cut, MV.isP, h.r.ok 0 (by omega), h.r.ok 1 (by omega), h.r.r1, h.off, ho, MV.isB, MV.tr, and_self, if_true, Bool.false_eq_true, if_false, is_ok h n, hg, Option.isSome_some, Option.bind_some, Bool.not_true, c2, h.r.ok 3 (by omega), h.r.ok (n.toNat * 3 + 3) (by omega), h.r.ok (n.toNat * 3 + 4) (by omega), hrb, b1, b2, in_ok]
   rw [decide_eq_false hs]; rfl
  have hs : 0 ≤ size ∧ size ≤ (F.all.length : Int) := by omega
  rw [if_neg (by omega), if_neg (by omega)]
  obtain ⟨H1, s1, V1, g1, h1⟩ := rspend_ok h ho
  simp only [Dk.andThen]
  by_cases hz : A.spend.1 = 0
  ·obtain ⟨r, hr⟩ := spend_zero hz
   rw [hr] at h1
   obtain ⟨a1, bb1, d1, _, _⟩ := h1.file hg
   obtain ⟨v1, v2, v3, v4, _⟩ := h1.r.b_ok hn
   rw [bb1] at v1 v2
   have hrb1 := h1.r.rb n.toNat hn
   rw [bb1] at hrb1
   have hrow := h1.r.rows.b n.toNat hn
   rw [bb1] at hrow
   obtain ⟨e9, e10⟩ := row_sub_ints hrow 0 size.toNat (Nat.zero_le _) (by omega)
   rw [List.drop_zero] at e9
   have hm := getL_some hg
   have hl := used_mem hm
   have u1 := h.good.us
   have u2 := h.good.lim
   have ht := twin_ok (F.all.take size.toNat) (by rw [List.length_take]; omega)
   have h2 := h1.r.w_bytes hn (F.all.take size.toNat)
   have h3 := h2.w_nolo hn
   rw [upG_upG, upG_same] at h3
   simp only at h3
   have gu : Good c { A with fs := updL A.fs n ⟨F.all.take size.toNat, []⟩ } := by
    refine good_upd h.good (Nat.le_refl _) h.good.cle hm (by simp) ?_
    simp only [Fl.all, List.flatten_nil, List.append_nil, List.length_take] at *
    omega
   have c3 : (0 : Int) ≤ 0 ∧ (0 : Int) ≤ size ∧ size ≤ (F.all.length : Int) := by omega
   simp only [hz, hr, if_true]
   refine ⟨_, ?_, V1, _, h3, h1.lim, h1.off, h1.life, ?_, h1.arm, good_arm gu r, h1.c⟩
   ·simp only [ref14_Disk_Cut, MV.isP, h.r.ok 0 (by omega), h.r.ok 1 (by omega), h.r.r1, h.off, ho, MV.isB, MV.tr, and_self, if_true, Bool.false_eq_true, if_false, is_ok h n, hg, Option.isSome_some, Option.bind_some, Bool.not_true, c2, h.r.ok 3 (by omega), h.r.ok (n.toNat * 3 + 3) (by omega), h.r.ok (n.toNat * 3 + 4) (by omega), hrb, b1, b2, in_ok, hs, decide_true, s1, hz, beq_self_eq_true, h1.r.ok 0 (by omega), h1.r.ok 3 (by omega), h1.r.ok (n.toNat * 3 + 4) (by omega), hrb1, v1, v2, row_lo, e9, e10, c3, ht, h2.ok 3 (by omega), h2.ok (n.toNat * 3 + 5) (by omega), Int.le_refl]
   ·refine h1.rel.up hn _ ?_ (fun m hm => by rw [getL_upd, if_neg (by omega)])
    rw [e]
    unfold getF
    rw [getL_upd, if_pos rfl, hg]
    exact ⟨a1, by simp [Fl.all], rfl⟩
  ·have h8 := spend_eight hz
   have hz' : (A.spend.1 == 0) = false := by simpa using hz
   simp only [if_neg hz]
   refine ⟨H1, ?_, V1, g1, h1⟩
   simp only [ref14_Disk_Cut, MV.isP, h.r.ok 0 (by omega), h.r.ok 1 (by omega), h.r.r1, h.off, ho, MV.isB, MV.tr, and_self, if_true, Bool.false_eq_true, if_false, is_ok h n, hg, Option.isSome_some, Option.bind_some, Bool.not_true, c2, h.r.ok 3 (by omega), h.r.ok (n.toNat * 3 + 3) (by omega), h.r.ok (n.toNat * 3 + 4) (by omega), hrb, b1, b2, in_ok, hs, decide_true, s1, hz', Bool.not_false, h8]
   rfl
end
end Go.Dk
/- The page's disk: what is put behind a file; a new one. -/
namespace Go.Dk
open Go Go.Gw Go.Proofs.Sd.D
set_option linter.unusedSimpArgs false
set_option linter.unusedVariables false
def sumTo (fs : List (Int × Fl)) : Nat → Nat
 | 0 => 0
 | x + 1 => sumTo fs x + (getF fs (x : Int)).all.length
theorem getF_cons (p : Int × Fl) (fs : List (Int × Fl)) (n : Int) : getF (p :: fs) n = if p.1 = n then p.2 else getF fs n := by
 unfold getF getL
 rw [List.find?_cons]
 by_cases h : p.1 = n
 ·have hb : (p.1 == n) = true := by simpa using h
  simp [hb, h]
 ·have hb : (p.1 == n) = false := by simpa using h
  simp only [hb, if_neg h]
theorem sumTo_cons (p : Int × Fl) (fs : List (Int × Fl)) (h : p.1 ∉ fs.map (·.1)) (h0 : 0 ≤ p.1) (x : Nat) : sumTo (p :: fs) x = sumTo fs x + (if p.1 < (x : Int) then p.2.all.length else 0) := by
 induction x with
 | zero => rw [if_neg (by omega)]; rfl
 | succ x ih =>
  simp only [sumTo, ih, getF_cons]
  by_cases e : p.1 = (x : Int)
  ·rw [if_pos e, if_neg (by omega), if_pos (by omega)]
   have : (getF fs (x : Int)).all.length = 0 := by
    unfold getF
    rw [getL_new (by rw [← e]; exact h)]; rfl
   omega
  ·rw [if_neg e]
   by_cases h2 : p.1 < (x : Int)
   ·rw [if_pos h2, if_pos (by omega)]; omega
   ·rw [if_neg h2, if_neg (by omega)]; omega
theorem sumTo_used (fs : List (Int × Fl)) (hn : (fs.map (·.1)).Nodup) (hr : ∀ n ∈ fs.map (·.1), 0 ≤ n ∧ n < 64) : (sumTo fs 64 : Int) = usedF fs := by
 induction fs with
 | nil =>
  have : ∀ x, sumTo [] x = 0 := fun x => by
   induction x with
   | zero => rfl
   | succ x ih => simp only [sumTo, ih]; rfl
  rw [this]; rfl
 | cons p fs ih =>
  simp only [List.map_cons, List.nodup_cons] at hn
  have h1 := hr p.1 (by simp)
  have := ih hn.2 fun n h => hr n (by simp only [List.map_cons, List.mem_cons]; exact .inr h)
  rw [sumTo_cons p fs hn.1 h1.1, if_pos (by omega)]
  simp only [usedF, List.map_cons, List.sum_cons] at this ⊢
  omega
theorem sumTo_mono (fs : List (Int × Fl)) (a d : Nat) : sumTo fs a ≤ sumTo fs (a + d) := by
 induction d with
 | zero => exact Nat.le_refl _
 | succ d ih =>
  have : sumTo fs (a + (d + 1)) = sumTo fs (a + d) + (getF fs ((a + d : Nat) : Int)).all.length := rfl
  omega
section
variable {c : Nat} {H : AH} {i : Nat} {V : RV} {g : Nat → Rs} {A : Dk}
theorem rtotal (h : RefV c H i V g A) (n : Int) (b : List Int) (hb : b.length ≤ 1000000) : ∀ (j x : Nat), x + j = 64 →
  ref14_Disk_Append_l0 H (.ptr i 0) n b (j + 1) ((b.length + sumTo A.fs x : Nat) : Int) (x : Int) = some ((b.length + sumTo A.fs 64 : Nat) : Int) := by
 have hs := sumTo_used A.fs h.good.nd h.good.rg
 have h1 := h.good.us
 have h2 := h.good.lim
 intro j
 induction j with
 | zero =>
  intro x hx
  obtain rfl : x = 64 := by omega
  rw [ref14_Disk_Append_l0, if_neg (by simp)]
 | succ j ih =>
  intro x hx
  obtain ⟨_, r2, _⟩ := h.rel x (by omega)
  obtain ⟨b1, b2, _⟩ := h.r.b_ok (show x < 64 by omega)
  have hrb := h.r.rb x (by omega)
  have hm := sumTo_mono A.fs (x + 1) (64 - (x + 1))
  rw [show x + 1 + (64 - (x + 1)) = 64 by omega] at hm
  have hsx : sumTo A.fs (x + 1) = sumTo A.fs x + (g x).B.length := by rw [r2]; rfl
  have w1 : IntKind.i64.wrap (((b.length + sumTo A.fs x : Nat) : Int) + ((g x).B.length : Int)) = ((b.length + sumTo A.fs (x + 1) : Nat) : Int) := by rw [wrap_i (by omega) (by omega)]; omega
  have w2 : IntKind.i64.wrap ((x : Int) + 1) = ((x + 1 : Nat) : Int) := by rw [wrap_i (by omega) (by omega)]; omega
  have c1 : decide ((x : Int) < 64) = true := by simp; omega
  have c2 : (0 : Int) ≤ (x : Int) ∧ (x : Int) < ((64 : Nat) : Int) := by omega
  rw [ref14_Disk_Append_l0]
  simp only [c1, c2, h.r.ok 3 (by omega), Int.toNat_natCast, h.r.ok (x * 3 + 3) (by omega), h.r.ok (x * 3 + 4) (by omega), hrb, b1, b2, and_self, if_true, w1, w2]
  exact ih (x + 1) (by omega)
theorem rappend_ok (h : RefV c H i V g A) (n : Int) (b : List Int) (hb : b.length ≤ 1000000) (hc : c < 1000) : ∃ H', ref14_Disk_Append H (.ptr i 0) n b = some ((A.append n b).1, H') ∧ RefS (c + 1) H' i (A.append n b).2 := by
 have hm1 : RefV (c + 1) H i V g A := ⟨h.r, h.lim, h.off, h.life, h.rel, h.arm, h.good.mono (by omega) (by omega), hc⟩
 unfold Dk.append
 by_cases ho : A.off = true
 ·rw [if_pos ho]
  refine ⟨H, ?_, V, g, hm1⟩
  simp only [ref14_Disk_Append, MV.isP, h.r.ok 0 (by omega), h.r.ok 1 (by omega), h.r.r1, h.off, ho, MV.isB, MV.tr, and_self, if_true]
 have ho : A.off = false := by simpa using ho
 rw [if_neg (by simp [ho])]
 cases hg : getL A.fs n with
 | none =>
  refine ⟨H, ?_, V, g, hm1⟩
  simp only [ref14_Disk_Append, MV.isP, h.r.ok 0 (by omega), h.r.ok 1 (by omega), h.r.r1, h.off, ho, MV.isB, MV.tr, and_self, if_true, Bool.false_eq_true, if_false, is_ok h n, hg, Option.isSome_none, Option.bind_some, Bool.not_false]
 | some F =>
  obtain ⟨a, bb, d, hn, e⟩ := h.file hg
  obtain ⟨q1, q2⟩ := h.get_rg hg
  have c2 : (0 : Int) ≤ n ∧ n < ((64 : Nat) : Int) := by omega
  have hs := sumTo_used A.fs h.good.nd h.good.rg
  have u1 := h.good.us
  have u2 := h.good.lim
  have ht := rtotal h n b hb 64 0 (by omega)
  have ht : ref14_Disk_Append_l0 H (.ptr i 0) n b (((64 : Int) - (0 : Int)).toNat + 1) (b.length : Int) (0 : Int) = some ((b.length + sumTo A.fs 64 : Nat) : Int) := ht
  simp only
  by_cases hfull : (b.length : Int) > A.lim - usedF A.fs
  ·rw [if_pos hfull]
   refine ⟨H, ?_, V, g, hm1⟩
   have c3 : decide (((b.length + sumTo A.fs 64 : Nat) : Int) > A.lim) = true := by simp; omega
   simp only [ref14_Disk_Append, MV.isP, h.r.ok 0 (by omega), h.r.ok 1 (by omega), h.r.r1, h.off, ho, MV.isB, MV.tr, and_self, if_true, Bool.false_eq_true, if_false, is_ok h n, hg, Option.isSome_some, Option.bind_some, Bool.not_true, ht, h.r.r0, h.lim, isI_int, num_int, c3]
  rw [if_neg hfull]
  have c3 : decide (((b.length + sumTo A.fs 64 : Nat) : Int) > A.lim) = false := by simp; omega
  obtain ⟨b1, b2, b3, b4, _⟩ := h.r.b_ok hn
  have hrb := h.r.rb n.toNat hn
  have hre := h.r.re n.toNat hn
  have hrowE := h.r.rows.e n.toNat hn
  have hend : AH.isEnd H 88 2 (slcOf 2 (g n.toNat).e (g n.toNat).lo.length) = true := row_end hrowE (loM_len _)
  have hlen : (slcOf 2 (g n.toNat).e (g n.toNat).lo.length).len = (g n.toNat).lo.length := row_len hrowE (loM_len _) (by decide)
  have hm := getL_some hg
  have hps := h.good.ps _ hm
  simp only at hps
  have hll : (g n.toNat).lo.length = F.ps.length := by rw [d, looseOf_len]
  have hl := used_mem hm
  have hBl : (g n.toNat).B.length = F.all.length := by rw [bb]
  have w1 : IntKind.i64.wrap (((g n.toNat).B.length : Int) + (b.length : Int)) = (((g n.toNat).B.length + b.length : Nat) : Int) := by rw [wrap_i (by omega) (by omega)]; omega
  have c4 : (g n.toNat).lo.length + 1 ≤ maxR := by unfold maxR; omega
  obtain ⟨h2, okk⟩ := h.r.w_push hn ((g n.toNat).B.length : Int) (((g n.toNat).B.length + b.length : Nat) : Int)
  have hrb2 := h2.rb n.toNat hn
  rw [upG_same] at hrb2
  simp only at hrb2
  obtain ⟨v1, v2, v3, v4, _⟩ := h2.b_ok hn
  rw [upG_same] at v3 v4
  simp only at v3 v4
  have htw := twin_ok (g n.toNat).B (by omega)
  have c5 : ((g n.toNat).B ++ b).length ≤ maxN := by rw [List.length_append]; unfold maxN; omega
  have h3 := h2.w_bytes hn ((g n.toNat).B ++ b)
  rw [upG_upG, upG_same] at h3
  simp only at h3
  have gu : Good (c + 1) { A with fs := updL A.fs n ⟨F.s, F.ps ++ [b]⟩ } := by
   refine good_upd h.good (Nat.le_succ c) (by omega) hm (by simp; omega) ?_
   simp only [Fl.all, List.flatten_append, List.length_append, List.flatten_cons, List.flatten_nil, List.append_nil] at *
   omega
  have hV : RefV (c + 1) _ i V _ { A with fs := updL A.fs n ⟨F.s, F.ps ++ [b]⟩ } := ⟨h3, h.lim, h.off, h.life, h.rel.up hn _ (by
   rw [e]
   unfold getF
   rw [getL_upd, if_pos rfl, hg]
   refine ⟨a, ?_, ?_⟩
   ·simp only [bb]; simp [Fl.all]
   ·simp only [d, hBl]
    simp [looseOf_app, looseOf, Fl.all, Nat.add_assoc]) (fun m hm => by rw [getL_upd, if_neg (by omega)]), h.arm, gu, hc⟩
  obtain ⟨H4, s1, h4⟩ := rspend_ok hV ho
  refine ⟨H4, ?_, h4⟩
  have fin : ∀ z : Int, (¬ z = 0 → z = 8) → (if (!(z == 0)) = true then some ((8 : Int), H4) else some (0, H4)) = some (z, H4) := fun z hz => by
   by_cases h0 : z = 0
   ·subst h0; rfl
   ·rw [hz h0]; rfl
  simp only [ref14_Disk_Append, MV.isP, h.r.ok 0 (by omega), h.r.ok 1 (by omega), h.r.r1, h.off, ho, MV.isB, MV.tr, and_self, if_true, Bool.false_eq_true, if_false, is_ok h n, hg, Option.isSome_some, Option.bind_some, Bool.not_true, ht, h.r.r0, h.lim, isI_int, num_int, c3, c2, h.r.ok 3 (by omega), h.r.ok (n.toNat * 3 + 3) (by omega), h.r.ok (n.toNat * 3 + 4) (by omega), h.r.ok (n.toNat * 3 + 5) (by omega), hrb, hre, b1, b2, hend, hlen, c4, w1,
   okk (n.toNat * 3 + 3) (by omega), okk (n.toNat * 3 + 5) (by omega), h2.ok (n.toNat * 3 + 3) (by omega), h2.ok (n.toNat * 3 + 4) (by omega), hrb2, v3, v4, htw, c5, s1]
  exact fin _ spend_eight
end
end Go.Dk
/- DiskExact. -/
namespace Go.Dk
open Go Go.Gw Go.Proofs.Sd.D
set_option linter.unusedSimpArgs false
set_option linter.unusedVariables false
theorem rep_get (x y z d : MV) (j : Nat) (hj : j < 3) : ∀ m n : Nat, n < m → ((List.replicate m [x, y, z]).flatten).getD (n * 3 + j) d = [x, y, z].getD j d := by
 intro m
 induction m with
 | zero => intro n h; omega
 | succ m ih =>
  intro n h
  rw [List.replicate_succ, List.flatten_cons]
  cases n with
  | zero =>
   rw [Nat.zero_mul, Nat.zero_add, List.getD_eq_getElem?_getD, List.getElem?_append_left (by simpa using hj), ← List.getD_eq_getElem?_getD]
  | succ n =>
   rw [List.getD_eq_getElem?_getD, List.getElem?_append_right (by simp; omega), ← List.getD_eq_getElem?_getD]
   simp only [List.length_cons, List.length_nil]
   rw [show (n + 1) * 3 + j - (0 + 1 + 1 + 1) = n * 3 + j by omega]
   exact ih n (by omega)
theorem rep_len (x y z : MV) (m : Nat) : ((List.replicate m [x, y, z]).flatten).length = m * 3 := by
 induction m with
 | zero => rfl
 | succ m ih => rw [List.replicate_succ, List.flatten_cons, List.length_append, ih]; simp; omega
def newL (lim : Int) : List MV := [.int .i64 lim, .bool false, .int .i64 0] ++ ((List.replicate 64 [MV.bool false, .nils, .nils]).flatten ++ [.int .i64 0, .nils, .int .i64 0, .int .i64 0])
theorem newL_file (lim : Int) (n j : Nat) (hn : n < 64) (hj : j < 3) : (newL lim).getD (n * 3 + 3 + j) .nilp = [MV.bool false, .nils, .nils].getD j .nilp := by
 unfold newL
 have hl : ((List.replicate 64 [MV.bool false, .nils, .nils]).flatten).length = 192 := rep_len _ _ _ 64
 rw [List.getD_eq_getElem?_getD, List.getElem?_append_right (by simp; omega), List.getElem?_append_left (by simp only [hl, List.length_cons, List.length_nil]; omega), ← List.getD_eq_getElem?_getD]
 simp only [List.length_cons, List.length_nil]
 rw [show n * 3 + 3 + j - (0 + 1 + 1 + 1) = n * 3 + j by omega]
 exact rep_get _ _ _ _ j hj 64 n hn
theorem rnew_ok (lim : Int) (h1 : 1 ≤ lim) (h2 : lim ≤ 131072) : RefS 0 [.cells 64 (newL lim)] 0 (On lim [] 0) := by
 refine ⟨⟨lim, false, 0, 0, none, [], 0, 0⟩, fun _ => ⟨false, none, [], none, []⟩, ⟨newL lim, rfl, ⟨rfl, rfl, rfl, rfl, fun n hn => newL_file lim n 0 hn (by omega), fun n hn => newL_file lim n 1 hn (by omega), fun n hn => newL_file lim n 2 hn (by omega), rfl, rfl, rfl, rfl⟩,
  ⟨fun _ _ => rfl, fun _ _ => rfl, rfl, fun _ _ _ _ _ r hr => (by cases hr), fun _ _ _ _ _ r hr => (by cases hr)⟩⟩, rfl, rfl, rfl, fun n _ => ⟨rfl, rfl, rfl⟩, rfl, ⟨by omega, by simp, by simp, by simp [usedF]; omega, h2, by simp⟩, by omega⟩
theorem spoil_l0 : ∀ (j i : Nat) (m : List Int), i + j = m.length → m.length ≤ 1000000000 → ∃ r, keep_SpoilBytes_l0 (j + 1) m (i : Int) = some r := by
 intro j
 induction j with
 | zero => intro i m hi hm; exact ⟨m, by rw [keep_SpoilBytes_l0, if_neg (by simp; omega)]⟩
 | succ j ih =>
  intro i m hi hm
  have w2 : IntKind.i64.wrap ((i : Int) + 1) = ((i + 1 : Nat) : Int) := by rw [wrap_i (by omega) (by omega)]; omega
  obtain ⟨r, hr⟩ := ih (i + 1) (m.set i (IntKind.u8.wrap (m.getD i 0 + 101))) (by rw [List.length_set]; omega) (by rw [List.length_set]; exact hm)
  refine ⟨r, ?_⟩
  rw [keep_SpoilBytes_l0, if_pos (decide_eq_true (by omega)), if_pos (by omega), Int.toNat_natCast, w2]
  exact hr
theorem spoil_ok (b : List Int) (hb : b.length ≤ 1000000000) : ∃ r, keep_SpoilBytes b = some r := by
 obtain ⟨r, hr⟩ := spoil_l0 b.length 0 b (by omega) hb
 refine ⟨r, ?_⟩
 unfold keep_SpoilBytes
 rw [show ((b.length : Int) - 0).toNat + 1 = b.length + 1 by omega]
 rw [show ((0 : Nat) : Int) = 0 from rfl] at hr
 rw [hr]; rfl
theorem read_len {c : Nat} {A : Dk} (h : Good c A) (n : Int) : (A.read n).1.length ≤ 131072 := by
 unfold Dk.read
 split
 ·simp
 ·split
  ·simp
  ·rename_i f hf
   have := used_mem (getL_some hf)
   have h1 := h.us
   have h2 := h.lim
   simp only; omega
theorem exact_l3 {l : List (List DL)} {d : MV} {ii : Int} {Hr Hd : AH} {c c' : Nat} {V : RV} {g : Nat → Rs} {A : Dk} (hd : DiskAt c Hd d A) (hr : RefV c' Hr 0 V g A) : ∀ (j fu : Nat) (n : Int), n + j = 65 → -1 ≤ n → j + 1 ≤ fu → law14_DiskExact_l3 l d ii Hr Hd fu n = some (.inl ()) := by
 intro j
 induction j with
 | zero =>
  intro fu n hn _ hfu
  obtain ⟨fu, rfl⟩ : ∃ f', fu = f' + 1 := ⟨fu - 1, by omega⟩
  rw [law14_DiskExact_l3, if_neg (by rw [decide_eq_true_eq]; omega)]
 | succ j ih =>
  intro fu n hn hn1 hfu
  obtain ⟨fu, rfl⟩ : ∃ f', fu = f' + 1 := ⟨fu - 1, by omega⟩
  have w2 : IntKind.i64.wrap (n + 1) = n + 1 := wrap_i (by omega) (by omega)
  have h1 := ih fu (n + 1) (by omega) (by omega) (by omega)
  have r1 := read_ok hd n
  have r2 := rread_ok hr n
  have s1 := size_at hd n
  have s2 := rsize_ok hr n
  have hl := read_len hr.good n
  have b1 := bytes_same (A.read n).1 (by omega)
  obtain ⟨z, hz⟩ := spoil_ok (A.read n).1 (by omega)
  rw [law14_DiskExact_l3, if_pos (decide_eq_true (by omega))]
  simp only [List.length_nil, r1, r2, s1, s2, Option.bind_some, b1, hz, bne_self_eq_false, Bool.false_eq_true, if_false, Bool.not_true, w2, h1, ite_self]
theorem exact_l2 {l : List (List DL)} {d : MV} {i : Nat} {Hr Hd : AH} {b : Bool} {kp : List Bool} (hk : (dlAt l i 4).boolL = kp) (hkl : kp.length ≤ 300) : ∀ (j k fu : Nat) (R : List Bool), k + j = kp.length → j + 1 ≤ fu → R.length = kp.length → (∀ m, k ≤ m → R.getD m false = kp.getD m false) →
  law14_DiskExact_l2 l d (i : Int) Hr Hd b fu [.row 4 1 (R.map .bool)] (k : Int) = some (.inl ()) := by
 intro j
 induction j with
 | zero =>
  intro k fu R hk' hfu hR hRk
  obtain ⟨fu, rfl⟩ : ∃ f', fu = f' + 1 := ⟨fu - 1, by omega⟩
  have h : AH.at [MO.row 4 1 (R.map MV.bool)] 0 = .row 4 1 (R.map .bool) := rfl
  have c0 : MV.len MV.nils + kp.length = kp.length := by simp [MV.len]
  have hr : AH.isRow [MO.row 4 1 (R.map MV.bool)] 1 (.slc 0 1 0 kp.length) = true := isRow_of h 0 _ (by simp; omega)
  rw [law14_DiskExact_l2]
  simp only [Int.toNat_natCast, hk, c0, List.length_nil, hr, len_slc, if_true]
  rw [if_neg (by rw [decide_eq_true_eq]; omega)]
 | succ j ih =>
  intro k fu R hk' hfu hR hRk
  obtain ⟨fu, rfl⟩ : ∃ f', fu = f' + 1 := ⟨fu - 1, by omega⟩
  have h : AH.at [MO.row 4 1 (R.map MV.bool)] 0 = .row 4 1 (R.map .bool) := rfl
  have c0 : MV.len MV.nils + kp.length = kp.length := by simp [MV.len]
  have hr : AH.isRow [MO.row 4 1 (R.map MV.bool)] 1 (.slc 0 1 0 kp.length) = true := isRow_of h 0 _ (by simp; omega)
  have ho : AH.ok [MO.row 4 1 (R.map MV.bool)] (.slc 0 1 0 kp.length) (k * 1 + 0) 1 = true := by
   rw [okS h 0 _ _ _ (by simp; omega)]; exact Nat.ble_eq_true_of_le (by simp; omega)
  have hd : AH.rd [MO.row 4 1 (R.map MV.bool)] (.slc 0 1 0 kp.length) (k * 1 + 0) = .bool (R.getD k false) := by
   rw [rdS h, Nat.zero_mul, Nat.zero_add, Nat.mul_one, Nat.add_zero, List.getD_eq_getElem?_getD, List.getD_eq_getElem?_getD, List.getElem?_map, List.getElem?_eq_getElem (by omega)]; rfl
  have hw : AH.wr [MO.row 4 1 (R.map MV.bool)] (.slc 0 1 0 kp.length) (k * 1 + 0) [.bool (!(R.getD k false))] = [MO.row 4 1 ((R.set k (!(R.getD k false))).map .bool)] := by
   rw [wrS h, Nat.zero_mul, Nat.zero_add, Nat.mul_one, Nat.add_zero, putL_set' (by simp; omega)]
   simp [List.map_set]
  have w2 : IntKind.i64.wrap ((k : Int) + 1) = ((k + 1 : Nat) : Int) := by rw [wrap_i (by omega) (by omega)]; omega
  have c1 : decide ((k : Int) < (kp.length : Int)) = true := by simp; omega
  have c2 : (0 : Int) ≤ (k : Int) ∧ (k : Int) < (kp.length : Int) := by omega
  have he := hRk k (Nat.le_refl _)
  have c3 : (R.getD k false == kp.getD k false) = true := by rw [he]; simp
  have h1 := ih (k + 1) fu (R.set k (!(R.getD k false))) (by omega) (by omega) (by simpa using hR) (fun m hm => by rw [getD_set _ _ _ _ (by omega), if_neg (by omega)]; exact hRk m (by omega))
  rw [law14_DiskExact_l2]
  simp only [Int.toNat_natCast, hk, c0, List.length_nil, hr, len_slc, if_true, c1, c2, and_self, decide_true, ho, hd, MV.isB, MV.tr, c3, Bool.not_true, Bool.false_eq_true, if_false, hw, w2]
  exact h1
theorem wf_lt {x : Int} (h : (Lit.int .i64 x).wf = true) : x < 9223372036854775808 := by
 simp [Lit.wf, IntKind.min, IntKind.max, IntKind.bits, IntKind.signed] at h
 omega
theorem exact_l0 {l : List (List DL)} (hl : ∀ r ∈ l, LKs AK r) (hL : Light l) : ∀ (j i : Nat) (Hr Hd : AH) (A : Dk), i + j = l.length → DiskAt i Hd (.ptr 1 0) A → RefS i Hr 0 A → law14_DiskExact_l0 l (.ptr 1 0) (j + 1) Hr Hd (i : Int) = some (.inl ()) := by
 have h200 := hL.1
 intro j
 induction j with
 | zero => intro i Hr Hd A hi hd hr; rw [law14_DiskExact_l0, if_neg (by simp; omega)]
 | succ j ih =>
  intro i Hr Hd A hi hd hr
  have hil : i < l.length := by omega
  rw [law14_DiskExact_l0, if_pos (decide_eq_true (by omega))]
  by_cases h50 : ¬ i < 50
  ·rw [if_neg (by rw [decide_eq_true_eq]; omega)]
  have h50 : i < 50 := by omega
  obtain ⟨a, b, c, bs, kp, t, u, ha⟩ := act_at hl hil
  obtain ⟨b3, b4⟩ := hL.2 i hil h50
  rw [ha.d3] at b3
  rw [ha.d4] at b4
  simp only [DL.ints, DL.boolL] at b3 b4
  have w2 : IntKind.i64.wrap ((i : Int) + 1) = ((i + 1 : Nat) : Int) := by rw [wrap_i (by omega) (by omega)]; omega
  obtain ⟨V, g, hr⟩ := hr
  have upd : ∀ {H' : AH} {A' : Dk}, DiskAt i H' (.ptr 1 0) A' → DiskAt (i + 1) H' (.ptr 1 0) A' := fun {H' A'} h' => by
   obtain ⟨i', m, js, e, h'⟩ := h'
   exact ⟨i', m, js, e, h'.mono (by omega) (by omega)⟩
  have upr : ∀ {H' : AH} {A' : Dk}, RefS i H' 0 A' → RefS (i + 1) H' 0 A' := fun {H' A'} h' => by
   obtain ⟨V, g, h'⟩ := h'
   exact ⟨V, g, h'.r, h'.lim, h'.off, h'.life, h'.rel, h'.arm, h'.good.mono (by omega) (by omega), by omega⟩
  have fin : ∀ (H37 H38 : AH) (A' : Dk) (E : Option (AH × AH × Bool)), E = some (H37, H38, true) → DiskAt (i + 1) H38 (.ptr 1 0) A' → RefS (i + 1) H37 0 A' →
    E.bind (fun (H37, H38, same39) => (law14_DiskExact_l2 l (.ptr 1 0) (i : Int) H37 H38 same39 (400) (AH.app ([] : AH) MV.nils 4 1 (kp.map MV.bool)) (0 : Int)).bind (fun y => match y with | .inl _ => if (!same39) = true then some (.inr false) else (disk_Disk_Files H38 (.ptr 1 0)).bind (fun a113 => (ref14_Disk_Files H37 (MV.ptr (List.length ([] : AH)) 0)).bind (fun a115 => (keep_Ints a113 a115).bind (fun b117 => if (!b117) = true then some (.inr false) else (disk_Disk_Off H38 (.ptr 1 0)).bind (fun b121 => if MV.isP (MV.ptr (List.length ([] : AH)) 0) = true ∧ AH.ok H37 (MV.ptr (List.length ([] : AH)) 0) 0 1 = true then if AH.ok H37 (MV.ptr (List.length ([] : AH)) 0) 1 1 = true then if MV.isB (AH.rd H37 (MV.ptr (List.length ([] : AH)) 0) 1) = true then if (!(b121 == (MV.tr (AH.rd H37 (MV.ptr (List.length ([] : AH)) 0) 1)))) = true then some (.inr false) else (disk_Disk_Life H38 (.ptr 1 0)).bind (fun r128 => if AH.ok H37 (MV.ptr (List.length ([] : AH)) 0) 2 1 = true then if MV.isI .i64 (AH.rd H37 (MV.ptr (List.length ([] : AH)) 0) 2) = true then if (r128 != (MV.num (AH.rd H37 (MV.ptr (List.length ([] : AH)) 0) 2))) = true then some (.inr false) else (law14_DiskExact_l3 l (.ptr 1 0) (i : Int) H37 H38 (400) (-1 : Int)).bind (fun y => match y with | .inl _ => law14_DiskExact_l0 l (.ptr 1 0) (j + 1) H37 H38 (IntKind.i64.wrap ((i : Int) + (1 : Int))) | .inr v => some (.inr v)) else none else none) else none else none else none)))) | .inr v => some (.inr v))) = some (.inl ()) := by
   intro H37 H38 A' E hE h1 h2
   subst hE
   obtain ⟨V', g', h3⟩ := h2
   have e2 := exact_l2 (l := l) (d := .ptr 1 0) (i := i) (Hr := H37) (Hd := H38) (b := true) (kp := kp) (by rw [ha.d4]; rfl) b4 kp.length 0 400 kp (by omega) (by omega) rfl (fun _ _ => rfl)
   rw [show ((0 : Nat) : Int) = 0 from rfl] at e2
   have eapp : AH.app ([] : AH) MV.nils 4 1 (kp.map MV.bool) = [.row 4 1 (kp.map .bool)] := rfl
   have f1 := files_at h1
   have f2 := rfiles_ok h3
   have fl : (keysS A'.fs).length ≤ 64 := by
    have := keys_len h3.good
    rw [keysS, List.length_mergeSort, List.length_map]; exact this
   have f3 := ints_same (keysS A'.fs) (by omega)
   have o1 := off_at h1
   have l1 := life_at h1
   have r1 := h3.r.r1
   have r2 := h3.r.r2
   rw [h3.off] at r1
   rw [h3.life] at r2
   have e3 := exact_l3 (l := l) (ii := (i : Int)) h1 h3 66 400 (-1) (by omega) (by omega) (by omega)
   have e4 := ih (i + 1) H37 H38 A' (by omega) h1 ⟨V', g', h3⟩
   simp only [Option.bind_some, eapp, e2, List.length_nil, f1, f2, f3, o1, l1, r1, r2, h3.r.ok 0 (by omega), h3.r.ok 1 (by omega), h3.r.ok 2 (by omega), MV.isP, MV.isB, MV.tr, isI_int, num_int, bne_self_eq_false, beq_self_eq_true, and_self, if_true, Bool.not_true, Bool.false_eq_true, if_false, e3, w2, e4]
  rw [if_pos (decide_eq_true (by omega)), if_pos (by omega), Int.toNat_natCast, if_pos ha.g]
  have hkr : rowAt [MO.row 4 1 (kp.map MV.bool)] 4 1 (some 0) (kp.map .bool) := rfl
  obtain ⟨kb1, kb2⟩ := row_bools hkr
  have kb1 : AH.bools (AH.app ([] : AH) MV.nils 4 1 (kp.map MV.bool)) (MV.slc (List.length ([] : AH)) 1 0 (MV.len MV.nils + kp.length)) = kp := by
   rw [show MV.len MV.nils + kp.length = kp.length by simp [MV.len]]; exact kb1
  have kb2 : AH.isBools (AH.app ([] : AH) MV.nils 4 1 (kp.map MV.bool)) (MV.slc (List.length ([] : AH)) 1 0 (MV.len MV.nils + kp.length)) = true := by
   rw [show MV.len MV.nils + kp.length = kp.length by simp [MV.len]]; exact kb2
  have c1 : MV.len MV.nils + kp.length ≤ maxR := by simp only [MV.len]; unfold maxR; omega
  simp only [ha.d0, ha.d1, ha.d2, ha.d3, ha.d4, ha.d5, ha.d6, DL.num, DL.ints, DL.boolL, kb1, kb2, if_pos c1, if_true]
  obtain ⟨Ha, ea, h1⟩ := append_at hd b bs (by omega) (by omega)
  obtain ⟨Hb, eb, h2⟩ := create_at hd b
  obtain ⟨Hc, ec, h3⟩ := sync_at hd b
  obtain ⟨Hd', ed, h4⟩ := cut_at hd b c
  obtain ⟨He, ee, h5⟩ := remove_at hd b
  obtain ⟨Hf, ef, h6⟩ := crash_at hd kp t u
  obtain ⟨Hg, eg, h7⟩ := start_at hd
  obtain ⟨Hh, eh, h8⟩ := trip_at hd c kp t u (by unfold maxR; omega)
  obtain ⟨Ra, fa, q1⟩ := rappend_ok hr b bs (by omega) (by omega)
  obtain ⟨Rb, fb, q2⟩ := rcreate_ok hr b
  obtain ⟨Rc, fc, q3⟩ := rsync_ok hr b
  obtain ⟨Rd, fd, q4⟩ := rcut_ok hr b c
  obtain ⟨Re, fe, q5⟩ := rremove_ok hr b
  obtain ⟨Rf, ff, q6⟩ := rcrash_ok hr kp t u
  obtain ⟨Rg, fg, q7⟩ := rstart_ok hr
  obtain ⟨Rh, fh, q8⟩ := rtrip_ok hr c (wf_lt ha.wc) kp t u (by unfold maxR; omega)
  have t1 := twin_ok bs (by omega)
  have t2 := bytes_same bs (by omega)
  obtain ⟨z, hz⟩ := spoil_ok bs (by omega)
  by_cases e2 : (((IntKind.u64.wrap a).tmod (9 : Int)) == (2 : Int)) = true
  ·exact fin Rb Hb _ _ (by simp only [e2, if_true, List.length_nil, eb, fb, Option.bind_some, beq_self_eq_true]) (upd h2) (upr q2)
  by_cases e3 : (((IntKind.u64.wrap a).tmod (9 : Int)) == (3 : Int)) = true
  ·exact fin Rc Hc _ _ (by simp only [e2, e3, if_true, if_false, Bool.false_eq_true, List.length_nil, ec, fc, Option.bind_some, beq_self_eq_true]) (upd h3) (upr q3)
  by_cases e4 : (((IntKind.u64.wrap a).tmod (9 : Int)) == (4 : Int)) = true
  ·exact fin Rd Hd' _ _ (by simp only [e2, e3, e4, if_true, if_false, Bool.false_eq_true, List.length_nil, ed, fd, Option.bind_some, beq_self_eq_true]) (upd h4) (upr q4)
  by_cases e5 : (((IntKind.u64.wrap a).tmod (9 : Int)) == (5 : Int)) = true
  ·exact fin Re He _ _ (by simp only [e2, e3, e4, e5, if_true, if_false, Bool.false_eq_true, List.length_nil, ee, fe, Option.bind_some, beq_self_eq_true]) (upd h5) (upr q5)
  by_cases e6 : (((IntKind.u64.wrap a).tmod (9 : Int)) == (6 : Int)) = true
  ·exact fin Rf Hf _ _ (by simp only [e2, e3, e4, e5, e6, if_true, if_false, Bool.false_eq_true, List.length_nil, ef, ff, Option.bind_some]) (upd h6) (upr q6)
  by_cases e7 : (((IntKind.u64.wrap a).tmod (9 : Int)) == (7 : Int)) = true
  ·exact fin Rg Hg _ _ (by simp only [e2, e3, e4, e5, e6, e7, if_true, if_false, Bool.false_eq_true, List.length_nil, eg, fg, Option.bind_some]) (upd h7) (upr q7)
  by_cases e8 : (((IntKind.u64.wrap a).tmod (9 : Int)) == (8 : Int)) = true
  ·exact fin Rh Hh _ _ (by simp only [e2, e3, e4, e5, e6, e7, e8, if_true, if_false, Bool.false_eq_true, List.length_nil, eh, fh, Option.bind_some]) (upd h8) (upr q8)
  ·exact fin Ra Ha _ _ (by simp only [e2, e3, e4, e5, e6, e7, e8, if_true, if_false, Bool.false_eq_true, List.length_nil, t1, ea, fa, t2, hz, Option.bind_some, beq_self_eq_true]) h1 q1
theorem DiskExact (lim : Int) (l : List (List DL)) (_w0 : (Lit.int .i64 lim).wf = true) (hl : ∀ r ∈ l, LKs AK r) : law14_DiskExact lim l = some true := by
 unfold law14_DiskExact
 rcases heavy_ok hl with e | ⟨e, hL⟩
 ·rw [e]; rfl
 rw [e]
 refine (Option.bind_some _ _).trans ?_
 rw [if_neg (by simp)]
 by_cases hb : 1 ≤ lim ∧ lim ≤ 131072
 ·obtain ⟨H, e0, h0⟩ := new_at lim hb.1 hb.2
  have hd := ptr_ok h0
  have hr := rnew_ok lim hb.1 hb.2
  have e1 := exact_l0 hl hL l.length 0 _ H _ (by omega) h0 hr
  rw [show ((0 : Nat) : Int) = 0 from rfl] at e1
  have c1 : decide (lim < 1) = false := by simp; omega
  have c2 : decide (lim > 131072) = false := by simp; omega
  rw [e0]
  refine (Option.bind_some _ _).trans ?_
  simp only [c1, c2, Bool.false_eq_true, if_false, bne_self_eq_false, MV.isN, MV.isP, hd, and_self, or_true, if_true]
  rw [show ((l.length : Int) - 0).toNat + 1 = l.length + 1 by omega]
  refine (congrArg (fun z => Option.bind z _) e1).trans ?_
  simp only [Option.bind_some, wakes_ok]
 ·rw [new_bad lim hb]
  refine (Option.bind_some _ _).trans ?_
  by_cases h1 : lim < 1
  ·simp only [h1, decide_true, if_true, beq_self_eq_true, MV.isN, true_or, wakes_ok, Option.bind_some]
  ·have c1 : decide (lim < 1) = false := by simp; omega
   have c2 : decide (lim > 131072) = true := by simp; omega
   simp only [c1, c2, Bool.false_eq_true, if_false, if_true, beq_self_eq_true, MV.isN, true_or, wakes_ok, Option.bind_some]
end Go.Dk
