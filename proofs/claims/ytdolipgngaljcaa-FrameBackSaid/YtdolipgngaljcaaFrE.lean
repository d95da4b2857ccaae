/- FrameBack. -/
import Derived.Test.YtdolipgngaljcaaFrC
namespace Go.Fr
open Go Go.Gw Go.Wd Go.Proofs.Sa.D
theorem getD_take (a l : List Int) (m j : Nat) (h : j < m) (_hl : j < l.length) : (a ++ l.take m).getD (a.length + j) 0 = l.getD j 0 := by
  rw [getD_at]
  simp only [List.getD, List.getElem?_take, if_pos h]
/-- A FRAME THAT IS CUT SHORT IS NONE -/
theorem gn_cut (a : List Int) {k : Int} {d : List Int} (hk : Kin k) (hl : d.length ≤ 2000) (m : Nat) (hm : m < (frm k d).length) : Gn (a ++ (frm k d).take m) a.length = (0, [], 0, 3) := by
  have hf := frm_len k d
  have hlen : (a ++ (frm k d).take m).length = a.length + m := by rw [List.length_append, List.length_take]; omega
  by_cases h7 : m < 7
  · exact gn_end _ _ (by omega)
  have g0 : (a ++ (frm k d).take m).getD a.length 0 = k := by
    have := getD_take a (frm k d) m 0 (by omega) (by omega)
    rw [Nat.add_zero] at this
    rw [this]
    have := byte0 k d []
    rw [List.append_nil, kin_wrap hk] at this
    exact this
  have g1 : (a ++ (frm k d).take m).getD (a.length + 1) 0 = IntKind.u8.wrap (shr .i64 d.length 8) := (getD_take a (frm k d) m 1 (by omega) (by omega)).trans rfl
  have g2 : (a ++ (frm k d).take m).getD (a.length + 2) 0 = IntKind.u8.wrap d.length := (getD_take a (frm k d) m 2 (by omega) (by omega)).trans rfl
  unfold Gn
  rw [hlen, g0, g1, g2, len_bytes _ hl, if_neg (by omega), if_pos hk, if_pos (.inr (by omega))]
theorem fl_take_succ (l : List (Int × List Int)) (i : Nat) (h : i < l.length) : fl (l.take (i + 1)) = fl (l.take i) ++ frm l[i].1 l[i].2 := by
  rw [List.take_succ_eq_append_getElem h, fl_app]; simp [fl]
/-- where the first so many end -/
def E (l : List (Int × List Int)) (i : Nat) : List Int := (List.range i).map fun j => ((fl (l.take (j + 1))).length : Int)
theorem E_succ (l : List (Int × List Int)) (i : Nat) : E l (i + 1) = E l i ++ [((fl (l.take (i + 1))).length : Int)] := by
  unfold E; rw [List.range_succ, List.map_append]; rfl
theorem E_len (l : List (Int × List Int)) (i : Nat) : (E l i).length = i := by unfold E; simp
theorem E_get (l : List (Int × List Int)) (n j : Nat) (h : j < n) : (E l n).getD j 0 = ((fl (l.take (j + 1))).length : Int) := by
  unfold E; simp [List.getD, h]
theorem recD (l : List (Int × List Int)) (i : Nat) (h : i < l.length) : l.getD (i : Int).toNat (0, []) = l[i] := by simp [List.getD, h]
theorem fl_small (l : List (Int × List Int)) (h : ∀ r ∈ l, r.2.length ≤ 300) : (fl l).length ≤ 307 * l.length := by
  induction l with
  | nil => simp [fl]
  | cons r l ih =>
    have := h r (by simp)
    have := ih fun q hq => h q (List.mem_cons_of_mem _ hq)
    rw [fl_cons, List.length_append, frm_len, List.length_cons]; omega
theorem back_l0 (l : List (Int × List Int)) (c : Int) (t : List Int) (hl : l.length ≤ 20) (hw : ∀ r ∈ l, Byt r.2) : ∀ (d i : Nat), i + d = l.length → Ok (l.take i) → (∀ r ∈ l.take i, r.2.length ≤ 300) →
    law15_FrameBack_l0 l c t (d + 1) (fl (l.take i)) (E l i) (i : Int) = some (.inr true) ∨
      (law15_FrameBack_l0 l c t (d + 1) (fl (l.take i)) (E l i) (i : Int) = some (.inl (fl l, E l l.length)) ∧ Ok l ∧ ∀ r ∈ l, r.2.length ≤ 300) := by
  intro d
  induction d with
  | zero =>
    intro i hi ho h3
    have : i = l.length := by omega
    subst this
    rw [List.take_length] at *
    exact .inr ⟨by rw [law15_FrameBack_l0, if_neg (by simp)], ho, h3⟩
  | succ d ih =>
    intro i hi ho h3
    have hil : i < l.length := by omega
    have q : 0 ≤ (i : Int) ∧ (i : Int) < (l.length : Int) := ⟨by omega, by omega⟩
    rw [law15_FrameBack_l0, if_pos (decide_eq_true (by omega)), if_pos q, recD l i hil]
    rcases rec_cases l[i].1 l[i].2 with ⟨e, he, hr⟩ | ⟨hk, h2, hr⟩
    · rw [hr, obs, if_pos he]; exact .inl rfl
    rw [hr, obs, if_neg (by decide)]
    by_cases h4 : l[i].2.length > 300
    · rw [if_pos (decide_eq_true (by omega))]; exact .inl rfl
    have hb := hw _ (List.getElem_mem hil)
    have fs := fl_small _ h3
    rw [List.length_take] at fs
    have hp := put_ok (b := fl (l.take i)) hk hb h2 (by omega)
    rw [← fl_take_succ l i hil] at hp
    have el : (fl (l.take (i + 1))).length = (fl (l.take i)).length + (l[i].2.length + 7) := by rw [fl_take_succ l i hil, List.length_append, frm_len]
    have e7 : IntKind.i64.wrap (IntKind.i64.wrap (((fl (l.take i)).length : Int) + 7) + (l[i].2.length : Int)) = ((fl (l.take (i + 1))).length : Int) := by
      rw [i64s (((fl (l.take i)).length : Int) + 7) (by omega) (by omega), i64s _ (by omega) (by omega)]; omega
    have cm : (E l i ++ [((fl (l.take (i + 1))).length : Int)]).length ≤ maxN := by rw [← E_succ, E_len]; unfold maxN; omega
    have ho' : Ok (l.take (i + 1)) := fun r hr => by
      rw [List.take_succ_eq_append_getElem hil, List.mem_append] at hr
      rcases hr with hr | hr
      · exact ho r hr
      · simp only [List.mem_singleton] at hr; subst hr; exact ⟨hk, h2, hb⟩
    have h3' : ∀ r ∈ l.take (i + 1), r.2.length ≤ 300 := fun r hr => by
      rw [List.take_succ_eq_append_getElem hil, List.mem_append] at hr
      rcases hr with hr | hr
      · exact h3 r hr
      · simp only [List.mem_singleton] at hr; subst hr; omega
    rw [if_neg (by simp; omega), if_pos q, hp, obs]
    simp only [bne_n, if_pos q, e7, if_pos cm, Sh.next i (by omega)]
    rw [← E_succ]
    exact ih (i + 1) (by omega) ho' h3'
theorem back_l1 (l : List (Int × List Int)) (c : Int) (t b : List Int) (m : Nat) (hl : l.length ≤ 20) (hv : IntKind.i64.wrap ((IntKind.u64.wrap c).tmod (IntKind.u64.wrap (IntKind.i64.wrap ((b.length : Int) + 1)))) = (m : Int)) :
    ∀ (d n : Nat), n + d = l.length → (fl (l.take n)).length ≤ m →
    ∃ n', n' ≤ l.length ∧ law15_FrameBack_l1 l c t b (E l l.length) (d + 1) (n : Int) ((fl (l.take n)).length : Int) = some ((n' : Int), ((fl (l.take n')).length : Int)) ∧ (fl (l.take n')).length ≤ m ∧
      (n' < l.length → m < (fl (l.take (n' + 1))).length) := by
  intro d
  induction d with
  | zero =>
    intro n hn hm
    exact ⟨n, by omega, by rw [law15_FrameBack_l1, E_len, if_neg (by simp; omega)], hm, fun h => by omega⟩
  | succ d ih =>
    intro n hn hm
    have hnl : n < l.length := by omega
    have q : 0 ≤ (n : Int) ∧ (n : Int) < (l.length : Int) := ⟨by omega, by omega⟩
    have x : ((n : Int)).toNat = n := rfl
    rw [law15_FrameBack_l1, E_len, if_pos (decide_eq_true (by omega)), if_pos q, hv, x, E_get l l.length n hnl]
    by_cases hc : (fl (l.take (n + 1))).length ≤ m
    · rw [if_pos (decide_eq_true (by omega)), if_pos q, Sh.next n (by omega)]
      exact ih (n + 1) (by omega) hc
    · rw [if_neg (by simp; omega)]
      exact ⟨n, by omega, rfl, hm, fun _ => by omega⟩
theorem Ok.take {l : List (Int × List Int)} (h : Ok l) (n : Nat) : Ok (l.take n) := fun r hr => h r (List.mem_of_mem_take hr)
theorem FrameBack (l : List (Int × List Int)) (c : Int) (t : List Int) (hw : ∀ r ∈ l, (Lit.int .i64 r.1).wf = true ∧ ∀ x ∈ r.2, (Lit.int .u8 x).wf = true) (_w1 : (Lit.int .i64 c).wf = true) (hT : ∀ x ∈ t, (Lit.int .u8 x).wf = true) :
    law15_FrameBack l c t = some true := by
  unfold law15_FrameBack
  by_cases hl : l.length > 20
  · rw [if_pos (decide_eq_true (by omega))]
  rw [if_neg (by simp; omega)]
  by_cases ht : t.length > 300
  · rw [if_pos (decide_eq_true (by omega))]
  rw [if_neg (by simp; omega)]
  have e : (((↑(List.length l) : Int) - (0 : Int)).toNat + 1) = l.length + 1 := by omega
  rw [e]
  rcases back_l0 l c t (by omega) (fun r hr => (hw r hr).2) l.length 0 (by omega) (fun r hr => by simp at hr) (fun r hr => by simp at hr) with h0 | ⟨h0, ho, h3⟩
  · exact (congrArg (fun z => Option.bind z _) h0).trans rfl
  refine (congrArg (fun z => Option.bind z _) h0).trans ?_
  rw [obs]
  simp only
  have fs := fl_small l h3
  have bB := fl_byt ho
  have r9 : ∀ r ∈ l, r.2.length ≤ 900000 := fun r hr => by have := h3 r hr; omega
  have s1 : frame_Split (fl l) = some (l, ((fl l).length : Int)) := split_ok (c := []) bB (by omega) (by simp) ho (by rw [gn_end _ _ (by omega)]; intro q hq; subst hq; decide)
  have e1 : IntKind.u64.wrap (IntKind.i64.wrap (((fl l).length : Int) + 1)) = (((fl l).length + 1 : Nat) : Int) := by
    rw [i64s _ (by omega) (by omega)]
    exact (congrArg IntKind.u64.wrap (by omega)).trans (Sh.u64n ((fl l).length + 1) (by omega))
  obtain ⟨m, hm, hv⟩ := mod_u c ((fl l).length + 1) (by omega) (by omega)
  have hv' : IntKind.i64.wrap ((IntKind.u64.wrap c).tmod (IntKind.u64.wrap (IntKind.i64.wrap (((fl l).length : Int) + 1)))) = (m : Int) := by rw [e1]; exact hv
  obtain ⟨n, hn, h1, hn1, hn2⟩ := back_l1 l c t (fl l) m (by omega) hv' l.length 0 (by omega) (by simp [fl])
  have h1 : law15_FrameBack_l1 l c t (fl l) (E l l.length) (l.length + 1) 0 0 = some ((n : Int), ((fl (l.take n)).length : Int)) := h1
  have eE : ((((E l l.length).length : Nat) : Int) - 0).toNat + 1 = l.length + 1 := by rw [E_len]; omega
  have c0 : (((fl l).length + 1 : Nat) : Int) ≠ 0 := by omega
  have c1 : 0 ≤ (0 : Int) ∧ (0 : Int) ≤ (m : Int) ∧ (m : Int) ≤ ((fl l).length : Int) := by omega
  have c2 : 0 ≤ (n : Int) ∧ (n : Int) ≤ (l.length : Int) := by omega
  have xm : ((m : Int)).toNat = m := rfl
  have xn : ((n : Int)).toNat = n := rfl
  have s2 : frame_Split ((fl l).take m) = some (l.take n, ((fl (l.take n)).length : Int)) := by
    by_cases hnl : n < l.length
    · have h2 := hn2 hnl
      have hd : l = l.take n ++ (l[n] :: l.drop (n + 1)) := by rw [List.getElem_cons_drop, List.take_append_drop]
      have hf : fl l = fl (l.take n) ++ (frm l[n].1 l[n].2 ++ fl (l.drop (n + 1))) := by conv => lhs; rw [hd, fl_app, fl_cons]
      have hfs := fl_take_succ l n hnl
      rw [hfs, List.length_append] at h2
      have hcut : (fl l).take m = fl (l.take n) ++ (frm l[n].1 l[n].2).take (m - (fl (l.take n)).length) := by
        rw [hf, List.take_append, List.take_of_length_le hn1, List.take_append_of_le_length (by omega)]
      obtain ⟨k1, k2, k3⟩ := ho _ (List.getElem_mem hnl)
      refine split_ok (bB.take m) (by rw [List.length_take]; omega) hcut (ho.take n) ?_
      rw [hcut, gn_cut _ k1 k2 _ (by omega)]
      intro q hq; subst hq; decide
    · have hnl : n = l.length := by omega
      subst hnl
      rw [List.take_length] at hn1 ⊢
      have : m = (fl l).length := by omega
      rw [this, List.take_length]
      exact s1
  have s3 : frame_Split (fl l ++ [0] ++ t) = some (l, ((fl l).length : Int)) := by
    refine split_ok (c := [0] ++ t) ((bB.app (fun x hx => by simp only [List.mem_singleton] at hx; subst hx; decide)).app hT) (by simp; omega) (by rw [List.append_assoc]) ho ?_
    rw [gn_zero]
    · intro q hq; subst hq; decide
    · rw [List.append_assoc]
      have := getD_at (fl l) ([0] ++ t) 0
      rw [Nat.add_zero] at this
      rw [this]; rfl
  have c3 : (fl l ++ [0]).length ≤ maxN := by simp; unfold maxN; omega
  have c4 : (fl l ++ [0] ++ t).length ≤ maxN := by simp; unfold maxN; omega
  have rn := recs_same (l.take n) (by rw [List.length_take]; omega) (fun r hr => r9 r (List.mem_of_mem_take hr))
  rw [s1, obs]
  simp only [bne_n, recs_same l (by omega) r9, obs, e1, hv, if_pos c0, eE, h1, if_pos c1, xm, List.drop_zero, s2, if_pos c2, xn, rn, Sh.twin (fl l) (by omega), if_pos c3, if_pos c4, s3, beq_n, wakes15, Bool.not_true]
  rfl
end Go.Fr
