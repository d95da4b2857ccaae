/- FrameExact. -/
import Derived.Test.YtdolipgngaljcaaFrC
namespace Go.Fr
open Go Go.Gw Go.Wd Go.Proofs.Sa.D
set_option maxHeartbeats 4000000 in
theorem ref_get_n {b : List Int} (hB : Byt b) (hb : b.length ≤ 100000) (i : Nat) (hi : i ≤ b.length) : ref14_Get b (i : Int) = some (Gn b i) := by
  have s0 : IntKind.i64.wrap ((b.length : Int) - (i : Int)) = ((b.length - i : Nat) : Int) := by rw [i64s _ (by omega) (by omega)]; omega
  have hin : ref14_in (i : Int) 0 (b.length : Int) = some true := by
    unfold ref14_in
    rw [if_pos (decide_eq_true (by omega)), decide_eq_true (by omega)]
  unfold ref14_Get Gn
  rw [hin, obs, if_neg (by decide), s0]
  by_cases h7 : b.length - i < 7
  · rw [if_pos (decide_eq_true (by omega)), if_pos h7]
  rw [if_neg (by simp; omega), if_neg h7]
  have s7 : IntKind.i64.wrap (((b.length - i : Nat) : Int) - 7) = ((b.length - i - 7 : Nat) : Int) := by rw [i64s _ (by omega) (by omega)]; omega
  have x0 : ((i : Int)).toNat = i := rfl
  have p1 : IntKind.i64.wrap ((i : Int) + 1) = ((i + 1 : Nat) : Int) := Sh.next i (by omega)
  have p2 : IntKind.i64.wrap ((i : Int) + 2) = ((i + 2 : Nat) : Int) := by rw [i64s _ (by omega) (by omega)]; omega
  have p7 : IntKind.i64.wrap ((i : Int) + 7) = ((i + 7 : Nat) : Int) := by rw [i64s _ (by omega) (by omega)]; omega
  have x1 : (((i + 1 : Nat) : Int)).toNat = i + 1 := rfl
  have x2 : (((i + 2 : Nat) : Int)).toNat = i + 2 := rfl
  have x7 : (((i + 7 : Nat) : Int)).toNat = i + 7 := rfl
  obtain ⟨g0, g0'⟩ := hB.get i
  obtain ⟨g1, g1'⟩ := hB.get (i + 1)
  obtain ⟨g2, g2'⟩ := hB.get (i + 2)
  have w0 : IntKind.i64.wrap (b.getD i 0) = b.getD i 0 := i64s _ (by omega) (by omega)
  have j := join2 (b.getD (i + 1) 0).toNat (b.getD (i + 2) 0).toNat (by omega) (by omega)
  rw [Int.toNat_of_nonneg g1, Int.toNat_of_nonneg g2] at j
  have q0 : 0 ≤ (i : Int) ∧ (i : Int) < (b.length : Int) := ⟨by omega, by omega⟩
  have q1 : 0 ≤ ((i + 1 : Nat) : Int) ∧ ((i + 1 : Nat) : Int) < (b.length : Int) := ⟨by omega, by omega⟩
  have q2 : 0 ≤ ((i + 2 : Nat) : Int) ∧ ((i + 2 : Nat) : Int) < (b.length : Int) := ⟨by omega, by omega⟩
  rw [p1, p2, p7, x0, x1, x2, x7, w0, j, s7, if_pos q0, if_pos q1, if_pos q2]
  have hn' : (b.getD (i + 1) 0).toNat * 256 + (b.getD (i + 2) 0).toNat < 65536 := by omega
  clear g1 g1' g2 g2' w0 j s0
  generalize (b.getD (i + 1) 0).toNat * 256 + (b.getD (i + 2) 0).toNat = n at *
  have pn : IntKind.i64.wrap (((i + 7 : Nat) : Int) + (n : Int)) = ((i + 7 + n : Nat) : Int) := by rw [i64s _ (by omega) (by omega)]; omega
  have xn : (((i + 7 + n : Nat) : Int)).toNat = i + 7 + n := rfl
  rw [pn, xn]
  by_cases hk' : ¬ Kin (b.getD i 0)
  · have k1 : (b.getD i 0 != (1 : Int)) = true := by unfold Kin at hk'; simp only [bne_iff_ne, ne_eq]; omega
    have k2 : (b.getD i 0 != (2 : Int)) = true := by unfold Kin at hk'; simp only [bne_iff_ne, ne_eq]; omega
    rw [if_pos k1, if_pos k2, if_neg hk']
  have hk : Kin (b.getD i 0) := Decidable.not_not.1 hk'
  rw [if_pos hk]
  have main : (if (decide ((n : Int) > (2000 : Int))) = true then some ((0 : Int), ([] : List Int), (0 : Int), (3 : Int)) else if (decide (((b.length - i - 7 : Nat) : Int) < (n : Int))) = true then some ((0 : Int), [], (0 : Int), (3 : Int)) else if 0 ≤ ((i + 7 : Nat) : Int) ∧ ((i + 7 : Nat) : Int) ≤ ((i + 7 + n : Nat) : Int) ∧ ((i + 7 + n : Nat) : Int) ≤ (b.length : Int) then (keep_Twin ((b.take (i + 7 + n)).drop (i + 7))).bind (fun a15 => (ref14_Frame (b.getD i 0) a15).bind (fun a17 => if 0 ≤ (i : Int) ∧ (i : Int) ≤ ((i + 7 + n : Nat) : Int) ∧ ((i + 7 + n : Nat) : Int) ≤ (b.length : Int) then (keep_Bytes a17 ((b.take (i + 7 + n)).drop i)).bind (fun b20 => if (!b20) = true then some ((0 : Int), [], (0 : Int), (6 : Int)) else some (b.getD i 0, a15, ((i + 7 + n : Nat) : Int), (0 : Int))) else none)) else none)
      = some (if 2000 < n ∨ b.length - i - 7 < n then (0, [], 0, 3)
        else if frm (b.getD i 0) ((b.take (i + 7 + n)).drop (i + 7)) = (b.take (i + 7 + n)).drop i then
          (b.getD i 0, (b.take (i + 7 + n)).drop (i + 7), ((i + 7 + n : Nat) : Int), 0)
        else (0, [], 0, 6)) := by
    by_cases h2 : 2000 < n
    · have c1 : decide ((n : Int) > 2000) = true := decide_eq_true (by omega)
      have c2 : 2000 < n ∨ b.length - i - 7 < n := .inl h2
      rw [if_pos c1, if_pos c2]
    rw [if_neg (by simp; omega)]
    by_cases h3 : b.length - i - 7 < n
    · have c1 : decide (((b.length - i - 7 : Nat) : Int) < (n : Int)) = true := decide_eq_true (by omega)
      have c2 : 2000 < n ∨ b.length - i - 7 < n := .inr h3
      rw [if_pos c1, if_pos c2]
    have c3 : ¬ decide (((b.length - i - 7 : Nat) : Int) < (n : Int)) = true := by simp; omega
    have c4 : ¬ (2000 < n ∨ b.length - i - 7 < n) := by omega
    have c6 : 0 ≤ ((i + 7 : Nat) : Int) ∧ ((i + 7 : Nat) : Int) ≤ ((i + 7 + n : Nat) : Int) ∧ ((i + 7 + n : Nat) : Int) ≤ (b.length : Int) := ⟨by omega, by omega, by omega⟩
    have c7 : 0 ≤ (i : Int) ∧ (i : Int) ≤ ((i + 7 + n : Nat) : Int) ∧ ((i + 7 + n : Nat) : Int) ≤ (b.length : Int) := ⟨by omega, by omega, by omega⟩
    rw [if_neg c3, if_neg c4, if_pos c6]
    generalize hd' : (b.take (i + 7 + n)).drop (i + 7) = d
    have hdl : d.length = n := by rw [← hd']; simp; omega
    have hdb : Byt d := by rw [← hd']; exact (hB.take _).drop _
    rw [Sh.twin d (by omega), obs, frame_ok _ hdb (by omega), obs, if_pos c7, bytes_ok _ _ (by rw [frm_len]; omega), obs]
    by_cases he : frm (b.getD i 0) d = (b.take (i + 7 + n)).drop i
    · rw [if_neg (show ¬ (!decide (frm (b.getD i 0) d = (b.take (i + 7 + n)).drop i)) = true by rw [decide_eq_true he]; decide), if_pos he]
    · rw [if_pos (show (!decide (frm (b.getD i 0) d = (b.take (i + 7 + n)).drop i)) = true by rw [decide_eq_false he]; rfl), if_neg he]
  by_cases k1 : (b.getD i 0 != (1 : Int)) = true
  · have k2 : ¬ (b.getD i 0 != (2 : Int)) = true := by unfold Kin at hk; simp only [bne_iff_ne, ne_eq] at k1 ⊢; omega
    rw [if_pos k1, if_neg k2]
    exact main
  · rw [if_neg k1]
    exact main
theorem ref_get_ok {b : List Int} (hB : Byt b) (hb : b.length ≤ 100000) (at' : Int) : ref14_Get b at' = some (G b at') := by
  unfold G
  by_cases h : 0 ≤ at' ∧ at' ≤ (b.length : Int)
  · obtain ⟨i, rfl⟩ := Int.eq_ofNat_of_zero_le h.1
    rw [if_pos h]
    exact ref_get_n hB hb i (by omega)
  · rw [if_neg h]
    have hin : ref14_in at' 0 (b.length : Int) = some false := by
      unfold ref14_in
      by_cases h0 : 0 ≤ at'
      · rw [if_pos (decide_eq_true (by omega)), decide_eq_false (by omega)]
      · rw [if_neg (by simp; omega)]
    unfold ref14_Get
    rw [hin, obs, if_pos (by decide)]
theorem split_same_l0 {b : List Int} (hB : Byt b) (hb : b.length ≤ 100000) : ∀ (k : Nat) (l : List (Int × List Int)) (at' : Int), ref14_Split_l0 b k l at' = frame_Split_l0 b k l at' := by
  intro k
  induction k with
  | zero => intro l at'; rfl
  | succ k ih =>
    intro l at'
    rw [ref14_Split_l0, frame_Split_l0, ref_get_ok hB hb, get_ok hB hb, obs, obs]
    simp only [ih]
theorem split_same {b : List Int} (hB : Byt b) (hb : b.length ≤ 100000) : ref14_Split b = frame_Split b := by
  unfold ref14_Split frame_Split
  rw [split_same_l0 hB hb]
/-- what is got at a place within goes on by seven bytes at least, and its data are few -/
theorem gn_on (b : List Int) (i : Nat) (hi : i ≤ b.length) : ((Gn b i).2.2.2 != 0) = true ∨ (∃ j : Nat, (Gn b i).2.2.1 = (j : Int) ∧ i < j ∧ j ≤ b.length ∧ (Gn b i).2.1.length ≤ 2000) := by
  unfold Gn
  split
  · left; decide
  split
  · split
    · left; decide
    split
    · right
      refine ⟨_, rfl, by omega, by omega, ?_⟩
      rw [List.length_drop, List.length_take]; omega
    · left; decide
  · left; decide
theorem gn_data (b : List Int) (i : Nat) (hi : i ≤ b.length) : (Gn b i).2.1.length ≤ 2000 := by
  rcases gn_on b i hi with h | ⟨_, _, _, _, h⟩
  · unfold Gn at h ⊢
    split
    · simp
    split
    · split
      · simp
      split
      · rename_i h7 hk h2 h3
        rw [if_neg h7, if_pos hk, if_neg h2, if_pos h3] at h
        simp at h
      · simp
    · simp
  · exact h
theorem g_data (b : List Int) (at' : Int) : (G b at').2.1.length ≤ 2000 := by
  unfold G
  split
  · exact gn_data b _ (by omega)
  · simp
theorem split_some_l0 {b : List Int} (hB : Byt b) (hb : b.length ≤ 100000) : ∀ (k i : Nat) (l : List (Int × List Int)), i ≤ b.length → b.length - i < k → l.length ≤ i → (∀ r ∈ l, r.2.length ≤ 2000) →
    ∃ m e, frame_Split_l0 b k l (i : Int) = some (.inr (m, e)) ∧ m.length ≤ b.length ∧ ∀ r ∈ m, r.2.length ≤ 2000 := by
  intro k
  induction k with
  | zero => intro i l _ h; omega
  | succ k ih =>
    intro i l hi hk hl hr
    rw [frame_Split_l0, get_n hB hb i hi, obs]
    rcases gn_on b i hi with h | ⟨j, hj, h1, h2, h3⟩
    · exact ⟨l, (i : Int), by simp only; rw [if_pos h], by omega, hr⟩
    · by_cases h0 : ((Gn b i).2.2.2 != 0) = true
      · exact ⟨l, (i : Int), by simp only; rw [if_pos h0], by omega, hr⟩
      · simp only
        rw [if_neg h0, if_pos (by rw [List.length_append]; simp; unfold maxR; omega), hj]
        refine ih j _ h2 (by omega) (by rw [List.length_append]; simp; omega) ?_
        intro r hr'
        rcases List.mem_append.1 hr' with h | h
        · exact hr r h
        · rw [List.mem_singleton.1 h]; exact h3
theorem split_some {b : List Int} (hB : Byt b) (hb : b.length ≤ 100000) : ∃ m e, frame_Split b = some (m, e) ∧ m.length ≤ b.length ∧ ∀ r ∈ m, r.2.length ≤ 2000 := by
  obtain ⟨m, e, h, hm, hr⟩ := split_some_l0 hB hb (b.length + 1) 0 [] (by omega) (by omega) (by simp) (by simp)
  refine ⟨m, e, ?_, hm, hr⟩
  unfold frame_Split
  exact (congrArg (fun z => Option.bind z _) h).trans rfl
theorem ex_l0 (b : List Int) (k : Int) (d a4 a6 : List Int) (l : List (Int × List Int)) (hl : l.length ≤ 100000) (hr : ∀ r ∈ l, r.2.length ≤ 2000) : ∀ (j i : Nat) (m : Int), i + j = l.length → m ≤ (i : Int) → law15_FrameExact_l0 b k d a4 a6 l (j + 1) m (i : Int) = some () := by
  intro j
  induction j with
  | zero => intro i m hi hm; rw [law15_FrameExact_l0, if_neg (by simp; omega)]
  | succ j ih =>
    intro i m hi hm
    have hil : i < l.length := by omega
    have g : l.getD (i : Int).toNat (0, []) = l[i] := by simp [List.getD, hil]
    obtain ⟨r, hr'⟩ := Sh.spoil (l[i]).2 (by have := hr _ (List.getElem_mem hil); omega)
    rw [law15_FrameExact_l0, if_pos (decide_eq_true (by omega)), if_pos ⟨by omega, by omega⟩, if_pos hm, g, hr', obs, Sh.next i (by omega)]
    exact ih (i + 1) _ (by omega) (by omega)
theorem ex_l1 (b : List Int) (k : Int) (d a4 a6 : List Int) (l : List (Int × List Int)) (hl : l.length ≤ 100000) (hr : ∀ r ∈ l, r.2.length ≤ 2000) : ∀ (j i : Nat) (m : Int), i + j = l.length → m ≤ (i : Int) → law15_FrameExact_l1 b k d a4 a6 l (j + 1) m (i : Int) = some () := by
  intro j
  induction j with
  | zero => intro i m hi hm; rw [law15_FrameExact_l1, if_neg (by simp; omega)]
  | succ j ih =>
    intro i m hi hm
    have hil : i < l.length := by omega
    have g : l.getD (i : Int).toNat (0, []) = l[i] := by simp [List.getD, hil]
    obtain ⟨r, hr'⟩ := Sh.spoil (l[i]).2 (by have := hr _ (List.getElem_mem hil); omega)
    rw [law15_FrameExact_l1, if_pos (decide_eq_true (by omega)), if_pos ⟨by omega, by omega⟩, if_pos hm, g, hr', obs, Sh.next i (by omega)]
    exact ih (i + 1) _ (by omega) (by omega)
theorem ex_l2 (b : List Int) (k : Int) (d a4 a6 : List Int) (l : List (Int × List Int)) (hl : l.length ≤ 100000) (hr : ∀ r ∈ l, r.2.length ≤ 2000) : ∀ (j i : Nat) (m : Int), i + j = l.length → m ≤ (i : Int) → law15_FrameExact_l2 b k d a4 a6 l (j + 1) m (i : Int) = some () := by
  intro j
  induction j with
  | zero => intro i m hi hm; rw [law15_FrameExact_l2, if_neg (by simp; omega)]
  | succ j ih =>
    intro i m hi hm
    have hil : i < l.length := by omega
    have g : l.getD (i : Int).toNat (0, []) = l[i] := by simp [List.getD, hil]
    obtain ⟨r, hr'⟩ := Sh.spoil (l[i]).2 (by have := hr _ (List.getElem_mem hil); omega)
    rw [law15_FrameExact_l2, if_pos (decide_eq_true (by omega)), if_pos ⟨by omega, by omega⟩, if_pos hm, g, hr', obs, Sh.next i (by omega)]
    exact ih (i + 1) _ (by omega) (by omega)
theorem ex_l3 (b : List Int) (k : Int) (d a4 a6 : List Int) (l : List (Int × List Int)) (hl : l.length ≤ 100000) (hr : ∀ r ∈ l, r.2.length ≤ 2000) : ∀ (j i : Nat) (m : Int), i + j = l.length → m ≤ (i : Int) → law15_FrameExact_l3 b k d a4 a6 l (j + 1) m (i : Int) = some () := by
  intro j
  induction j with
  | zero => intro i m hi hm; rw [law15_FrameExact_l3, if_neg (by simp; omega)]
  | succ j ih =>
    intro i m hi hm
    have hil : i < l.length := by omega
    have g : l.getD (i : Int).toNat (0, []) = l[i] := by simp [List.getD, hil]
    obtain ⟨r, hr'⟩ := Sh.spoil (l[i]).2 (by have := hr _ (List.getElem_mem hil); omega)
    rw [law15_FrameExact_l3, if_pos (decide_eq_true (by omega)), if_pos ⟨by omega, by omega⟩, if_pos hm, g, hr', obs, Sh.next i (by omega)]
    exact ih (i + 1) _ (by omega) (by omega)
theorem nat_m (n : Nat) : (((n : Int) - (0 : Int)).toNat + 1) = n + 1 := by omega
theorem FrameExact (b : List Int) (k : Int) (d : List Int) (at' : Int) (hB : ∀ x ∈ b, (Lit.int .u8 x).wf = true) (_w0 : (Lit.int .i64 k).wf = true) (hD : ∀ x ∈ d, (Lit.int .u8 x).wf = true) (_w1 : (Lit.int .i64 at').wf = true) : law15_FrameExact b k d at' = some true := by
  unfold law15_FrameExact
  by_cases hb : b.length > 2500
  · rw [if_pos (decide_eq_true (by omega))]
  rw [if_neg (by simp; omega)]
  by_cases hd : d.length > 2500
  · rw [if_pos (decide_eq_true (by omega))]
  rw [if_neg (by simp; omega), Sh.twin b (by omega), obs, Sh.twin d (by omega), obs]
  have hBb : Byt b := hB
  have hg := get_ok hBb (by omega) at'
  have hg' := ref_get_ok hBb (by omega) at'
  have hgd := g_data b at'
  obtain ⟨m, e, hs, hm, hr⟩ := split_some hBb (by omega)
  have hs' := split_same hBb (by omega)
  rw [hs] at hs'
  have rs := recs_same m (by omega) (fun r h => by have := hr r h; omega)
  generalize G b at' = q at hg hg' hgd
  obtain ⟨q1, q2, q3, q4⟩ := q
  have r1 := recs1 q1 q2 (by simp only at hgd; omega)
  obtain ⟨s1, hs1⟩ := Sh.spoil q2 (by simp only at hgd; omega)
  have bb := bytes_ok b b (by omega)
  have bd := bytes_ok d d (by omega)
  rw [decide_eq_true rfl] at bb bd
  have n1 : ∀ x : Int, ¬ (x != x) = true := fun x => by simp
  have n2 : ¬ (!true) = true := by decide
  have l0 := ex_l0 b k d b d m (by omega) hr m.length 0 0 (by omega) (by omega)
  have l1 := ex_l1 b k d b d m (by omega) hr m.length 0 0 (by omega) (by omega)
  have l2 := ex_l2 b k d b d m (by omega) hr m.length 0 0 (by omega) (by omega)
  have l3 := ex_l3 b k d b d m (by omega) hr m.length 0 0 (by omega) (by omega)
  have l0 : law15_FrameExact_l0 b k d b d m (m.length + 1) 0 0 = some () := l0
  have l1 : law15_FrameExact_l1 b k d b d m (m.length + 1) 0 0 = some () := l1
  have l2 : law15_FrameExact_l2 b k d b d m (m.length + 1) 0 0 = some () := l2
  have l3 : law15_FrameExact_l3 b k d b d m (m.length + 1) 0 0 = some () := l3
  rcases rec_cases k d with ⟨c, hc, hrc⟩ | ⟨hk, hl, hrc⟩
  · have hp : frame_Put b k d = some ([], c) := by
      by_cases hk : Kin k
      · by_cases hl : d.length ≤ 2000
        · rw [rec_ok hk hl] at hrc; simp only [Option.some.injEq] at hrc; subst hrc; exact absurd hc (by decide)
        · rw [rec_long hk (by omega)] at hrc; simp only [Option.some.injEq] at hrc; subst hrc; exact put_long hk (by omega)
      · rw [rec_bad hk] at hrc; simp only [Option.some.injEq] at hrc; subst hrc; exact put_bad hk
    have hc0 : ¬ (c == (0 : Int)) = true := by simpa using hc
    obtain ⟨s0, hs0⟩ := Sh.spoil ([] : List Int) (by simp)
    rw [hp, obs]
    simp only
    rw [hrc, obs, if_neg (n1 c), if_pos hc, if_neg (by simp), if_neg hc0, hs0, obs, hg, obs]
    simp only
    rw [hg', obs]
    simp only
    rw [if_neg (n1 _), if_neg (n1 _), r1, obs, if_neg n2, hs1, obs, hs, obs]
    simp only
    rw [hs', obs]
    simp only
    rw [if_neg (n1 _), rs, obs, if_neg n2, nat_m, l1, obs, bb, obs, if_pos rfl, bd, obs, if_pos rfl, wakes15, obs]
  · have hp := put_ok (b := b) hk hD hl (by omega)
    have hf := frame_ok k (d := d) hD (by omega)
    have len : (b ++ frm k d).length ≤ maxN := by rw [List.length_append, frm_len]; unfold maxN; omega
    have bf := bytes_ok (b ++ frm k d) (b ++ frm k d) (by rw [List.length_append, frm_len]; omega)
    rw [decide_eq_true rfl] at bf
    obtain ⟨s0, hs0⟩ := Sh.spoil (b ++ frm k d) (by rw [List.length_append, frm_len]; omega)
    rw [hp, obs]
    simp only
    rw [hrc, obs, if_neg (n1 0), if_neg (n1 0), if_pos (by decide), obs, hf, obs, if_pos len, bf, obs, if_neg n2, hs0, obs, hg, obs]
    simp only
    rw [hg', obs]
    simp only
    rw [if_neg (n1 _), if_neg (n1 _), r1, obs, if_neg n2, hs1, obs, hs, obs]
    simp only
    rw [hs', obs]
    simp only
    rw [if_neg (n1 _), rs, obs, if_neg n2, nat_m, l2, obs, bb, obs, if_pos rfl, bd, obs, if_pos rfl, wakes15, obs]
end Go.Fr
