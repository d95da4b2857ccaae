/- ShaExact. -/
import Derived.Test.YtdolipgngaljcaaShD
namespace Go.Sh
open Go Go.Gw Go.Wd Go.Proofs.Sa.D
theorem same_l0 (a : List Int) (ha : a.length ≤ 900000) : ∀ (d i : Nat), i + d = a.length → keep_Bytes_l0 a a (d + 1) (i : Int) = some (.inl ()) := by
  intro d
  induction d with
  | zero => intro i hi; rw [keep_Bytes_l0, if_neg (by simp; omega)]
  | succ d ih =>
    intro i hi
    rw [keep_Bytes_l0, if_pos (decide_eq_true (by omega)), if_pos ⟨by omega, by omega⟩, if_pos ⟨by omega, by omega⟩, if_neg (by simp), next i (by omega)]
    exact ih (i + 1) (by omega)
theorem same (a : List Int) (ha : a.length ≤ 900000) : keep_Bytes a a = some true := by
  have h := same_l0 a ha a.length 0 (by omega)
  have e : (((↑(List.length a) : Int) - (0 : Int)).toNat + 1) = a.length + 1 := by omega
  unfold keep_Bytes
  rw [if_neg (by simp), e]
  exact (congrArg (fun z => Option.bind z _) h).trans rfl
theorem twin (a : List Int) (ha : a.length ≤ 900000) : keep_Twin a = some a := by
  unfold keep_Twin; rw [if_pos (by unfold maxN; omega)]
theorem spoil_l0 : ∀ (d i : Nat) (m : List Int), i + d = m.length → m.length ≤ 900000 → ∃ r, keep_SpoilBytes_l0 (d + 1) m (i : Int) = some r := by
  intro d
  induction d with
  | zero => intro i m hi _; exact ⟨m, by rw [keep_SpoilBytes_l0, if_neg (by simp; omega)]⟩
  | succ d ih =>
    intro i m hi hm
    have et : ((i : Int)).toNat = i := rfl
    obtain ⟨r, hr⟩ := ih (i + 1) (m.set i (IntKind.u8.wrap ((m.getD i 0) + 101))) (by simp; omega) (by simpa using hm)
    refine ⟨r, ?_⟩
    have c : 0 ≤ (i : Int) ∧ (i : Int) < (m.length : Int) := ⟨by omega, by omega⟩
    rw [keep_SpoilBytes_l0, if_pos (decide_eq_true (by omega)), et, next i (by omega)]
    simp only [if_pos c]
    exact hr
theorem spoil (m : List Int) (hm : m.length ≤ 900000) : ∃ r, keep_SpoilBytes m = some r := by
  obtain ⟨r, hr⟩ := spoil_l0 m.length 0 m (by omega) hm
  have e : (((↑(List.length m) : Int) - (0 : Int)).toNat + 1) = m.length + 1 := by omega
  refine ⟨r, ?_⟩
  unfold keep_SpoilBytes
  rw [e]
  exact (congrArg (fun z => Option.bind z _) hr).trans rfl
theorem part (b : List Int) (i j : Nat) (h : i ≤ j) : b.take i ++ (b.take j).drop i = b.take j := by
  have : b.take i = (b.take j).take i := by rw [List.take_take, Nat.min_eq_left h]
  rw [this, List.take_append_drop]
theorem exact_l0 (b cuts a6 : List Int) (hb : b.length ≤ 400) (hc : cuts.length ≤ 50) : ∀ (d i at' : Nat), i + d = cuts.length → at' ≤ b.length →
    ∃ u : Nat, u ≤ b.length ∧ law01_ShaExact_l0 b cuts a6 (d + 1) b (hT (b.take at')) (rT (b.take at')) ((b.take at').length : Int) (at' : Int) (i : Int) =
      some (.inl (b, hT (b.take u), rT (b.take u), ((b.take u).length : Int), (u : Int))) := by
  intro d
  induction d with
  | zero => intro i at' hi ha; exact ⟨at', ha, by rw [law01_ShaExact_l0, if_neg (by simp; omega)]⟩
  | succ d ih =>
    intro i at' hi ha
    by_cases hlt : at' < b.length
    · have e0 : IntKind.u64.wrap (IntKind.i64.wrap (IntKind.i64.wrap ((b.length : Int) - (at' : Int)) + 1)) = ((b.length - at' + 1 : Nat) : Int) := by
        rw [i64s ((b.length : Int) - (at' : Int)) (by omega) (by omega), i64s _ (by omega) (by omega)]
        exact (congrArg IntKind.u64.wrap (by omega)).trans (u64n (b.length - at' + 1) (by omega))
      obtain ⟨n, hn, hk⟩ := modN (cuts.getD (i : Int).toNat 0) (b.length - at' + 1) (by omega) (by omega)
      have e1 : IntKind.i64.wrap ((at' : Int) + (n : Int)) = ((at' + n : Nat) : Int) := by rw [i64s _ (by omega) (by omega)]; omega
      obtain ⟨u, hu, hr⟩ := ih (i + 1) (at' + n) (by omega) (by omega)
      refine ⟨u, hu, ?_⟩
      have x1 : ((at' : Int)).toNat = at' := rfl
      have x2 : (((at' + n : Nat) : Int)).toNat = at' + n := rfl
      have hp : ((b.take (at' + n)).drop at').length ≤ 900000 := by simp; omega
      obtain ⟨sp, hsp⟩ := spoil ((b.take (at' + n)).drop at') hp
      have w := write_to (b.take at') ((b.take (at' + n)).drop at') (b.take (at' + n)) (part b at' (at' + n) (by omega)) (by simp; omega)
      have el : ((b.take (at' + n)).length : Int) = ((at' + n : Nat) : Int) := by simp; omega
      have c1 : 0 ≤ (i : Int) ∧ (i : Int) < (cuts.length : Int) := ⟨by omega, by omega⟩
      have c2 : ((b.length - at' + 1 : Nat) : Int) ≠ 0 := by omega
      have c3 : 0 ≤ (at' : Int) ∧ (at' : Int) ≤ ((at' + n : Nat) : Int) ∧ ((at' + n : Nat) : Int) ≤ (b.length : Int) := ⟨by omega, by omega, by omega⟩
      have c4 : 0 ≤ (0 : Int) ∧ (0 : Int) ≤ ((at' + n : Nat) : Int) ∧ ((at' + n : Nat) : Int) ≤ (b.length : Int) := ⟨by omega, by omega, by omega⟩
      have ne : (((at' + n : Nat) : Int) != ((at' + n : Nat) : Int)) = false := by simp
      have sm := sum_ok (b.take (at' + n)) (by simp; omega)
      have rs := sum256_ok (b.take (at' + n)) (by simp; omega)
      rw [el] at sm
      rw [el] at w hr
      rw [law01_ShaExact_l0, if_pos (decide_eq_true (by omega)), if_pos (decide_eq_true (by omega)), if_pos c1, e0, if_pos c2, hk, e1, if_pos c3, x1, x2, twin _ hp, obs, w, obs]
      simp only [hsp, obs, lenS, ne, sm, if_pos c4, List.drop_zero, rs, decide_true, Bool.not_true, next i (by omega)]
      exact hr
    · have : at' = b.length := by omega
      subst this
      exact ⟨b.length, ha, by rw [law01_ShaExact_l0, if_pos (decide_eq_true (by omega)), if_neg (by simp)]⟩
theorem ShaExact (b cuts : List Int) (_w0 : ∀ x ∈ b, (Lit.int .u8 x).wf = true) (_w1 : ∀ x ∈ cuts, (Lit.int .i64 x).wf = true) : law01_ShaExact b cuts = some true := by
  unfold law01_ShaExact
  by_cases hl : b.length > 400
  · rw [if_pos (decide_eq_true (by omega))]
  rw [if_neg (by simp; omega)]
  by_cases hc : cuts.length > 50
  · rw [if_pos (decide_eq_true (by omega))]
  rw [if_neg (by simp; omega)]
  obtain ⟨u, hu, hr⟩ := exact_l0 b cuts (S b) (by omega) (by omega) cuts.length 0 0 (by omega) (by omega)
  rw [List.take_zero] at hr
  have hr : law01_ShaExact_l0 b cuts (S b) (((cuts.length : Int) - (0 : Int)).toNat + 1) b (hT []) [] 0 0 0 = some (.inl (b, hT (b.take u), rT (b.take u), ((b.take u).length : Int), (u : Int))) := by
    rw [show ((cuts.length : Int) - (0 : Int)).toNat + 1 = cuts.length + 1 by omega]; exact hr
  have w := write_to (b.take u) (b.drop u) b (List.take_append_drop u b) (by omega)
  have c : 0 ≤ (u : Int) ∧ (u : Int) ≤ (b.length : Int) ∧ (b.length : Int) ≤ (b.length : Int) := ⟨by omega, by omega, by omega⟩
  have x1 : ((u : Int)).toNat = u := rfl
  have x2 : ((b.length : Int)).toNat = b.length := rfl
  have bb : ((b.length : Int) == (b.length : Int)) = true := by simp
  simp only [twin b (by omega), obs, sum256_ok b (by omega), shaSum_ok b (by omega), same b (by omega), new_0, hr, if_pos c, x1, x2, List.take_length, w, lenS, bb, sum_ok b (by omega), wakes1, decide_true, Bool.not_true]
  rfl
end Go.Sh
