/- ShaBlocks, ShaParts, ShaLong, ShaTwo. -/
import Derived.Test.YtdolipgngaljcaaShC
namespace Go.Sh
open Go Go.Gw Go.Wd Go.Proofs.Sa.D
theorem obs {α β : Type} (a : α) (f : α → Option β) : (some a).bind f = f a := by rw [Option.bind_some]
theorem write_to (t b u : List Int) (e : t ++ b = u) (h : u.length ≤ 100000) : sha_Sha_Write (hT t) (rT t) (t.length : Int) b = some (hT u, rT u, (u.length : Int)) := by
  subst e; exact write_ok t b (by simpa using h)
theorem write_0 (b : List Int) (h : b.length ≤ 100000) : sha_Sha_Write (hT []) [] 0 b = some (hT b, rT b, (b.length : Int)) := write_to [] b b rfl h
theorem new_0 : sha_New = some (hT [], (0 : Int)) := rfl
theorem lenS (a b : List Int) (n : Int) : sha_Sha_Len a b n = some n := rfl
theorem u64pos (x : Int) : 0 ≤ IntKind.u64.wrap x := by
  simp only [IntKind.wrap, IntKind.bits, IntKind.signed]; simp; omega
/-- a number below another, out of any -/
theorem modN (x : Int) (n : Nat) (h0 : 0 < n) (h1 : n < 1000000) : ∃ m : Nat, m < n ∧ IntKind.i64.wrap ((IntKind.u64.wrap x).tmod (n : Int)) = (m : Int) := by
  have q0 := u64pos x
  rw [Int.tmod_eq_emod_of_nonneg q0]
  have q1 := Int.emod_nonneg (IntKind.u64.wrap x) (show (n : Int) ≠ 0 by omega)
  have q2 := Int.emod_lt_of_pos (IntKind.u64.wrap x) (show (0 : Int) < (n : Int) by omega)
  refine ⟨(IntKind.u64.wrap x % (n : Int)).toNat, by omega, ?_⟩
  rw [i64s _ q1 (by omega)]; omega
theorem fill_l0 (a0 c : Int) (n : Nat) (hk : IntKind.i64.wrap ((IntKind.u64.wrap a0).tmod (200 : Int)) = (n : Int)) (hn : n < 200) : ∀ (j i : Nat), i + j = n → ∀ m : List Int, m.length = n → ∃ r, law01_ShaBlocks_l0 a0 c (j + 1) m (i : Int) = some r ∧ r.length = n := by
  intro j
  induction j with
  | zero =>
    intro i hi m hm
    exact ⟨m, by rw [law01_ShaBlocks_l0, hk, if_neg (by simp; omega)], hm⟩
  | succ j ih =>
    intro i hi m hm
    have et : ((i : Int)).toNat = i := rfl
    rw [law01_ShaBlocks_l0, hk, if_pos (decide_eq_true (by omega)), if_pos ⟨by omega, by omega⟩, next i (by omega), et]
    exact ih (i + 1) (by omega) _ (by simp [hm])
theorem ShaBlocks (a0 a1 : Int) (_w0 : (Lit.int .i64 a0).wf = true) (_w1 : (Lit.int .u8 a1).wf = true) : law01_ShaBlocks a0 a1 = some true := by
  obtain ⟨n, hn, hk⟩ := modN a0 200 (by decide) (by decide)
  have hk : IntKind.i64.wrap ((IntKind.u64.wrap a0).tmod (200 : Int)) = (n : Int) := hk
  unfold law01_ShaBlocks
  rw [hk]
  have et : ((n : Int)).toNat = n := rfl
  have ef : (((n : Int) - (0 : Int)).toNat + 1) = n + 1 := by omega
  obtain ⟨r, h1, h2⟩ := fill_l0 a0 a1 n hk hn n 0 (by omega) (List.replicate n (0 : Int)) (by simp)
  rw [if_pos ⟨by omega, by unfold maxN; omega⟩, et, ef]
  refine (congrArg (fun z => Option.bind z _) h1).trans ?_
  rw [Option.bind_some, shaSum_ok r (by omega), Option.bind_some, sum256_ok r (by omega), Option.bind_some, decide_eq_true (show S r = S r from rfl), if_pos rfl, wakes1, Option.bind_some]
theorem ShaParts (b : List Int) (a1 a2 : Int) (_w0 : ∀ x ∈ b, (Lit.int .u8 x).wf = true) (_w1 : (Lit.int .i64 a1).wf = true) (_w2 : (Lit.int .i64 a2).wf = true) : law01_ShaParts b a1 a2 = some true := by
  unfold law01_ShaParts
  by_cases hl : b.length > 400
  · rw [if_pos (decide_eq_true (by omega))]
  rw [if_neg (by simp; omega)]
  have e1 : IntKind.u64.wrap (IntKind.i64.wrap ((↑(List.length b) : Int) + (1 : Int))) = ((b.length + 1 : Nat) : Int) := by
    rw [i64s _ (by omega) (by omega)]
    exact (congrArg IntKind.u64.wrap (by omega)).trans (u64n (b.length + 1) (by omega))
  rw [e1]
  obtain ⟨at', hat, hv⟩ := modN a1 (b.length + 1) (by omega) (by omega)
  rw [hv]
  have e2 : IntKind.u64.wrap (IntKind.i64.wrap ((at' : Int) + (1 : Int))) = ((at' + 1 : Nat) : Int) := by
    rw [i64s _ (by omega) (by omega)]
    exact (congrArg IntKind.u64.wrap (by omega)).trans (u64n (at' + 1) (by omega))
  rw [e2]
  obtain ⟨mid', hmid, hw⟩ := modN a2 (at' + 1) (by omega) (by omega)
  rw [hw]
  have t1 : ((at' : Int)).toNat = at' := rfl
  have t2 : ((mid' : Int)).toNat = mid' := rfl
  have t3 : (((↑(List.length b) : Int)).toNat) = b.length := rfl
  rw [t1, t2, t3]
  have hm : b.take mid' = (b.take at').take mid' := by rw [List.take_take, Nat.min_eq_left (by omega)]
  have w1 := write_0 (b.take mid') (by simp; omega)
  have w2 := write_to (b.take mid') ((b.take at').drop mid') (b.take at') (by rw [hm, List.take_append_drop]) (by simp; omega)
  have w3 := write_to (b.take at') [] (b.take at') (by simp) (by simp; omega)
  have w4 := write_to (b.take at') (b.drop at') b (by rw [List.take_append_drop]) (by omega)
  have w5 := write_0 b (by omega)
  have s1 := sum_ok (b.take mid') (by simp; omega)
  have s2 := sum_ok (b.take at') (by simp; omega)
  have s3 := sum_ok b (by omega)
  have S1 := shaSum_ok (b.take mid') (by simp; omega)
  have S2 := shaSum_ok (b.take at') (by simp; omega)
  have S3 := shaSum_ok b (by omega)
  have c0 : ((b.length + 1 : Nat) : Int) ≠ 0 := by omega
  have c1 : ((at' + 1 : Nat) : Int) ≠ 0 := by omega
  have c2 : 0 ≤ (0 : Int) ∧ (0 : Int) ≤ (mid' : Int) ∧ (mid' : Int) ≤ (b.length : Int) := ⟨by omega, by omega, by omega⟩
  have c3 : 0 ≤ (mid' : Int) ∧ (mid' : Int) ≤ (at' : Int) ∧ (at' : Int) ≤ (b.length : Int) := ⟨by omega, by omega, by omega⟩
  have c4 : 0 ≤ (at' : Int) ∧ (at' : Int) ≤ (b.length : Int) ∧ (b.length : Int) ≤ (b.length : Int) := ⟨by omega, by omega, by omega⟩
  have c5 : 0 ≤ (0 : Int) ∧ (0 : Int) ≤ (at' : Int) ∧ (at' : Int) ≤ (b.length : Int) := ⟨by omega, by omega, by omega⟩
  have bb : ((b.length : Int) == (b.length : Int)) = true := by simp
  simp only [if_pos c0, if_pos c1, if_pos c2, if_pos c3, if_pos c4, if_pos c5, new_0, obs, List.drop_zero, List.take_length, w1, w2, w3, w4, w5, s1, s2, s3, S1, S2, S3, lenS, bb, wakes1]
  rfl
theorem long_l0 (p : List Int) (a1 : Int) (n : Nat) (hp : p.length ≤ 100) (hn : n < 100) (hk : IntKind.i64.wrap ((IntKind.u64.wrap a1).tmod (100 : Int)) = (n : Int)) : ∀ (j i : Nat) (t : List Int), i + j = n → t.length ≤ 100 * i →
    ∃ u : List Int, u.length ≤ 10000 ∧ law01_ShaLong_l0 p a1 (j + 1) (hT t) (rT t) (t.length : Int) t (i : Int) = some (hT u, rT u, (u.length : Int), u) := by
  intro j
  induction j with
  | zero => intro i t hi ht; exact ⟨t, by omega, by rw [law01_ShaLong_l0, hk, if_neg (by simp; omega)]⟩
  | succ j ih =>
    intro i t hi ht
    obtain ⟨u, hu, hr⟩ := ih (i + 1) (t ++ p) (by omega) (by simp; omega)
    refine ⟨u, hu, ?_⟩
    have hc : List.length (t ++ p) ≤ maxN := by simp; unfold maxN; omega
    rw [law01_ShaLong_l0, hk, if_pos (decide_eq_true (by omega)), write_ok t p (by omega), next i (by omega), obs]
    simp only [if_pos hc]
    exact hr
theorem ShaLong (p : List Int) (a1 : Int) (_w0 : ∀ x ∈ p, (Lit.int .u8 x).wf = true) (_w1 : (Lit.int .i64 a1).wf = true) : law01_ShaLong p a1 = some true := by
  unfold law01_ShaLong
  by_cases hl : p.length > 100
  · rw [if_pos (decide_eq_true (by omega))]
  rw [if_neg (by simp; omega)]
  obtain ⟨n, hn, hk⟩ := modN a1 100 (by decide) (by decide)
  have hk : IntKind.i64.wrap ((IntKind.u64.wrap a1).tmod (100 : Int)) = (n : Int) := hk
  obtain ⟨u, hu, hr⟩ := long_l0 p a1 n (by omega) hn hk n 0 [] (by omega) (by simp)
  have hr : law01_ShaLong_l0 p a1 (((n : Int) - (0 : Int)).toNat + 1) (hT []) [] (0 : Int) [] (0 : Int) = some (hT u, rT u, (u.length : Int), u) := by
    rw [show ((n : Int) - (0 : Int)).toNat + 1 = n + 1 by omega]; exact hr
  have bb : ((u.length : Int) == (u.length : Int)) = true := by simp
  simp only [hk, new_0, obs, hr, lenS, bb, sum_ok u (by omega), shaSum_ok u (by omega), wakes1]
  rfl
theorem ShaTwo (a b : List Int) (_w0 : ∀ x ∈ a, (Lit.int .u8 x).wf = true) (_w1 : ∀ x ∈ b, (Lit.int .u8 x).wf = true) : law01_ShaTwo a b = some true := by
  unfold law01_ShaTwo
  by_cases hl : a.length > 400
  · rw [if_pos (decide_eq_true (by omega))]
  rw [if_neg (by simp; omega)]
  by_cases hb : b.length > 400
  · rw [if_pos (decide_eq_true (by omega))]
  rw [if_neg (by simp; omega)]
  have ba : ((a.length : Int) == (a.length : Int)) = true := by simp
  have z : ((0 : Int) != 0) = false := by decide
  have s0 : sha_Sha_Sum (hT []) [] 0 = some (S []) := sum_ok [] (by simp)
  have wa := write_0 a (by omega)
  have wb := write_0 b (by omega)
  have wc := write_to b a (b ++ a) rfl (by simp; omega)
  have sa := sum_ok a (by omega)
  have sc := sum_ok (b ++ a) (by simp; omega)
  have c1 : List.length ([] ++ b) ≤ maxN := by simp; unfold maxN; omega
  have c2 : List.length (b ++ a) ≤ maxN := by simp; unfold maxN; omega
  have c1' : b.length ≤ maxN := by unfold maxN; omega
  have bc : (((b ++ a).length : Int) == IntKind.i64.wrap ((a.length : Int) + (b.length : Int))) = true := by
    rw [i64s _ (by omega) (by omega), List.length_append]; simp; omega
  simp only [new_0, obs, s0, shaSum_ok [] (by simp), lenS, z, wa, wb, wc, sa, sc, List.nil_append, if_pos c1', if_pos c2, shaSum_ok a (by omega), shaSum_ok (b ++ a) (by simp; omega), ba, bc, wakes1]
  rfl
end Go.Sh
