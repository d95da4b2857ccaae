/- WideParts. -/
import Derived.Test.YtdolipgngaljcaaWdC
namespace Go.Wd
open Go Go.Gw Go.Proofs.Sa.D
theorem WideParts (b : List Int) (a1 a2 : Int) (_w0 : ∀ x ∈ b, (Lit.int .u8 x).wf = true) (_w1 : (Lit.int .i64 a1).wf = true) (_w2 : (Lit.int .i64 a2).wf = true) : law02_WideParts b a1 a2 = some true := by
  unfold law02_WideParts
  by_cases hl : b.length > 400
  · rw [if_pos (decide_eq_true (by omega))]
  rw [if_neg (by simp; omega)]
  have u64p : ∀ n : Nat, n < 100000 → IntKind.u64.wrap (n : Int) = (n : Int) := fun n h => by
    simp only [IntKind.wrap, IntKind.bits, IntKind.signed]; simp; omega
  have e1 : IntKind.u64.wrap (IntKind.i64.wrap ((↑(List.length b) : Int) + (1 : Int))) = ((b.length + 1 : Nat) : Int) := by
    rw [i64s _ (by omega) (by omega)]
    exact (congrArg IntKind.u64.wrap (by omega)).trans (u64p (b.length + 1) (by omega))
  have pos : ∀ x : Int, 0 ≤ IntKind.u64.wrap x := fun x => by
    simp only [IntKind.wrap, IntKind.bits, IntKind.signed]; simp; omega
  rw [e1]
  obtain ⟨at', hat, hv⟩ : ∃ at' : Nat, at' ≤ b.length ∧ IntKind.i64.wrap ((IntKind.u64.wrap a1).tmod ((b.length + 1 : Nat) : Int)) = (at' : Int) := by
    have q0 := pos a1
    rw [Int.tmod_eq_emod_of_nonneg q0]
    have q1 := Int.emod_nonneg (IntKind.u64.wrap a1) (show ((b.length + 1 : Nat) : Int) ≠ 0 by omega)
    have q2 := Int.emod_lt_of_pos (IntKind.u64.wrap a1) (show (0 : Int) < ((b.length + 1 : Nat) : Int) by omega)
    refine ⟨(IntKind.u64.wrap a1 % ((b.length + 1 : Nat) : Int)).toNat, by omega, ?_⟩
    rw [i64s _ q1 (by omega)]; omega
  rw [hv]
  have e2 : IntKind.u64.wrap (IntKind.i64.wrap ((at' : Int) + (1 : Int))) = ((at' + 1 : Nat) : Int) := by
    rw [i64s _ (by omega) (by omega)]
    exact (congrArg IntKind.u64.wrap (by omega)).trans (u64p (at' + 1) (by omega))
  rw [e2]
  obtain ⟨mid', hmid, hw⟩ : ∃ mid' : Nat, mid' ≤ at' ∧ IntKind.i64.wrap ((IntKind.u64.wrap a2).tmod ((at' + 1 : Nat) : Int)) = (mid' : Int) := by
    have q0 := pos a2
    rw [Int.tmod_eq_emod_of_nonneg q0]
    have q1 := Int.emod_nonneg (IntKind.u64.wrap a2) (show ((at' + 1 : Nat) : Int) ≠ 0 by omega)
    have q2 := Int.emod_lt_of_pos (IntKind.u64.wrap a2) (show (0 : Int) < ((at' + 1 : Nat) : Int) by omega)
    refine ⟨(IntKind.u64.wrap a2 % ((at' + 1 : Nat) : Int)).toNat, by omega, ?_⟩
    rw [i64s _ q1 (by omega)]; omega
  rw [hw]
  have t1 : ((at' : Int)).toNat = at' := rfl
  have t2 : ((mid' : Int)).toNat = mid' := rfl
  have t3 : (((↑(List.length b) : Int)).toNat) = b.length := rfl
  rw [t1, t2, t3]
  obtain ⟨r, h1, h2⟩ := sum_some [b] (by simp; omega) (by simp)
  obtain ⟨s, g1, g2⟩ := sum_some [] (by simp) (by simp)
  have hf : ([((b.take mid').drop 0), [], ((b.take at').drop mid'), ((b.take b.length).drop at'), []] : List (List Int)).flatten = [b].flatten := by
    simp only [List.flatten_cons, List.flatten_nil, List.append_nil, List.drop_zero, List.nil_append, List.take_length]
    have hm : b.take mid' = (b.take at').take mid' := by rw [List.take_take, Nat.min_eq_left hmid]
    rw [hm, ← List.append_assoc, List.take_append_drop, List.take_append_drop]
  have hp := h2 _ hf (by simp)
  have hq := g2 [[], []] (by simp) (by simp)
  rw [if_pos (by omega), if_pos (by omega), h1, Option.bind_some, if_pos ⟨by omega, by omega, by omega⟩, if_pos ⟨by omega, by omega, by omega⟩, if_pos ⟨by omega, by omega, by omega⟩, hp, Option.bind_some, decide_eq_true (show r = r from rfl), if_pos rfl,
    g1, Option.bind_some, hq, Option.bind_some, decide_eq_true (show s = s from rfl), if_pos rfl, wakes2, Option.bind_some]
end Go.Wd
