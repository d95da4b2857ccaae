/- The page's SHA-512: all blocks. -/
import Derived.Test.YtdolipgngaljcaaWdG
namespace Go.Wd
open Go Go.Gw Go.Proofs.Sa.D
theorem blocks_eq (K a3 : List Int) (hK : wide_rounds = some K) (hKl : K.length = 80) (hb : a3.length ≤ 100000) : ∀ (j at' k f : Nat) (h : List Int), at' + 128 * j = a3.length → j < k → j < f →
    ref01_Sum512_l0 K a3 k h (at' : Int) = wide_Sum_l0 f h (a3.drop at') := by
  intro j
  induction j with
  | zero =>
    intro at' k f h ha hk hf
    obtain ⟨k, rfl⟩ : ∃ g, k = g + 1 := ⟨k - 1, by omega⟩
    obtain ⟨f, rfl⟩ : ∃ g, f = g + 1 := ⟨f - 1, by omega⟩
    have h0 : (a3.drop at').length = 0 := by simp; omega
    rw [ref01_Sum512_l0, wide_Sum_l0, h0, if_neg (by simp; omega), if_neg (by decide)]
  | succ j ih =>
    intro at' k f h ha hk hf
    obtain ⟨k, rfl⟩ : ∃ g, k = g + 1 := ⟨k - 1, by omega⟩
    obtain ⟨f, rfl⟩ : ∃ g, f = g + 1 := ⟨f - 1, by omega⟩
    have hl : (a3.drop at').length = 128 * (j + 1) := by simp; omega
    have hq : (((a3.drop at').take 128).drop 0).length = 128 := by simp; omega
    obtain ⟨s, hs⟩ := spread_ok _ hq
    obtain ⟨m7, h7⟩ := take_l0 h K s hKl 80 0 (by omega) h
    obtain ⟨m, h8⟩ := take_l1 m7 8 0 (by omega) h
    have hs0 : wide_spread_l0 (((a3.drop at').take 128).drop 0) (((80 : Int) - (0 : Int)).toNat + 1) (List.replicate 80 0) 0 = some s := by
      obtain ⟨s', hs'⟩ := spread_l0 _ hq 80 0 (by omega) (List.replicate 80 0)
      have : wide_spread (((a3.drop at').take 128).drop 0) = some s' := by unfold wide_spread; exact (congrArg (fun z => Option.bind z _) hs').trans rfl
      rw [hs] at this; cases this; exact hs'
    have l1 : ref01_Sum512_l1 K a3 h (at' : Int) (((80 : Int) - (0 : Int)).toNat + 1) (List.replicate 80 0) 0 = some s :=
      (spread_eq K a3 h (((a3.drop at').take 128).drop 0) at' (by omega) hb hq (fun i hi => by
        simp only [List.drop_zero, List.getD_eq_getElem?_getD]
        rw [List.getElem?_take_of_lt hi, List.getElem?_drop]) 80 0 (by omega) (List.replicate 80 0) ⟨by simp, fun i _ => by
        rw [List.getD_eq_getElem?_getD, List.getElem?_replicate]; split <;> rfl⟩).trans hs0
    have ht : wide_take h (((a3.drop at').take 128).drop 0) = some m := by
      unfold wide_take
      rw [hK, Option.bind_some, hs, Option.bind_some]
      exact (congrArg (fun z => Option.bind z _) h7).trans ((congrArg (fun z => Option.bind z _) h8).trans rfl)
    have e1 : IntKind.i64.wrap ((at' : Int) + 128) = ((at' + 128 : Nat) : Int) := by rw [i64s _ (by omega) (by omega)]; omega
    have e2 : (((a3.drop at').take (((↑(List.length (a3.drop at')) : Int)).toNat)).drop 128) = a3.drop (at' + 128) := by
      rw [Int.toNat_natCast, List.take_length, List.drop_drop]
    rw [ref01_Sum512_l0, wide_Sum_l0, if_pos (decide_eq_true (by omega)), if_pos (decide_eq_true (by omega)), l1, Option.bind_some, l3_eq K a3 s h _ h hKl, if_pos ⟨by omega, by omega, by omega⟩, ht, Option.bind_some, if_pos ⟨by omega, by omega, by omega⟩, e2, e1, ← ih (at' + 128) k f m (by omega) (by omega) (by omega)]
    refine (congrArg (fun z => Option.bind z _) h7).trans ?_
    rw [Option.bind_some, l4_eq]
    exact (congrArg (fun z => Option.bind z _) h8).trans rfl
end Go.Wd
