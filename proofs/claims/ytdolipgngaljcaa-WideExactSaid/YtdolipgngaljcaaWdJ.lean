/- WideBlocks. -/
import Derived.Test.YtdolipgngaljcaaWdI
namespace Go.Wd
open Go Go.Gw Go.Proofs.Sa.D
theorem sum512_eq (b : List Int) (h : b.length ≤ 10000) : ref01_Sum512 b = wide_Sum [b] := by
  obtain ⟨p, h1, h2, h3⟩ := padded_ok b h
  have hr : ∃ a, wide_rounds = some a ∧ a.length = 80 := ⟨_, rfl, by decide⟩
  obtain ⟨K, hK, hKl⟩ := hr
  have e := blocks_eq K p hK hKl (by omega) (p.length / 128) 0 (p.length + 1) (p.length + 1) [(7640891576956012808 : Int), (13503953896175478587 : Int), (4354685564936845355 : Int), (11912009170470909681 : Int), (5840696475078001361 : Int), (11170449401992604703 : Int), (2270897969802886507 : Int), (6620516959819538809 : Int)] (by omega) (by omega) (by omega)
  rw [List.drop_zero] at e
  have ef : (((↑(List.length p) : Int) - (0 : Int)).toNat + 1) = p.length + 1 := by omega
  obtain ⟨m, k1⟩ := sum_l0 (p.length / 128) (List.length p + 1) [(7640891576956012808 : Int), (13503953896175478587 : Int), (4354685564936845355 : Int), (11912009170470909681 : Int), (5840696475078001361 : Int), (11170449401992604703 : Int), (2270897969802886507 : Int), (6620516959819538809 : Int)] p (by omega) (by omega) (by omega)
  rw [k1] at e
  have l5 := l5_eq m 64 0 (by omega) (List.replicate 64 0)
  unfold ref01_Sum512 wide_Sum
  rw [k512_eq, hK, Option.bind_some, padded_eq b h, h1, Option.bind_some, ef, concat_ok [b] (by simp; omega) (by simp), Option.bind_some]
  simp only [List.flatten_cons, List.flatten_nil, List.append_nil]
  rw [h1, Option.bind_some, k1, Option.bind_some]
  refine (congrArg (fun z => Option.bind z _) e).trans ?_
  rw [Option.bind_some]
  exact congrArg (fun z => Option.bind z fun m66 => some m66) l5
theorem fill_l0 (a0 c : Int) (n : Nat) (hn : n < 300) (hk : IntKind.i64.wrap ((IntKind.u64.wrap a0).tmod (300 : Int)) = (n : Int)) : ∀ (j i : Nat), i + j = n → ∀ m : List Int, m.length = n → ∃ r, law02_WideBlocks_l0 a0 c (j + 1) m (i : Int) = some r ∧ r.length = n := by
  intro j
  induction j with
  | zero =>
    intro i hi m hm
    exact ⟨m, by rw [law02_WideBlocks_l0, hk, if_neg (by simp; omega)], hm⟩
  | succ j ih =>
    intro i hi m hm
    have et : ((i : Int)).toNat = i := rfl
    rw [law02_WideBlocks_l0, hk, if_pos (decide_eq_true (by omega)), if_pos ⟨by omega, by omega⟩, next i (by omega), et]
    exact ih (i + 1) (by omega) _ (by simp [hm])
theorem WideBlocks (a0 a1 : Int) (_w0 : (Lit.int .i64 a0).wf = true) (_w1 : (Lit.int .u8 a1).wf = true) : law02_WideBlocks a0 a1 = some true := by
  obtain ⟨n, hn, hk⟩ : ∃ n : Nat, n < 300 ∧ IntKind.i64.wrap ((IntKind.u64.wrap a0).tmod (300 : Int)) = (n : Int) := by
    have q0 : 0 ≤ IntKind.u64.wrap a0 := by simp only [IntKind.wrap, IntKind.bits, IntKind.signed]; simp; omega
    rw [Int.tmod_eq_emod_of_nonneg q0]
    refine ⟨(IntKind.u64.wrap a0 % 300).toNat, by omega, ?_⟩
    rw [i64s _ (by omega) (by omega)]; omega
  unfold law02_WideBlocks
  rw [hk]
  have et : ((n : Int)).toNat = n := rfl
  have ef : (((n : Int) - (0 : Int)).toNat + 1) = n + 1 := by omega
  obtain ⟨r, h1, h2⟩ := fill_l0 a0 a1 n hn hk n 0 (by omega) (List.replicate n (0 : Int)) (by simp)
  obtain ⟨s, g1, _⟩ := sum_some [r] (by simp; omega) (by simp)
  rw [if_pos ⟨by omega, by unfold maxN; omega⟩, et, ef]
  refine (congrArg (fun z => Option.bind z _) h1).trans ?_
  rw [Option.bind_some, g1, Option.bind_some, sum512_eq r (by omega), g1, Option.bind_some, decide_eq_true (show s = s from rfl), if_pos rfl, wakes2, Option.bind_some]
end Go.Wd
