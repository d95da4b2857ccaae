/- SHA-256 of the program comes to an end: each inner function answers. -/
import Derived.Test.YtdolipgngaljcaaWdA
namespace Go.Sh
open Go Go.Gw Go.Wd Go.Proofs.Sa.D
theorem next (i : Nat) (h : i < 1000000) : IntKind.i64.wrap ((i : Int) + 1) = ((i + 1 : Nat) : Int) := by rw [i64s _ (by omega) (by omega)]; omega
theorem high_l0 (b : List Int) (hl : b.length ≤ 1000) : ∀ j i : Nat, i + j = b.length → ∀ x, ∃ r, sha_high_l0 b (j + 1) x (i : Int) = some r := by
  intro j
  induction j with
  | zero => intro i hi x; exact ⟨x, by rw [sha_high_l0, if_neg (by simp; omega)]⟩
  | succ j ih =>
    intro i hi x
    obtain ⟨r, hr⟩ := ih (i + 1) (by omega) (bor .u32 (shl .u32 x (8 : Int)) (IntKind.u32.wrap (b.getD i 0)))
    refine ⟨r, ?_⟩
    have e1 : (i : Int).toNat = i := rfl
    rw [sha_high_l0, if_pos (decide_eq_true (by omega)), if_pos ⟨by omega, by omega⟩, next i (by omega), e1]
    exact hr
theorem high_ok (b : List Int) (hl : b.length ≤ 1000) : ∃ r, sha_high b = some r := by
  obtain ⟨r, hr⟩ := high_l0 b hl b.length 0 (by omega) 0
  refine ⟨r, ?_⟩
  have e : (((↑(List.length b) : Int) - (0 : Int)).toNat + 1) = b.length + 1 := by omega
  unfold sha_high
  rw [e]
  exact (congrArg (fun z => Option.bind z _) hr).trans rfl
def rot (x : Int) (k : Int) : Int := bor .u32 (shl .u32 x (band .u64 (IntKind.u64.wrap k) (31 : Int))) (shr .u32 x (IntKind.u64.wrap ((32 : Int) - (band .u64 (IntKind.u64.wrap k) (31 : Int)))))
theorem rot_ok (x k : Int) (h1 : 0 ≤ band .u64 (IntKind.u64.wrap k) (31 : Int)) (h2 : 0 ≤ IntKind.u64.wrap ((32 : Int) - (band .u64 (IntKind.u64.wrap k) (31 : Int)))) : math_bits_RotateLeft32 x k = some (rot x k) := by
  unfold math_bits_RotateLeft32; rw [if_pos h1, if_pos h2]; rfl
theorem spread_l0 (p : List Int) (hp : p.length = 64) : ∀ j i : Nat, i + j = 64 → ∀ m, ∃ r, sha_spread_l0 p (j + 1) m (i : Int) = some r := by
  intro j
  induction j with
  | zero =>
    intro i hi m
    have : i = 64 := by omega
    subst this
    exact ⟨m, by rw [sha_spread_l0, if_neg (by decide)]⟩
  | succ j ih =>
    intro i hi m
    have e8 : IntKind.i64.wrap ((4 : Int) * (i : Int)) = ((4 * i : Nat) : Int) := by rw [i64s _ (by omega) (by omega)]; omega
    have e8' : IntKind.i64.wrap (((4 * i : Nat) : Int) + 4) = ((4 * i + 4 : Nat) : Int) := by rw [i64s _ (by omega) (by omega)]; omega
    rw [sha_spread_l0, if_pos (decide_eq_true (by omega)), next i (by omega)]
    by_cases h16 : i < 16
    · rw [if_pos (decide_eq_true (by omega)), e8, e8', if_pos ⟨by omega, by omega, by omega⟩]
      obtain ⟨r, hr⟩ := high_ok ((p.take (((4 * i + 4 : Nat) : Int)).toNat).drop (((4 * i : Nat) : Int)).toNat) (by simp; omega)
      rw [hr, Option.bind_some, if_pos ⟨by omega, by omega⟩]
      exact ih (i + 1) (by omega) _
    · have s15 : IntKind.i64.wrap ((i : Int) - 15) = ((i - 15 : Nat) : Int) := by rw [i64s _ (by omega) (by omega)]; omega
      have s2 : IntKind.i64.wrap ((i : Int) - 2) = ((i - 2 : Nat) : Int) := by rw [i64s _ (by omega) (by omega)]; omega
      have s16 : IntKind.i64.wrap ((i : Int) - 16) = ((i - 16 : Nat) : Int) := by rw [i64s _ (by omega) (by omega)]; omega
      have s7 : IntKind.i64.wrap ((i : Int) - 7) = ((i - 7 : Nat) : Int) := by rw [i64s _ (by omega) (by omega)]; omega
      rw [if_neg (by simp; omega), s15, s2, s16, s7, if_pos ⟨by omega, by omega⟩, if_pos ⟨by omega, by omega⟩,
        rot_ok _ (-7) (by decide) (by decide), Option.bind_some, rot_ok _ (-18) (by decide) (by decide), Option.bind_some, rot_ok _ (-17) (by decide) (by decide), Option.bind_some, rot_ok _ (-19) (by decide) (by decide), Option.bind_some,
        if_pos ⟨by omega, by omega⟩, if_pos ⟨by omega, by omega⟩, if_pos ⟨by omega, by omega⟩]
      exact ih (i + 1) (by omega) _
theorem spread_ok (p : List Int) (hp : p.length = 64) : ∃ r, sha_spread p = some r := by
  obtain ⟨r, hr⟩ := spread_l0 p hp 64 0 (by omega) (List.replicate 64 0)
  exact ⟨r, by unfold sha_spread; exact (congrArg (fun z => Option.bind z _) hr).trans rfl⟩
theorem take_l0 (h a1 a3 : List Int) (ha : a1.length = 64) : ∀ j i : Nat, i + j = 64 → ∀ m, ∃ r, sha_words_take_l0 h a1 a3 (j + 1) m (i : Int) = some r := by
  intro j
  induction j with
  | zero =>
    intro i hi m
    have : i = 64 := by omega
    subst this
    exact ⟨m, by rw [sha_words_take_l0, if_neg (by decide)]⟩
  | succ j ih =>
    intro i hi m
    rw [sha_words_take_l0, if_pos (decide_eq_true (by omega)), if_pos ⟨by omega, by omega⟩,
      rot_ok _ (-6) (by decide) (by decide), Option.bind_some, rot_ok _ (-11) (by decide) (by decide), Option.bind_some, rot_ok _ (-25) (by decide) (by decide), Option.bind_some, if_pos ⟨by omega, by omega⟩,
      rot_ok _ (-2) (by decide) (by decide), Option.bind_some, rot_ok _ (-13) (by decide) (by decide), Option.bind_some, rot_ok _ (-22) (by decide) (by decide), Option.bind_some, next i (by omega)]
    exact ih (i + 1) (by omega) _
theorem take_l1 (m7 : List Int) : ∀ j i : Nat, i + j = 8 → ∀ m, ∃ r, sha_words_take_l1 m7 (j + 1) m (i : Int) = some r := by
  intro j
  induction j with
  | zero =>
    intro i hi m
    have : i = 8 := by omega
    subst this
    exact ⟨m, by rw [sha_words_take_l1, if_neg (by decide)]⟩
  | succ j ih =>
    intro i hi m
    rw [sha_words_take_l1, if_pos (decide_eq_true (by omega)), if_pos ⟨by omega, by omega⟩, if_pos ⟨by omega, by omega⟩, if_pos ⟨by omega, by omega⟩, next i (by omega)]
    exact ih (i + 1) (by omega) _
theorem take_ok (h p : List Int) (hp : p.length = 64) : ∃ r, sha_words_take h p = some r := by
  obtain ⟨s, hs⟩ := spread_ok p hp
  unfold sha_words_take
  have hr : ∃ a, sha_rounds = some a ∧ a.length = 64 := ⟨_, rfl, by decide⟩
  obtain ⟨a, ha, hal⟩ := hr
  obtain ⟨r, hr⟩ := take_l0 h a s hal 64 0 (by omega) h
  obtain ⟨q, hq⟩ := take_l1 r 8 0 (by omega) h
  refine ⟨q, ?_⟩
  rw [ha, Option.bind_some, hs, Option.bind_some]
  exact (congrArg (fun z => Option.bind z _) hr).trans ((congrArg (fun z => Option.bind z _) hq).trans rfl)
/-- what the words are behind a block -/
def tk (h p : List Int) : List Int := (sha_words_take h p).getD []
theorem tk_ok (h p : List Int) (hp : p.length = 64) : sha_words_take h p = some (tk h p) := by
  obtain ⟨r, hr⟩ := take_ok h p hp
  unfold tk; rw [hr]; rfl
/-- behind some blocks -/
def run : Nat → List Int → List Int → List Int
  | 0, h, _ => h
  | j + 1, h, t => run j (tk h (t.take 64)) (t.drop 64)
theorem run_add : ∀ (i j : Nat) (h t : List Int), run (i + j) h t = run j (run i h t) (t.drop (64 * i)) := by
  intro i
  induction i with
  | zero => intro j h t; simp [run]
  | succ i ih =>
    intro j h t
    rw [Nat.add_right_comm, run, ih, run, List.drop_drop]
    congr 2; omega
theorem run_front : ∀ (i : Nat) (h t b : List Int), 64 * i ≤ t.length → run i h (t ++ b) = run i h t := by
  intro i
  induction i with
  | zero => intro h t b _; rfl
  | succ i ih =>
    intro h t b hl
    rw [run, run, List.take_append_of_le_length (by omega), List.drop_append_of_le_length (by omega), ih _ _ _ (by simp; omega)]
theorem write_l0 (s1 : List Int) (s2 : Int) (b : List Int) : ∀ (j k : Nat) (h t : List Int), 64 * j ≤ t.length → t.length < 64 * (j + 1) → j < k →
    sha_Sha_Write_l0 s1 s2 b k h t = some (run j h t, t.drop (64 * j)) := by
  intro j
  induction j with
  | zero =>
    intro k h t h1 h2 hk
    obtain ⟨k, rfl⟩ : ∃ g, k = g + 1 := ⟨k - 1, by omega⟩
    rw [sha_Sha_Write_l0, if_neg (by simp; omega)]; rfl
  | succ j ih =>
    intro k h t h1 h2 hk
    obtain ⟨k, rfl⟩ : ∃ g, k = g + 1 := ⟨k - 1, by omega⟩
    have e2 : (t.take (((↑(List.length t) : Int)).toNat)).drop 64 = t.drop 64 := by rw [Int.toNat_natCast, List.take_length]
    rw [sha_Sha_Write_l0, if_pos (decide_eq_true (by omega)), if_pos ⟨by omega, by omega, by omega⟩, List.drop_zero, tk_ok _ _ (by simp; omega), Option.bind_some, if_pos ⟨by omega, by omega, by omega⟩, e2,
      ih k _ _ (by simp; omega) (by simp; omega) (by omega), run, List.drop_drop]
    congr 3; omega
theorem sum_l2 : ∀ (j k : Nat) (h t : List Int), t.length = 64 * j → j < k → sha_Sha_Sum_l2 k h t = some (run j h t) := by
  intro j
  induction j with
  | zero =>
    intro k h t h1 hk
    obtain ⟨k, rfl⟩ : ∃ g, k = g + 1 := ⟨k - 1, by omega⟩
    have h0 : t.length = 0 := by omega
    rw [sha_Sha_Sum_l2, h0, if_neg (by decide)]; rfl
  | succ j ih =>
    intro k h t h1 hk
    obtain ⟨k, rfl⟩ : ∃ g, k = g + 1 := ⟨k - 1, by omega⟩
    have e2 : (t.take (((↑(List.length t) : Int)).toNat)).drop 64 = t.drop 64 := by rw [Int.toNat_natCast, List.take_length]
    rw [sha_Sha_Sum_l2, if_pos (decide_eq_true (by omega)), if_pos ⟨by omega, by omega, by omega⟩, List.drop_zero, tk_ok _ _ (by simp; omega), Option.bind_some, if_pos ⟨by omega, by omega, by omega⟩, e2,
      ih k _ _ (by simp; omega) (by omega), run]
theorem sum_l3 (m7 : List Int) : ∀ j i : Nat, i + j = 32 → ∀ m, ∃ r, sha_Sha_Sum_l3 m7 (j + 1) m (i : Int) = some r := by
  intro j
  induction j with
  | zero =>
    intro i hi m
    have : i = 32 := by omega
    subst this
    exact ⟨m, by rw [sha_Sha_Sum_l3, if_neg (by decide)]⟩
  | succ j ih =>
    intro i hi m
    have e1 : (i : Int).tdiv 4 = ((i / 4 : Nat) : Int) := rfl
    have e2 : (i : Int).tmod 4 = ((i % 4 : Nat) : Int) := rfl
    have e3 : IntKind.i64.wrap ((i / 4 : Nat) : Int) = ((i / 4 : Nat) : Int) := i64s _ (by omega) (by omega)
    have e4 : IntKind.i64.wrap ((8 : Int) * ((i % 4 : Nat) : Int)) = ((8 * (i % 4) : Nat) : Int) := by rw [i64s _ (by omega) (by omega)]; omega
    have e5 : IntKind.i64.wrap ((24 : Int) - ((8 * (i % 4) : Nat) : Int)) = ((24 - 8 * (i % 4) : Nat) : Int) := by rw [i64s _ (by omega) (by omega)]; omega
    rw [sha_Sha_Sum_l3, if_pos (decide_eq_true (by omega)), e1, e2, e3, e4, e5, if_pos ⟨by omega, by omega⟩, if_pos (by omega), if_pos ⟨by omega, by omega⟩, next i (by omega)]
    exact ih (i + 1) (by omega) _
/-- the bytes of the words -/
def fin (h : List Int) : List Int := (sha_Sha_Sum_l3 h 33 (List.replicate 32 0) 0).getD []
theorem fin_ok (h : List Int) : sha_Sha_Sum_l3 h 33 (List.replicate 32 0) 0 = some (fin h) := by
  obtain ⟨r, hr⟩ := sum_l3 h 32 0 (by omega) (List.replicate 32 0)
  have hr' : sha_Sha_Sum_l3 h 33 (List.replicate 32 0) 0 = some r := hr
  unfold fin; rw [hr']; rfl
end Go.Sh
