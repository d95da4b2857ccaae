/- The page's SHA-256 is the program's. -/
import Derived.Test.YtdolipgngaljcaaShB
namespace Go.Sh
open Go Go.Gw Go.Wd Go.Proofs.Sa.D
theorem rr (x n : Int) (k : Int) (h : IntKind.i64.wrap (0 - n) = k) (h1 : 0 ≤ band .u64 (IntKind.u64.wrap k) (31 : Int)) (h2 : 0 ≤ IntKind.u64.wrap ((32 : Int) - (band .u64 (IntKind.u64.wrap k) (31 : Int)))) : ref01_rot32 x n = some (rot x k) := by
  unfold ref01_rot32; rw [h, rot_ok x k h1 h2, Option.bind_some]
theorem l3_eq (a1 a3 w m5 : List Int) (at6 : Int) (h0 : List Int) (ha : a1.length = 64) : ∀ (k : Nat) (m : List Int) (i : Int), ref01_Sum256_l3 a1 a3 m5 at6 w k m i = sha_words_take_l0 h0 a1 w k m i := by
  intro k
  induction k with
  | zero => intro m i; rfl
  | succ k ih =>
    intro m i
    rw [ref01_Sum256_l3, sha_words_take_l0, ha]
    by_cases c1 : decide (i < (64 : Int)) = true
    · rw [if_pos c1, if_pos c1, rr _ 6 (-6) (by decide) (by decide) (by decide), rr _ 11 (-11) (by decide) (by decide) (by decide), rr _ 25 (-25) (by decide) (by decide) (by decide), rr _ 2 (-2) (by decide) (by decide) (by decide), rr _ 13 (-13) (by decide) (by decide) (by decide), rr _ 22 (-22) (by decide) (by decide) (by decide),
        rot_ok _ (-6) (by decide) (by decide), rot_ok _ (-11) (by decide) (by decide), rot_ok _ (-25) (by decide) (by decide), rot_ok _ (-2) (by decide) (by decide), rot_ok _ (-13) (by decide) (by decide), rot_ok _ (-22) (by decide) (by decide)]
      by_cases c2 : 0 ≤ i ∧ i < ((64 : Nat) : Int)
      · simp only [if_pos c2, Option.bind_some, ih]
      · simp only [if_neg c2, Option.bind_some]
    · rw [if_neg c1, if_neg c1]
theorem l4_eq (a1 a3 : List Int) (at6 : Int) (m38 : List Int) : ∀ (k : Nat) (m : List Int) (i : Int), ref01_Sum256_l4 a1 a3 at6 m38 k m i = sha_words_take_l1 m38 k m i := by
  intro k
  induction k with
  | zero => intro m i; rfl
  | succ k ih => intro m i; rw [ref01_Sum256_l4, sha_words_take_l1, ih]
theorem l5_eq (m7 : List Int) : ∀ (j i : Nat), i + j = 32 → ∀ m, ref01_Sum256_l5 m7 (j + 1) m (i : Int) = sha_Sha_Sum_l3 m7 (j + 1) m (i : Int) := by
  intro j
  induction j with
  | zero =>
    intro i hi m
    have : i = 32 := by omega
    subst this
    rw [ref01_Sum256_l5, sha_Sha_Sum_l3, if_neg (by decide), if_neg (by decide)]
  | succ j ih =>
    intro i hi m
    have e1 : (i : Int).tdiv 4 = ((i / 4 : Nat) : Int) := rfl
    have e2 : (i : Int).tmod 4 = ((i % 4 : Nat) : Int) := rfl
    have e3 : IntKind.i64.wrap ((i / 4 : Nat) : Int) = ((i / 4 : Nat) : Int) := i64s _ (by omega) (by omega)
    have e4 : IntKind.i64.wrap ((8 : Int) * ((i % 4 : Nat) : Int)) = ((8 * (i % 4) : Nat) : Int) := by rw [i64s _ (by omega) (by omega)]; omega
    have e5 : IntKind.i64.wrap ((24 : Int) - ((8 * (i % 4) : Nat) : Int)) = ((24 - 8 * (i % 4) : Nat) : Int) := by rw [i64s _ (by omega) (by omega)]; omega
    have e6 : IntKind.u64.wrap ((24 - 8 * (i % 4) : Nat) : Int) = ((24 - 8 * (i % 4) : Nat) : Int) := u64n _ (by omega)
    rw [ref01_Sum256_l5, sha_Sha_Sum_l3, if_pos (decide_eq_true (by omega)), if_pos (decide_eq_true (by omega)), e1, e2, e3, e4, e5, e6, if_pos ⟨by omega, by omega⟩, if_pos (by omega), if_pos ⟨by omega, by omega⟩, if_pos ⟨by omega, by omega⟩, if_pos (by omega), if_pos ⟨by omega, by omega⟩, next i (by omega)]
    exact ih (i + 1) (by omega) _
theorem k256_eq : ref01_k256 = sha_rounds := by kernel_rfl
def wN (c : Nat → Int) (n : Nat) : Int := (List.range n).foldl (fun x j => bor .u32 (shl .u32 x (8 : Int)) (IntKind.u32.wrap (c j))) 0
theorem wN_succ (c : Nat → Int) (n : Nat) : wN c (n + 1) = bor .u32 (shl .u32 (wN c n) (8 : Int)) (IntKind.u32.wrap (c n)) := by
  unfold wN; rw [List.range_succ, List.foldl_append]; rfl
theorem high4 (c : Nat → Int) : sha_high ((List.range 4).map c) = some (wN c 4) := by kernel_rfl
theorem slice4 (p : List Int) (hp : p.length = 64) (t : Nat) (ht : t < 16) : ((p.take (4 * t + 4)).drop (4 * t)) = (List.range 4).map (fun j => p.getD (4 * t + j) 0) := by
  apply List.ext_getElem
  · simp; omega
  · intro i h1 h2
    have hi : i < 4 := by simpa using h2
    simp only [List.getElem_map, List.getElem_range, List.getElem_drop, List.getElem_take, List.getD_eq_getElem?_getD]
    rw [List.getElem?_eq_getElem (by omega)]; rfl
theorem l2_ok (K a3 m5 : List Int) (at' t : Nat) (ht : t < 16) (hat : at' + 64 ≤ a3.length) (hb : a3.length ≤ 200000) : ∀ (j i : Nat), i + j = 4 → ∀ m : List Int, m.length = 64 → m.getD t 0 = wN (fun j => a3.getD (at' + 4 * t + j) 0) i →
    ref01_Sum256_l2 K a3 m5 (at' : Int) (t : Int) (j + 1) m (i : Int) = some (m.set t (wN (fun j => a3.getD (at' + 4 * t + j) 0) 4)) := by
  intro j
  induction j with
  | zero =>
    intro i hi m hm h0
    have : i = 4 := by omega
    subst this
    rw [ref01_Sum256_l2, if_neg (by decide), ← h0, set_self m t (by omega)]
  | succ j ih =>
    intro i hi m hm h0
    have e8 : IntKind.i64.wrap ((4 : Int) * (t : Int)) = ((4 * t : Nat) : Int) := by rw [i64s _ (by omega) (by omega)]; omega
    have ea : IntKind.i64.wrap ((at' : Int) + ((4 * t : Nat) : Int)) = ((at' + 4 * t : Nat) : Int) := by rw [i64s _ (by omega) (by omega)]; omega
    have eb : IntKind.i64.wrap (((at' + 4 * t : Nat) : Int) + (i : Int)) = ((at' + 4 * t + i : Nat) : Int) := by rw [i64s _ (by omega) (by omega)]; omega
    have et : ((t : Int)).toNat = t := rfl
    have ex : (((at' + 4 * t + i : Nat) : Int)).toNat = at' + 4 * t + i := rfl
    have r := ih (i + 1) (by omega) (m.set t (wN (fun j => a3.getD (at' + 4 * t + j) 0) (i + 1))) (by simp [hm]) (by
      rw [List.getD_eq_getElem?_getD, List.getElem?_set_self (by omega)]; rfl)
    rw [List.set_set] at r
    rw [ref01_Sum256_l2, if_pos (decide_eq_true (by omega)), if_pos ⟨by omega, by omega⟩, e8, ea, eb, if_pos ⟨by omega, by omega⟩, if_pos ⟨by omega, by omega⟩, et, ex, h0, next i (by omega), ← wN_succ (fun j => a3.getD (at' + 4 * t + j) 0) i]
    exact r
def Zero (m : List Int) (t : Nat) : Prop := m.length = 64 ∧ ∀ s, t ≤ s → m.getD s 0 = 0
theorem Zero.set {m : List Int} {t : Nat} (h : Zero m t) (v : Int) : Zero (m.set t v) (t + 1) := by
  refine ⟨by simp [h.1], fun s hs => ?_⟩
  have := h.2 s (by omega)
  rw [List.getD_eq_getElem?_getD] at *
  rw [List.getElem?_set_ne (by omega)]; exact this
theorem add_order (a s b t : Int) : IntKind.u32.wrap (IntKind.u32.wrap (IntKind.u32.wrap (a + b) + s) + t) = IntKind.u32.wrap (IntKind.u32.wrap (IntKind.u32.wrap (a + s) + b) + t) := by
  simp only [IntKind.wrap, IntKind.bits, IntKind.signed]; simp; omega
theorem spread_eq (K a3 m5 p : List Int) (at' : Nat) (hat : at' + 64 ≤ a3.length) (hb : a3.length ≤ 200000) (hp : p.length = 64) (hc : ∀ j, j < 64 → p.getD j 0 = a3.getD (at' + j) 0) : ∀ (j t : Nat), t + j = 64 → ∀ m : List Int, Zero m t →
    ref01_Sum256_l1 K a3 m5 (at' : Int) (j + 1) m (t : Int) = sha_spread_l0 p (j + 1) m (t : Int) := by
  intro j
  induction j with
  | zero =>
    intro t hi m _
    have : t = 64 := by omega
    subst this
    rw [ref01_Sum256_l1, sha_spread_l0, if_neg (by decide), if_neg (by decide)]
  | succ j ih =>
    intro t hi m hz
    have et : ((t : Int)).toNat = t := rfl
    have d80 : decide ((t : Int) < 64) = true := decide_eq_true (by omega)
    rw [ref01_Sum256_l1, sha_spread_l0, if_pos d80, if_pos d80, next t (by omega)]
    by_cases h16 : t < 16
    · have e8 : IntKind.i64.wrap ((4 : Int) * (t : Int)) = ((4 * t : Nat) : Int) := by rw [i64s _ (by omega) (by omega)]; omega
      have e8' : IntKind.i64.wrap (((4 * t : Nat) : Int) + 4) = ((4 * t + 4 : Nat) : Int) := by rw [i64s _ (by omega) (by omega)]; omega
      have x1 : (((4 * t : Nat) : Int)).toNat = 4 * t := rfl
      have x2 : (((4 * t + 4 : Nat) : Int)).toNat = 4 * t + 4 := rfl
      have l2 := l2_ok K a3 m5 at' t h16 hat hb 4 0 (by omega) m hz.1 (by rw [hz.2 t (by omega)]; rfl)
      have ew : wN (fun j => p.getD (4 * t + j) 0) 4 = wN (fun j => a3.getD (at' + 4 * t + j) 0) 4 := by
        have q : ∀ j, j < 4 → p.getD (4 * t + j) 0 = a3.getD (at' + 4 * t + j) 0 := fun j hj => by rw [hc _ (by omega), Nat.add_assoc]
        simp only [wN_succ, q 0 (by decide), q 1 (by decide), q 2 (by decide), q 3 (by decide)]
        rfl
      have d16 : decide ((t : Int) < 16) = true := decide_eq_true (by omega)
      rw [if_pos d16, if_pos d16, e8, e8', x1, x2, if_pos ⟨by omega, by omega, by omega⟩, slice4 p hp t h16, high4, Option.bind_some, if_pos ⟨by omega, by omega⟩, et, ew]
      exact (congrArg (fun z => Option.bind z _) l2).trans (ih (t + 1) (by omega) _ (hz.set _))
    · have s15 : IntKind.i64.wrap ((t : Int) - 15) = ((t - 15 : Nat) : Int) := by rw [i64s _ (by omega) (by omega)]; omega
      have s2 : IntKind.i64.wrap ((t : Int) - 2) = ((t - 2 : Nat) : Int) := by rw [i64s _ (by omega) (by omega)]; omega
      have s16 : IntKind.i64.wrap ((t : Int) - 16) = ((t - 16 : Nat) : Int) := by rw [i64s _ (by omega) (by omega)]; omega
      have s7 : IntKind.i64.wrap ((t : Int) - 7) = ((t - 7 : Nat) : Int) := by rw [i64s _ (by omega) (by omega)]; omega
      have d16 : ¬ decide ((t : Int) < 16) = true := by simp; omega
      have b15 : (0 : Int) ≤ ((t - 15 : Nat) : Int) ∧ ((t - 15 : Nat) : Int) < ((64 : Nat) : Int) := ⟨by omega, by omega⟩
      have b2 : (0 : Int) ≤ ((t - 2 : Nat) : Int) ∧ ((t - 2 : Nat) : Int) < ((64 : Nat) : Int) := ⟨by omega, by omega⟩
      have b16 : (0 : Int) ≤ ((t - 16 : Nat) : Int) ∧ ((t - 16 : Nat) : Int) < ((64 : Nat) : Int) := ⟨by omega, by omega⟩
      have b7 : (0 : Int) ≤ ((t - 7 : Nat) : Int) ∧ ((t - 7 : Nat) : Int) < ((64 : Nat) : Int) := ⟨by omega, by omega⟩
      rw [if_neg d16, if_neg d16, s15, s2, s16, s7, if_pos b15, if_pos b2, if_pos b16, if_pos b7, if_pos b15, if_pos b2,
        rr _ 7 (-7) (by decide) (by decide) (by decide), rr _ 18 (-18) (by decide) (by decide) (by decide), rr _ 17 (-17) (by decide) (by decide) (by decide), rr _ 19 (-19) (by decide) (by decide) (by decide),
        rot_ok _ (-7) (by decide) (by decide), rot_ok _ (-18) (by decide) (by decide), rot_ok _ (-17) (by decide) (by decide), rot_ok _ (-19) (by decide) (by decide)]
      have c80 : (0 : Int) ≤ (t : Int) ∧ (t : Int) < ((64 : Nat) : Int) := ⟨by omega, by omega⟩
      simp only [Option.bind_some, if_pos c80, if_pos b16, if_pos b7]
      rw [add_order]
      exact ih (t + 1) (by omega) _ (hz.set _)
theorem blocks_eq (K a3 : List Int) (hK : sha_rounds = some K) (hKl : K.length = 64) (hb : a3.length ≤ 200000) : ∀ (j at' k : Nat) (h : List Int), at' + 64 * j = a3.length → j < k →
    ref01_Sum256_l0 K a3 k h (at' : Int) = some (run j h (a3.drop at')) := by
  intro j
  induction j with
  | zero =>
    intro at' k h ha hk
    obtain ⟨k, rfl⟩ : ∃ g, k = g + 1 := ⟨k - 1, by omega⟩
    rw [ref01_Sum256_l0, if_neg (by simp; omega)]; rfl
  | succ j ih =>
    intro at' k h ha hk
    obtain ⟨k, rfl⟩ : ∃ g, k = g + 1 := ⟨k - 1, by omega⟩
    have hq : ((a3.drop at').take 64).length = 64 := by simp; omega
    obtain ⟨s, hs0⟩ := spread_l0 _ hq 64 0 (by omega) (List.replicate 64 0)
    have hs0 : sha_spread_l0 ((a3.drop at').take 64) (((64 : Int) - (0 : Int)).toNat + 1) (List.replicate 64 0) 0 = some s := hs0
    have hs : sha_spread ((a3.drop at').take 64) = some s := by unfold sha_spread; exact (congrArg (fun z => Option.bind z _) hs0).trans rfl
    obtain ⟨m7, h7⟩ := take_l0 h K s hKl 64 0 (by omega) h
    obtain ⟨m, h8⟩ := take_l1 m7 8 0 (by omega) h
    have l1 : ref01_Sum256_l1 K a3 h (at' : Int) (((64 : Int) - (0 : Int)).toNat + 1) (List.replicate 64 0) 0 = some s :=
      (spread_eq K a3 h ((a3.drop at').take 64) at' (by omega) hb hq (fun i hi => by
        simp only [List.getD_eq_getElem?_getD]
        rw [List.getElem?_take_of_lt hi, List.getElem?_drop]) 64 0 (by omega) (List.replicate 64 0) ⟨by simp, fun i _ => by
        rw [List.getD_eq_getElem?_getD, List.getElem?_replicate]; split <;> rfl⟩).trans hs0
    have ht : sha_words_take h ((a3.drop at').take 64) = some m := by
      unfold sha_words_take
      rw [hK, Option.bind_some, hs, Option.bind_some]
      exact (congrArg (fun z => Option.bind z _) h7).trans ((congrArg (fun z => Option.bind z _) h8).trans rfl)
    have em : tk h ((a3.drop at').take 64) = m := by unfold tk; rw [ht]; rfl
    have e1 : IntKind.i64.wrap ((at' : Int) + 64) = ((at' + 64 : Nat) : Int) := by rw [i64s _ (by omega) (by omega)]; omega
    rw [ref01_Sum256_l0, if_pos (decide_eq_true (by omega)), l1, Option.bind_some, l3_eq K a3 s h _ h hKl, e1]
    refine (congrArg (fun z => Option.bind z _) h7).trans ?_
    rw [Option.bind_some, l4_eq]
    refine (congrArg (fun z => Option.bind z _) h8).trans ?_
    rw [Option.bind_some, ih (at' + 64) k m (by omega) (by omega), run, em, List.drop_drop]
theorem pad_r (b : List Int) : ∀ (d f : Nat) (out : List Int), (out.length + d) % 64 = 56 → d < 64 → d < f → out.length + d ≤ 200000 →
    ref01_padded_l0 b 64 8 f out = some (out ++ List.replicate d 0) := by
  intro d
  induction d with
  | zero =>
    intro f out h _ hf hl
    obtain ⟨f, rfl⟩ : ∃ g, f = g + 1 := ⟨f - 1, by omega⟩
    have e0 : IntKind.i64.wrap ((↑(List.length out) : Int) + 8) = ((out.length + 8 : Nat) : Int) := by rw [i64s _ (by omega) (by omega)]; omega
    have e : ((out.length + 8 : Nat) : Int).tmod 64 = (((out.length + 8) % 64 : Nat) : Int) := rfl
    rw [ref01_padded_l0, e0, e, show (out.length + 8) % 64 = 0 by omega, if_pos (by decide), if_neg (by decide)]; simp
  | succ d ih =>
    intro f out h h1 hf hl
    obtain ⟨f, rfl⟩ : ∃ g, f = g + 1 := ⟨f - 1, by omega⟩
    have e0 : IntKind.i64.wrap ((↑(List.length out) : Int) + 8) = ((out.length + 8 : Nat) : Int) := by rw [i64s _ (by omega) (by omega)]; omega
    have e : ((out.length + 8 : Nat) : Int).tmod 64 = (((out.length + 8) % 64 : Nat) : Int) := rfl
    have hc : (((((out.length + 8) % 64 : Nat) : Int)) != 0) = true := by simp; omega
    have r := ih f (out ++ [0]) (by simp; omega) (by omega) (by omega) (by simp; omega)
    rw [ref01_padded_l0, e0, e, if_pos (by decide), if_pos hc, if_pos (by simp; unfold maxN; omega), r, List.append_assoc]; rfl
theorem padded_eq (b : List Int) (h : b.length ≤ 100000) : ref01_padded b 64 8 = some (padT b) := by
  have hd : dN b.length < 64 := by unfold dN; omega
  have r := pad_r b (dN b.length) 65 (b ++ [128]) (by simp; unfold dN; omega) hd (by omega) (by simp; omega)
  have n2 := num_r b 8 (b ++ [128] ++ List.replicate (dN b.length) 0) (by omega) (by simp; omega)
  have hu : IntKind.u64.wrap (↑(List.length b) : Int) = (b.length : Int) := u64n _ (by omega)
  rw [hu] at n2
  unfold ref01_padded
  rw [if_pos (by unfold maxN; omega), if_pos (by simp; unfold maxN; omega)]
  refine (congrArg (fun z => Option.bind z _) r).trans ?_
  rw [Option.bind_some]
  refine (congrArg (fun z => Option.bind z _) n2).trans ?_
  rw [Option.bind_some]
  unfold padT tailN
  simp only [List.append_assoc]
/-- THE PAGE'S SUM -/
theorem sum256_ok (b : List Int) (h : b.length ≤ 100000) : ref01_Sum256 b = some (S b) := by
  have hr : ∃ a, sha_rounds = some a ∧ a.length = 64 := ⟨_, rfl, by decide⟩
  obtain ⟨K, hK, hKl⟩ := hr
  have hp := padT_len b
  have e := blocks_eq K (padT b) hK hKl (by omega) ((padT b).length / 64) 0 ((padT b).length + 1) H0 (by omega) (by omega)
  rw [List.drop_zero] at e
  have ef : (((↑(List.length (padT b)) : Int) - (0 : Int)).toNat + 1) = (padT b).length + 1 := by omega
  have l5 := l5_eq (run ((padT b).length / 64) H0 (padT b)) 32 0 (by omega) (List.replicate 32 0)
  have l3 := fin_ok (run ((padT b).length / 64) H0 (padT b))
  unfold ref01_Sum256
  rw [k256_eq, hK, Option.bind_some, padded_eq b h, Option.bind_some, ef]
  refine (congrArg (fun z => Option.bind z _) e).trans ?_
  rw [Option.bind_some]
  exact (congrArg (fun z => Option.bind z fun m66 => some m66) (l5.trans l3)).trans rfl
end Go.Sh
