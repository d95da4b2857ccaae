/- What the program's SHA-256 keeps of a text: the words behind its whole blocks, the rest; and the sum of these. -/
import Derived.Test.YtdolipgngaljcaaShA
import Derived.Test.YtdolipgngaljcaaWdI
namespace Go.Sh
open Go Go.Gw Go.Wd Go.Proofs.Sa.D
def H0 : List Int := [(1779033703 : Int), (3144134277 : Int), (1013904242 : Int), (2773480762 : Int), (1359893119 : Int), (2600822924 : Int), (528734635 : Int), (1541459225 : Int)]
def hT (t : List Int) : List Int := run (t.length / 64) H0 t
def rT (t : List Int) : List Int := t.drop (64 * (t.length / 64))
theorem rT_len (t : List Int) : (rT t).length = t.length % 64 := by unfold rT; rw [List.length_drop]; omega
/-- more text -/
theorem run_more (t b : List Int) : run ((t ++ b).length / 64) H0 (t ++ b) = run ((rT t ++ b).length / 64) (hT t) (rT t ++ b) := by
  have hr := rT_len t
  have e : (t ++ b).length / 64 = t.length / 64 + (rT t ++ b).length / 64 := by rw [List.length_append, List.length_append, hr]; omega
  rw [e, run_add, run_front _ _ _ _ (by omega), List.drop_append_of_le_length (by omega)]; rfl
theorem rT_more (t b : List Int) : rT (t ++ b) = (rT t ++ b).drop (64 * ((rT t ++ b).length / 64)) := by
  have hr := rT_len t
  have e : (t ++ b).length / 64 = t.length / 64 + (rT t ++ b).length / 64 := by rw [List.length_append, List.length_append, hr]; omega
  conv => lhs; unfold rT
  rw [e, Nat.mul_add, ← List.drop_drop, List.drop_append_of_le_length (by omega)]; rfl
theorem write_ok (t b : List Int) (h : t.length + b.length ≤ 100000) : sha_Sha_Write (hT t) (rT t) (t.length : Int) b = some (hT (t ++ b), rT (t ++ b), ((t ++ b).length : Int)) := by
  have hr := rT_len t
  have hc := concat_ok [rT t, b] (by simp; omega) (by simp)
  have ef : [rT t, b].flatten = rT t ++ b := by simp
  rw [ef] at hc
  have hw := write_l0 (rT t) (t.length : Int) b ((rT t ++ b).length / 64) (((↑(List.length (rT t ++ b)) : Int) - (64 : Int) + 1).toNat + 1) (hT t) (rT t ++ b) (by omega) (by omega) (by omega)
  have en : IntKind.i64.wrap ((t.length : Int) + (b.length : Int)) = ((t ++ b).length : Int) := by rw [i64s _ (by omega) (by omega), List.length_append]; omega
  have hcl := clone_ok (rT (t ++ b)) (by rw [rT_len]; omega)
  rw [rT_more] at hcl
  unfold sha_Sha_Write
  rw [hc, Option.bind_some]
  refine (congrArg (fun z => Option.bind z _) hw).trans ?_
  rw [Option.bind_some]
  refine (congrArg (fun z => Option.bind z _) hcl).trans ?_
  rw [Option.bind_some, en, ← rT_more, ← run_more]; rfl
/-- how many noughts -/
def dN (n : Nat) : Nat := (56 + 64 - (n + 1) % 64) % 64
def tailN (n : Nat) : List Int := [128] ++ List.replicate (dN n) 0 ++ nb (IntKind.u64.wrap ((n : Int) * 8)) 8
def padT (t : List Int) : List Int := t ++ tailN t.length
theorem nb_len (x : Int) : ∀ j, (nb x j).length = j
  | 0 => rfl
  | j + 1 => by simp [nb, nb_len x j]
theorem tailN_len (n : Nat) : (tailN n).length = 9 + dN n := by unfold tailN; simp [nb_len]; omega
theorem padT_len (t : List Int) : (padT t).length % 64 = 0 ∧ (padT t).length ≤ t.length + 72 := by
  unfold padT; rw [List.length_append, tailN_len]; unfold dN; omega
/-- the sum of a text -/
def S (t : List Int) : List Int := fin (run ((padT t).length / 64) H0 (padT t))
theorem pad_s (s0 s1 : List Int) (s2 : Int) : ∀ (d f : Nat) (out : List Int), (out.length + d) % 64 = 56 → d < 64 → d < f → out.length + d ≤ 100000 →
    sha_Sha_Sum_l0 s0 s1 s2 f out = some (out ++ List.replicate d 0) := by
  intro d
  induction d with
  | zero =>
    intro f out h _ hf hl
    obtain ⟨f, rfl⟩ : ∃ g, f = g + 1 := ⟨f - 1, by omega⟩
    have e : (out.length : Int).tmod 64 = ((out.length % 64 : Nat) : Int) := rfl
    rw [sha_Sha_Sum_l0, e, show out.length % 64 = 56 by omega, if_neg (by decide)]; simp
  | succ d ih =>
    intro f out h h1 hf hl
    obtain ⟨f, rfl⟩ : ∃ g, f = g + 1 := ⟨f - 1, by omega⟩
    have e : (out.length : Int).tmod 64 = ((out.length % 64 : Nat) : Int) := rfl
    have hc : ((((out.length % 64 : Nat) : Int)) != 56) = true := by simp; omega
    have r := ih f (out ++ [0]) (by simp; omega) (by omega) (by omega) (by simp; omega)
    rw [sha_Sha_Sum_l0, e, if_pos hc, if_pos (by simp; unfold maxN; omega), r, List.append_assoc]; rfl
theorem num_s (s0 s1 : List Int) (s2 : Int) : ∀ (j : Nat) (b : List Int), j ≤ 8 → b.length + j ≤ 1000000 → sha_Sha_Sum_l1 s0 s1 s2 (j + 1) b ((j : Int) - 1) = some (b ++ nb (shl .u64 (IntKind.u64.wrap s2) (3 : Int)) j) := by
  intro j
  induction j with
  | zero => intro b _ _; rw [sha_Sha_Sum_l1, if_neg (by decide)]; simp [nb]
  | succ j ih =>
    intro b hj hb
    have e0 : ((j + 1 : Nat) : Int) - 1 = (j : Int) := by omega
    have e8 : IntKind.i64.wrap ((8 : Int) * (j : Int)) = ((8 * j : Nat) : Int) := by rw [i64s _ (by omega) (by omega)]; omega
    have e1 : IntKind.i64.wrap ((j : Int) - 1) = (j : Int) - 1 := by
      by_cases h : j = 0
      · subst h; decide
      · rw [i64s _ (by omega) (by omega)]
    rw [e0, sha_Sha_Sum_l1, if_pos (decide_eq_true (by omega)), e8, if_pos (by omega), if_pos (by simp; unfold maxN; omega), e1, ih _ (by omega) (by simp; omega), List.append_assoc]; rfl
theorem u64n (n : Nat) (h : n < 1000000) : IntKind.u64.wrap (n : Int) = (n : Int) := by simp only [IntKind.wrap, IntKind.bits, IntKind.signed]; simp; omega
theorem sum_ok (t : List Int) (h : t.length ≤ 100000) : sha_Sha_Sum (hT t) (rT t) (t.length : Int) = some (S t) := by
  have hr := rT_len t
  have hd : dN t.length < 64 := by unfold dN; omega
  have hd2 : (t.length + 1 + dN t.length) % 64 = 56 := by unfold dN; omega
  have p := pad_s (hT t) (rT t) (t.length : Int) (dN t.length) 70 (rT t ++ [128]) (by simp only [List.length_append, List.length_singleton, hr]; omega) hd (by omega) (by simp only [List.length_append, List.length_singleton, hr]; omega)
  have s3 : shl .u64 (IntKind.u64.wrap (t.length : Int)) 3 = IntKind.u64.wrap ((t.length : Int) * 8) := by rw [u64n _ (by omega)]; exact shl_u _ _ _ 8 (by decide)
  have n1 := num_s (hT t) (rT t) (t.length : Int) 8 (rT t ++ [128] ++ List.replicate (dN t.length) 0) (by omega) (by simp only [List.length_append, List.length_singleton, List.length_replicate, hr]; omega)
  rw [s3] at n1
  have el : rT t ++ [128] ++ List.replicate (dN t.length) 0 ++ nb (IntKind.u64.wrap ((t.length : Int) * 8)) 8 = rT t ++ tailN t.length := by unfold tailN; simp only [List.append_assoc]
  rw [el] at n1
  have hl : (rT t ++ tailN t.length).length = t.length % 64 + (9 + dN t.length) := by rw [List.length_append, hr, tailN_len]
  have l2 := sum_l2 ((rT t ++ tailN t.length).length / 64) ((rT t ++ tailN t.length).length + 1) (hT t) (rT t ++ tailN t.length) (by rw [hl]; omega) (by omega)
  rw [← run_more t (tailN t.length)] at l2
  have l3 := fin_ok (run ((padT t).length / 64) H0 (padT t))
  unfold sha_Sha_Sum
  rw [clone_ok (rT t) (by omega), Option.bind_some, if_pos (by simp; unfold maxN; omega), p, Option.bind_some]
  refine (congrArg (fun z => Option.bind z _) n1).trans ?_
  rw [Option.bind_some, l2, Option.bind_some]
  exact (congrArg (fun z => Option.bind z _) l3).trans rfl
theorem new_ok : sha_New = some (hT [], ((([] : List Int).length : Nat) : Int)) := rfl
theorem rT_nil : rT [] = [] := rfl
theorem shaSum_ok (b : List Int) (h : b.length ≤ 100000) : sha_Sum b = some (S b) := by
  have w := write_ok [] b (by simpa using h)
  rw [rT_nil] at w
  unfold sha_Sum
  rw [new_ok]
  refine (congrArg (fun z => Option.bind z _) w).trans ?_
  refine (congrArg (fun z => Option.bind z _) (sum_ok b h)).trans ?_
  rfl
set_option maxRecDepth 100000 in
theorem wakes1 : law01_wakes = some true := by kernel_rfl
end Go.Sh
