/- The page's SHA-512 is the program's. -/
import Derived.Test.YtdolipgngaljcaaWdH
namespace Go.Wd
open Go Go.Gw Go.Proofs.Sa.D
theorem shr_u (k : IntKind) (x b d : Int) (h : (2 : Int) ^ (min b.toNat k.bits) = d) (hd : 0 ≤ d) : shr k x b = x / d := by
  unfold shr; rw [h, Int.fdiv_eq_ediv_of_nonneg _ hd]
theorem shl_u (k : IntKind) (x b d : Int) (h : (2 : Int) ^ (min b.toNat k.bits) = d) : shl k x b = k.wrap (x * d) := by
  unfold shl; rw [h]
def nb (x : Int) : Nat → List Int
  | 0 => []
  | j + 1 => IntKind.u8.wrap (shr .u64 x ((8 * j : Nat) : Int)) :: nb x j
theorem num_w (x : Int) : ∀ (j : Nat) (b : List Int), j ≤ 8 → b.length + j ≤ 1000000 → wide_number_l0 x (j + 1) b ((j : Int) - 1) = some (b ++ nb x j) := by
  intro j
  induction j with
  | zero => intro b _ _; rw [wide_number_l0, if_neg (by decide)]; simp [nb]
  | succ j ih =>
    intro b hj hb
    have e0 : ((j + 1 : Nat) : Int) - 1 = (j : Int) := by omega
    have e8 : IntKind.i64.wrap ((8 : Int) * (j : Int)) = ((8 * j : Nat) : Int) := by rw [i64s _ (by omega) (by omega)]; omega
    have e1 : IntKind.i64.wrap ((j : Int) - 1) = (j : Int) - 1 := by
      by_cases h : j = 0
      · subst h; decide
      · rw [i64s _ (by omega) (by omega)]
    rw [e0, wide_number_l0, if_pos (decide_eq_true (by omega)), e8, if_pos (by omega), if_pos (by simp; unfold maxN; omega), e1, ih _ (by omega) (by simp; omega), List.append_assoc]; rfl
theorem num_r (b0 : List Int) : ∀ (j : Nat) (b : List Int), j ≤ 8 → b.length + j ≤ 1000000 → ref01_padded_l1 b0 (j + 1) b ((j : Int) - 1) = some (b ++ nb (IntKind.u64.wrap ((IntKind.u64.wrap (↑(List.length b0) : Int)) * (8 : Int))) j) := by
  intro j
  induction j with
  | zero => intro b _ _; rw [ref01_padded_l1, if_neg (by decide)]; simp [nb]
  | succ j ih =>
    intro b hj hb
    have e0 : ((j + 1 : Nat) : Int) - 1 = (j : Int) := by omega
    have ej : IntKind.u64.wrap (j : Int) = (j : Int) := by simp only [IntKind.wrap, IntKind.bits, IntKind.signed]; simp; omega
    have e8 : IntKind.u64.wrap ((8 : Int) * (j : Int)) = ((8 * j : Nat) : Int) := by simp only [IntKind.wrap, IntKind.bits, IntKind.signed]; simp; omega
    have e1 : IntKind.i64.wrap ((j : Int) - 1) = (j : Int) - 1 := by
      by_cases h : j = 0
      · subst h; decide
      · rw [i64s _ (by omega) (by omega)]
    rw [e0, ref01_padded_l1, if_pos (decide_eq_true (by omega)), if_neg (by simp; omega), ej, e8, if_pos (by omega), if_pos (by simp; unfold maxN; omega), e1, ih _ (by omega) (by simp; omega), List.append_assoc]; rfl
theorem num_r0 (b0 : List Int) : ∀ (j : Nat) (b : List Int), j ≤ 8 → b.length + j ≤ 1000000 → ref01_padded_l1 b0 (j + 9) b ((j : Int) + 7) = ref01_padded_l1 b0 9 (b ++ List.replicate j 0) 7 := by
  intro j
  induction j with
  | zero => intro b _ _; simp
  | succ j ih =>
    intro b hj hb
    have e1 : IntKind.i64.wrap (((j + 1 : Nat) : Int) + 7 - 1) = (j : Int) + 7 := by rw [i64s _ (by omega) (by omega)]; omega
    rw [show j + 1 + 9 = (j + 9) + 1 from rfl, ref01_padded_l1, if_pos (decide_eq_true (by omega)), if_pos (decide_eq_true (by omega)), if_pos (by simp; unfold maxN; omega), e1, ih _ (by omega) (by simp; omega), List.append_assoc]; rfl
theorem nb0 : nb 0 8 = List.replicate 8 0 := by decide
theorem padded_eq (b : List Int) (h : b.length ≤ 10000) : ref01_padded b 128 16 = wide_padded b := by
  have d1 : (112 + 128 - (b.length + 1) % 128) % 128 < 128 := by omega
  have w := pad_w b ((112 + 128 - (b.length + 1) % 128) % 128) 130 (b ++ [128]) (by simp; omega) d1 (by omega) (by simp; omega)
  have r := pad_r b ((112 + 128 - (b.length + 1) % 128) % 128) 129 (b ++ [128]) (by simp; omega) d1 (by omega) (by simp; omega)
  generalize (112 + 128 - (b.length + 1) % 128) % 128 = d at *
  have hu : IntKind.u64.wrap (↑(List.length b) : Int) = (b.length : Int) := by simp only [IntKind.wrap, IntKind.bits, IntKind.signed]; simp; omega
  have s61 : shr .u64 (b.length : Int) 61 = 0 := by rw [shr_u _ _ _ 2305843009213693952 (by decide) (by decide)]; omega
  have s3 : shl .u64 (b.length : Int) 3 = IntKind.u64.wrap ((b.length : Int) * 8) := shl_u _ _ _ 8 (by decide)
  have hlen : (b ++ [128] ++ List.replicate d 0).length ≤ 20000 := by simp; omega
  have n1 : wide_number (b ++ [128] ++ List.replicate d 0) 0 = some (b ++ [128] ++ List.replicate d 0 ++ List.replicate 8 0) := by
    unfold wide_number
    rw [← nb0]
    exact (congrArg (fun z => Option.bind z _) (num_w 0 8 _ (by omega) (by omega))).trans rfl
  have n2 : wide_number (b ++ [128] ++ List.replicate d 0 ++ List.replicate 8 0) (IntKind.u64.wrap ((b.length : Int) * 8)) = some (b ++ [128] ++ List.replicate d 0 ++ List.replicate 8 0 ++ nb (IntKind.u64.wrap ((b.length : Int) * 8)) 8) := by
    unfold wide_number
    exact (congrArg (fun z => Option.bind z _) (num_w _ 8 _ (by omega) (by rw [List.length_append]; simp at hlen ⊢; omega))).trans rfl
  have r1 := num_r0 b 8 (b ++ [128] ++ List.replicate d 0) (by omega) (by omega)
  have r2 := num_r b 8 (b ++ [128] ++ List.replicate d 0 ++ List.replicate 8 0) (by omega) (by rw [List.length_append]; simp at hlen ⊢; omega)
  rw [hu] at r2
  have e15 : IntKind.i64.wrap ((16 : Int) - 1) = 15 := by decide
  have hr : ref01_padded_l1 b (((IntKind.i64.wrap ((16 : Int) - (1 : Int))) - (0 : Int) + 1).toNat + 1) (b ++ [128] ++ List.replicate d 0) (IntKind.i64.wrap ((16 : Int) - (1 : Int))) = some (b ++ [128] ++ List.replicate d 0 ++ List.replicate 8 0 ++ nb (IntKind.u64.wrap ((b.length : Int) * 8)) 8) := by
    rw [e15]; exact r1.trans r2
  unfold ref01_padded wide_padded
  rw [if_pos (by unfold maxN; omega), if_pos (by simp; unfold maxN; omega), clone_ok b (by omega), Option.bind_some, if_pos (by simp; unfold maxN; omega), w, Option.bind_some, hu, s61, s3, n1, Option.bind_some, n2, Option.bind_some]
  exact (congrArg (fun z => Option.bind z _) r).trans ((congrArg (fun z => Option.bind z _) hr).trans rfl)
end Go.Wd
