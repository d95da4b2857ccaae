/- What is left of bytes modulo L, bit by bit. -/
import Derived.Test.YtdcdanfeepncmaaScA
namespace Go.Sc
open Go Go.Gw Go.Proofs.Sb.D Go.Pn
def Bytes (b : List Int) : Prop := ∀ x ∈ b, 0 ≤ x ∧ x < 256
theorem leV_lt : ∀ b : List Int, Bytes b → 0 ≤ leV b ∧ leV b < 256 ^ b.length
  | [], _ => by decide
  | x :: b, h => by
    have ih := leV_lt b fun y hy => h y (List.mem_cons_of_mem _ hy)
    have hx := h x (List.mem_cons_self ..)
    show 0 ≤ x + 256 * leV b ∧ x + 256 * leV b < 256 ^ (b.length + 1)
    rw [Int.pow_succ]; omega
theorem byte_at : ∀ (b : List Int) (j : Nat), Bytes b → j < b.length → b.getD j 0 = leV b / 256 ^ j % 256
  | [], j, _, h => by simp at h
  | x :: b, 0, h, _ => by
    have hx := h x (List.mem_cons_self ..)
    show x = (x + 256 * leV b) / 256 ^ 0 % 256
    rw [Int.pow_zero]; omega
  | x :: b, j + 1, h, hj => by
    have hx := h x (List.mem_cons_self ..)
    show b.getD j 0 = (x + 256 * leV b) / 256 ^ (j + 1) % 256
    have e : (x + 256 * leV b) / 256 = leV b := by omega
    rw [Int.pow_succ, Int.mul_comm (256 ^ j) 256, ← Int.ediv_ediv_of_nonneg (show (0 : Int) ≤ 256 by decide), e]
    exact byte_at b j (fun y hy => h y (List.mem_cons_of_mem _ hy)) (by simp at hj; omega)
theorem p256 (j : Nat) : (256 : Int) ^ j = 2 ^ (8 * j) := by
  rw [Int.pow_mul]; rfl
theorem bit_of (y : Int) (r : Nat) (hr : r < 8) : band .u8 (shr .u8 (y % 256) (r : Int)) 1 = y / 2 ^ r % 2 := by
  have c : r = 0 ∨ r = 1 ∨ r = 2 ∨ r = 3 ∨ r = 4 ∨ r = 5 ∨ r = 6 ∨ r = 7 := by omega
  have key : ∀ d : Int, 0 < d → d ≤ 128 → (2 : Int) ^ (min ((r : Int).toNat) IntKind.u8.bits) = d → band .u8 (shr .u8 (y % 256) (r : Int)) 1 = y % 256 / d % 2 := fun d h0 h1 h2 => by
    have q0 : 0 ≤ y % 256 / d := Int.ediv_nonneg (by omega) (by omega)
    have q1 : y % 256 / d ≤ y % 256 := Int.ediv_le_self _ (by omega)
    rw [shr_u _ _ _ d h2 (by omega), band_mask k8 1 (by decide) _ 1 2 (by decide) (by decide) q0 (by show _ < (256 : Int); omega)]
  rcases c with rfl | rfl | rfl | rfl | rfl | rfl | rfl | rfl
  · rw [key 1 (by decide) (by decide) (by decide)]; omega
  · rw [key 2 (by decide) (by decide) (by decide)]; omega
  · rw [key 4 (by decide) (by decide) (by decide)]; omega
  · rw [key 8 (by decide) (by decide) (by decide)]; omega
  · rw [key 16 (by decide) (by decide) (by decide)]; omega
  · rw [key 32 (by decide) (by decide) (by decide)]; omega
  · rw [key 64 (by decide) (by decide) (by decide)]; omega
  · rw [key 128 (by decide) (by decide) (by decide)]; omega
theorem bit_at (b : List Int) (hb : Bytes b) (n : Nat) (hn : n < 8 * b.length) : band .u8 (shr .u8 (b.getD (n / 8) 0) ((n % 8 : Nat) : Int)) 1 = leV b / 2 ^ n % 2 := by
  rw [byte_at b _ hb (by omega), bit_of _ _ (by omega), p256, Int.ediv_ediv_of_nonneg (Int.le_of_lt (Int.pow_pos (by decide))), ← Int.pow_add]
  congr 3; omega
theorem i64n (n : Nat) (h : n < 9223372036854775808) : IntKind.i64.wrap (n : Int) = (n : Int) := IntWalk.i64_in _ (by omega)
theorem red_step (b m : List Int) (k n : Nat) (hn : n < 8 * b.length) (hl : b.length < 1000) : scalar_reduced_l0 b (k + 1) m (n : Int) =
    (scalar_number_shifted m (IntKind.u64.wrap (band .u8 (shr .u8 (b.getD (n / 8) 0) ((n % 8 : Nat) : Int)) 1))).bind fun a => scalar_reduced_l0 b k a ((n : Int) - 1) := by
  have e1 : (n : Int).tdiv 8 = ((n / 8 : Nat) : Int) := rfl
  have e2 : (n : Int).tmod 8 = ((n % 8 : Nat) : Int) := rfl
  have e3 : IntKind.i64.wrap ((n : Int) - 1) = (n : Int) - 1 := IntWalk.i64_in _ (by omega)
  rw [scalar_reduced_l0, if_pos (decide_eq_true (by omega)), e1, e2, i64n _ (by omega), if_pos ⟨by omega, by omega⟩, if_pos (by omega), e3]
  rfl
theorem red_loop (b : List Int) (hb : Bytes b) (hl : b.length < 1000) : ∀ n : Nat, n ≤ 8 * b.length →
    scalar_reduced_l0 b (n + 1) (words4 (leV b / 2 ^ n % Lw)) ((n : Int) - 1) = some (words4 (leV b % Lw)) := by
  intro n
  induction n with
  | zero =>
    intro _
    rw [Int.pow_zero, Int.ediv_one, scalar_reduced_l0, if_neg (by decide)]
  | succ n ih =>
    intro hn
    have e : ((n + 1 : Nat) : Int) - 1 = (n : Int) := by omega
    have hv := (leV_lt b hb).1
    have q : 0 ≤ leV b / 2 ^ n % 2 ∧ leV b / 2 ^ n % 2 ≤ 1 := by omega
    rw [e, red_step _ _ _ _ (by omega) hl, bit_at b hb n (by omega), w64, Int.emod_eq_of_lt q.1 (by omega),
      shifted_ok _ _ ⟨Int.emod_nonneg _ (by decide), Int.emod_lt_of_pos _ (by decide)⟩ q, Option.bind_some]
    have e2 : (2 * (leV b / 2 ^ (n + 1) % Lw) + leV b / 2 ^ n % 2) % Lw = leV b / 2 ^ n % Lw := by
      rw [Int.pow_succ, ← Int.ediv_ediv_of_nonneg (Int.le_of_lt (Int.pow_pos (by decide)))]
      generalize leV b / 2 ^ n = y
      unfold Lw; omega
    rw [e2]
    exact ih (by omega)
theorem words4_0 : List.replicate 4 (0 : Int) = words4 0 := by kernel_rfl
theorem reduced_ok (b : List Int) (hb : Bytes b) (hl : b.length < 1000) : scalar_reduced b = some (words4 (leV b % Lw)) := by
  have h := red_loop b hb hl (8 * b.length) (Nat.le_refl _)
  have hv := leV_lt b hb
  rw [p256] at hv
  rw [Int.ediv_eq_zero_of_lt hv.1 hv.2, Int.zero_emod, ← words4_0] at h
  have e1 : IntKind.i64.wrap ((8 : Int) * (↑(List.length b) : Int)) = ((8 * b.length : Nat) : Int) := by rw [show (8 : Int) * (↑(List.length b) : Int) = ((8 * b.length : Nat) : Int) by omega]; exact i64n _ (by omega)
  have e2 : IntKind.i64.wrap (((8 * b.length : Nat) : Int) - 1) = ((8 * b.length : Nat) : Int) - 1 := IntWalk.i64_in _ (by omega)
  have e3 : ((((8 * b.length : Nat) : Int) - 1 - 0 + 1).toNat + 1) = 8 * b.length + 1 := by omega
  unfold scalar_reduced
  rw [e1, e2, e3, h, Option.bind_some]
/-- the bytes of what is left -/
def fs (v : Int) : List Int := leB 32 (v % Lw)
theorem sbytes_eq (w : List Int) : scalar_number_bytes_l0 w (((32 : Int) - (0 : Int)).toNat + 1) (List.replicate 32 0) 0 =
    some ((List.range 32).map fun i => IntKind.u8.wrap (shr .u64 (w.getD (i / 8) 0) ((8 * (i % 8) : Nat) : Int))) := by kernel_rfl
theorem sbytes (v : Int) : scalar_number_bytes (words4 v) = some (leB 32 v) := by
  unfold scalar_number_bytes; rw [sbytes_eq, leB_words]; rfl
theorem sof {b : List Int} (h : Bytes32 b) : scalar_of b = some (words4 (leV b)) := by
  unfold scalar_of; rw [sof_l0_eq, orw_words h]; rfl
theorem take_all {b : List Int} (n : Nat) (h : b.length = n) : (b.take n).drop 0 = b := by
  rw [List.drop_zero, ← h, List.take_length]
theorem smod {b : List Int} (h : Bytes32 b) : scalar_Mod b = some (fs (leV b)) := by
  unfold scalar_Mod
  rw [take_all 32 h.1, reduced_ok b h.2 (by rw [h.1]; decide), Option.bind_some, sbytes]; rfl
theorem swide {b : List Int} (h : Bytes b) (hl : b.length = 64) : scalar_Wide b = some (fs (leV b)) := by
  unfold scalar_Wide
  rw [take_all 64 hl, reduced_ok b h (by rw [hl]; decide), Option.bind_some, sbytes]; rfl
theorem scheck {b : List Int} (h : Bytes32 b) : scalar_Check b = some (decide (leV b < Lw)) := by
  unfold scalar_Check
  rw [sof h, Option.bind_some, order_eq, Option.bind_some, sless _ _ (leV_bd h) (by decide)]; rfl
end Go.Sc
