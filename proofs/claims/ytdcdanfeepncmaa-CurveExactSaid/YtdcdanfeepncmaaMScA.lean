/- Numbers modulo L: less, twice and a bit. -/
import Derived.Test.YtdcdanfeepncmaaMPnJ
namespace Go.Sc
open Go Go.Gw Go.Proofs.Sb.D Go.Pn
abbrev Lw : Int := 7237005577332262213973186563042994240857116359379907606001950938285454250989
theorem order_eq : scalar_order = some (words4 Lw) := by kernel_rfl
theorem L_eq : ref04_L = some (words4 Lw) := by kernel_rfl
theorem less_step (a b : List Int) (c : Int) (k i : Nat) (hi : i < 4) : scalar_number_less_l0 a b (k + 1) c (i : Int) =
    (sub64 (a.getD i 0) (b.getD i 0) c).bind fun q => scalar_number_less_l0 a b k q.2 ((i + 1 : Nat) : Int) := by
  have ci : i = 0 ∨ i = 1 ∨ i = 2 ∨ i = 3 := by omega
  rcases ci with rfl | rfl | rfl | rfl <;> (show _ = _; kernel_rfl)
theorem less_end (a b : List Int) (c : Int) (k : Nat) : scalar_number_less_l0 a b (k + 1) c 4 = some c := by kernel_rfl
theorem sless (x y : Int) (hx : 0 ≤ x ∧ x < (115792089237316195423570985008687907853269984665640564039457584007913129639936 : Int)) (hy : 0 ≤ y ∧ y < (115792089237316195423570985008687907853269984665640564039457584007913129639936 : Int)) : scalar_number_less (words4 x) (words4 y) = some (decide (x < y)) := by
  obtain ⟨a0, a1, a2, a3, ea, ⟨p0, p1, p2, p3⟩, va⟩ := words4_ex x hx.1 hx.2
  obtain ⟨b0, b1, b2, b3, eb, ⟨q0, q1, q2, q3⟩, vb⟩ := words4_ex y hy.1 hy.2
  rw [ea, eb]
  obtain ⟨r0, d0, e0, u0, v0, w0⟩ := sub64_ok a0 b0 0 p0 q0 (by decide)
  obtain ⟨r1, d1, e1, u1, v1, w1⟩ := sub64_ok a1 b1 d0 p1 q1 v0
  obtain ⟨r2, d2, e2, u2, v2, w2⟩ := sub64_ok a2 b2 d1 p2 q2 v1
  obtain ⟨r3, d3, e3, u3, v3, w3⟩ := sub64_ok a3 b3 d2 p3 q3 v2
  have k0 := less_step [a0, a1, a2, a3] [b0, b1, b2, b3] 0 4 0 (by decide)
  have k1 := less_step [a0, a1, a2, a3] [b0, b1, b2, b3] d0 3 1 (by decide)
  have k2 := less_step [a0, a1, a2, a3] [b0, b1, b2, b3] d1 2 2 (by decide)
  have k3 := less_step [a0, a1, a2, a3] [b0, b1, b2, b3] d2 1 3 (by decide)
  simp only [List.getD_cons_zero, List.getD_cons_succ] at k0 k1 k2 k3
  rw [e0, Option.bind_some] at k0
  rw [e1, Option.bind_some] at k1
  rw [e2, Option.bind_some] at k2
  rw [e3, Option.bind_some] at k3
  have e : scalar_number_less_l0 [a0, a1, a2, a3] [b0, b1, b2, b3] (((4 : Int) - (0 : Int)).toNat + 1) 0 0 = some d3 :=
    k0.trans (k1.trans (k2.trans (k3.trans (less_end _ _ d3 0))))
  have hr : B4 r0 r1 r2 r3 := ⟨u0, u1, u2, u3⟩
  have br := W4_bd hr
  have ew : W4 r0 r1 r2 r3 = x - y + d3 * 115792089237316195423570985008687907853269984665640564039457584007913129639936 := by rw [← va, ← vb]; unfold W4; omega
  unfold scalar_number_less
  rw [e, Option.bind_some]
  congr 1
  rw [Bool.eq_iff_iff, beq_iff_eq, decide_eq_true_eq]
  omega
theorem low_step (b m : List Int) (c : Int) (k i : Nat) (hi : i < 4) : scalar_number_shifted_l1 b (k + 1) m c (i : Int) =
    (sub64 (m.getD i 0) (b.getD i 0) c).bind fun q => scalar_number_shifted_l1 b k (m.set i q.1) q.2 ((i + 1 : Nat) : Int) := by
  have ci : i = 0 ∨ i = 1 ∨ i = 2 ∨ i = 3 := by omega
  rcases ci with rfl | rfl | rfl | rfl <;> (show _ = _; kernel_rfl)
theorem low_end (b m : List Int) (c : Int) (k : Nat) : scalar_number_shifted_l1 b (k + 1) m c 4 = some m := by kernel_rfl
theorem low_ok (x y : Int) (hx : 0 ≤ x ∧ x < (115792089237316195423570985008687907853269984665640564039457584007913129639936 : Int)) (hy : 0 ≤ y ∧ y ≤ x) : scalar_number_shifted_l1 (words4 y) (((4 : Int) - (0 : Int)).toNat + 1) (words4 x) 0 0 = some (words4 (x - y)) := by
  obtain ⟨a0, a1, a2, a3, ea, ⟨p0, p1, p2, p3⟩, va⟩ := words4_ex x hx.1 hx.2
  obtain ⟨b0, b1, b2, b3, eb, ⟨q0, q1, q2, q3⟩, vb⟩ := words4_ex y hy.1 (Int.lt_of_le_of_lt hy.2 hx.2)
  rw [ea, eb]
  obtain ⟨r0, d0, e0, u0, v0, w0⟩ := sub64_ok a0 b0 0 p0 q0 (by decide)
  obtain ⟨r1, d1, e1, u1, v1, w1⟩ := sub64_ok a1 b1 d0 p1 q1 v0
  obtain ⟨r2, d2, e2, u2, v2, w2⟩ := sub64_ok a2 b2 d1 p2 q2 v1
  obtain ⟨r3, d3, e3, u3, v3, w3⟩ := sub64_ok a3 b3 d2 p3 q3 v2
  have k0 := low_step [b0, b1, b2, b3] [a0, a1, a2, a3] 0 4 0 (by decide)
  have k1 := low_step [b0, b1, b2, b3] [r0, a1, a2, a3] d0 3 1 (by decide)
  have k2 := low_step [b0, b1, b2, b3] [r0, r1, a2, a3] d1 2 2 (by decide)
  have k3 := low_step [b0, b1, b2, b3] [r0, r1, r2, a3] d2 1 3 (by decide)
  simp only [List.getD_cons_zero, List.getD_cons_succ] at k0 k1 k2 k3
  rw [e0, Option.bind_some] at k0
  rw [e1, Option.bind_some] at k1
  rw [e2, Option.bind_some] at k2
  rw [e3, Option.bind_some] at k3
  have hr : B4 r0 r1 r2 r3 := ⟨u0, u1, u2, u3⟩
  have br := W4_bd hr
  have ew : W4 r0 r1 r2 r3 = x - y + d3 * 115792089237316195423570985008687907853269984665640564039457584007913129639936 := by rw [← va, ← vb]; unfold W4; omega
  have d0' : d3 = 0 := by omega
  rw [show x - y = W4 r0 r1 r2 r3 by omega, ← words4_W hr]
  exact k0.trans (k1.trans (k2.trans (k3.trans (low_end _ _ d3 0))))
theorem two_step (m : List Int) (c : Int) (k i : Nat) (hi : i < 4) : scalar_number_shifted_l0 (k + 1) m c (i : Int) =
    scalar_number_shifted_l0 k (m.set i (bor .u64 (shl .u64 (m.getD i 0) 1) c)) (shr .u64 (m.getD i 0) 63) ((i + 1 : Nat) : Int) := by
  have ci : i = 0 ∨ i = 1 ∨ i = 2 ∨ i = 3 := by omega
  rcases ci with rfl | rfl | rfl | rfl <;> (show _ = _; kernel_rfl)
theorem two_end (m : List Int) (c : Int) (k : Nat) : scalar_number_shifted_l0 (k + 1) m c 4 = some m := by kernel_rfl
theorem two_cell (x c : Int) (hx : 0 ≤ x ∧ x < 18446744073709551616) (hc : 0 ≤ c ∧ c ≤ 1) :
    ∃ r d, bor .u64 (shl .u64 x 1) c = r ∧ shr .u64 x 63 = d ∧ (0 ≤ r ∧ r < 18446744073709551616) ∧ (0 ≤ d ∧ d ≤ 1) ∧ r + d * 18446744073709551616 = 2 * x + c := by
  refine ⟨_, _, rfl, rfl, ?_⟩
  rw [shl_u _ x 1 2 (by decide), shr_u _ x 63 9223372036854775808 (by decide) (by decide), w64,
    bor_hi_lo k64 1 (x * 2 % 18446744073709551616) c 2 (by decide) (by omega) (by show _ < (18446744073709551616 : Int); omega) (by omega) hc.1 (by show _ < (18446744073709551616 : Int); omega) (by omega)]
  omega
theorem two_ok (x c : Int) (hx : 0 ≤ x ∧ x < 57896044618658097711785492504343953926634992332820282019728792003956564819968) (hc : 0 ≤ c ∧ c ≤ 1) : scalar_number_shifted_l0 (((4 : Int) - (0 : Int)).toNat + 1) (words4 x) c 0 = some (words4 (2 * x + c)) := by
  obtain ⟨a0, a1, a2, a3, ea, ⟨p0, p1, p2, p3⟩, va⟩ := words4_ex x hx.1 (by omega)
  rw [ea]
  obtain ⟨r0, d0, e0, f0, u0, v0, w0⟩ := two_cell a0 c p0 hc
  obtain ⟨r1, d1, e1, f1, u1, v1, w1⟩ := two_cell a1 d0 p1 v0
  obtain ⟨r2, d2, e2, f2, u2, v2, w2⟩ := two_cell a2 d1 p2 v1
  obtain ⟨r3, d3, e3, f3, u3, v3, w3⟩ := two_cell a3 d2 p3 v2
  have k0 := two_step [a0, a1, a2, a3] c 4 0 (by decide)
  have k1 := two_step [r0, a1, a2, a3] d0 3 1 (by decide)
  have k2 := two_step [r0, r1, a2, a3] d1 2 2 (by decide)
  have k3 := two_step [r0, r1, r2, a3] d2 1 3 (by decide)
  simp only [List.getD_cons_zero, List.getD_cons_succ] at k0 k1 k2 k3
  rw [e0, f0] at k0
  rw [e1, f1] at k1
  rw [e2, f2] at k2
  rw [e3, f3] at k3
  have hr : B4 r0 r1 r2 r3 := ⟨u0, u1, u2, u3⟩
  have br := W4_bd hr
  have ew : W4 r0 r1 r2 r3 = 2 * x + c - d3 * 115792089237316195423570985008687907853269984665640564039457584007913129639936 := by rw [← va]; unfold W4; omega
  have d0' : d3 = 0 := by omega
  rw [show 2 * x + c = W4 r0 r1 r2 r3 by omega, ← words4_W hr]
  exact k0.trans (k1.trans (k2.trans (k3.trans (two_end _ d3 0))))
theorem shifted_ok (x c : Int) (hx : 0 ≤ x ∧ x < Lw) (hc : 0 ≤ c ∧ c ≤ 1) : scalar_number_shifted (words4 x) c = some (words4 ((2 * x + c) % Lw)) := by
  unfold scalar_number_shifted
  have hL : Lw = 7237005577332262213973186563042994240857116359379907606001950938285454250989 := rfl
  rw [two_ok x c (by omega) hc, Option.bind_some, order_eq]
  simp only [Option.bind_some]
  rw [sless _ _ (by omega) (by decide), Option.bind_some]
  by_cases h : 2 * x + c < Lw
  · rw [decide_eq_true h, if_pos rfl, Int.emod_eq_of_lt (by omega) h]
  · rw [decide_eq_false h, if_neg (by decide), low_ok _ _ (by omega) (by omega), Option.bind_some]
    congr 2; unfold Lw at *; omega
end Go.Sc
/- What is left of bytes modulo L, bit by bit. -/
namespace Go.Sc
open Go Go.Gw Go.Proofs.Sb.D Go.Pn
def Bytes (b : List Int) : Prop := ∀ x ∈ b, 0 ≤ x ∧ x < 256
theorem leV_lt : ∀ b : List Int, Bytes b → 0 ≤ leV b ∧ leV b < 256 ^ b.length
  | [], _ => by decide
  | x :: b, h => by
    have ih := leV_lt b fun y hy => h y (List.mem_cons_of_mem _ hy)
    have hx := h x (List.mem_cons_self ..)
    show 0 ≤ x + 256 * leV b ∧ x + 256 * leV b < 256 ^ (b.length + 1)
    rw [Int.pow_succ]; omega
theorem byte_at : ∀ (b : List Int) (j : Nat), Bytes b → j < b.length → b.getD j 0 = leV b / 256 ^ j % 256
  | [], j, _, h => by simp at h
  | x :: b, 0, h, _ => by
    have hx := h x (List.mem_cons_self ..)
    show x = (x + 256 * leV b) / 256 ^ 0 % 256
    rw [Int.pow_zero]; omega
  | x :: b, j + 1, h, hj => by
    have hx := h x (List.mem_cons_self ..)
    show b.getD j 0 = (x + 256 * leV b) / 256 ^ (j + 1) % 256
    have e : (x + 256 * leV b) / 256 = leV b := by omega
    rw [Int.pow_succ, Int.mul_comm (256 ^ j) 256, ← Int.ediv_ediv_of_nonneg (show (0 : Int) ≤ 256 by decide), e]
    exact byte_at b j (fun y hy => h y (List.mem_cons_of_mem _ hy)) (by simp at hj; omega)
theorem p256 (j : Nat) : (256 : Int) ^ j = 2 ^ (8 * j) := by
  rw [Int.pow_mul]; rfl
theorem bit_of (y : Int) (r : Nat) (hr : r < 8) : band .u8 (shr .u8 (y % 256) (r : Int)) 1 = y / 2 ^ r % 2 := by
  have c : r = 0 ∨ r = 1 ∨ r = 2 ∨ r = 3 ∨ r = 4 ∨ r = 5 ∨ r = 6 ∨ r = 7 := by omega
  have key : ∀ d : Int, 0 < d → d ≤ 128 → (2 : Int) ^ (min ((r : Int).toNat) IntKind.u8.bits) = d → band .u8 (shr .u8 (y % 256) (r : Int)) 1 = y % 256 / d % 2 := fun d h0 h1 h2 => by
    have q0 : 0 ≤ y % 256 / d := Int.ediv_nonneg (by omega) (by omega)
    have q1 : y % 256 / d ≤ y % 256 := Int.ediv_le_self _ (by omega)
    rw [shr_u _ _ _ d h2 (by omega), band_mask k8 1 (by decide) _ 1 2 (by decide) (by decide) q0 (by show _ < (256 : Int); omega)]
  rcases c with rfl | rfl | rfl | rfl | rfl | rfl | rfl | rfl
  · rw [key 1 (by decide) (by decide) (by decide)]; omega
  · rw [key 2 (by decide) (by decide) (by decide)]; omega
  · rw [key 4 (by decide) (by decide) (by decide)]; omega
  · rw [key 8 (by decide) (by decide) (by decide)]; omega
  · rw [key 16 (by decide) (by decide) (by decide)]; omega
  · rw [key 32 (by decide) (by decide) (by decide)]; omega
  · rw [key 64 (by decide) (by decide) (by decide)]; omega
  · rw [key 128 (by decide) (by decide) (by decide)]; omega
theorem bit_at (b : List Int) (hb : Bytes b) (n : Nat) (hn : n < 8 * b.length) : band .u8 (shr .u8 (b.getD (n / 8) 0) ((n % 8 : Nat) : Int)) 1 = leV b / 2 ^ n % 2 := by
  rw [byte_at b _ hb (by omega), bit_of _ _ (by omega), p256, Int.ediv_ediv_of_nonneg (Int.le_of_lt (Int.pow_pos (by decide))), ← Int.pow_add]
  congr 3; omega
theorem i64n (n : Nat) (h : n < 9223372036854775808) : IntKind.i64.wrap (n : Int) = (n : Int) := IntWalk.i64_in _ (by omega)
theorem red_step (b m : List Int) (k n : Nat) (hn : n < 8 * b.length) (hl : b.length < 1000) : scalar_reduced_l0 b (k + 1) m (n : Int) =
    (scalar_number_shifted m (IntKind.u64.wrap (band .u8 (shr .u8 (b.getD (n / 8) 0) ((n % 8 : Nat) : Int)) 1))).bind fun a => scalar_reduced_l0 b k a ((n : Int) - 1) := by
  have e1 : (n : Int).tdiv 8 = ((n / 8 : Nat) : Int) := rfl
  have e2 : (n : Int).tmod 8 = ((n % 8 : Nat) : Int) := rfl
  have e3 : IntKind.i64.wrap ((n : Int) - 1) = (n : Int) - 1 := IntWalk.i64_in _ (by omega)
  rw [scalar_reduced_l0, if_pos (decide_eq_true (by omega)), e1, e2, i64n _ (by omega), if_pos ⟨by omega, by omega⟩, if_pos (by omega), e3]
  rfl
theorem red_loop (b : List Int) (hb : Bytes b) (hl : b.length < 1000) : ∀ n : Nat, n ≤ 8 * b.length →
    scalar_reduced_l0 b (n + 1) (words4 (leV b / 2 ^ n % Lw)) ((n : Int) - 1) = some (words4 (leV b % Lw)) := by
  intro n
  induction n with
  | zero =>
    intro _
    rw [Int.pow_zero, Int.ediv_one, scalar_reduced_l0, if_neg (by decide)]
  | succ n ih =>
    intro hn
    have e : ((n + 1 : Nat) : Int) - 1 = (n : Int) := by omega
    have hv := (leV_lt b hb).1
    have q : 0 ≤ leV b / 2 ^ n % 2 ∧ leV b / 2 ^ n % 2 ≤ 1 := by omega
    rw [e, red_step _ _ _ _ (by omega) hl, bit_at b hb n (by omega), w64, Int.emod_eq_of_lt q.1 (by omega),
      shifted_ok _ _ ⟨Int.emod_nonneg _ (by decide), Int.emod_lt_of_pos _ (by decide)⟩ q, Option.bind_some]
    have e2 : (2 * (leV b / 2 ^ (n + 1) % Lw) + leV b / 2 ^ n % 2) % Lw = leV b / 2 ^ n % Lw := by
      rw [Int.pow_succ, ← Int.ediv_ediv_of_nonneg (Int.le_of_lt (Int.pow_pos (by decide)))]
      generalize leV b / 2 ^ n = y
      unfold Lw; omega
    rw [e2]
    exact ih (by omega)
theorem words4_0 : List.replicate 4 (0 : Int) = words4 0 := by kernel_rfl
theorem reduced_ok (b : List Int) (hb : Bytes b) (hl : b.length < 1000) : scalar_reduced b = some (words4 (leV b % Lw)) := by
  have h := red_loop b hb hl (8 * b.length) (Nat.le_refl _)
  have hv := leV_lt b hb
  rw [p256] at hv
  rw [Int.ediv_eq_zero_of_lt hv.1 hv.2, Int.zero_emod, ← words4_0] at h
  have e1 : IntKind.i64.wrap ((8 : Int) * (↑(List.length b) : Int)) = ((8 * b.length : Nat) : Int) := by rw [show (8 : Int) * (↑(List.length b) : Int) = ((8 * b.length : Nat) : Int) by omega]; exact i64n _ (by omega)
  have e2 : IntKind.i64.wrap (((8 * b.length : Nat) : Int) - 1) = ((8 * b.length : Nat) : Int) - 1 := IntWalk.i64_in _ (by omega)
  have e3 : ((((8 * b.length : Nat) : Int) - 1 - 0 + 1).toNat + 1) = 8 * b.length + 1 := by omega
  unfold scalar_reduced
  rw [e1, e2, e3, h, Option.bind_some]
/-- the bytes of what is left -/
def fs (v : Int) : List Int := leB 32 (v % Lw)
theorem sbytes_eq (w : List Int) : scalar_number_bytes_l0 w (((32 : Int) - (0 : Int)).toNat + 1) (List.replicate 32 0) 0 =
    some ((List.range 32).map fun i => IntKind.u8.wrap (shr .u64 (w.getD (i / 8) 0) ((8 * (i % 8) : Nat) : Int))) := by kernel_rfl
theorem sbytes (v : Int) : scalar_number_bytes (words4 v) = some (leB 32 v) := by
  unfold scalar_number_bytes; rw [sbytes_eq, leB_words]; rfl
theorem sof {b : List Int} (h : Bytes32 b) : scalar_of b = some (words4 (leV b)) := by
  unfold scalar_of; rw [sof_l0_eq, orw_words h]; rfl
theorem take_all {b : List Int} (n : Nat) (h : b.length = n) : (b.take n).drop 0 = b := by
  rw [List.drop_zero, ← h, List.take_length]
theorem smod {b : List Int} (h : Bytes32 b) : scalar_Mod b = some (fs (leV b)) := by
  unfold scalar_Mod
  rw [take_all 32 h.1, reduced_ok b h.2 (by rw [h.1]; decide), Option.bind_some, sbytes]; rfl
theorem swide {b : List Int} (h : Bytes b) (hl : b.length = 64) : scalar_Wide b = some (fs (leV b)) := by
  unfold scalar_Wide
  rw [take_all 64 hl, reduced_ok b h (by rw [hl]; decide), Option.bind_some, sbytes]; rfl
theorem scheck {b : List Int} (h : Bytes32 b) : scalar_Check b = some (decide (leV b < Lw)) := by
  unfold scalar_Check
  rw [sof h, Option.bind_some, order_eq, Option.bind_some, sless _ _ (leV_bd h) (by decide)]; rfl
end Go.Sc
/- The product and the sum. -/
namespace Go.Sc
open Go Go.Gw Go.Proofs.Sb.D Go.Pn
theorem p1_step (a b z m : List Int) (c : Int) (k i j : Nat) (hi : i < 4) (hj : j < 4) : scalar_product_l1 a b z (i : Int) (k + 1) m c (j : Int) =
    (math_bits_Mul64 (a.getD i 0) (b.getD j 0)).bind fun p => (add64 (m.getD (i + j) 0) p.2 0).bind fun q => (add64 ((m.set (i + j) q.1).getD (i + j) 0) c 0).bind fun r =>
      scalar_product_l1 a b z (i : Int) k ((m.set (i + j) q.1).set (i + j) r.1) (IntKind.u64.wrap (IntKind.u64.wrap (p.1 + q.2) + r.2)) ((j + 1 : Nat) : Int) := by
  have ci : i = 0 ∨ i = 1 ∨ i = 2 ∨ i = 3 := by omega
  have cj : j = 0 ∨ j = 1 ∨ j = 2 ∨ j = 3 := by omega
  rcases ci with rfl | rfl | rfl | rfl <;> rcases cj with rfl | rfl | rfl | rfl <;> (show _ = _; kernel_rfl)
theorem p1_end (a b z m : List Int) (c : Int) (k i : Nat) : scalar_product_l1 a b z (i : Int) (k + 1) m c 4 = some (m, c) := by kernel_rfl
theorem p1_cell {a b z m : List Int} {c x y o : Int} (k i j : Nat) (hi : i < 4) (hj : j < 4) (hm : m.length = 9) (ex : a.getD i 0 = x) (ey : b.getD j 0 = y) (eo : m.getD (i + j) 0 = o)
    (hx : 0 ≤ x ∧ x < 18446744073709551616) (hy : 0 ≤ y ∧ y < 18446744073709551616) (ho : 0 ≤ o ∧ o < 18446744073709551616) (hc : 0 ≤ c ∧ c < 18446744073709551616) :
    ∃ r d, scalar_product_l1 a b z (i : Int) (k + 1) m c (j : Int) = scalar_product_l1 a b z (i : Int) k (m.set (i + j) r) d ((j + 1 : Nat) : Int) ∧
      (0 ≤ r ∧ r < 18446744073709551616) ∧ (0 ≤ d ∧ d < 18446744073709551616) ∧ r + d * 18446744073709551616 = x * y + o + c := by
  rw [p1_step a b z m c k i j hi hj, ex, ey, eo, mul64_ok x y hx.1 hx.2 hy.1 hy.2, Option.bind_some]
  have pp := prod_le (x := x) (y := y) (b := 18446744073709551615) hx.1 (by omega) hy.1 (by omega)
  generalize x * y = p at *
  have q0 : 0 ≤ p % 18446744073709551616 := by omega
  have e1 : add64 o (p % 18446744073709551616) 0 = some ((o + p % 18446744073709551616 + 0) % 18446744073709551616, (o + p % 18446744073709551616 + 0) / 18446744073709551616) := by
    unfold add64; rw [if_pos ⟨ho.1, q0, by decide, by decide⟩]
  have e2 : add64 ((o + p % 18446744073709551616 + 0) % 18446744073709551616) c 0 = some (((o + p % 18446744073709551616 + 0) % 18446744073709551616 + c + 0) % 18446744073709551616, ((o + p % 18446744073709551616 + 0) % 18446744073709551616 + c + 0) / 18446744073709551616) := by
    unfold add64; rw [if_pos ⟨by omega, hc.1, by decide, by decide⟩]
  simp only [e1, Option.bind_some]
  rw [getD_set_of _ _ _ _ (by omega), if_pos rfl]
  simp only [e2, Option.bind_some, List.set_set]
  have w1 : IntKind.u64.wrap (p / 18446744073709551616 + (o + p % 18446744073709551616 + 0) / 18446744073709551616) = p / 18446744073709551616 + (o + p % 18446744073709551616 + 0) / 18446744073709551616 := u64_id (by omega) (by omega)
  rw [w1, u64_id (by omega) (by omega)]
  exact ⟨_, _, rfl, by omega, by omega, by omega⟩
theorem p1_row {a b z m : List Int} {x y0 y1 y2 y3 o0 o1 o2 o3 : Int} (i : Nat) (hi : i < 4) (ex : a.getD i 0 = x) (ey0 : b.getD 0 0 = y0) (ey1 : b.getD 1 0 = y1) (ey2 : b.getD 2 0 = y2) (ey3 : b.getD 3 0 = y3)
    (hm : m.length = 9) (eo0 : m.getD i 0 = o0) (eo1 : m.getD (i + 1) 0 = o1) (eo2 : m.getD (i + 2) 0 = o2) (eo3 : m.getD (i + 3) 0 = o3)
    (hx : 0 ≤ x ∧ x < 18446744073709551616) (hy : B4 y0 y1 y2 y3) (ho : B4 o0 o1 o2 o3) :
    ∃ r0 r1 r2 r3 d, scalar_product_l1 a b z (i : Int) (((4 : Int) - (0 : Int)).toNat + 1) m 0 0 = some ((((m.set i r0).set (i + 1) r1).set (i + 2) r2).set (i + 3) r3, d) ∧ B4 r0 r1 r2 r3 ∧ (0 ≤ d ∧ d < 18446744073709551616) ∧
      W4 r0 r1 r2 r3 + d * 115792089237316195423570985008687907853269984665640564039457584007913129639936 = W4 o0 o1 o2 o3 + W4 (x * y0) (x * y1) (x * y2) (x * y3) := by
  obtain ⟨r0, d0, e0, u0, v0, w0⟩ := p1_cell (a := a) (b := b) (z := z) (m := m) (c := 0) 4 i 0 hi (by decide) hm ex ey0 eo0 hx hy.h0 ho.h0 (by decide)
  obtain ⟨r1, d1, e1, u1, v1, w1⟩ := p1_cell (a := a) (b := b) (z := z) (m := m.set i r0) (c := d0) 3 i 1 hi (by decide) (by rw [List.length_set]; exact hm) ex ey1 (by rw [getD_set_of _ _ _ _ (by omega), if_neg (by omega)]; exact eo1) hx hy.h1 ho.h1 v0
  obtain ⟨r2, d2, e2, u2, v2, w2⟩ := p1_cell (a := a) (b := b) (z := z) (m := (m.set i r0).set (i + 1) r1) (c := d1) 2 i 2 hi (by decide) (by rw [List.length_set, List.length_set]; exact hm) ex ey2 (by rw [getD_set_of _ _ _ _ (by rw [List.length_set]; omega), if_neg (by omega), getD_set_of _ _ _ _ (by omega), if_neg (by omega)]; exact eo2) hx hy.h2 ho.h2 v1
  obtain ⟨r3, d3, e3, u3, v3, w3⟩ := p1_cell (a := a) (b := b) (z := z) (m := ((m.set i r0).set (i + 1) r1).set (i + 2) r2) (c := d2) 1 i 3 hi (by decide) (by rw [List.length_set, List.length_set, List.length_set]; exact hm) ex ey3 (by rw [getD_set_of _ _ _ _ (by rw [List.length_set, List.length_set]; omega), if_neg (by omega), getD_set_of _ _ _ _ (by rw [List.length_set]; omega), if_neg (by omega), getD_set_of _ _ _ _ (by omega), if_neg (by omega)]; exact eo3) hx hy.h3 ho.h3 v2
  refine ⟨r0, r1, r2, r3, d3, ?_, ⟨u0, u1, u2, u3⟩, v3, ?_⟩
  · exact e0.trans (e1.trans (e2.trans (e3.trans (p1_end a b z _ d3 0 i))))
  · unfold W4
    generalize x * y0 = p0 at *; generalize x * y1 = p1 at *; generalize x * y2 = p2 at *; generalize x * y3 = p3 at *
    omega
theorem p0_step (a b z m : List Int) (k i : Nat) (hi : i < 4) : scalar_product_l0 a b z (k + 1) m (i : Int) =
    (scalar_product_l1 a b z (i : Int) (((4 : Int) - (0 : Int)).toNat + 1) m 0 0).bind fun p => scalar_product_l0 a b z k (p.1.set (i + 4) p.2) ((i + 1 : Nat) : Int) := by
  have ci : i = 0 ∨ i = 1 ∨ i = 2 ∨ i = 3 := by omega
  rcases ci with rfl | rfl | rfl | rfl <;> (show _ = _; kernel_rfl)
theorem p0_end (a b z m : List Int) (k : Nat) : scalar_product_l0 a b z (k + 1) m 4 = some m := by kernel_rfl
theorem p0_ok (x y : Int) (z : List Int) (hx : 0 ≤ x ∧ x < 115792089237316195423570985008687907853269984665640564039457584007913129639936) (hy : 0 ≤ y ∧ y < 115792089237316195423570985008687907853269984665640564039457584007913129639936) : scalar_product_l0 (words4 x) (words4 y) z (((4 : Int) - (0 : Int)).toNat + 1) (List.replicate 9 0) 0 = some (words4 (x * y % 115792089237316195423570985008687907853269984665640564039457584007913129639936) ++ words4 (x * y / 115792089237316195423570985008687907853269984665640564039457584007913129639936) ++ [0]) := by
  obtain ⟨a0, a1, a2, a3, ea, ba, va⟩ := words4_ex x hx.1 hx.2
  obtain ⟨b0, b1, b2, b3, eb, bb, vb⟩ := words4_ex y hy.1 hy.2
  rw [ea, eb]
  have zz : (0 : Int) ≤ 0 ∧ (0 : Int) < 18446744073709551616 := by decide
  obtain ⟨r0, r1, r2, r3, d0, e0, br, bd0, w0⟩ := p1_row (a := [a0, a1, a2, a3]) (b := [b0, b1, b2, b3]) (z := z) (m := [0, 0, 0, 0, 0, 0, 0, 0, 0]) (x := a0) (y0 := b0) (y1 := b1) (y2 := b2) (y3 := b3) (o0 := 0) (o1 := 0) (o2 := 0) (o3 := 0) 0 (by decide) rfl rfl rfl rfl rfl rfl rfl rfl rfl rfl ba.h0 bb ⟨zz, zz, zz, zz⟩
  obtain ⟨s0, s1, s2, s3, d1, e1, bs, bd1, w1⟩ := p1_row (a := [a0, a1, a2, a3]) (b := [b0, b1, b2, b3]) (z := z) (m := [r0, r1, r2, r3, d0, 0, 0, 0, 0]) (x := a1) (y0 := b0) (y1 := b1) (y2 := b2) (y3 := b3) (o0 := r1) (o1 := r2) (o2 := r3) (o3 := d0) 1 (by decide) rfl rfl rfl rfl rfl rfl rfl rfl rfl rfl ba.h1 bb ⟨br.h1, br.h2, br.h3, bd0⟩
  obtain ⟨t0, t1, t2, t3, d2, e2, bt, bd2, w2⟩ := p1_row (a := [a0, a1, a2, a3]) (b := [b0, b1, b2, b3]) (z := z) (m := [r0, s0, s1, s2, s3, d1, 0, 0, 0]) (x := a2) (y0 := b0) (y1 := b1) (y2 := b2) (y3 := b3) (o0 := s1) (o1 := s2) (o2 := s3) (o3 := d1) 2 (by decide) rfl rfl rfl rfl rfl rfl rfl rfl rfl rfl ba.h2 bb ⟨bs.h1, bs.h2, bs.h3, bd1⟩
  obtain ⟨u0, u1, u2, u3, d3, e3, bu, bd3, w3⟩ := p1_row (a := [a0, a1, a2, a3]) (b := [b0, b1, b2, b3]) (z := z) (m := [r0, s0, t0, t1, t2, t3, d2, 0, 0]) (x := a3) (y0 := b0) (y1 := b1) (y2 := b2) (y3 := b3) (o0 := t1) (o1 := t2) (o2 := t3) (o3 := d2) 3 (by decide) rfl rfl rfl rfl rfl rfl rfl rfl rfl rfl ba.h3 bb ⟨bt.h1, bt.h2, bt.h3, bd2⟩
  have k0 := p0_step [a0, a1, a2, a3] [b0, b1, b2, b3] z [0, 0, 0, 0, 0, 0, 0, 0, 0] 4 0 (by decide)
  have k1 := p0_step [a0, a1, a2, a3] [b0, b1, b2, b3] z [r0, r1, r2, r3, d0, 0, 0, 0, 0] 3 1 (by decide)
  have k2 := p0_step [a0, a1, a2, a3] [b0, b1, b2, b3] z [r0, s0, s1, s2, s3, d1, 0, 0, 0] 2 2 (by decide)
  have k3 := p0_step [a0, a1, a2, a3] [b0, b1, b2, b3] z [r0, s0, t0, t1, t2, t3, d2, 0, 0] 1 3 (by decide)
  rw [e0, Option.bind_some] at k0
  rw [e1, Option.bind_some] at k1
  rw [e2, Option.bind_some] at k2
  rw [e3, Option.bind_some] at k3
  have e : scalar_product_l0 [a0, a1, a2, a3] [b0, b1, b2, b3] z (((4 : Int) - (0 : Int)).toNat + 1) (List.replicate 9 0) 0 = some [r0, s0, t0, u0, u1, u2, u3, d3, 0] :=
    k0.trans (k1.trans (k2.trans (k3.trans (p0_end _ _ _ _ 0))))
  rw [e]
  have hl : B4 r0 s0 t0 u0 := ⟨br.h0, bs.h0, bt.h0, bu.h0⟩
  have hh : B4 u1 u2 u3 d3 := ⟨bu.h1, bu.h2, bu.h3, bd3⟩
  have bl := W4_bd hl; have bh := W4_bd hh
  have tot : x * y = W4 r0 s0 t0 u0 + W4 u1 u2 u3 d3 * 115792089237316195423570985008687907853269984665640564039457584007913129639936 := by
    rw [← va, ← vb, W4_prod]
    generalize W4 (a0 * b0) (a0 * b1) (a0 * b2) (a0 * b3) = p0 at *
    generalize W4 (a1 * b0) (a1 * b1) (a1 * b2) (a1 * b3) = p1 at *
    generalize W4 (a2 * b0) (a2 * b1) (a2 * b2) (a2 * b3) = p2 at *
    generalize W4 (a3 * b0) (a3 * b1) (a3 * b2) (a3 * b3) = p3 at *
    unfold W4 at *; omega
  have e1 : x * y % 115792089237316195423570985008687907853269984665640564039457584007913129639936 = W4 r0 s0 t0 u0 := by rw [tot]; omega
  have e2 : x * y / 115792089237316195423570985008687907853269984665640564039457584007913129639936 = W4 u1 u2 u3 d3 := by rw [tot]; omega
  rw [e1, e2, ← words4_W hl, ← words4_W hh]; rfl
theorem p2_step (z m : List Int) (c : Int) (k i : Nat) (hi : i < 9) : scalar_product_l2 z (k + 1) m c (i : Int) =
    (add64 (m.getD i 0) (if i < 4 then z.getD i 0 else 0) c).bind fun q => scalar_product_l2 z k (m.set i q.1) q.2 ((i + 1 : Nat) : Int) := by
  have ci : i = 0 ∨ i = 1 ∨ i = 2 ∨ i = 3 ∨ i = 4 ∨ i = 5 ∨ i = 6 ∨ i = 7 ∨ i = 8 := by omega
  rcases ci with rfl | rfl | rfl | rfl | rfl | rfl | rfl | rfl | rfl <;> (show _ = _; kernel_rfl)
theorem p2_end (z m : List Int) (c : Int) (k : Nat) : scalar_product_l2 z (k + 1) m c 9 = some m := by kernel_rfl
theorem p2_ok (lo hi z : Int) (h0 : 0 ≤ lo ∧ lo < (115792089237316195423570985008687907853269984665640564039457584007913129639936 : Int)) (h1 : 0 ≤ hi ∧ hi + 1 < (115792089237316195423570985008687907853269984665640564039457584007913129639936 : Int)) (h2 : 0 ≤ z ∧ z < (115792089237316195423570985008687907853269984665640564039457584007913129639936 : Int)) :
    ∃ lo' hi', scalar_product_l2 (words4 z) (((9 : Int) - (0 : Int)).toNat + 1) (words4 lo ++ words4 hi ++ [0]) 0 0 = some (words4 lo' ++ words4 hi' ++ [0]) ∧ (0 ≤ lo' ∧ lo' < (115792089237316195423570985008687907853269984665640564039457584007913129639936 : Int)) ∧ (0 ≤ hi' ∧ hi' < (115792089237316195423570985008687907853269984665640564039457584007913129639936 : Int)) ∧
      lo' + hi' * (115792089237316195423570985008687907853269984665640564039457584007913129639936 : Int) = lo + hi * (115792089237316195423570985008687907853269984665640564039457584007913129639936 : Int) + z := by
  obtain ⟨a0, a1, a2, a3, ea, ba, va⟩ := words4_ex lo h0.1 h0.2
  obtain ⟨b0, b1, b2, b3, eb, bb, vb⟩ := words4_ex hi h1.1 (by omega)
  obtain ⟨c0, c1, c2, c3, ec, bc, vc⟩ := words4_ex z h2.1 h2.2
  rw [ea, eb, ec]
  have zz : (0 : Int) ≤ 0 ∧ (0 : Int) < 18446744073709551616 := by decide
  obtain ⟨r0, d0, e0, u0, v0, w0⟩ := add64_ok' a0 c0 0 ba.h0 bc.h0 (by decide)
  obtain ⟨r1, d1, e1, u1, v1, w1⟩ := add64_ok' a1 c1 d0 ba.h1 bc.h1 v0
  obtain ⟨r2, d2, e2, u2, v2, w2⟩ := add64_ok' a2 c2 d1 ba.h2 bc.h2 v1
  obtain ⟨r3, d3, e3, u3, v3, w3⟩ := add64_ok' a3 c3 d2 ba.h3 bc.h3 v2
  obtain ⟨r4, d4, e4, u4, v4, w4⟩ := add64_ok' b0 0 d3 bb.h0 zz v3
  obtain ⟨r5, d5, e5, u5, v5, w5⟩ := add64_ok' b1 0 d4 bb.h1 zz v4
  obtain ⟨r6, d6, e6, u6, v6, w6⟩ := add64_ok' b2 0 d5 bb.h2 zz v5
  obtain ⟨r7, d7, e7, u7, v7, w7⟩ := add64_ok' b3 0 d6 bb.h3 zz v6
  obtain ⟨r8, d8, e8, u8, v8, w8⟩ := add64_ok' 0 0 d7 zz zz v7
  have k0 := p2_step [c0, c1, c2, c3] [a0, a1, a2, a3, b0, b1, b2, b3, 0] 0 9 0 (by decide)
  have k1 := p2_step [c0, c1, c2, c3] [r0, a1, a2, a3, b0, b1, b2, b3, 0] d0 8 1 (by decide)
  have k2 := p2_step [c0, c1, c2, c3] [r0, r1, a2, a3, b0, b1, b2, b3, 0] d1 7 2 (by decide)
  have k3 := p2_step [c0, c1, c2, c3] [r0, r1, r2, a3, b0, b1, b2, b3, 0] d2 6 3 (by decide)
  have k4 := p2_step [c0, c1, c2, c3] [r0, r1, r2, r3, b0, b1, b2, b3, 0] d3 5 4 (by decide)
  have k5 := p2_step [c0, c1, c2, c3] [r0, r1, r2, r3, r4, b1, b2, b3, 0] d4 4 5 (by decide)
  have k6 := p2_step [c0, c1, c2, c3] [r0, r1, r2, r3, r4, r5, b2, b3, 0] d5 3 6 (by decide)
  have k7 := p2_step [c0, c1, c2, c3] [r0, r1, r2, r3, r4, r5, r6, b3, 0] d6 2 7 (by decide)
  have k8 := p2_step [c0, c1, c2, c3] [r0, r1, r2, r3, r4, r5, r6, r7, 0] d7 1 8 (by decide)
  rw [show (add64 (List.getD [a0, a1, a2, a3, b0, b1, b2, b3, 0] 0 0) (if 0 < 4 then List.getD [c0, c1, c2, c3] 0 0 else 0) 0) = some (r0, d0) from e0, Option.bind_some] at k0
  rw [show (add64 (List.getD [r0, a1, a2, a3, b0, b1, b2, b3, 0] 1 0) (if 1 < 4 then List.getD [c0, c1, c2, c3] 1 0 else 0) d0) = some (r1, d1) from e1, Option.bind_some] at k1
  rw [show (add64 (List.getD [r0, r1, a2, a3, b0, b1, b2, b3, 0] 2 0) (if 2 < 4 then List.getD [c0, c1, c2, c3] 2 0 else 0) d1) = some (r2, d2) from e2, Option.bind_some] at k2
  rw [show (add64 (List.getD [r0, r1, r2, a3, b0, b1, b2, b3, 0] 3 0) (if 3 < 4 then List.getD [c0, c1, c2, c3] 3 0 else 0) d2) = some (r3, d3) from e3, Option.bind_some] at k3
  rw [show (add64 (List.getD [r0, r1, r2, r3, b0, b1, b2, b3, 0] 4 0) (if 4 < 4 then List.getD [c0, c1, c2, c3] 4 0 else 0) d3) = some (r4, d4) from e4, Option.bind_some] at k4
  rw [show (add64 (List.getD [r0, r1, r2, r3, r4, b1, b2, b3, 0] 5 0) (if 5 < 4 then List.getD [c0, c1, c2, c3] 5 0 else 0) d4) = some (r5, d5) from e5, Option.bind_some] at k5
  rw [show (add64 (List.getD [r0, r1, r2, r3, r4, r5, b2, b3, 0] 6 0) (if 6 < 4 then List.getD [c0, c1, c2, c3] 6 0 else 0) d5) = some (r6, d6) from e6, Option.bind_some] at k6
  rw [show (add64 (List.getD [r0, r1, r2, r3, r4, r5, r6, b3, 0] 7 0) (if 7 < 4 then List.getD [c0, c1, c2, c3] 7 0 else 0) d6) = some (r7, d7) from e7, Option.bind_some] at k7
  rw [show (add64 (List.getD [r0, r1, r2, r3, r4, r5, r6, r7, 0] 8 0) (if 8 < 4 then List.getD [c0, c1, c2, c3] 8 0 else 0) d7) = some (r8, d8) from e8, Option.bind_some] at k8
  have hl : B4 r0 r1 r2 r3 := ⟨u0, u1, u2, u3⟩
  have hh : B4 r4 r5 r6 r7 := ⟨u4, u5, u6, u7⟩
  have bl := W4_bd hl; have bh := W4_bd hh
  have tot : W4 r0 r1 r2 r3 + W4 r4 r5 r6 r7 * (115792089237316195423570985008687907853269984665640564039457584007913129639936 : Int) + d7 * ((115792089237316195423570985008687907853269984665640564039457584007913129639936 : Int) * (115792089237316195423570985008687907853269984665640564039457584007913129639936 : Int)) = lo + hi * (115792089237316195423570985008687907853269984665640564039457584007913129639936 : Int) + z := by
    rw [← va, ← vb, ← vc]; unfold W4; omega
  have t2 : lo + hi * (115792089237316195423570985008687907853269984665640564039457584007913129639936 : Int) + z < (115792089237316195423570985008687907853269984665640564039457584007913129639936 : Int) * (115792089237316195423570985008687907853269984665640564039457584007913129639936 : Int) := by omega
  have d70 : d7 = 0 := by omega
  have r80 : r8 = 0 := by omega
  rw [r80] at k8
  refine ⟨W4 r0 r1 r2 r3, W4 r4 r5 r6 r7, ?_, bl, bh, by rw [d70] at tot; omega⟩
  rw [← words4_W hl, ← words4_W hh]
  exact k0.trans (k1.trans (k2.trans (k3.trans (k4.trans (k5.trans (k6.trans (k7.trans (k8.trans (p2_end _ _ d8 0)))))))))
theorem p4_eq (a0 a1 a2 a3 b0 b1 b2 b3 : Int) : scalar_product_l4 ([a0, a1, a2, a3] ++ [b0, b1, b2, b3] ++ [0]) (((72 : Int) - (0 : Int)).toNat + 1) [] 0 =
    some (((List.range 32).map fun i => IntKind.u8.wrap (shr .u64 ([a0, a1, a2, a3].getD (i / 8) 0) ((8 * (i % 8) : Nat) : Int))) ++ ((List.range 32).map fun i => IntKind.u8.wrap (shr .u64 ([b0, b1, b2, b3].getD (i / 8) 0) ((8 * (i % 8) : Nat) : Int))) ++ List.replicate 8 0) := by kernel_rfl
theorem p4_ok (lo hi : Int) : scalar_product_l4 (words4 lo ++ words4 hi ++ [0]) (((72 : Int) - (0 : Int)).toNat + 1) [] 0 = some (leB 32 lo ++ leB 32 hi ++ List.replicate 8 0) :=
  (p4_eq _ _ _ _ _ _ _ _).trans (by rw [← leB_words lo, ← leB_words hi]; rfl)
theorem leV_app : ∀ a b : List Int, leV (a ++ b) = leV a + 256 ^ a.length * leV b
  | [], b => by show leV b = 0 + 256 ^ 0 * leV b; rw [Int.pow_zero]; omega
  | x :: a, b => by
    show x + 256 * leV (a ++ b) = x + 256 * leV a + 256 ^ (a.length + 1) * leV b
    rw [leV_app a b, Int.pow_succ]; grind
theorem product_ok (x y z : Int) (hx : 0 ≤ x ∧ x < (115792089237316195423570985008687907853269984665640564039457584007913129639936 : Int)) (hy : 0 ≤ y ∧ y < (115792089237316195423570985008687907853269984665640564039457584007913129639936 : Int)) (hz : 0 ≤ z ∧ z < (115792089237316195423570985008687907853269984665640564039457584007913129639936 : Int)) :
    ∃ l, scalar_product (words4 x) (words4 y) (words4 z) = some l ∧ Bytes l ∧ l.length = 72 ∧ leV l = x * y + z := by
  have pn : 0 ≤ x * y := Int.mul_nonneg hx.1 hy.1
  have pb := prod_le hx.1 (b := (115792089237316195423570985008687907853269984665640564039457584007913129639936 : Int) - 1) (by omega) hy.1 (by omega)
  have hh : x * y / (115792089237316195423570985008687907853269984665640564039457584007913129639936 : Int) + 1 < (115792089237316195423570985008687907853269984665640564039457584007913129639936 : Int) := by
    generalize x * y = p at *
    omega
  obtain ⟨lo', hi', e, b1, b2, q⟩ := p2_ok (x * y % (115792089237316195423570985008687907853269984665640564039457584007913129639936 : Int)) (x * y / (115792089237316195423570985008687907853269984665640564039457584007913129639936 : Int)) z ⟨Int.emod_nonneg _ (by decide), Int.emod_lt_of_pos _ (by decide)⟩ ⟨Int.ediv_nonneg pn (by decide), hh⟩ hz
  refine ⟨leB 32 lo' ++ leB 32 hi' ++ List.replicate 8 0, ?_, ?_, by simp [leB], ?_⟩
  · unfold scalar_product
    rw [p0_ok x y _ hx hy, Option.bind_some, e, Option.bind_some, p4_ok, Option.bind_some]
  · intro v hv
    rw [List.mem_append, List.mem_append] at hv
    rcases hv with (hv | hv) | hv
    · exact (leB_bytes 32 _).2 v hv
    · exact (leB_bytes 32 _).2 v hv
    · rw [List.eq_of_mem_replicate hv]; decide
  · rw [leV_app, leV_app, leV_leB, leV_leB]
    have z8 : leV (List.replicate 8 0) = 0 := by decide
    have p32 : (256 : Int) ^ 32 = (115792089237316195423570985008687907853269984665640564039457584007913129639936 : Int) := by decide
    have l32 : (leB 32 lo').length = 32 := by simp [leB]
    rw [z8, l32, p32, Int.emod_eq_of_lt b1.1 b1.2, Int.emod_eq_of_lt b2.1 b2.2]
    have := Int.emod_add_mul_ediv (x * y) (115792089237316195423570985008687907853269984665640564039457584007913129639936 : Int)
    generalize x * y = p at *
    omega
theorem smul {a b c : List Int} (ha : Bytes32 a) (hb : Bytes32 b) (hc : Bytes32 c) : scalar_MulAdd a b c = some (fs (leV a * leV b + leV c)) := by
  obtain ⟨l, e, h1, h2, h3⟩ := product_ok (leV a) (leV b) (leV c) (leV_bd ha) (leV_bd hb) (leV_bd hc)
  unfold scalar_MulAdd
  rw [sof ha, Option.bind_some, sof hb, Option.bind_some, sof hc, Option.bind_some, e, Option.bind_some, reduced_ok l h1 (by rw [h2]; decide), Option.bind_some, sbytes, Option.bind_some, h3]; rfl
end Go.Sc
/- The page's: what is left modulo L, bit by bit; the page's product and sum. -/
namespace Go.Sc
open Go Go.Gw Go.Proofs.Sb.D Go.Pn
theorem word8_get (lo hi : Int) (j : Nat) (hj : j < 8) (h0 : 0 ≤ lo ∧ lo < (115792089237316195423570985008687907853269984665640564039457584007913129639936 : Int)) : (words4 lo ++ words4 hi).getD j 0 = (lo + hi * (115792089237316195423570985008687907853269984665640564039457584007913129639936 : Int)) / 2 ^ (64 * j) % 18446744073709551616 := by
  have c : j = 0 ∨ j = 1 ∨ j = 2 ∨ j = 3 ∨ j = 4 ∨ j = 5 ∨ j = 6 ∨ j = 7 := by omega
  rw [Int.pow_mul, show (2 : Int) ^ 64 = 18446744073709551616 by decide]
  rcases c with rfl | rfl | rfl | rfl | rfl | rfl | rfl | rfl <;> simp only [words4, List.cons_append, List.nil_append, List.getD_cons_zero, List.getD_cons_succ, Int.reducePow] <;> omega
theorem bit64 (u : Int) (r : Nat) (hr : r < 64) : u % 18446744073709551616 / 2 ^ r % 2 = u / 2 ^ r % 2 := by
  have hk : (18446744073709551616 : Int) = 2 ^ r * 2 * 2 ^ (63 - r) := by
    rw [Int.mul_assoc, Int.mul_comm 2 (2 ^ (63 - r)), ← Int.pow_succ, ← Int.pow_add]
    have : r + (63 - r + 1) = 64 := by omega
    rw [this]; decide
  have hB : (0 : Int) < 2 ^ r := Int.pow_pos (by decide)
  have e : u = u / 18446744073709551616 * 18446744073709551616 + u % 18446744073709551616 := by omega
  conv => rhs; rw [e]
  rw [hk]
  generalize (2 : Int) ^ (63 - r) = k
  generalize (2 : Int) ^ r = B at *
  generalize u % (B * 2 * k) = s
  generalize u / (B * 2 * k) = q
  have : q * (B * 2 * k) + s = s + q * k * 2 * B := by grind
  rw [this, Int.add_mul_ediv_right _ _ (by omega : B ≠ 0), Int.add_mul_emod_self_right]
theorem rbit (lo hi : Int) (n : Nat) (hn : n < 512) (h0 : 0 ≤ lo ∧ lo < (115792089237316195423570985008687907853269984665640564039457584007913129639936 : Int)) : band .u64 (shr .u64 ((words4 lo ++ words4 hi).getD (n / 64) 0) ((n % 64 : Nat) : Int)) 1 = (lo + hi * (115792089237316195423570985008687907853269984665640564039457584007913129639936 : Int)) / 2 ^ n % 2 := by
  rw [word8_get lo hi _ (by omega) h0]
  generalize lo + hi * (115792089237316195423570985008687907853269984665640564039457584007913129639936 : Int) = v
  have e : (2 : Int) ^ (min (((n % 64 : Nat) : Int).toNat) IntKind.u64.bits) = 2 ^ (n % 64) := by
    have : min (((n % 64 : Nat) : Int).toNat) IntKind.u64.bits = n % 64 := by
      have : IntKind.u64.bits = 64 := rfl
      omega
    rw [this]
  have hB : (0 : Int) < 2 ^ (n % 64) := Int.pow_pos (by decide)
  have q0 : 0 ≤ v / 2 ^ (64 * (n / 64)) % 18446744073709551616 / 2 ^ (n % 64) := Int.ediv_nonneg (by omega) (by omega)
  have q1 : v / 2 ^ (64 * (n / 64)) % 18446744073709551616 / 2 ^ (n % 64) ≤ v / 2 ^ (64 * (n / 64)) % 18446744073709551616 := Int.ediv_le_self _ (by omega)
  rw [shr_u _ _ _ _ e (by omega), band_mask k64 1 (by decide) _ 1 2 (by decide) (by decide) q0 (by show _ < (18446744073709551616 : Int); omega), bit64 _ _ (by omega),
    Int.ediv_ediv_of_nonneg (Int.le_of_lt (Int.pow_pos (by decide))), ← Int.pow_add]
  congr 3; omega
theorem set_bit (x c : Int) (_hx : 0 ≤ x ∧ x < Lw) (hc : 0 ≤ c ∧ c ≤ 1) : (words4 (x + x)).set 0 (bor .u64 ((words4 (x + x)).getD 0 0) c) = words4 (2 * x + c) := by
  show [bor .u64 ((x + x) % 18446744073709551616) c, (x + x) / 18446744073709551616 % 18446744073709551616, (x + x) / 340282366920938463463374607431768211456 % 18446744073709551616, (x + x) / 6277101735386680763835789423207666416102355444464034512896 % 18446744073709551616] = words4 (2 * x + c)
  rw [bor_hi_lo k64 1 ((x + x) % 18446744073709551616) c 2 (by decide) (by omega) (by show _ < (18446744073709551616 : Int); omega) (by omega) hc.1 (by show _ < (18446744073709551616 : Int); omega) (by omega)]
  unfold words4
  congr 1
  · omega
  · congr 1
    · omega
    · congr 1
      · omega
      · congr 1; omega
theorem mL_step (lo hi x : Int) (k n : Nat) (hn : n < 512) (h0 : 0 ≤ lo ∧ lo < (115792089237316195423570985008687907853269984665640564039457584007913129639936 : Int)) (hx : 0 ≤ x ∧ x < Lw) : ref04_modL_l0 (words4 lo ++ words4 hi) (k + 1) (words4 x) (n : Int) =
    ref04_modL_l0 (words4 lo ++ words4 hi) k (words4 ((2 * x + (lo + hi * (115792089237316195423570985008687907853269984665640564039457584007913129639936 : Int)) / 2 ^ n % 2) % Lw)) ((n : Int) - 1) := by
  have hL : Lw = 7237005577332262213973186563042994240857116359379907606001950938285454250989 := rfl
  have e1 : (n : Int).tdiv 64 = ((n / 64 : Nat) : Int) := rfl
  have e2 : (n : Int).tmod 64 = ((n % 64 : Nat) : Int) := rfl
  have e3 : IntKind.i64.wrap ((n : Int) - 1) = (n : Int) - 1 := IntWalk.i64_in _ (by omega)
  have e4 : IntKind.u64.wrap ((n % 64 : Nat) : Int) = ((n % 64 : Nat) : Int) := by rw [w64]; omega
  have e5 : (((n / 64 : Nat) : Int)).toNat = n / 64 := rfl
  have hb := rbit lo hi n hn h0
  have q : 0 ≤ (lo + hi * (115792089237316195423570985008687907853269984665640564039457584007913129639936 : Int)) / 2 ^ n % 2 ∧ (lo + hi * (115792089237316195423570985008687907853269984665640564039457584007913129639936 : Int)) / 2 ^ n % 2 ≤ 1 := by omega
  generalize (lo + hi * (115792089237316195423570985008687907853269984665640564039457584007913129639936 : Int)) / 2 ^ n % 2 = c at *
  rw [ref04_modL_l0, if_pos (decide_eq_true (by omega)), radd x x (by omega) (by omega), Option.bind_some, Int.emod_eq_of_lt (a := x + x) (by omega) (by omega), e1, e2, i64n _ (by omega)]
  simp only [e4, e5, e3, hb]
  rw [if_pos ⟨by omega, by omega⟩, if_pos (by omega), L_eq]
  simp only [Option.bind_some, set_bit x c hx q]
  rw [rless _ _ (by omega) (by decide)]
  simp only [Option.bind_some]
  by_cases h : 2 * x + c < Lw
  · rw [decide_eq_true h, if_neg (by decide), Int.emod_eq_of_lt (a := 2 * x + c) (by omega) h]
  · rw [decide_eq_false h, if_pos (show (!false) = true from rfl), rsub _ _ (by omega) (by decide)]
    simp only [Option.bind_some]
    congr 2; unfold Lw at *; omega
theorem mL_loop (lo hi : Int) (h0 : 0 ≤ lo ∧ lo < (115792089237316195423570985008687907853269984665640564039457584007913129639936 : Int)) : ∀ n : Nat, n ≤ 512 →
    ref04_modL_l0 (words4 lo ++ words4 hi) (n + 1) (words4 ((lo + hi * (115792089237316195423570985008687907853269984665640564039457584007913129639936 : Int)) / 2 ^ n % Lw)) ((n : Int) - 1) = some (words4 ((lo + hi * (115792089237316195423570985008687907853269984665640564039457584007913129639936 : Int)) % Lw)) := by
  intro n
  induction n with
  | zero =>
    intro _
    rw [Int.pow_zero, Int.ediv_one, ref04_modL_l0, if_neg (by decide)]
  | succ n ih =>
    intro hn
    have e : ((n + 1 : Nat) : Int) - 1 = (n : Int) := by omega
    rw [e, mL_step _ _ _ _ _ (by omega) h0 ⟨Int.emod_nonneg _ (by decide), Int.emod_lt_of_pos _ (by decide)⟩]
    have e2 : (2 * ((lo + hi * (115792089237316195423570985008687907853269984665640564039457584007913129639936 : Int)) / 2 ^ (n + 1) % Lw) + (lo + hi * (115792089237316195423570985008687907853269984665640564039457584007913129639936 : Int)) / 2 ^ n % 2) % Lw = (lo + hi * (115792089237316195423570985008687907853269984665640564039457584007913129639936 : Int)) / 2 ^ n % Lw := by
      rw [Int.pow_succ, ← Int.ediv_ediv_of_nonneg (Int.le_of_lt (Int.pow_pos (by decide)))]
      generalize (lo + hi * (115792089237316195423570985008687907853269984665640564039457584007913129639936 : Int)) / 2 ^ n = y
      unfold Lw; omega
    rw [e2]
    exact ih (by omega)
theorem rmodL (lo hi : Int) (h0 : 0 ≤ lo ∧ lo < (115792089237316195423570985008687907853269984665640564039457584007913129639936 : Int)) (h1 : 0 ≤ hi ∧ hi < (115792089237316195423570985008687907853269984665640564039457584007913129639936 : Int)) : ref04_modL (words4 lo ++ words4 hi) = some (words4 ((lo + hi * (115792089237316195423570985008687907853269984665640564039457584007913129639936 : Int)) % Lw)) := by
  have h := mL_loop lo hi h0 512 (Nat.le_refl _)
  have hp2 : (2 : Int) ^ 256 = (115792089237316195423570985008687907853269984665640564039457584007913129639936 : Int) := by decide
  have hp : (2 : Int) ^ 512 = (115792089237316195423570985008687907853269984665640564039457584007913129639936 : Int) * (115792089237316195423570985008687907853269984665640564039457584007913129639936 : Int) := by rw [show 512 = 256 + 256 from rfl, Int.pow_add, hp2]
  rw [hp, Int.ediv_eq_zero_of_lt (by omega) (by omega), Int.zero_emod, ← words4_0] at h
  unfold ref04_modL
  exact (congrArg (fun z => Option.bind z fun m3 => some m3) h).trans rfl
def ML (n : Nat) (b_0 : List Int) : Nat → List Int → Int → Option (List Int)
  | 0, _, _ => none
  | k + 1, m1, i2 => if (decide (i2 < (↑n : Int))) = true then if 0 ≤ (IntKind.i64.wrap (i2.tdiv (8 : Int))) ∧ (IntKind.i64.wrap (i2.tdiv (8 : Int))) < ((8 : Nat) : Int) then if 0 ≤ i2 ∧ i2 < ↑n then if 0 ≤ (IntKind.u64.wrap (IntKind.i64.wrap ((8 : Int) * (i2.tmod (8 : Int))))) then if 0 ≤ (IntKind.i64.wrap (i2.tdiv (8 : Int))) ∧ (IntKind.i64.wrap (i2.tdiv (8 : Int))) < ((8 : Nat) : Int) then ML n b_0 k (m1.set (IntKind.i64.wrap (i2.tdiv (8 : Int))).toNat (bor .u64 (m1.getD (IntKind.i64.wrap (i2.tdiv (8 : Int))).toNat 0) (shl .u64 (IntKind.u64.wrap (b_0.getD i2.toNat 0)) (IntKind.u64.wrap (IntKind.i64.wrap ((8 : Int) * (i2.tmod (8 : Int)))))))) (IntKind.i64.wrap (i2 + (1 : Int))) else none else none else none else none else some m1
theorem ML_eq (b : List Int) : ∀ k m i, ref04_ModL_l0 b k m i = ML b.length b k m i := by
  intro k
  induction k with
  | zero => intros; rfl
  | succ k ih => intro m i; rw [ref04_ModL_l0, ML, ih]
theorem ML32 (b : List Int) : ML 32 b (((↑(32 : Nat) : Int) - (0 : Int)).toNat + 1) (List.replicate 8 0) 0 = some ([orw b 0, orw b 1, orw b 2, orw b 3] ++ [0, 0, 0, 0]) := by kernel_rfl
theorem ML64 (b : List Int) : ML 64 b (((↑(64 : Nat) : Int) - (0 : Int)).toNat + 1) (List.replicate 8 0) 0 = some ([orw b 0, orw b 1, orw b 2, orw b 3] ++ [orw b 4, orw b 5, orw b 6, orw b 7]) := by kernel_rfl
def orF (f : Nat → Int) : Int := (List.range 8).foldl (fun m j => bor .u64 m (shl .u64 (IntKind.u64.wrap (f j)) ((8 * j : Nat) : Int))) 0
theorem orF_congr {f g : Nat → Int} (h : ∀ j, j < 8 → f j = g j) : orF f = orF g := by
  have r : List.range 8 = [0, 1, 2, 3, 4, 5, 6, 7] := rfl
  unfold orF
  rw [r]
  simp only [List.foldl_cons, List.foldl_nil, h 0 (by decide), h 1 (by decide), h 2 (by decide), h 3 (by decide), h 4 (by decide), h 5 (by decide), h 6 (by decide), h 7 (by decide)]
theorem orw_lo (a b : List Int) (ha : a.length = 32) (i : Nat) (hi : i < 4) : orw (a ++ b) i = orw a i := by
  show orF (fun j => (a ++ b).getD (8 * i + j) 0) = orF (fun j => a.getD (8 * i + j) 0)
  exact orF_congr fun j hj => by simp only [List.getD_eq_getElem?_getD]; rw [List.getElem?_append_left (by omega)]
theorem orw_hi (a b : List Int) (ha : a.length = 32) (i : Nat) : orw (a ++ b) (4 + i) = orw b i := by
  show orF (fun j => (a ++ b).getD (8 * (4 + i) + j) 0) = orF (fun j => b.getD (8 * i + j) 0)
  exact orF_congr fun j hj => by
    simp only [List.getD_eq_getElem?_getD]; rw [List.getElem?_append_right (by omega)]
    congr 2; omega
theorem rModL32 {b : List Int} (h : Bytes32 b) : ref04_ModL b = some (fs (leV b)) := by
  unfold ref04_ModL
  rw [ML_eq, h.1, ML32, orw_words h, Option.bind_some]
  have z : [(0 : Int), 0, 0, 0] = words4 0 := by kernel_rfl
  rw [z, rmodL _ _ (leV_bd h) (by decide), Option.bind_some, rbytes, Option.bind_some]
  unfold fs; congr 3; omega
theorem rModL64 {a b : List Int} (ha : Bytes32 a) (hb : Bytes32 b) : ref04_ModL (a ++ b) = some (fs (leV (a ++ b))) := by
  unfold ref04_ModL
  have hl : (a ++ b).length = 64 := by rw [List.length_append, ha.1, hb.1]
  rw [ML_eq, hl, ML64, orw_lo a b ha.1 0 (by decide), orw_lo a b ha.1 1 (by decide), orw_lo a b ha.1 2 (by decide), orw_lo a b ha.1 3 (by decide), orw_words ha,
    orw_hi a b ha.1 0, orw_hi a b ha.1 1, orw_hi a b ha.1 2, orw_hi a b ha.1 3, orw_words hb, Option.bind_some,
    rmodL _ _ (leV_bd ha) (leV_bd hb), Option.bind_some, rbytes, Option.bind_some]
  have p32 : (256 : Int) ^ 32 = (115792089237316195423570985008687907853269984665640564039457584007913129639936 : Int) := by decide
  unfold fs; rw [leV_app, ha.1, p32, Int.mul_comm]
theorem m2_step (z m : List Int) (c : Int) (k i : Nat) (hi : i < 8) : ref04_MulAdd_l0 z (k + 1) m c (i : Int) =
    (add64 (m.getD i 0) (if i < 4 then z.getD i 0 else 0) c).bind fun q => ref04_MulAdd_l0 z k (m.set i q.1) q.2 ((i + 1 : Nat) : Int) := by
  have ci : i = 0 ∨ i = 1 ∨ i = 2 ∨ i = 3 ∨ i = 4 ∨ i = 5 ∨ i = 6 ∨ i = 7 := by omega
  rcases ci with rfl | rfl | rfl | rfl | rfl | rfl | rfl | rfl <;> (show _ = _; kernel_rfl)
theorem m2_end (z m : List Int) (c : Int) (k : Nat) : ref04_MulAdd_l0 z (k + 1) m c 8 = some m := by kernel_rfl
theorem m2_ok (lo hi z : Int) (h0 : 0 ≤ lo ∧ lo < (115792089237316195423570985008687907853269984665640564039457584007913129639936 : Int)) (h1 : 0 ≤ hi ∧ hi + 1 < (115792089237316195423570985008687907853269984665640564039457584007913129639936 : Int)) (h2 : 0 ≤ z ∧ z < (115792089237316195423570985008687907853269984665640564039457584007913129639936 : Int)) :
    ∃ lo' hi', ref04_MulAdd_l0 (words4 z) (((8 : Int) - (0 : Int)).toNat + 1) (words4 lo ++ words4 hi) 0 0 = some (words4 lo' ++ words4 hi') ∧ (0 ≤ lo' ∧ lo' < (115792089237316195423570985008687907853269984665640564039457584007913129639936 : Int)) ∧ (0 ≤ hi' ∧ hi' < (115792089237316195423570985008687907853269984665640564039457584007913129639936 : Int)) ∧
      lo' + hi' * (115792089237316195423570985008687907853269984665640564039457584007913129639936 : Int) = lo + hi * (115792089237316195423570985008687907853269984665640564039457584007913129639936 : Int) + z := by
  obtain ⟨a0, a1, a2, a3, ea, ba, va⟩ := words4_ex lo h0.1 h0.2
  obtain ⟨b0, b1, b2, b3, eb, bb, vb⟩ := words4_ex hi h1.1 (by omega)
  obtain ⟨c0, c1, c2, c3, ec, bc, vc⟩ := words4_ex z h2.1 h2.2
  rw [ea, eb, ec]
  have zz : (0 : Int) ≤ 0 ∧ (0 : Int) < 18446744073709551616 := by decide
  obtain ⟨r0, d0, e0, u0, v0, w0⟩ := add64_ok' a0 c0 0 ba.h0 bc.h0 (by decide)
  obtain ⟨r1, d1, e1, u1, v1, w1⟩ := add64_ok' a1 c1 d0 ba.h1 bc.h1 v0
  obtain ⟨r2, d2, e2, u2, v2, w2⟩ := add64_ok' a2 c2 d1 ba.h2 bc.h2 v1
  obtain ⟨r3, d3, e3, u3, v3, w3⟩ := add64_ok' a3 c3 d2 ba.h3 bc.h3 v2
  obtain ⟨r4, d4, e4, u4, v4, w4⟩ := add64_ok' b0 0 d3 bb.h0 zz v3
  obtain ⟨r5, d5, e5, u5, v5, w5⟩ := add64_ok' b1 0 d4 bb.h1 zz v4
  obtain ⟨r6, d6, e6, u6, v6, w6⟩ := add64_ok' b2 0 d5 bb.h2 zz v5
  obtain ⟨r7, d7, e7, u7, v7, w7⟩ := add64_ok' b3 0 d6 bb.h3 zz v6
  have k0 := m2_step [c0, c1, c2, c3] [a0, a1, a2, a3, b0, b1, b2, b3] 0 8 0 (by decide)
  have k1 := m2_step [c0, c1, c2, c3] [r0, a1, a2, a3, b0, b1, b2, b3] d0 7 1 (by decide)
  have k2 := m2_step [c0, c1, c2, c3] [r0, r1, a2, a3, b0, b1, b2, b3] d1 6 2 (by decide)
  have k3 := m2_step [c0, c1, c2, c3] [r0, r1, r2, a3, b0, b1, b2, b3] d2 5 3 (by decide)
  have k4 := m2_step [c0, c1, c2, c3] [r0, r1, r2, r3, b0, b1, b2, b3] d3 4 4 (by decide)
  have k5 := m2_step [c0, c1, c2, c3] [r0, r1, r2, r3, r4, b1, b2, b3] d4 3 5 (by decide)
  have k6 := m2_step [c0, c1, c2, c3] [r0, r1, r2, r3, r4, r5, b2, b3] d5 2 6 (by decide)
  have k7 := m2_step [c0, c1, c2, c3] [r0, r1, r2, r3, r4, r5, r6, b3] d6 1 7 (by decide)
  rw [show (add64 (List.getD [a0, a1, a2, a3, b0, b1, b2, b3] 0 0) (if 0 < 4 then List.getD [c0, c1, c2, c3] 0 0 else 0) 0) = some (r0, d0) from e0, Option.bind_some] at k0
  rw [show (add64 (List.getD [r0, a1, a2, a3, b0, b1, b2, b3] 1 0) (if 1 < 4 then List.getD [c0, c1, c2, c3] 1 0 else 0) d0) = some (r1, d1) from e1, Option.bind_some] at k1
  rw [show (add64 (List.getD [r0, r1, a2, a3, b0, b1, b2, b3] 2 0) (if 2 < 4 then List.getD [c0, c1, c2, c3] 2 0 else 0) d1) = some (r2, d2) from e2, Option.bind_some] at k2
  rw [show (add64 (List.getD [r0, r1, r2, a3, b0, b1, b2, b3] 3 0) (if 3 < 4 then List.getD [c0, c1, c2, c3] 3 0 else 0) d2) = some (r3, d3) from e3, Option.bind_some] at k3
  rw [show (add64 (List.getD [r0, r1, r2, r3, b0, b1, b2, b3] 4 0) (if 4 < 4 then List.getD [c0, c1, c2, c3] 4 0 else 0) d3) = some (r4, d4) from e4, Option.bind_some] at k4
  rw [show (add64 (List.getD [r0, r1, r2, r3, r4, b1, b2, b3] 5 0) (if 5 < 4 then List.getD [c0, c1, c2, c3] 5 0 else 0) d4) = some (r5, d5) from e5, Option.bind_some] at k5
  rw [show (add64 (List.getD [r0, r1, r2, r3, r4, r5, b2, b3] 6 0) (if 6 < 4 then List.getD [c0, c1, c2, c3] 6 0 else 0) d5) = some (r6, d6) from e6, Option.bind_some] at k6
  rw [show (add64 (List.getD [r0, r1, r2, r3, r4, r5, r6, b3] 7 0) (if 7 < 4 then List.getD [c0, c1, c2, c3] 7 0 else 0) d6) = some (r7, d7) from e7, Option.bind_some] at k7
  have hl : B4 r0 r1 r2 r3 := ⟨u0, u1, u2, u3⟩
  have hh : B4 r4 r5 r6 r7 := ⟨u4, u5, u6, u7⟩
  have bl := W4_bd hl; have bh := W4_bd hh
  have tot : W4 r0 r1 r2 r3 + W4 r4 r5 r6 r7 * (115792089237316195423570985008687907853269984665640564039457584007913129639936 : Int) + d7 * ((115792089237316195423570985008687907853269984665640564039457584007913129639936 : Int) * (115792089237316195423570985008687907853269984665640564039457584007913129639936 : Int)) = lo + hi * (115792089237316195423570985008687907853269984665640564039457584007913129639936 : Int) + z := by
    rw [← va, ← vb, ← vc]; unfold W4; omega
  have t2 : lo + hi * (115792089237316195423570985008687907853269984665640564039457584007913129639936 : Int) + z < (115792089237316195423570985008687907853269984665640564039457584007913129639936 : Int) * (115792089237316195423570985008687907853269984665640564039457584007913129639936 : Int) := by omega
  have d70 : d7 = 0 := by omega
  refine ⟨W4 r0 r1 r2 r3, W4 r4 r5 r6 r7, ?_, bl, bh, by rw [d70] at tot; omega⟩
  rw [← words4_W hl, ← words4_W hh]
  exact k0.trans (k1.trans (k2.trans (k3.trans (k4.trans (k5.trans (k6.trans (k7.trans (m2_end _ _ d7 0))))))))
theorem rMulAdd {a b c : List Int} (ha : Bytes32 a) (hb : Bytes32 b) (hc : Bytes32 c) : ref04_MulAdd a b c = some (fs (leV a * leV b + leV c)) := by
  have hx := leV_bd ha; have hy := leV_bd hb; have hz := leV_bd hc
  unfold ref04_MulAdd
  rw [rof ha, Option.bind_some, rof hb, Option.bind_some, rtimes _ _ hx hy, Option.bind_some, rof hc, Option.bind_some]
  generalize leV a = x at *; generalize leV b = y at *; generalize leV c = z at *
  have pn : 0 ≤ x * y := Int.mul_nonneg hx.1 hy.1
  have pb := prod_le hx.1 (b := (115792089237316195423570985008687907853269984665640564039457584007913129639936 : Int) - 1) (by omega) hy.1 (by omega)
  have hh : x * y / (115792089237316195423570985008687907853269984665640564039457584007913129639936 : Int) + 1 < (115792089237316195423570985008687907853269984665640564039457584007913129639936 : Int) := by omega
  obtain ⟨lo', hi', e, b1, b2, q⟩ := m2_ok (x * y % (115792089237316195423570985008687907853269984665640564039457584007913129639936 : Int)) (x * y / (115792089237316195423570985008687907853269984665640564039457584007913129639936 : Int)) z ⟨Int.emod_nonneg _ (by decide), Int.emod_lt_of_pos _ (by decide)⟩ ⟨Int.ediv_nonneg pn (by decide), hh⟩ hz
  rw [e, Option.bind_some, rmodL _ _ b1 b2, Option.bind_some, rbytes, Option.bind_some, q]
  unfold fs; congr 4; omega
theorem rbelow {b : List Int} (h : Bytes32 b) : ref04_Below b = some (decide (leV b < Lw)) := by
  unfold ref04_Below
  rw [rof h, Option.bind_some, L_eq, Option.bind_some, rless _ _ (leV_bd h) (by decide)]; rfl
end Go.Sc
/- The laws of the numbers modulo L. -/
namespace Go.Sc
open Go Go.Gw Go.Proofs.Sb.D Go.Pn
/-- (not by rfl: so simp leaves the kernel a proof, not a computation) -/
theorem obs {α β : Type} (a : α) (f : α → Option β) : (some a).bind f = f a := Eq.trans (Option.bind_some a f) (Eq.refl _)
theorem wakes5 : law05_wakes = some true := by kernel_rfl
theorem bfs (v : Int) : Bytes32 (fs v) := leB_bytes 32 _
theorem leV_fs (v : Int) : leV (fs v) = v % Lw := by
  unfold fs
  rw [leV_leB]
  have h1 := Int.emod_nonneg v (show Lw ≠ 0 by decide)
  have h2 := Int.emod_lt_of_pos v (show 0 < Lw by decide)
  exact Int.emod_eq_of_lt h1 (Int.lt_trans h2 (by decide))
theorem fs_eq {x y : Int} (h : x % Lw = y % Lw) : fs x = fs y := by unfold fs; rw [h]
theorem mm (x : Int) : x % Lw % Lw = x % Lw := Int.emod_emod_of_dvd _ (Int.dvd_refl _)
theorem fs_mod (x : Int) : fs (x % Lw) = fs x := fs_eq (mm x)
theorem fs_addl (x y : Int) : fs (x % Lw + y) = fs (x + y) := fs_eq (by rw [Int.emod_add_emod])
theorem fs_addr (x y : Int) : fs (x + y % Lw) = fs (x + y) := fs_eq (by rw [Int.add_emod_emod])
theorem ml (x y : Int) : (x % Lw * y) % Lw = (x * y) % Lw := by rw [Int.mul_emod, mm, ← Int.mul_emod]
theorem mr (x y : Int) : (x * (y % Lw)) % Lw = (x * y) % Lw := by rw [Int.mul_emod, mm, ← Int.mul_emod]
theorem fs_mull (x y z : Int) : fs (x % Lw * y + z) = fs (x * y + z) := fs_eq (by rw [Int.add_emod, ml, ← Int.add_emod])
theorem fs_mulr (x y z : Int) : fs (x * (y % Lw) + z) = fs (x * y + z) := fs_eq (by rw [Int.add_emod, mr, ← Int.add_emod])
theorem num_s (n : Int) (h0 : 0 ≤ n) (h1 : n < 9223372036854775808) : law04_Num n = some (fs n) := by
  rw [num_ok n h0 h1]; unfold fe fs
  rw [Int.emod_eq_of_lt h0 (Int.lt_trans h1 (by decide)), Int.emod_eq_of_lt h0 (Int.lt_trans h1 (by decide))]
theorem n0 : law04_Num 0 = some (fs 0) := num_s 0 (by decide) (by decide)
theorem n1 : law04_Num 1 = some (fs 1) := num_s 1 (by decide) (by decide)
theorem scheck_fs (v : Int) : scalar_Check (fs v) = some true := by
  rw [scheck (bfs v), leV_fs, decide_eq_true (Int.emod_lt_of_pos v (show 0 < Lw by decide))]
/-- numbers in bytes -/
theorem lb (v : Int) : Bytes32 (leB 32 v) := leB_bytes 32 _
theorem leV_lb (v : Int) (h : 0 ≤ v ∧ v < (115792089237316195423570985008687907853269984665640564039457584007913129639936 : Int)) : leV (leB 32 v) = v := by rw [leV_leB]; exact Int.emod_eq_of_lt h.1 h.2
theorem bsplit {w : List Int} (l : w.length = 64) (h : Bytes w) : ∃ a b, w = a ++ b ∧ Bytes32 a ∧ Bytes32 b :=
  ⟨w.take 32, w.drop 32, (List.take_append_drop 32 w).symm, ⟨by rw [List.length_take]; omega, fun x hx => h x (List.mem_of_mem_take hx)⟩, by rw [List.length_drop]; omega, fun x hx => h x (List.mem_of_mem_drop hx)⟩
theorem wf_bytes {a : List Int} (w : ∀ x ∈ a, (Lit.int .u8 x).wf = true) : Bytes a := fun x hx => (bytes_wf (a := List.replicate 31 0 ++ [x]) (by simp) (by
  intro y hy
  rw [List.mem_append, List.mem_singleton] at hy
  rcases hy with hy | hy
  · rw [List.eq_of_mem_replicate hy]; decide
  · rw [hy]; exact w x hx)).2 x (by simp)
theorem ScalarExact (a0 a1 a2 a3 : List Int) (l0 : a0.length = 32) (w0 : ∀ x ∈ a0, (Lit.int .u8 x).wf = true) (l1 : a1.length = 32) (w1 : ∀ x ∈ a1, (Lit.int .u8 x).wf = true) (l2 : a2.length = 32) (w2 : ∀ x ∈ a2, (Lit.int .u8 x).wf = true)
    (l3 : a3.length = 64) (w3 : ∀ x ∈ a3, (Lit.int .u8 x).wf = true) : law05_ScalarExact a0 a1 a2 a3 = some true := by
  have ha := bytes_wf l0 w0; have hb := bytes_wf l1 w1; have hc := bytes_wf l2 w2
  have hw := wf_bytes w3
  obtain ⟨u, v, rfl, hu, hv⟩ := bsplit l3 hw
  unfold law05_ScalarExact
  rw [take_all 32 l0, take_all 64 l3]
  simp only [scheck ha, rbelow ha, obs, smod ha, rModL32 ha, swide hw l3, rModL64 hu hv, smul ha hb hc, rMulAdd ha hb hc, beq_self_eq_true, decide_true, if_true, wakes5]
theorem goes1 (a b c d : Int) : fs ((a * (1 % Lw) + b) % Lw * c + d) = fs (a * c + (b * c + d) % Lw) := by
  rw [fs_mull, fs_addr]
  have : (1 : Int) % Lw = 1 := by decide
  rw [this]; congr 1; grind
theorem goes2 (a b c : Int) : fs ((a * b + 0 % Lw) % Lw * c + 0 % Lw) = fs (a * ((b * c + 0 % Lw) % Lw) + 0 % Lw) := by
  rw [fs_mull, fs_mulr]
  have : (0 : Int) % Lw = 0 := by decide
  rw [this]; congr 1; grind
theorem ScalarGoes (a0 a1 a2 a3 : List Int) (l0 : a0.length = 32) (w0 : ∀ x ∈ a0, (Lit.int .u8 x).wf = true) (l1 : a1.length = 32) (w1 : ∀ x ∈ a1, (Lit.int .u8 x).wf = true) (l2 : a2.length = 32) (w2 : ∀ x ∈ a2, (Lit.int .u8 x).wf = true)
    (l3 : a3.length = 32) (w3 : ∀ x ∈ a3, (Lit.int .u8 x).wf = true) : law05_ScalarGoes a0 a1 a2 a3 = some true := by
  have ha := bytes_wf l0 w0; have hb := bytes_wf l1 w1; have hc := bytes_wf l2 w2; have hd := bytes_wf l3 w3
  unfold law05_ScalarGoes
  simp only [n0, n1, obs, smul ha (bfs _) hb, smul (bfs _) hc hd, smul hb hc hd, smul ha hc (bfs _), smul ha hb (bfs _), smul (bfs _) hc (bfs _), smul hb hc (bfs _), smul ha (bfs _) (bfs _), leV_fs, wakes5]
  generalize leV a0 = a; generalize leV a1 = b; generalize leV a2 = c; generalize leV a3 = d
  rw [goes1 a b c d, goes2 a b c]
  simp only [decide_true, if_true]
theorem ScalarSmall (a0 a1 a2 : Int) (_w0 : (Lit.int .i64 a0).wf = true) (_w1 : (Lit.int .i64 a1).wf = true) (_w2 : (Lit.int .i64 a2).wf = true) : law05_ScalarSmall a0 a1 a2 = some true := by
  obtain ⟨x, ex, hx⟩ := small_band a0
  obtain ⟨y, ey, hy⟩ := small_band a1
  obtain ⟨z, ez, hz⟩ := small_band a2
  unfold law05_ScalarSmall
  rw [ex, ey, ez]
  have pb := prod_le hx.1 (b := 1073741823) (by omega) hy.1 (by omega)
  have w1 : IntKind.i64.wrap (x * y) = x * y := IntWalk.i64_in _ (by omega)
  have w2 : IntKind.i64.wrap (x * y + z) = x * y + z := IntWalk.i64_in _ (by omega)
  have n1 := num_s x hx.1 (by omega)
  have n2 := num_s y hy.1 (by omega)
  have n3 := num_s z hz.1 (by omega)
  have n4 := num_s (x * y + z) (by omega) (by omega)
  simp only [w1, w2, n1, n2, n3, n4, obs, smul (bfs _) (bfs _) (bfs _), smod (bfs _), scheck_fs, leV_fs, fs_mull, fs_mulr, fs_addr, fs_mod, decide_true, if_true, wakes5]
theorem z0 : (0 : Int) % Lw = 0 := by decide
theorem z1 : (1 : Int) % Lw = 1 := by decide
theorem zm : (Lw - 1) % Lw = Lw - 1 := by decide
theorem ring1 (a l : Int) : (a * (l - 1) + 0) * 1 + a = 0 + l * a := by grind
theorem ring2 (a l : Int) : (a * (l - 1) + 0) * (l - 1) + 0 = a + l * (a * (l - 2)) := by grind
theorem turn1 (a : Int) : fs ((a * ((Lw - 1) % Lw) + 0 % Lw) % Lw * (1 % Lw) + a) = fs 0 := by
  rw [fs_mull]; apply fs_eq
  rw [z1, zm, z0, ring1, Int.add_mul_emod_self_left]
  exact z0
theorem turn2 (a : Int) : fs ((a * ((Lw - 1) % Lw) + 0 % Lw) % Lw * ((Lw - 1) % Lw) + 0 % Lw) = fs a := by
  rw [fs_mull]; apply fs_eq
  rw [z0, zm, ring2, Int.add_mul_emod_self_left]
theorem ScalarTurns (a0 : List Int) (l0 : a0.length = 32) (w0 : ∀ x ∈ a0, (Lit.int .u8 x).wf = true) : law05_ScalarTurns a0 = some true := by
  have ha := bytes_wf l0 w0
  have hw : [(IntKind.u64.wrap (((words4 Lw).getD 0 0) - (1 : Int))), ((words4 Lw).getD 1 0), ((words4 Lw).getD 2 0), ((words4 Lw).getD 3 0)] = words4 (Lw - 1) := by kernel_rfl
  have hl : leB 32 (Lw - 1) = fs (Lw - 1) := by unfold fs; rw [Int.emod_eq_of_lt (by decide) (by decide)]
  unfold law05_ScalarTurns
  simp only [L_eq, obs, hw, rbytes, hl, n0, n1, smul ha (bfs _) (bfs _), smul (bfs _) (bfs _) ha, smul (bfs _) (bfs _) (bfs _), smod ha, scheck_fs, leV_fs, wakes5]
  generalize leV a0 = a
  rw [turn1 a, turn2 a]
  simp only [decide_true, if_true]
theorem laws_l0 (a b c d : List Int) : law05_ScalarLaws_l0 a b c d (((32 : Int) - (0 : Int)).toNat + 1) (List.replicate 64 0) 0 = some ((List.range 32).map (fun i => a.getD i 0) ++ List.replicate 32 0) := by kernel_rfl
theorem leV_zeros (n : Nat) : leV (List.replicate n 0) = 0 := by
  induction n with
  | zero => rfl
  | succ n ih => rw [List.replicate_succ]; show 0 + 256 * leV (List.replicate n 0) = 0; rw [ih]; rfl
theorem ringL (a b : Int) : a * 1 + 0 = a ∧ 0 * b + a = a := by constructor <;> grind
theorem laws1 (a : Int) : fs (a * (1 % Lw) + 0 % Lw) = fs a := by rw [z0, z1]; congr 1; grind
theorem laws2 (a b : Int) : fs (0 % Lw * b + a) = fs a := by rw [z0]; congr 1; grind
theorem laws3 (a c : Int) : fs (a * Lw + c) = fs c := fs_eq (by rw [Int.add_comm, Int.add_mul_emod_self_right])
theorem laws4 (b : Int) : fs (Lw * b + Lw) = fs 0 := fs_eq (by rw [show Lw * b + Lw = 0 + Lw * (b + 1) by rw [Int.mul_add]; omega, Int.add_mul_emod_self_left])
theorem laws5 (a b c : Int) : fs (a % Lw * (b % Lw) + c % Lw) = fs (a * b + c) := by rw [fs_mull, fs_mulr, fs_addr]
theorem ScalarLaws (a0 a1 a2 : List Int) (l0 : a0.length = 32) (w0 : ∀ x ∈ a0, (Lit.int .u8 x).wf = true) (l1 : a1.length = 32) (w1 : ∀ x ∈ a1, (Lit.int .u8 x).wf = true) (l2 : a2.length = 32) (w2 : ∀ x ∈ a2, (Lit.int .u8 x).wf = true) : law05_ScalarLaws a0 a1 a2 = some true := by
  have ha := bytes_wf l0 w0; have hb := bytes_wf l1 w1; have hc := bytes_wf l2 w2
  have hw : Bytes (a0 ++ List.replicate 32 0) := fun x hx => by
    rw [List.mem_append] at hx
    rcases hx with hx | hx
    · exact ha.2 x hx
    · rw [List.eq_of_mem_replicate hx]; decide
  have hwl : (a0 ++ List.replicate 32 (0 : Int)).length = 64 := by simp [l0]
  have hm : (List.range 32).map (fun i => a0.getD i 0) = a0 := by rw [← l0, map_getD]
  have hlV : leV (a0 ++ List.replicate 32 0) = leV a0 := by rw [leV_app, leV_zeros, Int.mul_zero, Int.add_zero]
  have hbl : Bytes32 (leB 32 Lw) := lb Lw
  have hvl : leV (leB 32 Lw) = Lw := leV_lb Lw (by decide)
  unfold law05_ScalarLaws
  simp only [L_eq, obs, rbytes, laws_l0, hm, n0, n1, smod ha, smod hb, smod hc, smod (bfs _), swide hw hwl, hlV, smul ha hb hc, smul hb ha hc, smul ha (bfs _) (bfs _), smul (bfs _) hb ha, smul ha hbl hc, smul hbl hb hbl, smul (bfs _) (bfs _) (bfs _), hvl,
    scheck_fs, leV_fs, fs_mod, laws1, laws2, laws3, laws4, laws5, Int.mul_comm (leV a1) (leV a0), wakes5, decide_true, if_true]
theorem wide_l0 (w : List Int) : law05_ScalarWide_l0 w (((32 : Int) - (0 : Int)).toNat + 1) (List.replicate 32 0) (List.replicate 32 0) (List.replicate 32 0) 0 =
    some ((List.range 32).map (fun i => w.getD i 0), (List.range 32).map (fun i => w.getD (32 + i) 0), List.replicate 32 255) := by kernel_rfl
theorem wide1 (lo hi : Int) : fs (hi * ((1 % Lw * 115792089237316195423570985008687907853269984665640564039457584007913129639935 + 1 % Lw) % Lw) + lo) = fs (lo + 115792089237316195423570985008687907853269984665640564039457584007913129639936 * hi) := by
  rw [fs_mulr, z1]
  have e : (1 : Int) * 115792089237316195423570985008687907853269984665640564039457584007913129639935 + 1 = 115792089237316195423570985008687907853269984665640564039457584007913129639936 := by decide
  rw [e]; congr 1; rw [Int.add_comm, Int.mul_comm]
theorem ScalarWide (a0 : List Int) (l0 : a0.length = 64) (w0 : ∀ x ∈ a0, (Lit.int .u8 x).wf = true) : law05_ScalarWide a0 = some true := by
  have hw := wf_bytes w0
  obtain ⟨u, v, rfl, hu, hv⟩ := bsplit l0 hw
  have h1 : (List.range 32).map (fun i => (u ++ v).getD i 0) = u := by
    conv => rhs; rw [← map_getD u, hu.1]
    apply List.map_congr_left
    intro i hi
    have hi := List.mem_range.1 hi
    simp only [List.getD_eq_getElem?_getD]; rw [List.getElem?_append_left (by rw [hu.1]; exact hi)]
  have h2 : (List.range 32).map (fun i => (u ++ v).getD (32 + i) 0) = v := by
    conv => rhs; rw [← map_getD v, hv.1]
    apply List.map_congr_left
    intro i hi
    have hi := List.mem_range.1 hi
    simp only [List.getD_eq_getElem?_getD]; rw [List.getElem?_append_right (by rw [hu.1]; omega), hu.1]
    congr 2; omega
  have hr : Bytes32 (List.replicate 32 255) := ⟨by simp, fun x hx => by rw [List.eq_of_mem_replicate hx]; decide⟩
  have hrv : leV (List.replicate 32 255) = 115792089237316195423570985008687907853269984665640564039457584007913129639935 := by decide
  have p32 : (256 : Int) ^ 32 = 115792089237316195423570985008687907853269984665640564039457584007913129639936 := by decide
  unfold law05_ScalarWide
  rw [wide_l0, h1, h2]
  simp only [obs, n1, smul (bfs _) hr (bfs _), swide hw l0, smul hv (bfs _) hu, leV_fs, hrv, wide1, leV_app, hu.1, p32, wakes5, decide_true, if_true]
end Go.Sc
