/- Numbers modulo L: less, twice and a bit. -/
import Derived.Test.YtdcdanfeepncmaaPnN
namespace Go.Sc
open Go Go.Gw Go.Proofs.Sb.D Go.Pn
abbrev Lw : Int := 7237005577332262213973186563042994240857116359379907606001950938285454250989
theorem order_eq : scalar_order = some (words4 Lw) := by kernel_rfl
theorem L_eq : ref04_L = some (words4 Lw) := by kernel_rfl
theorem less_step (a b : List Int) (c : Int) (k i : Nat) (hi : i < 4) : scalar_number_less_l0 a b (k + 1) c (i : Int) =
    (sub64 (a.getD i 0) (b.getD i 0) c).bind fun q => scalar_number_less_l0 a b k q.2 ((i + 1 : Nat) : Int) := by
  have ci : i = 0 ∨ i = 1 ∨ i = 2 ∨ i = 3 := by omega
  rcases ci with rfl | rfl | rfl | rfl <;> (show _ = _; kernel_rfl)
theorem less_end (a b : List Int) (c : Int) (k : Nat) : scalar_number_less_l0 a b (k + 1) c 4 = some c := by kernel_rfl
theorem sless (x y : Int) (hx : 0 ≤ x ∧ x < (115792089237316195423570985008687907853269984665640564039457584007913129639936 : Int)) (hy : 0 ≤ y ∧ y < (115792089237316195423570985008687907853269984665640564039457584007913129639936 : Int)) : scalar_number_less (words4 x) (words4 y) = some (decide (x < y)) := by
  obtain ⟨a0, a1, a2, a3, ea, ⟨p0, p1, p2, p3⟩, va⟩ := words4_ex x hx.1 hx.2
  obtain ⟨b0, b1, b2, b3, eb, ⟨q0, q1, q2, q3⟩, vb⟩ := words4_ex y hy.1 hy.2
  rw [ea, eb]
  obtain ⟨r0, d0, e0, u0, v0, w0⟩ := sub64_ok a0 b0 0 p0 q0 (by decide)
  obtain ⟨r1, d1, e1, u1, v1, w1⟩ := sub64_ok a1 b1 d0 p1 q1 v0
  obtain ⟨r2, d2, e2, u2, v2, w2⟩ := sub64_ok a2 b2 d1 p2 q2 v1
  obtain ⟨r3, d3, e3, u3, v3, w3⟩ := sub64_ok a3 b3 d2 p3 q3 v2
  have k0 := less_step [a0, a1, a2, a3] [b0, b1, b2, b3] 0 4 0 (by decide)
  have k1 := less_step [a0, a1, a2, a3] [b0, b1, b2, b3] d0 3 1 (by decide)
  have k2 := less_step [a0, a1, a2, a3] [b0, b1, b2, b3] d1 2 2 (by decide)
  have k3 := less_step [a0, a1, a2, a3] [b0, b1, b2, b3] d2 1 3 (by decide)
  simp only [List.getD_cons_zero, List.getD_cons_succ] at k0 k1 k2 k3
  rw [e0, Option.bind_some] at k0
  rw [e1, Option.bind_some] at k1
  rw [e2, Option.bind_some] at k2
  rw [e3, Option.bind_some] at k3
  have e : scalar_number_less_l0 [a0, a1, a2, a3] [b0, b1, b2, b3] (((4 : Int) - (0 : Int)).toNat + 1) 0 0 = some d3 :=
    k0.trans (k1.trans (k2.trans (k3.trans (less_end _ _ d3 0))))
  have hr : B4 r0 r1 r2 r3 := ⟨u0, u1, u2, u3⟩
  have br := W4_bd hr
  have ew : W4 r0 r1 r2 r3 = x - y + d3 * 115792089237316195423570985008687907853269984665640564039457584007913129639936 := by rw [← va, ← vb]; unfold W4; omega
  unfold scalar_number_less
  rw [e, Option.bind_some]
  congr 1
  rw [Bool.eq_iff_iff, beq_iff_eq, decide_eq_true_eq]
  omega
theorem low_step (b m : List Int) (c : Int) (k i : Nat) (hi : i < 4) : scalar_number_shifted_l1 b (k + 1) m c (i : Int) =
    (sub64 (m.getD i 0) (b.getD i 0) c).bind fun q => scalar_number_shifted_l1 b k (m.set i q.1) q.2 ((i + 1 : Nat) : Int) := by
  have ci : i = 0 ∨ i = 1 ∨ i = 2 ∨ i = 3 := by omega
  rcases ci with rfl | rfl | rfl | rfl <;> (show _ = _; kernel_rfl)
theorem low_end (b m : List Int) (c : Int) (k : Nat) : scalar_number_shifted_l1 b (k + 1) m c 4 = some m := by kernel_rfl
theorem low_ok (x y : Int) (hx : 0 ≤ x ∧ x < (115792089237316195423570985008687907853269984665640564039457584007913129639936 : Int)) (hy : 0 ≤ y ∧ y ≤ x) : scalar_number_shifted_l1 (words4 y) (((4 : Int) - (0 : Int)).toNat + 1) (words4 x) 0 0 = some (words4 (x - y)) := by
  obtain ⟨a0, a1, a2, a3, ea, ⟨p0, p1, p2, p3⟩, va⟩ := words4_ex x hx.1 hx.2
  obtain ⟨b0, b1, b2, b3, eb, ⟨q0, q1, q2, q3⟩, vb⟩ := words4_ex y hy.1 (Int.lt_of_le_of_lt hy.2 hx.2)
  rw [ea, eb]
  obtain ⟨r0, d0, e0, u0, v0, w0⟩ := sub64_ok a0 b0 0 p0 q0 (by decide)
  obtain ⟨r1, d1, e1, u1, v1, w1⟩ := sub64_ok a1 b1 d0 p1 q1 v0
  obtain ⟨r2, d2, e2, u2, v2, w2⟩ := sub64_ok a2 b2 d1 p2 q2 v1
  obtain ⟨r3, d3, e3, u3, v3, w3⟩ := sub64_ok a3 b3 d2 p3 q3 v2
  have k0 := low_step [b0, b1, b2, b3] [a0, a1, a2, a3] 0 4 0 (by decide)
  have k1 := low_step [b0, b1, b2, b3] [r0, a1, a2, a3] d0 3 1 (by decide)
  have k2 := low_step [b0, b1, b2, b3] [r0, r1, a2, a3] d1 2 2 (by decide)
  have k3 := low_step [b0, b1, b2, b3] [r0, r1, r2, a3] d2 1 3 (by decide)
  simp only [List.getD_cons_zero, List.getD_cons_succ] at k0 k1 k2 k3
  rw [e0, Option.bind_some] at k0
  rw [e1, Option.bind_some] at k1
  rw [e2, Option.bind_some] at k2
  rw [e3, Option.bind_some] at k3
  have hr : B4 r0 r1 r2 r3 := ⟨u0, u1, u2, u3⟩
  have br := W4_bd hr
  have ew : W4 r0 r1 r2 r3 = x - y + d3 * 115792089237316195423570985008687907853269984665640564039457584007913129639936 := by rw [← va, ← vb]; unfold W4; omega
  have d0' : d3 = 0 := by omega
  rw [show x - y = W4 r0 r1 r2 r3 by omega, ← words4_W hr]
  exact k0.trans (k1.trans (k2.trans (k3.trans (low_end _ _ d3 0))))
theorem two_step (m : List Int) (c : Int) (k i : Nat) (hi : i < 4) : scalar_number_shifted_l0 (k + 1) m c (i : Int) =
    scalar_number_shifted_l0 k (m.set i (bor .u64 (shl .u64 (m.getD i 0) 1) c)) (shr .u64 (m.getD i 0) 63) ((i + 1 : Nat) : Int) := by
  have ci : i = 0 ∨ i = 1 ∨ i = 2 ∨ i = 3 := by omega
  rcases ci with rfl | rfl | rfl | rfl <;> (show _ = _; kernel_rfl)
theorem two_end (m : List Int) (c : Int) (k : Nat) : scalar_number_shifted_l0 (k + 1) m c 4 = some m := by kernel_rfl
theorem two_cell (x c : Int) (hx : 0 ≤ x ∧ x < 18446744073709551616) (hc : 0 ≤ c ∧ c ≤ 1) :
    ∃ r d, bor .u64 (shl .u64 x 1) c = r ∧ shr .u64 x 63 = d ∧ (0 ≤ r ∧ r < 18446744073709551616) ∧ (0 ≤ d ∧ d ≤ 1) ∧ r + d * 18446744073709551616 = 2 * x + c := by
  refine ⟨_, _, rfl, rfl, ?_⟩
  rw [shl_u _ x 1 2 (by decide), shr_u _ x 63 9223372036854775808 (by decide) (by decide), w64,
    bor_hi_lo k64 1 (x * 2 % 18446744073709551616) c 2 (by decide) (by omega) (by show _ < (18446744073709551616 : Int); omega) (by omega) hc.1 (by show _ < (18446744073709551616 : Int); omega) (by omega)]
  omega
theorem two_ok (x c : Int) (hx : 0 ≤ x ∧ x < 57896044618658097711785492504343953926634992332820282019728792003956564819968) (hc : 0 ≤ c ∧ c ≤ 1) : scalar_number_shifted_l0 (((4 : Int) - (0 : Int)).toNat + 1) (words4 x) c 0 = some (words4 (2 * x + c)) := by
  obtain ⟨a0, a1, a2, a3, ea, ⟨p0, p1, p2, p3⟩, va⟩ := words4_ex x hx.1 (by omega)
  rw [ea]
  obtain ⟨r0, d0, e0, f0, u0, v0, w0⟩ := two_cell a0 c p0 hc
  obtain ⟨r1, d1, e1, f1, u1, v1, w1⟩ := two_cell a1 d0 p1 v0
  obtain ⟨r2, d2, e2, f2, u2, v2, w2⟩ := two_cell a2 d1 p2 v1
  obtain ⟨r3, d3, e3, f3, u3, v3, w3⟩ := two_cell a3 d2 p3 v2
  have k0 := two_step [a0, a1, a2, a3] c 4 0 (by decide)
  have k1 := two_step [r0, a1, a2, a3] d0 3 1 (by decide)
  have k2 := two_step [r0, r1, a2, a3] d1 2 2 (by decide)
  have k3 := two_step [r0, r1, r2, a3] d2 1 3 (by decide)
  simp only [List.getD_cons_zero, List.getD_cons_succ] at k0 k1 k2 k3
  rw [e0, f0] at k0
  rw [e1, f1] at k1
  rw [e2, f2] at k2
  rw [e3, f3] at k3
  have hr : B4 r0 r1 r2 r3 := ⟨u0, u1, u2, u3⟩
  have br := W4_bd hr
  have ew : W4 r0 r1 r2 r3 = 2 * x + c - d3 * 115792089237316195423570985008687907853269984665640564039457584007913129639936 := by rw [← va]; unfold W4; omega
  have d0' : d3 = 0 := by omega
  rw [show 2 * x + c = W4 r0 r1 r2 r3 by omega, ← words4_W hr]
  exact k0.trans (k1.trans (k2.trans (k3.trans (two_end _ d3 0))))
theorem shifted_ok (x c : Int) (hx : 0 ≤ x ∧ x < Lw) (hc : 0 ≤ c ∧ c ≤ 1) : scalar_number_shifted (words4 x) c = some (words4 ((2 * x + c) % Lw)) := by
  unfold scalar_number_shifted
  have hL : Lw = 7237005577332262213973186563042994240857116359379907606001950938285454250989 := rfl
  rw [two_ok x c (by omega) hc, Option.bind_some, order_eq]
  simp only [Option.bind_some]
  rw [sless _ _ (by omega) (by decide), Option.bind_some]
  by_cases h : 2 * x + c < Lw
  · rw [decide_eq_true h, if_pos rfl, Int.emod_eq_of_lt (by omega) h]
  · rw [decide_eq_false h, if_neg (by decide), low_ok _ _ (by omega) (by omega), Option.bind_some]
    congr 2; unfold Lw at *; omega
end Go.Sc
