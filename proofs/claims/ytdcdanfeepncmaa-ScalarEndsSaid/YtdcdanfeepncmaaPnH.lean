/- The product of two numbers in words, and its carrying. -/
import Derived.Test.YtdcdanfeepncmaaPnG
namespace Go.Pn
open Go Go.Gw Go.Proofs.Sb.D
def row (a b : List Int) (T : Nat → Int) (i : Nat) : Nat → Int := upd (upd (upd (upd (upd T ((i + 0) % 5) (a.getD i 0 * xx b i 0)) ((i + 1) % 5) (a.getD i 0 * xx b i 1)) ((i + 2) % 5) (a.getD i 0 * xx b i 2)) ((i + 3) % 5) (a.getD i 0 * xx b i 3)) ((i + 4) % 5) (a.getD i 0 * xx b i 4)
theorem l0_all (a b : List Int) (b1 : ∀ i, i < 5 → 0 ≤ a.getD i 0 ∧ a.getD i 0 < 4503599627370496) (b2 : ∀ i j, i < 5 → j < 5 → 0 ≤ xx b i j ∧ xx b i j < 144115188075855872) :
    ∃ h l, limb_Mul_l0 a b (((5 : Int) - (0 : Int)).toNat + 1) (List.replicate 5 0) (List.replicate 5 0) 0 = some (h, l) ∧
      Acc h l (row a b (row a b (row a b (row a b (row a b (fun _ => 0) 0) 1) 2) 3) 4) 25 := by
  have A0 : Acc (List.replicate 5 0) (List.replicate 5 0) (fun _ => 0) 0 := ⟨rfl, rfl, fun t ht => by
    have c : t = 0 ∨ t = 1 ∨ t = 2 ∨ t = 3 ∨ t = 4 := by omega
    rcases c with rfl | rfl | rfl | rfl | rfl <;> simp [List.replicate]⟩
  obtain ⟨h1, l1, e1, A1⟩ := l1_all A0 (by decide) (by decide) 0 (by decide) (b1 0 (by decide)) (fun j hj => b2 0 j (by decide) hj)
  obtain ⟨h2, l2, e2, A2⟩ := l1_all A1 (by decide) (by decide) 1 (by decide) (b1 1 (by decide)) (fun j hj => b2 1 j (by decide) hj)
  obtain ⟨h3, l3, e3, A3⟩ := l1_all A2 (by decide) (by decide) 2 (by decide) (b1 2 (by decide)) (fun j hj => b2 2 j (by decide) hj)
  obtain ⟨h4, l4, e4, A4⟩ := l1_all A3 (by decide) (by decide) 3 (by decide) (b1 3 (by decide)) (fun j hj => b2 3 j (by decide) hj)
  obtain ⟨h5, l5, e5, A5⟩ := l1_all A4 (by decide) (by decide) 4 (by decide) (b1 4 (by decide)) (fun j hj => b2 4 j (by decide) hj)
  refine ⟨h5, l5, ?_, A5⟩
  have s0 := l0_step a b (List.replicate 5 0) (List.replicate 5 0) 5 0 (by decide)
  have s1 := l0_step a b h1 l1 4 1 (by decide)
  have s2 := l0_step a b h2 l2 3 2 (by decide)
  have s3 := l0_step a b h3 l3 2 3 (by decide)
  have s4 := l0_step a b h4 l4 1 4 (by decide)
  rw [e1, Option.bind_some] at s0
  rw [e2, Option.bind_some] at s1
  rw [e3, Option.bind_some] at s2
  rw [e4, Option.bind_some] at s3
  rw [e5, Option.bind_some] at s4
  exact s0.trans (s1.trans (s2.trans (s3.trans (s4.trans (l0_end a b h5 l5 0)))))
theorem l3_step (h l m : List Int) (c : Int) (k i : Nat) (hi : i < 5) : limb_Mul_l3 h l (k + 1) m c (i : Int) =
    (add64 (l.getD i 0) c 0).bind fun q => limb_Mul_l3 h l k (m.set i (band .u64 q.1 2251799813685247)) (bor .u64 (shl .u64 (IntKind.u64.wrap (h.getD i 0 + q.2)) 13) (shr .u64 q.1 51)) ((i + 1 : Nat) : Int) := by
  have ci : i = 0 ∨ i = 1 ∨ i = 2 ∨ i = 3 ∨ i = 4 := by omega
  rcases ci with rfl | rfl | rfl | rfl | rfl <;> (show _ = _; kernel_rfl)
theorem l3_end (h l m : List Int) (c : Int) (k : Nat) : limb_Mul_l3 h l (k + 1) m c 5 = some (m, c) := by kernel_rfl
/-- one word of the carrying: the 128-bit word and what is carried -/
theorem cell (h l c T : Int) (h0 : 0 ≤ h) (l0 : 0 ≤ l ∧ l < 18446744073709551616) (c0 : 0 ≤ c ∧ c < 18446744073709551616) (hT : h * 18446744073709551616 + l = T) (hb : T ≤ 20769187434139310514121985316880384) :
    add64 l c 0 = some ((l + c + 0) % 18446744073709551616, (l + c + 0) / 18446744073709551616) ∧
    band .u64 ((l + c + 0) % 18446744073709551616) 2251799813685247 = (T + c) % 2251799813685248 ∧
    bor .u64 (shl .u64 (IntKind.u64.wrap (h + (l + c + 0) / 18446744073709551616)) 13) (shr .u64 ((l + c + 0) % 18446744073709551616) 51) = (T + c) / 2251799813685248 ∧
    0 ≤ (T + c) / 2251799813685248 ∧ (T + c) / 2251799813685248 < 18446744073709551616 ∧ 0 ≤ (T + c) % 2251799813685248 ∧ (T + c) % 2251799813685248 < 2251799813685248 ∧ (T + c) / 2251799813685248 * 2251799813685248 + (T + c) % 2251799813685248 = T + c := by
  have p64 : (2 : Int) ^ IntKind.u64.bits = 18446744073709551616 := by decide
  refine ⟨?_, ?_, ?_, by omega, by omega, by omega, by omega, by omega⟩
  · unfold add64; rw [if_pos ⟨l0.1, c0.1, by decide, by decide⟩]
  · rw [band_mask k64 51 (by decide) _ _ 2251799813685248 (by decide) (by decide) (by omega) (by omega)]; omega
  · rw [u64_id (x := h + (l + c + 0) / 18446744073709551616) (by omega) (by omega), shl_u _ _ 13 8192 (by decide), shr_u _ _ 51 2251799813685248 (by decide) (by decide), w64]
    rw [bor_hi_lo k64 13 _ _ 8192 (by decide) (by omega) (by omega) (by omega) (by omega) (by omega) (by omega)]
    omega
theorem l3_all (h l : List Int) (T : Nat → Int) (hA : Acc h l T 25) : ∃ y0 y1 y2 y3 y4 c, limb_Mul_l3 h l (((5 : Int) - (0 : Int)).toNat + 1) (List.replicate 5 0) 0 0 = some ([y0, y1, y2, y3, y4], c) ∧
    B5 2251799813685248 y0 y1 y2 y3 y4 ∧ 0 ≤ c ∧ c < 18446744073709551616 ∧ V (T 0) (T 1) (T 2) (T 3) (T 4) = V y0 y1 y2 y3 y4 + c * 57896044618658097711785492504343953926634992332820282019728792003956564819968 := by
  have mm : (25 : Int) * MM ≤ 20769187434139310514121985316880384 := by decide
  obtain ⟨p0, q0, r0, s0, t0⟩ := hA.at' 0 (by decide)
  obtain ⟨p1, q1, r1, s1, t1⟩ := hA.at' 1 (by decide)
  obtain ⟨p2, q2, r2, s2, t2⟩ := hA.at' 2 (by decide)
  obtain ⟨p3, q3, r3, s3, t3⟩ := hA.at' 3 (by decide)
  obtain ⟨p4, q4, r4, s4, t4⟩ := hA.at' 4 (by decide)
  obtain ⟨a0, b0, g0, u0, v0, w0, x0, z0⟩ := cell _ _ 0 _ p0 ⟨q0, r0⟩ (by decide) s0 (Int.le_trans t0 mm)
  have k0 := l3_step h l (List.replicate 5 0) 0 5 0 (by decide)
  rw [a0, Option.bind_some] at k0; simp only [b0, g0] at k0
  generalize (T 0 + 0) / 2251799813685248 = c0 at *; generalize (T 0 + 0) % 2251799813685248 = y0 at *
  obtain ⟨a1, b1, g1, u1, v1, w1, x1, z1⟩ := cell _ _ c0 _ p1 ⟨q1, r1⟩ ⟨u0, v0⟩ s1 (Int.le_trans t1 mm)
  have k1 := l3_step h l ((List.replicate 5 0).set 0 y0) c0 4 1 (by decide)
  rw [a1, Option.bind_some] at k1; simp only [b1, g1] at k1
  generalize (T 1 + c0) / 2251799813685248 = c1 at *; generalize (T 1 + c0) % 2251799813685248 = y1 at *
  obtain ⟨a2, b2, g2, u2, v2, w2, x2, z2⟩ := cell _ _ c1 _ p2 ⟨q2, r2⟩ ⟨u1, v1⟩ s2 (Int.le_trans t2 mm)
  have k2 := l3_step h l (((List.replicate 5 0).set 0 y0).set 1 y1) c1 3 2 (by decide)
  rw [a2, Option.bind_some] at k2; simp only [b2, g2] at k2
  generalize (T 2 + c1) / 2251799813685248 = c2 at *; generalize (T 2 + c1) % 2251799813685248 = y2 at *
  obtain ⟨a3, b3, g3, u3, v3, w3, x3, z3⟩ := cell _ _ c2 _ p3 ⟨q3, r3⟩ ⟨u2, v2⟩ s3 (Int.le_trans t3 mm)
  have k3 := l3_step h l ((((List.replicate 5 0).set 0 y0).set 1 y1).set 2 y2) c2 2 3 (by decide)
  rw [a3, Option.bind_some] at k3; simp only [b3, g3] at k3
  generalize (T 3 + c2) / 2251799813685248 = c3 at *; generalize (T 3 + c2) % 2251799813685248 = y3 at *
  obtain ⟨a4, b4, g4, u4, v4, w4, x4, z4⟩ := cell _ _ c3 _ p4 ⟨q4, r4⟩ ⟨u3, v3⟩ s4 (Int.le_trans t4 mm)
  have k4 := l3_step h l (((((List.replicate 5 0).set 0 y0).set 1 y1).set 2 y2).set 3 y3) c3 1 4 (by decide)
  rw [a4, Option.bind_some] at k4; simp only [b4, g4] at k4
  generalize (T 4 + c3) / 2251799813685248 = c4 at *; generalize (T 4 + c3) % 2251799813685248 = y4 at *
  refine ⟨y0, y1, y2, y3, y4, c4, ?_, ⟨⟨w0, x0⟩, ⟨w1, x1⟩, ⟨w2, x2⟩, ⟨w3, x3⟩, w4, x4⟩, u4, v4, ?_⟩
  · exact k0.trans (k1.trans (k2.trans (k3.trans (k4.trans (l3_end h l _ c4 0)))))
  · unfold V; omega
end Go.Pn
