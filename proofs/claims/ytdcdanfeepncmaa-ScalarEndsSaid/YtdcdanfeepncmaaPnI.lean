/- THE PRODUCT in words stands for the product. -/
import Derived.Test.YtdcdanfeepncmaaPnH
namespace Go.Pn
open Go Go.Gw Go.Proofs.Sb.D
theorem prod_mod (a0 a1 a2 a3 a4 b0 b1 b2 b3 b4 : Int) :
    V a0 a1 a2 a3 a4 * V b0 b1 b2 b3 b4 =
      V (a0 * b0 + a1 * (b4 * 19) + a2 * (b3 * 19) + a3 * (b2 * 19) + a4 * (b1 * 19)) (a0 * b1 + a1 * b0 + a2 * (b4 * 19) + a3 * (b3 * 19) + a4 * (b2 * 19))
        (a0 * b2 + a1 * b1 + a2 * b0 + a3 * (b4 * 19) + a4 * (b3 * 19)) (a0 * b3 + a1 * b2 + a2 * b1 + a3 * b0 + a4 * (b4 * 19)) (a0 * b4 + a1 * b3 + a2 * b2 + a3 * b1 + a4 * b0)
      + pw * V (a1 * b4 + a2 * b3 + a3 * b2 + a4 * b1) (a2 * b4 + a3 * b3 + a4 * b2) (a3 * b4 + a4 * b3) (a4 * b4) 0 := by
  unfold V pw; grind
theorem xx_ok (y0 y1 y2 y3 y4 : Int) (h : B5 G5 y0 y1 y2 y3 y4) : ∀ i j, i < 5 → j < 5 → 0 ≤ xx [y0, y1, y2, y3, y4] i j ∧ xx [y0, y1, y2, y3, y4] i j < 144115188075855872 := by
  obtain ⟨⟨c0, d0⟩, ⟨c1, d1⟩, ⟨c2, d2⟩, ⟨c3, d3⟩, c4, d4⟩ := h
  have g : G5 = 2251799813841000 := rfl
  intro i j hi hj
  have cj : j = 0 ∨ j = 1 ∨ j = 2 ∨ j = 3 ∨ j = 4 := by omega
  unfold xx
  split
  · rcases cj with rfl | rfl | rfl | rfl | rfl <;> simp only [List.getD_cons_zero, List.getD_cons_succ] <;> rw [u64_id (by omega) (by omega)] <;> omega
  · rcases cj with rfl | rfl | rfl | rfl | rfl <;> simp only [List.getD_cons_zero, List.getD_cons_succ] <;> omega
theorem mul_ok {a b : List Int} {m n : Int} (ha : Rep a m) (hb : Rep b n) : ∃ l, limb_Mul a b = some l ∧ Rep l (m * n) := by
  obtain ⟨x0, x1, x2, x3, x4, rfl, hx, vx⟩ := ha
  obtain ⟨y0, y1, y2, y3, y4, rfl, hy, vy⟩ := hb
  have hx2 := xx_ok _ _ _ _ _ hy
  obtain ⟨⟨a0, b0⟩, ⟨a1, b1⟩, ⟨a2, b2⟩, ⟨a3, b3⟩, a4, b4⟩ := hx
  obtain ⟨⟨c0, d0⟩, ⟨c1, d1⟩, ⟨c2, d2⟩, ⟨c3, d3⟩, c4, d4⟩ := hy
  have g : G5 = 2251799813841000 := rfl
  obtain ⟨h, l, e0, hA⟩ := l0_all [x0, x1, x2, x3, x4] [y0, y1, y2, y3, y4] (fun i hi => by
    have ci : i = 0 ∨ i = 1 ∨ i = 2 ∨ i = 3 ∨ i = 4 := by omega
    rcases ci with rfl | rfl | rfl | rfl | rfl <;> simp only [List.getD_cons_zero, List.getD_cons_succ] <;> omega) hx2
  obtain ⟨z0, z1, z2, z3, z4, c, e3, hz, lc, uc, vz⟩ := l3_all h l _ hA
  have t0 : row [x0, x1, x2, x3, x4] [y0, y1, y2, y3, y4] (row [x0, x1, x2, x3, x4] [y0, y1, y2, y3, y4] (row [x0, x1, x2, x3, x4] [y0, y1, y2, y3, y4] (row [x0, x1, x2, x3, x4] [y0, y1, y2, y3, y4] (row [x0, x1, x2, x3, x4] [y0, y1, y2, y3, y4] (fun _ => 0) 0) 1) 2) 3) 4 0 = x0 * y0 + x1 * (y4 * 19) + x2 * (y3 * 19) + x3 * (y2 * 19) + x4 * (y1 * 19) := by
    show 0 + x0 * y0 + x1 * IntKind.u64.wrap (y4 * 19) + x2 * IntKind.u64.wrap (y3 * 19) + x3 * IntKind.u64.wrap (y2 * 19) + x4 * IntKind.u64.wrap (y1 * 19) = _
    rw [u64_id (x := y4 * 19) (by omega) (by omega), u64_id (x := y3 * 19) (by omega) (by omega), u64_id (x := y2 * 19) (by omega) (by omega), u64_id (x := y1 * 19) (by omega) (by omega), Int.zero_add]
  have t1 : row [x0, x1, x2, x3, x4] [y0, y1, y2, y3, y4] (row [x0, x1, x2, x3, x4] [y0, y1, y2, y3, y4] (row [x0, x1, x2, x3, x4] [y0, y1, y2, y3, y4] (row [x0, x1, x2, x3, x4] [y0, y1, y2, y3, y4] (row [x0, x1, x2, x3, x4] [y0, y1, y2, y3, y4] (fun _ => 0) 0) 1) 2) 3) 4 1 = x0 * y1 + x1 * y0 + x2 * (y4 * 19) + x3 * (y3 * 19) + x4 * (y2 * 19) := by
    show 0 + x0 * y1 + x1 * y0 + x2 * IntKind.u64.wrap (y4 * 19) + x3 * IntKind.u64.wrap (y3 * 19) + x4 * IntKind.u64.wrap (y2 * 19) = _
    rw [u64_id (x := y4 * 19) (by omega) (by omega), u64_id (x := y3 * 19) (by omega) (by omega), u64_id (x := y2 * 19) (by omega) (by omega), Int.zero_add]
  have t2 : row [x0, x1, x2, x3, x4] [y0, y1, y2, y3, y4] (row [x0, x1, x2, x3, x4] [y0, y1, y2, y3, y4] (row [x0, x1, x2, x3, x4] [y0, y1, y2, y3, y4] (row [x0, x1, x2, x3, x4] [y0, y1, y2, y3, y4] (row [x0, x1, x2, x3, x4] [y0, y1, y2, y3, y4] (fun _ => 0) 0) 1) 2) 3) 4 2 = x0 * y2 + x1 * y1 + x2 * y0 + x3 * (y4 * 19) + x4 * (y3 * 19) := by
    show 0 + x0 * y2 + x1 * y1 + x2 * y0 + x3 * IntKind.u64.wrap (y4 * 19) + x4 * IntKind.u64.wrap (y3 * 19) = _
    rw [u64_id (x := y4 * 19) (by omega) (by omega), u64_id (x := y3 * 19) (by omega) (by omega), Int.zero_add]
  have t3 : row [x0, x1, x2, x3, x4] [y0, y1, y2, y3, y4] (row [x0, x1, x2, x3, x4] [y0, y1, y2, y3, y4] (row [x0, x1, x2, x3, x4] [y0, y1, y2, y3, y4] (row [x0, x1, x2, x3, x4] [y0, y1, y2, y3, y4] (row [x0, x1, x2, x3, x4] [y0, y1, y2, y3, y4] (fun _ => 0) 0) 1) 2) 3) 4 3 = x0 * y3 + x1 * y2 + x2 * y1 + x3 * y0 + x4 * (y4 * 19) := by
    show 0 + x0 * y3 + x1 * y2 + x2 * y1 + x3 * y0 + x4 * IntKind.u64.wrap (y4 * 19) = _
    rw [u64_id (x := y4 * 19) (by omega) (by omega), Int.zero_add]
  have t4 : row [x0, x1, x2, x3, x4] [y0, y1, y2, y3, y4] (row [x0, x1, x2, x3, x4] [y0, y1, y2, y3, y4] (row [x0, x1, x2, x3, x4] [y0, y1, y2, y3, y4] (row [x0, x1, x2, x3, x4] [y0, y1, y2, y3, y4] (row [x0, x1, x2, x3, x4] [y0, y1, y2, y3, y4] (fun _ => 0) 0) 1) 2) 3) 4 4 = x0 * y4 + x1 * y3 + x2 * y2 + x3 * y1 + x4 * y0 := by
    show 0 + x0 * y4 + x1 * y3 + x2 * y2 + x3 * y1 + x4 * y0 = _
    rw [Int.zero_add]
  rw [t0, t1, t2, t3, t4] at vz
  have pm := prod_mod x0 x1 x2 x3 x4 y0 y1 y2 y3 y4
  rw [vz] at pm
  obtain ⟨⟨f0, g0⟩, ⟨f1, g1⟩, ⟨f2, g2⟩, ⟨f3, g3⟩, f4, g4⟩ := hz
  have p64 : (2 : Int) ^ IntKind.u64.bits = 18446744073709551616 := by decide
  have c19 : 0 ≤ c * 19 := by omega
  have hc := cell (c * 19 / 18446744073709551616) (c * 19 % 18446744073709551616) z0 (c * 19) (by omega) (by omega) (by omega) (by omega) (by omega)
  obtain ⟨ea, eb, eo, r0, r1, r2, r3, r4⟩ := hc
  have rb : (c * 19 + z0) / 2251799813685248 ≤ 155649 := by omega
  have hs : IntKind.u64.wrap (z1 + (c * 19 + z0) / 2251799813685248) = z1 + (c * 19 + z0) / 2251799813685248 := u64_id (by omega) (by omega)
  obtain ⟨ll, el, hl⟩ := carried_rep (n := m * n) (x0 := (c * 19 + z0) % 2251799813685248) (x1 := z1 + (c * 19 + z0) / 2251799813685248) (x2 := z2) (x3 := z3) (x4 := z4) (by constructor <;> omega) (by
    have e : V ((c * 19 + z0) % 2251799813685248) (z1 + (c * 19 + z0) / 2251799813685248) z2 z3 z4 = V x0 x1 x2 x3 x4 * V y0 y1 y2 y3 y4 + pw * (-(V (x1 * y4 + x2 * y3 + x3 * y2 + x4 * y1) (x2 * y4 + x3 * y3 + x4 * y2) (x3 * y4 + x4 * y3) (x4 * y4) 0) - c) := by
      rw [pm]
      generalize V (x1 * y4 + x2 * y3 + x3 * y2 + x4 * y1) (x2 * y4 + x3 * y3 + x4 * y2) (x3 * y4 + x4 * y3) (x4 * y4) 0 = q
      unfold V pw; omega
    rw [e, Int.add_mul_emod_self_left, Int.mul_emod, vx, vy, ← Int.mul_emod])
  refine ⟨ll, ?_, hl⟩
  unfold limb_Mul
  rw [e0, Option.bind_some]
  simp only []
  rw [e3, Option.bind_some]
  simp only []
  rw [mul64_ok c 19 lc uc (by decide) (by decide), Option.bind_some]
  simp only [List.getD_cons_zero]
  rw [ea, Option.bind_some]
  simp only [List.set_cons_zero, List.set_cons_succ, List.getD_cons_succ, List.getD_cons_zero]
  rw [eb, eo, hs, el]; rfl
end Go.Pn
