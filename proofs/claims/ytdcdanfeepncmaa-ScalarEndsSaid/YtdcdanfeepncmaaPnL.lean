/- The page's product of two numbers of four words. -/
import Derived.Test.YtdcdanfeepncmaaPnK
namespace Go.Pn
open Go Go.Gw Go.Proofs.Sb.D
theorem t1_step (a b m : List Int) (c : Int) (k i j : Nat) (hi : i < 4) (hj : j < 4) : ref04_times_l1 a b (i : Int) (k + 1) m c (j : Int) =
    (math_bits_Mul64 (a.getD i 0) (b.getD j 0)).bind fun p => (add64 p.2 (m.getD (i + j) 0) 0).bind fun q => (add64 q.1 c 0).bind fun r =>
      ref04_times_l1 a b (i : Int) k (m.set (i + j) r.1) (IntKind.u64.wrap (IntKind.u64.wrap (p.1 + q.2) + r.2)) ((j + 1 : Nat) : Int) := by
  have ci : i = 0 ∨ i = 1 ∨ i = 2 ∨ i = 3 := by omega
  have cj : j = 0 ∨ j = 1 ∨ j = 2 ∨ j = 3 := by omega
  rcases ci with rfl | rfl | rfl | rfl <;> rcases cj with rfl | rfl | rfl | rfl <;> (show _ = _; kernel_rfl)
theorem t1_end (a b m : List Int) (c : Int) (k i : Nat) : ref04_times_l1 a b (i : Int) (k + 1) m c 4 = some (m, c) := by kernel_rfl
theorem t1_cell {a b m : List Int} {c x y o : Int} (k i j : Nat) (hi : i < 4) (hj : j < 4) (ex : a.getD i 0 = x) (ey : b.getD j 0 = y) (eo : m.getD (i + j) 0 = o)
    (hx : 0 ≤ x ∧ x < 18446744073709551616) (hy : 0 ≤ y ∧ y < 18446744073709551616) (ho : 0 ≤ o ∧ o < 18446744073709551616) (hc : 0 ≤ c ∧ c < 18446744073709551616) :
    ∃ r d, ref04_times_l1 a b (i : Int) (k + 1) m c (j : Int) = ref04_times_l1 a b (i : Int) k (m.set (i + j) r) d ((j + 1 : Nat) : Int) ∧
      (0 ≤ r ∧ r < 18446744073709551616) ∧ (0 ≤ d ∧ d < 18446744073709551616) ∧ r + d * 18446744073709551616 = x * y + o + c := by
  rw [t1_step a b m c k i j hi hj, ex, ey, eo, mul64_ok x y hx.1 hx.2 hy.1 hy.2, Option.bind_some]
  have pp := prod_le (x := x) (y := y) (b := 18446744073709551615) hx.1 (by omega) hy.1 (by omega)
  generalize x * y = p at *
  have q0 : 0 ≤ p % 18446744073709551616 := by omega
  have e1 : add64 (p % 18446744073709551616) o 0 = some ((p % 18446744073709551616 + o + 0) % 18446744073709551616, (p % 18446744073709551616 + o + 0) / 18446744073709551616) := by
    unfold add64; rw [if_pos ⟨q0, ho.1, by decide, by decide⟩]
  have e2 : add64 ((p % 18446744073709551616 + o + 0) % 18446744073709551616) c 0 = some (((p % 18446744073709551616 + o + 0) % 18446744073709551616 + c + 0) % 18446744073709551616, ((p % 18446744073709551616 + o + 0) % 18446744073709551616 + c + 0) / 18446744073709551616) := by
    unfold add64; rw [if_pos ⟨by omega, hc.1, by decide, by decide⟩]
  simp only [e1, Option.bind_some, e2]
  have w1 : IntKind.u64.wrap (p / 18446744073709551616 + (p % 18446744073709551616 + o + 0) / 18446744073709551616) = p / 18446744073709551616 + (p % 18446744073709551616 + o + 0) / 18446744073709551616 := u64_id (by omega) (by omega)
  rw [w1, u64_id (by omega) (by omega)]
  exact ⟨_, _, rfl, by omega, by omega, by omega⟩
theorem t1_row {a b m : List Int} {x y0 y1 y2 y3 o0 o1 o2 o3 : Int} (i : Nat) (hi : i < 4) (ex : a.getD i 0 = x) (ey0 : b.getD 0 0 = y0) (ey1 : b.getD 1 0 = y1) (ey2 : b.getD 2 0 = y2) (ey3 : b.getD 3 0 = y3)
    (hm : m.length = 8) (eo0 : m.getD i 0 = o0) (eo1 : m.getD (i + 1) 0 = o1) (eo2 : m.getD (i + 2) 0 = o2) (eo3 : m.getD (i + 3) 0 = o3)
    (hx : 0 ≤ x ∧ x < 18446744073709551616) (hy : B4 y0 y1 y2 y3) (ho : B4 o0 o1 o2 o3) :
    ∃ r0 r1 r2 r3 d, ref04_times_l1 a b (i : Int) (((4 : Int) - (0 : Int)).toNat + 1) m 0 0 = some ((((m.set i r0).set (i + 1) r1).set (i + 2) r2).set (i + 3) r3, d) ∧ B4 r0 r1 r2 r3 ∧ (0 ≤ d ∧ d < 18446744073709551616) ∧
      W4 r0 r1 r2 r3 + d * 115792089237316195423570985008687907853269984665640564039457584007913129639936 = W4 o0 o1 o2 o3 + W4 (x * y0) (x * y1) (x * y2) (x * y3) := by
  obtain ⟨r0, d0, e0, u0, v0, w0⟩ := t1_cell (a := a) (b := b) (m := m) (c := 0) 4 i 0 hi (by decide) ex ey0 eo0 hx hy.h0 ho.h0 (by decide)
  obtain ⟨r1, d1, e1, u1, v1, w1⟩ := t1_cell (a := a) (b := b) (m := m.set i r0) (c := d0) 3 i 1 hi (by decide) ex ey1 (by rw [getD_set_of _ _ _ _ (by omega), if_neg (by omega)]; exact eo1) hx hy.h1 ho.h1 v0
  obtain ⟨r2, d2, e2, u2, v2, w2⟩ := t1_cell (a := a) (b := b) (m := (m.set i r0).set (i + 1) r1) (c := d1) 2 i 2 hi (by decide) ex ey2 (by rw [getD_set_of _ _ _ _ (by rw [List.length_set]; omega), if_neg (by omega), getD_set_of _ _ _ _ (by omega), if_neg (by omega)]; exact eo2) hx hy.h2 ho.h2 v1
  obtain ⟨r3, d3, e3, u3, v3, w3⟩ := t1_cell (a := a) (b := b) (m := ((m.set i r0).set (i + 1) r1).set (i + 2) r2) (c := d2) 1 i 3 hi (by decide) ex ey3 (by rw [getD_set_of _ _ _ _ (by rw [List.length_set, List.length_set]; omega), if_neg (by omega), getD_set_of _ _ _ _ (by rw [List.length_set]; omega), if_neg (by omega), getD_set_of _ _ _ _ (by omega), if_neg (by omega)]; exact eo3) hx hy.h3 ho.h3 v2
  refine ⟨r0, r1, r2, r3, d3, ?_, ⟨u0, u1, u2, u3⟩, v3, ?_⟩
  · exact e0.trans (e1.trans (e2.trans (e3.trans (t1_end a b _ d3 0 i))))
  · unfold W4
    generalize x * y0 = p0 at *; generalize x * y1 = p1 at *; generalize x * y2 = p2 at *; generalize x * y3 = p3 at *
    omega
theorem t0_step (a b m : List Int) (k i : Nat) (hi : i < 4) : ref04_times_l0 a b (k + 1) m (i : Int) =
    (ref04_times_l1 a b (i : Int) (((4 : Int) - (0 : Int)).toNat + 1) m 0 0).bind fun p => ref04_times_l0 a b k (p.1.set (i + 4) p.2) ((i + 1 : Nat) : Int) := by
  have ci : i = 0 ∨ i = 1 ∨ i = 2 ∨ i = 3 := by omega
  rcases ci with rfl | rfl | rfl | rfl <;> (show _ = _; kernel_rfl)
theorem t0_end (a b m : List Int) (k : Nat) : ref04_times_l0 a b (k + 1) m 4 = some m := by kernel_rfl
theorem W4_prod (x0 x1 x2 x3 y0 y1 y2 y3 : Int) : W4 x0 x1 x2 x3 * W4 y0 y1 y2 y3 =
    W4 (x0 * y0) (x0 * y1) (x0 * y2) (x0 * y3) + W4 (x1 * y0) (x1 * y1) (x1 * y2) (x1 * y3) * 18446744073709551616 + W4 (x2 * y0) (x2 * y1) (x2 * y2) (x2 * y3) * 340282366920938463463374607431768211456 + W4 (x3 * y0) (x3 * y1) (x3 * y2) (x3 * y3) * 6277101735386680763835789423207666416102355444464034512896 := by
  unfold W4; grind
theorem rtimes (x y : Int) (hx : 0 ≤ x ∧ x < 115792089237316195423570985008687907853269984665640564039457584007913129639936) (hy : 0 ≤ y ∧ y < 115792089237316195423570985008687907853269984665640564039457584007913129639936) : ref04_times (words4 x) (words4 y) = some (words4 (x * y % 115792089237316195423570985008687907853269984665640564039457584007913129639936) ++ words4 (x * y / 115792089237316195423570985008687907853269984665640564039457584007913129639936)) := by
  obtain ⟨a0, a1, a2, a3, ea, ba, va⟩ := words4_ex x hx.1 hx.2
  obtain ⟨b0, b1, b2, b3, eb, bb, vb⟩ := words4_ex y hy.1 hy.2
  rw [ea, eb]
  have z : (0 : Int) ≤ 0 ∧ (0 : Int) < 18446744073709551616 := by decide
  obtain ⟨r0, r1, r2, r3, d0, e0, br, bd0, w0⟩ := t1_row (a := [a0, a1, a2, a3]) (b := [b0, b1, b2, b3]) (m := [0, 0, 0, 0, 0, 0, 0, 0]) (x := a0) (y0 := b0) (y1 := b1) (y2 := b2) (y3 := b3) (o0 := 0) (o1 := 0) (o2 := 0) (o3 := 0) 0 (by decide) rfl rfl rfl rfl rfl rfl rfl rfl rfl rfl ba.h0 bb ⟨z, z, z, z⟩
  obtain ⟨s0, s1, s2, s3, d1, e1, bs, bd1, w1⟩ := t1_row (a := [a0, a1, a2, a3]) (b := [b0, b1, b2, b3]) (m := [r0, r1, r2, r3, d0, 0, 0, 0]) (x := a1) (y0 := b0) (y1 := b1) (y2 := b2) (y3 := b3) (o0 := r1) (o1 := r2) (o2 := r3) (o3 := d0) 1 (by decide) rfl rfl rfl rfl rfl rfl rfl rfl rfl rfl ba.h1 bb ⟨br.h1, br.h2, br.h3, bd0⟩
  obtain ⟨t0, t1, t2, t3, d2, e2, bt, bd2, w2⟩ := t1_row (a := [a0, a1, a2, a3]) (b := [b0, b1, b2, b3]) (m := [r0, s0, s1, s2, s3, d1, 0, 0]) (x := a2) (y0 := b0) (y1 := b1) (y2 := b2) (y3 := b3) (o0 := s1) (o1 := s2) (o2 := s3) (o3 := d1) 2 (by decide) rfl rfl rfl rfl rfl rfl rfl rfl rfl rfl ba.h2 bb ⟨bs.h1, bs.h2, bs.h3, bd1⟩
  obtain ⟨u0, u1, u2, u3, d3, e3, bu, bd3, w3⟩ := t1_row (a := [a0, a1, a2, a3]) (b := [b0, b1, b2, b3]) (m := [r0, s0, t0, t1, t2, t3, d2, 0]) (x := a3) (y0 := b0) (y1 := b1) (y2 := b2) (y3 := b3) (o0 := t1) (o1 := t2) (o2 := t3) (o3 := d2) 3 (by decide) rfl rfl rfl rfl rfl rfl rfl rfl rfl rfl ba.h3 bb ⟨bt.h1, bt.h2, bt.h3, bd2⟩
  have k0 := t0_step [a0, a1, a2, a3] [b0, b1, b2, b3] [0, 0, 0, 0, 0, 0, 0, 0] 4 0 (by decide)
  have k1 := t0_step [a0, a1, a2, a3] [b0, b1, b2, b3] [r0, r1, r2, r3, d0, 0, 0, 0] 3 1 (by decide)
  have k2 := t0_step [a0, a1, a2, a3] [b0, b1, b2, b3] [r0, s0, s1, s2, s3, d1, 0, 0] 2 2 (by decide)
  have k3 := t0_step [a0, a1, a2, a3] [b0, b1, b2, b3] [r0, s0, t0, t1, t2, t3, d2, 0] 1 3 (by decide)
  rw [e0, Option.bind_some] at k0
  rw [e1, Option.bind_some] at k1
  rw [e2, Option.bind_some] at k2
  rw [e3, Option.bind_some] at k3
  have e : ref04_times_l0 [a0, a1, a2, a3] [b0, b1, b2, b3] (((4 : Int) - (0 : Int)).toNat + 1) (List.replicate 8 0) 0 = some [r0, s0, t0, u0, u1, u2, u3, d3] :=
    k0.trans (k1.trans (k2.trans (k3.trans (t0_end _ _ _ 0))))
  unfold ref04_times
  rw [e, Option.bind_some]
  have hl : B4 r0 s0 t0 u0 := ⟨br.h0, bs.h0, bt.h0, bu.h0⟩
  have hh : B4 u1 u2 u3 d3 := ⟨bu.h1, bu.h2, bu.h3, bd3⟩
  have bl := W4_bd hl; have bh := W4_bd hh
  have tot : x * y = W4 r0 s0 t0 u0 + W4 u1 u2 u3 d3 * 115792089237316195423570985008687907853269984665640564039457584007913129639936 := by
    rw [← va, ← vb, W4_prod]
    generalize W4 (a0 * b0) (a0 * b1) (a0 * b2) (a0 * b3) = p0 at *
    generalize W4 (a1 * b0) (a1 * b1) (a1 * b2) (a1 * b3) = p1 at *
    generalize W4 (a2 * b0) (a2 * b1) (a2 * b2) (a2 * b3) = p2 at *
    generalize W4 (a3 * b0) (a3 * b1) (a3 * b2) (a3 * b3) = p3 at *
    unfold W4 at *; omega
  have e1 : x * y % 115792089237316195423570985008687907853269984665640564039457584007913129639936 = W4 r0 s0 t0 u0 := by rw [tot]; omega
  have e2 : x * y / 115792089237316195423570985008687907853269984665640564039457584007913129639936 = W4 u1 u2 u3 d3 := by rw [tot]; omega
  rw [e1, e2, ← words4_W hl, ← words4_W hh]; rfl
end Go.Pn
