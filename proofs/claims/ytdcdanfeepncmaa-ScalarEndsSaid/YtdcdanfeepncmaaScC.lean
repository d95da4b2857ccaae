/- The product and the sum. -/
import Derived.Test.YtdcdanfeepncmaaScB
import Derived.Test.YtdcdanfeepncmaaPnL
namespace Go.Sc
open Go Go.Gw Go.Proofs.Sb.D Go.Pn
theorem p1_step (a b z m : List Int) (c : Int) (k i j : Nat) (hi : i < 4) (hj : j < 4) : scalar_product_l1 a b z (i : Int) (k + 1) m c (j : Int) =
    (math_bits_Mul64 (a.getD i 0) (b.getD j 0)).bind fun p => (add64 (m.getD (i + j) 0) p.2 0).bind fun q => (add64 ((m.set (i + j) q.1).getD (i + j) 0) c 0).bind fun r =>
      scalar_product_l1 a b z (i : Int) k ((m.set (i + j) q.1).set (i + j) r.1) (IntKind.u64.wrap (IntKind.u64.wrap (p.1 + q.2) + r.2)) ((j + 1 : Nat) : Int) := by
  have ci : i = 0 ∨ i = 1 ∨ i = 2 ∨ i = 3 := by omega
  have cj : j = 0 ∨ j = 1 ∨ j = 2 ∨ j = 3 := by omega
  rcases ci with rfl | rfl | rfl | rfl <;> rcases cj with rfl | rfl | rfl | rfl <;> (show _ = _; kernel_rfl)
theorem p1_end (a b z m : List Int) (c : Int) (k i : Nat) : scalar_product_l1 a b z (i : Int) (k + 1) m c 4 = some (m, c) := by kernel_rfl
theorem p1_cell {a b z m : List Int} {c x y o : Int} (k i j : Nat) (hi : i < 4) (hj : j < 4) (hm : m.length = 9) (ex : a.getD i 0 = x) (ey : b.getD j 0 = y) (eo : m.getD (i + j) 0 = o)
    (hx : 0 ≤ x ∧ x < 18446744073709551616) (hy : 0 ≤ y ∧ y < 18446744073709551616) (ho : 0 ≤ o ∧ o < 18446744073709551616) (hc : 0 ≤ c ∧ c < 18446744073709551616) :
    ∃ r d, scalar_product_l1 a b z (i : Int) (k + 1) m c (j : Int) = scalar_product_l1 a b z (i : Int) k (m.set (i + j) r) d ((j + 1 : Nat) : Int) ∧
      (0 ≤ r ∧ r < 18446744073709551616) ∧ (0 ≤ d ∧ d < 18446744073709551616) ∧ r + d * 18446744073709551616 = x * y + o + c := by
  rw [p1_step a b z m c k i j hi hj, ex, ey, eo, mul64_ok x y hx.1 hx.2 hy.1 hy.2, Option.bind_some]
  have pp := prod_le (x := x) (y := y) (b := 18446744073709551615) hx.1 (by omega) hy.1 (by omega)
  generalize x * y = p at *
  have q0 : 0 ≤ p % 18446744073709551616 := by omega
  have e1 : add64 o (p % 18446744073709551616) 0 = some ((o + p % 18446744073709551616 + 0) % 18446744073709551616, (o + p % 18446744073709551616 + 0) / 18446744073709551616) := by
    unfold add64; rw [if_pos ⟨ho.1, q0, by decide, by decide⟩]
  have e2 : add64 ((o + p % 18446744073709551616 + 0) % 18446744073709551616) c 0 = some (((o + p % 18446744073709551616 + 0) % 18446744073709551616 + c + 0) % 18446744073709551616, ((o + p % 18446744073709551616 + 0) % 18446744073709551616 + c + 0) / 18446744073709551616) := by
    unfold add64; rw [if_pos ⟨by omega, hc.1, by decide, by decide⟩]
  simp only [e1, Option.bind_some]
  rw [getD_set_of _ _ _ _ (by omega), if_pos rfl]
  simp only [e2, Option.bind_some, List.set_set]
  have w1 : IntKind.u64.wrap (p / 18446744073709551616 + (o + p % 18446744073709551616 + 0) / 18446744073709551616) = p / 18446744073709551616 + (o + p % 18446744073709551616 + 0) / 18446744073709551616 := u64_id (by omega) (by omega)
  rw [w1, u64_id (by omega) (by omega)]
  exact ⟨_, _, rfl, by omega, by omega, by omega⟩
theorem p1_row {a b z m : List Int} {x y0 y1 y2 y3 o0 o1 o2 o3 : Int} (i : Nat) (hi : i < 4) (ex : a.getD i 0 = x) (ey0 : b.getD 0 0 = y0) (ey1 : b.getD 1 0 = y1) (ey2 : b.getD 2 0 = y2) (ey3 : b.getD 3 0 = y3)
    (hm : m.length = 9) (eo0 : m.getD i 0 = o0) (eo1 : m.getD (i + 1) 0 = o1) (eo2 : m.getD (i + 2) 0 = o2) (eo3 : m.getD (i + 3) 0 = o3)
    (hx : 0 ≤ x ∧ x < 18446744073709551616) (hy : B4 y0 y1 y2 y3) (ho : B4 o0 o1 o2 o3) :
    ∃ r0 r1 r2 r3 d, scalar_product_l1 a b z (i : Int) (((4 : Int) - (0 : Int)).toNat + 1) m 0 0 = some ((((m.set i r0).set (i + 1) r1).set (i + 2) r2).set (i + 3) r3, d) ∧ B4 r0 r1 r2 r3 ∧ (0 ≤ d ∧ d < 18446744073709551616) ∧
      W4 r0 r1 r2 r3 + d * 115792089237316195423570985008687907853269984665640564039457584007913129639936 = W4 o0 o1 o2 o3 + W4 (x * y0) (x * y1) (x * y2) (x * y3) := by
  obtain ⟨r0, d0, e0, u0, v0, w0⟩ := p1_cell (a := a) (b := b) (z := z) (m := m) (c := 0) 4 i 0 hi (by decide) hm ex ey0 eo0 hx hy.h0 ho.h0 (by decide)
  obtain ⟨r1, d1, e1, u1, v1, w1⟩ := p1_cell (a := a) (b := b) (z := z) (m := m.set i r0) (c := d0) 3 i 1 hi (by decide) (by rw [List.length_set]; exact hm) ex ey1 (by rw [getD_set_of _ _ _ _ (by omega), if_neg (by omega)]; exact eo1) hx hy.h1 ho.h1 v0
  obtain ⟨r2, d2, e2, u2, v2, w2⟩ := p1_cell (a := a) (b := b) (z := z) (m := (m.set i r0).set (i + 1) r1) (c := d1) 2 i 2 hi (by decide) (by rw [List.length_set, List.length_set]; exact hm) ex ey2 (by rw [getD_set_of _ _ _ _ (by rw [List.length_set]; omega), if_neg (by omega), getD_set_of _ _ _ _ (by omega), if_neg (by omega)]; exact eo2) hx hy.h2 ho.h2 v1
  obtain ⟨r3, d3, e3, u3, v3, w3⟩ := p1_cell (a := a) (b := b) (z := z) (m := ((m.set i r0).set (i + 1) r1).set (i + 2) r2) (c := d2) 1 i 3 hi (by decide) (by rw [List.length_set, List.length_set, List.length_set]; exact hm) ex ey3 (by rw [getD_set_of _ _ _ _ (by rw [List.length_set, List.length_set]; omega), if_neg (by omega), getD_set_of _ _ _ _ (by rw [List.length_set]; omega), if_neg (by omega), getD_set_of _ _ _ _ (by omega), if_neg (by omega)]; exact eo3) hx hy.h3 ho.h3 v2
  refine ⟨r0, r1, r2, r3, d3, ?_, ⟨u0, u1, u2, u3⟩, v3, ?_⟩
  · exact e0.trans (e1.trans (e2.trans (e3.trans (p1_end a b z _ d3 0 i))))
  · unfold W4
    generalize x * y0 = p0 at *; generalize x * y1 = p1 at *; generalize x * y2 = p2 at *; generalize x * y3 = p3 at *
    omega
theorem p0_step (a b z m : List Int) (k i : Nat) (hi : i < 4) : scalar_product_l0 a b z (k + 1) m (i : Int) =
    (scalar_product_l1 a b z (i : Int) (((4 : Int) - (0 : Int)).toNat + 1) m 0 0).bind fun p => scalar_product_l0 a b z k (p.1.set (i + 4) p.2) ((i + 1 : Nat) : Int) := by
  have ci : i = 0 ∨ i = 1 ∨ i = 2 ∨ i = 3 := by omega
  rcases ci with rfl | rfl | rfl | rfl <;> (show _ = _; kernel_rfl)
theorem p0_end (a b z m : List Int) (k : Nat) : scalar_product_l0 a b z (k + 1) m 4 = some m := by kernel_rfl
theorem p0_ok (x y : Int) (z : List Int) (hx : 0 ≤ x ∧ x < 115792089237316195423570985008687907853269984665640564039457584007913129639936) (hy : 0 ≤ y ∧ y < 115792089237316195423570985008687907853269984665640564039457584007913129639936) : scalar_product_l0 (words4 x) (words4 y) z (((4 : Int) - (0 : Int)).toNat + 1) (List.replicate 9 0) 0 = some (words4 (x * y % 115792089237316195423570985008687907853269984665640564039457584007913129639936) ++ words4 (x * y / 115792089237316195423570985008687907853269984665640564039457584007913129639936) ++ [0]) := by
  obtain ⟨a0, a1, a2, a3, ea, ba, va⟩ := words4_ex x hx.1 hx.2
  obtain ⟨b0, b1, b2, b3, eb, bb, vb⟩ := words4_ex y hy.1 hy.2
  rw [ea, eb]
  have zz : (0 : Int) ≤ 0 ∧ (0 : Int) < 18446744073709551616 := by decide
  obtain ⟨r0, r1, r2, r3, d0, e0, br, bd0, w0⟩ := p1_row (a := [a0, a1, a2, a3]) (b := [b0, b1, b2, b3]) (z := z) (m := [0, 0, 0, 0, 0, 0, 0, 0, 0]) (x := a0) (y0 := b0) (y1 := b1) (y2 := b2) (y3 := b3) (o0 := 0) (o1 := 0) (o2 := 0) (o3 := 0) 0 (by decide) rfl rfl rfl rfl rfl rfl rfl rfl rfl rfl ba.h0 bb ⟨zz, zz, zz, zz⟩
  obtain ⟨s0, s1, s2, s3, d1, e1, bs, bd1, w1⟩ := p1_row (a := [a0, a1, a2, a3]) (b := [b0, b1, b2, b3]) (z := z) (m := [r0, r1, r2, r3, d0, 0, 0, 0, 0]) (x := a1) (y0 := b0) (y1 := b1) (y2 := b2) (y3 := b3) (o0 := r1) (o1 := r2) (o2 := r3) (o3 := d0) 1 (by decide) rfl rfl rfl rfl rfl rfl rfl rfl rfl rfl ba.h1 bb ⟨br.h1, br.h2, br.h3, bd0⟩
  obtain ⟨t0, t1, t2, t3, d2, e2, bt, bd2, w2⟩ := p1_row (a := [a0, a1, a2, a3]) (b := [b0, b1, b2, b3]) (z := z) (m := [r0, s0, s1, s2, s3, d1, 0, 0, 0]) (x := a2) (y0 := b0) (y1 := b1) (y2 := b2) (y3 := b3) (o0 := s1) (o1 := s2) (o2 := s3) (o3 := d1) 2 (by decide) rfl rfl rfl rfl rfl rfl rfl rfl rfl rfl ba.h2 bb ⟨bs.h1, bs.h2, bs.h3, bd1⟩
  obtain ⟨u0, u1, u2, u3, d3, e3, bu, bd3, w3⟩ := p1_row (a := [a0, a1, a2, a3]) (b := [b0, b1, b2, b3]) (z := z) (m := [r0, s0, t0, t1, t2, t3, d2, 0, 0]) (x := a3) (y0 := b0) (y1 := b1) (y2 := b2) (y3 := b3) (o0 := t1) (o1 := t2) (o2 := t3) (o3 := d2) 3 (by decide) rfl rfl rfl rfl rfl rfl rfl rfl rfl rfl ba.h3 bb ⟨bt.h1, bt.h2, bt.h3, bd2⟩
  have k0 := p0_step [a0, a1, a2, a3] [b0, b1, b2, b3] z [0, 0, 0, 0, 0, 0, 0, 0, 0] 4 0 (by decide)
  have k1 := p0_step [a0, a1, a2, a3] [b0, b1, b2, b3] z [r0, r1, r2, r3, d0, 0, 0, 0, 0] 3 1 (by decide)
  have k2 := p0_step [a0, a1, a2, a3] [b0, b1, b2, b3] z [r0, s0, s1, s2, s3, d1, 0, 0, 0] 2 2 (by decide)
  have k3 := p0_step [a0, a1, a2, a3] [b0, b1, b2, b3] z [r0, s0, t0, t1, t2, t3, d2, 0, 0] 1 3 (by decide)
  rw [e0, Option.bind_some] at k0
  rw [e1, Option.bind_some] at k1
  rw [e2, Option.bind_some] at k2
  rw [e3, Option.bind_some] at k3
  have e : scalar_product_l0 [a0, a1, a2, a3] [b0, b1, b2, b3] z (((4 : Int) - (0 : Int)).toNat + 1) (List.replicate 9 0) 0 = some [r0, s0, t0, u0, u1, u2, u3, d3, 0] :=
    k0.trans (k1.trans (k2.trans (k3.trans (p0_end _ _ _ _ 0))))
  rw [e]
  have hl : B4 r0 s0 t0 u0 := ⟨br.h0, bs.h0, bt.h0, bu.h0⟩
  have hh : B4 u1 u2 u3 d3 := ⟨bu.h1, bu.h2, bu.h3, bd3⟩
  have bl := W4_bd hl; have bh := W4_bd hh
  have tot : x * y = W4 r0 s0 t0 u0 + W4 u1 u2 u3 d3 * 115792089237316195423570985008687907853269984665640564039457584007913129639936 := by
    rw [← va, ← vb, W4_prod]
    generalize W4 (a0 * b0) (a0 * b1) (a0 * b2) (a0 * b3) = p0 at *
    generalize W4 (a1 * b0) (a1 * b1) (a1 * b2) (a1 * b3) = p1 at *
    generalize W4 (a2 * b0) (a2 * b1) (a2 * b2) (a2 * b3) = p2 at *
    generalize W4 (a3 * b0) (a3 * b1) (a3 * b2) (a3 * b3) = p3 at *
    unfold W4 at *; omega
  have e1 : x * y % 115792089237316195423570985008687907853269984665640564039457584007913129639936 = W4 r0 s0 t0 u0 := by rw [tot]; omega
  have e2 : x * y / 115792089237316195423570985008687907853269984665640564039457584007913129639936 = W4 u1 u2 u3 d3 := by rw [tot]; omega
  rw [e1, e2, ← words4_W hl, ← words4_W hh]; rfl
theorem p2_step (z m : List Int) (c : Int) (k i : Nat) (hi : i < 9) : scalar_product_l2 z (k + 1) m c (i : Int) =
    (add64 (m.getD i 0) (if i < 4 then z.getD i 0 else 0) c).bind fun q => scalar_product_l2 z k (m.set i q.1) q.2 ((i + 1 : Nat) : Int) := by
  have ci : i = 0 ∨ i = 1 ∨ i = 2 ∨ i = 3 ∨ i = 4 ∨ i = 5 ∨ i = 6 ∨ i = 7 ∨ i = 8 := by omega
  rcases ci with rfl | rfl | rfl | rfl | rfl | rfl | rfl | rfl | rfl <;> (show _ = _; kernel_rfl)
theorem p2_end (z m : List Int) (c : Int) (k : Nat) : scalar_product_l2 z (k + 1) m c 9 = some m := by kernel_rfl
theorem p2_ok (lo hi z : Int) (h0 : 0 ≤ lo ∧ lo < (115792089237316195423570985008687907853269984665640564039457584007913129639936 : Int)) (h1 : 0 ≤ hi ∧ hi + 1 < (115792089237316195423570985008687907853269984665640564039457584007913129639936 : Int)) (h2 : 0 ≤ z ∧ z < (115792089237316195423570985008687907853269984665640564039457584007913129639936 : Int)) :
    ∃ lo' hi', scalar_product_l2 (words4 z) (((9 : Int) - (0 : Int)).toNat + 1) (words4 lo ++ words4 hi ++ [0]) 0 0 = some (words4 lo' ++ words4 hi' ++ [0]) ∧ (0 ≤ lo' ∧ lo' < (115792089237316195423570985008687907853269984665640564039457584007913129639936 : Int)) ∧ (0 ≤ hi' ∧ hi' < (115792089237316195423570985008687907853269984665640564039457584007913129639936 : Int)) ∧
      lo' + hi' * (115792089237316195423570985008687907853269984665640564039457584007913129639936 : Int) = lo + hi * (115792089237316195423570985008687907853269984665640564039457584007913129639936 : Int) + z := by
  obtain ⟨a0, a1, a2, a3, ea, ba, va⟩ := words4_ex lo h0.1 h0.2
  obtain ⟨b0, b1, b2, b3, eb, bb, vb⟩ := words4_ex hi h1.1 (by omega)
  obtain ⟨c0, c1, c2, c3, ec, bc, vc⟩ := words4_ex z h2.1 h2.2
  rw [ea, eb, ec]
  have zz : (0 : Int) ≤ 0 ∧ (0 : Int) < 18446744073709551616 := by decide
  obtain ⟨r0, d0, e0, u0, v0, w0⟩ := add64_ok' a0 c0 0 ba.h0 bc.h0 (by decide)
  obtain ⟨r1, d1, e1, u1, v1, w1⟩ := add64_ok' a1 c1 d0 ba.h1 bc.h1 v0
  obtain ⟨r2, d2, e2, u2, v2, w2⟩ := add64_ok' a2 c2 d1 ba.h2 bc.h2 v1
  obtain ⟨r3, d3, e3, u3, v3, w3⟩ := add64_ok' a3 c3 d2 ba.h3 bc.h3 v2
  obtain ⟨r4, d4, e4, u4, v4, w4⟩ := add64_ok' b0 0 d3 bb.h0 zz v3
  obtain ⟨r5, d5, e5, u5, v5, w5⟩ := add64_ok' b1 0 d4 bb.h1 zz v4
  obtain ⟨r6, d6, e6, u6, v6, w6⟩ := add64_ok' b2 0 d5 bb.h2 zz v5
  obtain ⟨r7, d7, e7, u7, v7, w7⟩ := add64_ok' b3 0 d6 bb.h3 zz v6
  obtain ⟨r8, d8, e8, u8, v8, w8⟩ := add64_ok' 0 0 d7 zz zz v7
  have k0 := p2_step [c0, c1, c2, c3] [a0, a1, a2, a3, b0, b1, b2, b3, 0] 0 9 0 (by decide)
  have k1 := p2_step [c0, c1, c2, c3] [r0, a1, a2, a3, b0, b1, b2, b3, 0] d0 8 1 (by decide)
  have k2 := p2_step [c0, c1, c2, c3] [r0, r1, a2, a3, b0, b1, b2, b3, 0] d1 7 2 (by decide)
  have k3 := p2_step [c0, c1, c2, c3] [r0, r1, r2, a3, b0, b1, b2, b3, 0] d2 6 3 (by decide)
  have k4 := p2_step [c0, c1, c2, c3] [r0, r1, r2, r3, b0, b1, b2, b3, 0] d3 5 4 (by decide)
  have k5 := p2_step [c0, c1, c2, c3] [r0, r1, r2, r3, r4, b1, b2, b3, 0] d4 4 5 (by decide)
  have k6 := p2_step [c0, c1, c2, c3] [r0, r1, r2, r3, r4, r5, b2, b3, 0] d5 3 6 (by decide)
  have k7 := p2_step [c0, c1, c2, c3] [r0, r1, r2, r3, r4, r5, r6, b3, 0] d6 2 7 (by decide)
  have k8 := p2_step [c0, c1, c2, c3] [r0, r1, r2, r3, r4, r5, r6, r7, 0] d7 1 8 (by decide)
  rw [show (add64 (List.getD [a0, a1, a2, a3, b0, b1, b2, b3, 0] 0 0) (if 0 < 4 then List.getD [c0, c1, c2, c3] 0 0 else 0) 0) = some (r0, d0) from e0, Option.bind_some] at k0
  rw [show (add64 (List.getD [r0, a1, a2, a3, b0, b1, b2, b3, 0] 1 0) (if 1 < 4 then List.getD [c0, c1, c2, c3] 1 0 else 0) d0) = some (r1, d1) from e1, Option.bind_some] at k1
  rw [show (add64 (List.getD [r0, r1, a2, a3, b0, b1, b2, b3, 0] 2 0) (if 2 < 4 then List.getD [c0, c1, c2, c3] 2 0 else 0) d1) = some (r2, d2) from e2, Option.bind_some] at k2
  rw [show (add64 (List.getD [r0, r1, r2, a3, b0, b1, b2, b3, 0] 3 0) (if 3 < 4 then List.getD [c0, c1, c2, c3] 3 0 else 0) d2) = some (r3, d3) from e3, Option.bind_some] at k3
  rw [show (add64 (List.getD [r0, r1, r2, r3, b0, b1, b2, b3, 0] 4 0) (if 4 < 4 then List.getD [c0, c1, c2, c3] 4 0 else 0) d3) = some (r4, d4) from e4, Option.bind_some] at k4
  rw [show (add64 (List.getD [r0, r1, r2, r3, r4, b1, b2, b3, 0] 5 0) (if 5 < 4 then List.getD [c0, c1, c2, c3] 5 0 else 0) d4) = some (r5, d5) from e5, Option.bind_some] at k5
  rw [show (add64 (List.getD [r0, r1, r2, r3, r4, r5, b2, b3, 0] 6 0) (if 6 < 4 then List.getD [c0, c1, c2, c3] 6 0 else 0) d5) = some (r6, d6) from e6, Option.bind_some] at k6
  rw [show (add64 (List.getD [r0, r1, r2, r3, r4, r5, r6, b3, 0] 7 0) (if 7 < 4 then List.getD [c0, c1, c2, c3] 7 0 else 0) d6) = some (r7, d7) from e7, Option.bind_some] at k7
  rw [show (add64 (List.getD [r0, r1, r2, r3, r4, r5, r6, r7, 0] 8 0) (if 8 < 4 then List.getD [c0, c1, c2, c3] 8 0 else 0) d7) = some (r8, d8) from e8, Option.bind_some] at k8
  have hl : B4 r0 r1 r2 r3 := ⟨u0, u1, u2, u3⟩
  have hh : B4 r4 r5 r6 r7 := ⟨u4, u5, u6, u7⟩
  have bl := W4_bd hl; have bh := W4_bd hh
  have tot : W4 r0 r1 r2 r3 + W4 r4 r5 r6 r7 * (115792089237316195423570985008687907853269984665640564039457584007913129639936 : Int) + d7 * ((115792089237316195423570985008687907853269984665640564039457584007913129639936 : Int) * (115792089237316195423570985008687907853269984665640564039457584007913129639936 : Int)) = lo + hi * (115792089237316195423570985008687907853269984665640564039457584007913129639936 : Int) + z := by
    rw [← va, ← vb, ← vc]; unfold W4; omega
  have t2 : lo + hi * (115792089237316195423570985008687907853269984665640564039457584007913129639936 : Int) + z < (115792089237316195423570985008687907853269984665640564039457584007913129639936 : Int) * (115792089237316195423570985008687907853269984665640564039457584007913129639936 : Int) := by omega
  have d70 : d7 = 0 := by omega
  have r80 : r8 = 0 := by omega
  rw [r80] at k8
  refine ⟨W4 r0 r1 r2 r3, W4 r4 r5 r6 r7, ?_, bl, bh, by rw [d70] at tot; omega⟩
  rw [← words4_W hl, ← words4_W hh]
  exact k0.trans (k1.trans (k2.trans (k3.trans (k4.trans (k5.trans (k6.trans (k7.trans (k8.trans (p2_end _ _ d8 0)))))))))
theorem p4_eq (a0 a1 a2 a3 b0 b1 b2 b3 : Int) : scalar_product_l4 ([a0, a1, a2, a3] ++ [b0, b1, b2, b3] ++ [0]) (((72 : Int) - (0 : Int)).toNat + 1) [] 0 =
    some (((List.range 32).map fun i => IntKind.u8.wrap (shr .u64 ([a0, a1, a2, a3].getD (i / 8) 0) ((8 * (i % 8) : Nat) : Int))) ++ ((List.range 32).map fun i => IntKind.u8.wrap (shr .u64 ([b0, b1, b2, b3].getD (i / 8) 0) ((8 * (i % 8) : Nat) : Int))) ++ List.replicate 8 0) := by kernel_rfl
theorem p4_ok (lo hi : Int) : scalar_product_l4 (words4 lo ++ words4 hi ++ [0]) (((72 : Int) - (0 : Int)).toNat + 1) [] 0 = some (leB 32 lo ++ leB 32 hi ++ List.replicate 8 0) :=
  (p4_eq _ _ _ _ _ _ _ _).trans (by rw [← leB_words lo, ← leB_words hi]; rfl)
theorem leV_app : ∀ a b : List Int, leV (a ++ b) = leV a + 256 ^ a.length * leV b
  | [], b => by show leV b = 0 + 256 ^ 0 * leV b; rw [Int.pow_zero]; omega
  | x :: a, b => by
    show x + 256 * leV (a ++ b) = x + 256 * leV a + 256 ^ (a.length + 1) * leV b
    rw [leV_app a b, Int.pow_succ]; grind
theorem product_ok (x y z : Int) (hx : 0 ≤ x ∧ x < (115792089237316195423570985008687907853269984665640564039457584007913129639936 : Int)) (hy : 0 ≤ y ∧ y < (115792089237316195423570985008687907853269984665640564039457584007913129639936 : Int)) (hz : 0 ≤ z ∧ z < (115792089237316195423570985008687907853269984665640564039457584007913129639936 : Int)) :
    ∃ l, scalar_product (words4 x) (words4 y) (words4 z) = some l ∧ Bytes l ∧ l.length = 72 ∧ leV l = x * y + z := by
  have pn : 0 ≤ x * y := Int.mul_nonneg hx.1 hy.1
  have pb := prod_le hx.1 (b := (115792089237316195423570985008687907853269984665640564039457584007913129639936 : Int) - 1) (by omega) hy.1 (by omega)
  have hh : x * y / (115792089237316195423570985008687907853269984665640564039457584007913129639936 : Int) + 1 < (115792089237316195423570985008687907853269984665640564039457584007913129639936 : Int) := by
    generalize x * y = p at *
    omega
  obtain ⟨lo', hi', e, b1, b2, q⟩ := p2_ok (x * y % (115792089237316195423570985008687907853269984665640564039457584007913129639936 : Int)) (x * y / (115792089237316195423570985008687907853269984665640564039457584007913129639936 : Int)) z ⟨Int.emod_nonneg _ (by decide), Int.emod_lt_of_pos _ (by decide)⟩ ⟨Int.ediv_nonneg pn (by decide), hh⟩ hz
  refine ⟨leB 32 lo' ++ leB 32 hi' ++ List.replicate 8 0, ?_, ?_, by simp [leB], ?_⟩
  · unfold scalar_product
    rw [p0_ok x y _ hx hy, Option.bind_some, e, Option.bind_some, p4_ok, Option.bind_some]
  · intro v hv
    rw [List.mem_append, List.mem_append] at hv
    rcases hv with (hv | hv) | hv
    · exact (leB_bytes 32 _).2 v hv
    · exact (leB_bytes 32 _).2 v hv
    · rw [List.eq_of_mem_replicate hv]; decide
  · rw [leV_app, leV_app, leV_leB, leV_leB]
    have z8 : leV (List.replicate 8 0) = 0 := by decide
    have p32 : (256 : Int) ^ 32 = (115792089237316195423570985008687907853269984665640564039457584007913129639936 : Int) := by decide
    have l32 : (leB 32 lo').length = 32 := by simp [leB]
    rw [z8, l32, p32, Int.emod_eq_of_lt b1.1 b1.2, Int.emod_eq_of_lt b2.1 b2.2]
    have := Int.emod_add_mul_ediv (x * y) (115792089237316195423570985008687907853269984665640564039457584007913129639936 : Int)
    generalize x * y = p at *
    omega
theorem smul {a b c : List Int} (ha : Bytes32 a) (hb : Bytes32 b) (hc : Bytes32 c) : scalar_MulAdd a b c = some (fs (leV a * leV b + leV c)) := by
  obtain ⟨l, e, h1, h2, h3⟩ := product_ok (leV a) (leV b) (leV c) (leV_bd ha) (leV_bd hb) (leV_bd hc)
  unfold scalar_MulAdd
  rw [sof ha, Option.bind_some, sof hb, Option.bind_some, sof hc, Option.bind_some, e, Option.bind_some, reduced_ok l h1 (by rw [h2]; decide), Option.bind_some, sbytes, Option.bind_some, h3]; rfl
end Go.Sc
