/- The page's numbers of four words: sums, differences, what is left modulo p, bytes. -/
import Derived.Test.YtdcdanfeepncmaaPnJ
namespace Go.Pn
open Go Go.Gw Go.Proofs.Sb.D
abbrev m64 : Int := 18446744073709551616
def W4 (x0 x1 x2 x3 : Int) : Int := x0 + x1 * 18446744073709551616 + x2 * 340282366920938463463374607431768211456 + x3 * 6277101735386680763835789423207666416102355444464034512896
structure B4 (x0 x1 x2 x3 : Int) : Prop where
  h0 : 0 ≤ x0 ∧ x0 < 18446744073709551616
  h1 : 0 ≤ x1 ∧ x1 < 18446744073709551616
  h2 : 0 ≤ x2 ∧ x2 < 18446744073709551616
  h3 : 0 ≤ x3 ∧ x3 < 18446744073709551616
theorem words4_W {x0 x1 x2 x3 : Int} (h : B4 x0 x1 x2 x3) : [x0, x1, x2, x3] = words4 (W4 x0 x1 x2 x3) := by
  obtain ⟨a0, a1, a2, a3⟩ := h
  unfold words4 W4
  congr 1
  · omega
  · congr 1
    · omega
    · congr 1
      · omega
      · congr 1; omega
theorem W4_bd {x0 x1 x2 x3 : Int} (h : B4 x0 x1 x2 x3) : 0 ≤ W4 x0 x1 x2 x3 ∧ W4 x0 x1 x2 x3 < 115792089237316195423570985008687907853269984665640564039457584007913129639936 := by
  obtain ⟨a0, a1, a2, a3⟩ := h
  unfold W4; omega
/-- any number below 2^256 is four words -/
theorem words4_ex (v : Int) (h0 : 0 ≤ v) (h1 : v < 115792089237316195423570985008687907853269984665640564039457584007913129639936) : ∃ x0 x1 x2 x3, words4 v = [x0, x1, x2, x3] ∧ B4 x0 x1 x2 x3 ∧ W4 x0 x1 x2 x3 = v := by
  refine ⟨_, _, _, _, rfl, ⟨by omega, by omega, by omega, by omega⟩, ?_⟩
  unfold W4; omega
theorem sub_step (a b m : List Int) (c : Int) (k i : Nat) (hi : i < 4) : ref04_sub_l0 a b (k + 1) m c (i : Int) =
    (sub64 (a.getD i 0) (b.getD i 0) c).bind fun q => ref04_sub_l0 a b k (m.set i q.1) q.2 ((i + 1 : Nat) : Int) := by
  have ci : i = 0 ∨ i = 1 ∨ i = 2 ∨ i = 3 := by omega
  rcases ci with rfl | rfl | rfl | rfl <;> (show _ = _; kernel_rfl)
theorem sub_end (a b m : List Int) (c : Int) (k : Nat) : ref04_sub_l0 a b (k + 1) m c 4 = some (m, c) := by kernel_rfl
theorem add_step (a b m : List Int) (c : Int) (k i : Nat) (hi : i < 4) : ref04_add_l0 a b (k + 1) m c (i : Int) =
    (add64 (a.getD i 0) (b.getD i 0) c).bind fun q => ref04_add_l0 a b k (m.set i q.1) q.2 ((i + 1 : Nat) : Int) := by
  have ci : i = 0 ∨ i = 1 ∨ i = 2 ∨ i = 3 := by omega
  rcases ci with rfl | rfl | rfl | rfl <;> (show _ = _; kernel_rfl)
theorem add_end (a b m : List Int) (c : Int) (k : Nat) : ref04_add_l0 a b (k + 1) m c 4 = some (m, c) := by kernel_rfl
theorem sub64_ok (x y c : Int) (hx : 0 ≤ x ∧ x < 18446744073709551616) (hy : 0 ≤ y ∧ y < 18446744073709551616) (hc : 0 ≤ c ∧ c ≤ 1) :
    ∃ r d, sub64 x y c = some (r, d) ∧ (0 ≤ r ∧ r < 18446744073709551616) ∧ (0 ≤ d ∧ d ≤ 1) ∧ r = x - y - c + d * 18446744073709551616 := by
  refine ⟨_, _, by unfold sub64; rw [if_pos ⟨hx.1, hy, hc⟩], by omega, ?_, ?_⟩ <;> split <;> omega
theorem add64_ok' (x y c : Int) (hx : 0 ≤ x ∧ x < 18446744073709551616) (hy : 0 ≤ y ∧ y < 18446744073709551616) (hc : 0 ≤ c ∧ c ≤ 1) :
    ∃ r d, add64 x y c = some (r, d) ∧ (0 ≤ r ∧ r < 18446744073709551616) ∧ (0 ≤ d ∧ d ≤ 1) ∧ r + d * 18446744073709551616 = x + y + c := by
  refine ⟨_, _, by unfold add64; rw [if_pos ⟨hx.1, hy.1, hc⟩], by omega, by omega, by omega⟩
theorem rsub (x y : Int) (hx : 0 ≤ x ∧ x < 115792089237316195423570985008687907853269984665640564039457584007913129639936) (hy : 0 ≤ y ∧ y < 115792089237316195423570985008687907853269984665640564039457584007913129639936) : ref04_sub (words4 x) (words4 y) = some (words4 ((x - y) % 115792089237316195423570985008687907853269984665640564039457584007913129639936), if x < y then 1 else 0) := by
  obtain ⟨a0, a1, a2, a3, ea, ⟨p0, p1, p2, p3⟩, va⟩ := words4_ex x hx.1 hx.2
  obtain ⟨b0, b1, b2, b3, eb, ⟨q0, q1, q2, q3⟩, vb⟩ := words4_ex y hy.1 hy.2
  rw [ea, eb]
  obtain ⟨r0, d0, e0, u0, v0, w0⟩ := sub64_ok a0 b0 0 p0 q0 (by decide)
  obtain ⟨r1, d1, e1, u1, v1, w1⟩ := sub64_ok a1 b1 d0 p1 q1 v0
  obtain ⟨r2, d2, e2, u2, v2, w2⟩ := sub64_ok a2 b2 d1 p2 q2 v1
  obtain ⟨r3, d3, e3, u3, v3, w3⟩ := sub64_ok a3 b3 d2 p3 q3 v2
  have k0 := sub_step [a0, a1, a2, a3] [b0, b1, b2, b3] (List.replicate 4 0) 0 4 0 (by decide)
  have k1 := sub_step [a0, a1, a2, a3] [b0, b1, b2, b3] ((List.replicate 4 0).set 0 r0) d0 3 1 (by decide)
  have k2 := sub_step [a0, a1, a2, a3] [b0, b1, b2, b3] (((List.replicate 4 0).set 0 r0).set 1 r1) d1 2 2 (by decide)
  have k3 := sub_step [a0, a1, a2, a3] [b0, b1, b2, b3] ((((List.replicate 4 0).set 0 r0).set 1 r1).set 2 r2) d2 1 3 (by decide)
  simp only [List.getD_cons_zero, List.getD_cons_succ] at k0 k1 k2 k3
  rw [e0, Option.bind_some] at k0
  rw [e1, Option.bind_some] at k1
  rw [e2, Option.bind_some] at k2
  rw [e3, Option.bind_some] at k3
  have e : ref04_sub_l0 [a0, a1, a2, a3] [b0, b1, b2, b3] (((4 : Int) - (0 : Int)).toNat + 1) (List.replicate 4 0) 0 0 = some ([r0, r1, r2, r3], d3) :=
    k0.trans (k1.trans (k2.trans (k3.trans (sub_end _ _ _ d3 0))))
  have hr : B4 r0 r1 r2 r3 := ⟨u0, u1, u2, u3⟩
  have br := W4_bd hr
  have ew : W4 r0 r1 r2 r3 = x - y + d3 * 115792089237316195423570985008687907853269984665640564039457584007913129639936 := by rw [← va, ← vb]; unfold W4; omega
  unfold ref04_sub
  rw [e, Option.bind_some, words4_W hr, ew]
  simp only [Option.some.injEq, Prod.mk.injEq]
  constructor
  · congr 1; omega
  · split <;> omega
theorem radd (x y : Int) (hx : 0 ≤ x ∧ x < 115792089237316195423570985008687907853269984665640564039457584007913129639936) (hy : 0 ≤ y ∧ y < 115792089237316195423570985008687907853269984665640564039457584007913129639936) : ref04_add (words4 x) (words4 y) = some (words4 ((x + y) % 115792089237316195423570985008687907853269984665640564039457584007913129639936), (x + y) / 115792089237316195423570985008687907853269984665640564039457584007913129639936) := by
  obtain ⟨a0, a1, a2, a3, ea, ⟨p0, p1, p2, p3⟩, va⟩ := words4_ex x hx.1 hx.2
  obtain ⟨b0, b1, b2, b3, eb, ⟨q0, q1, q2, q3⟩, vb⟩ := words4_ex y hy.1 hy.2
  rw [ea, eb]
  obtain ⟨r0, d0, e0, u0, v0, w0⟩ := add64_ok' a0 b0 0 p0 q0 (by decide)
  obtain ⟨r1, d1, e1, u1, v1, w1⟩ := add64_ok' a1 b1 d0 p1 q1 v0
  obtain ⟨r2, d2, e2, u2, v2, w2⟩ := add64_ok' a2 b2 d1 p2 q2 v1
  obtain ⟨r3, d3, e3, u3, v3, w3⟩ := add64_ok' a3 b3 d2 p3 q3 v2
  have k0 := add_step [a0, a1, a2, a3] [b0, b1, b2, b3] (List.replicate 4 0) 0 4 0 (by decide)
  have k1 := add_step [a0, a1, a2, a3] [b0, b1, b2, b3] ((List.replicate 4 0).set 0 r0) d0 3 1 (by decide)
  have k2 := add_step [a0, a1, a2, a3] [b0, b1, b2, b3] (((List.replicate 4 0).set 0 r0).set 1 r1) d1 2 2 (by decide)
  have k3 := add_step [a0, a1, a2, a3] [b0, b1, b2, b3] ((((List.replicate 4 0).set 0 r0).set 1 r1).set 2 r2) d2 1 3 (by decide)
  simp only [List.getD_cons_zero, List.getD_cons_succ] at k0 k1 k2 k3
  rw [e0, Option.bind_some] at k0
  rw [e1, Option.bind_some] at k1
  rw [e2, Option.bind_some] at k2
  rw [e3, Option.bind_some] at k3
  have e : ref04_add_l0 [a0, a1, a2, a3] [b0, b1, b2, b3] (((4 : Int) - (0 : Int)).toNat + 1) (List.replicate 4 0) 0 0 = some ([r0, r1, r2, r3], d3) :=
    k0.trans (k1.trans (k2.trans (k3.trans (add_end _ _ _ d3 0))))
  have hr : B4 r0 r1 r2 r3 := ⟨u0, u1, u2, u3⟩
  have br := W4_bd hr
  have ew : W4 r0 r1 r2 r3 = x + y - d3 * 115792089237316195423570985008687907853269984665640564039457584007913129639936 := by rw [← va, ← vb]; unfold W4; omega
  unfold ref04_add
  rw [e, Option.bind_some, words4_W hr, ew]
  simp only [Option.some.injEq, Prod.mk.injEq]
  constructor
  · congr 1; omega
  · omega
theorem rless (x y : Int) (hx : 0 ≤ x ∧ x < 115792089237316195423570985008687907853269984665640564039457584007913129639936) (hy : 0 ≤ y ∧ y < 115792089237316195423570985008687907853269984665640564039457584007913129639936) : ref04_less (words4 x) (words4 y) = some (decide (x < y)) := by
  unfold ref04_less
  rw [rsub x y hx hy, Option.bind_some]
  by_cases h : x < y <;> simp [h]
theorem rP : ref04_P = some (words4 pw) := by kernel_rfl
theorem rmod_step (x : Int) (k i : Nat) (hi : i < 3) (hx : 0 ≤ x ∧ x < 115792089237316195423570985008687907853269984665640564039457584007913129639936) : ref04_Mod_l0 (k + 1) (words4 x) (i : Int) = ref04_Mod_l0 k (words4 (if x < pw then x else x - pw)) ((i + 1 : Nat) : Int) := by
  have hp : (0 : Int) ≤ pw ∧ pw < 115792089237316195423570985008687907853269984665640564039457584007913129639936 := by decide
  have hi' : IntKind.i64.wrap ((i : Int) + 1) = ((i + 1 : Nat) : Int) := by
    have ci : i = 0 ∨ i = 1 ∨ i = 2 := by omega
    rcases ci with rfl | rfl | rfl <;> decide
  have hd : decide ((i : Int) < 3) = true := decide_eq_true (by omega)
  rw [ref04_Mod_l0, hd, if_pos rfl, rP, Option.bind_some, rless x pw hx hp, Option.bind_some, hi']
  by_cases h : x < pw
  · simp [h]
  · simp only [h, decide_false, Bool.not_false, if_true, Option.bind_some, if_false]
    rw [rsub x pw hx hp, Option.bind_some]
    have : (x - pw) % 115792089237316195423570985008687907853269984665640564039457584007913129639936 = x - pw := Int.emod_eq_of_lt (by omega) (by omega)
    rw [this]
theorem rmod (x : Int) (hx : 0 ≤ x ∧ x < 115792089237316195423570985008687907853269984665640564039457584007913129639936) : ref04_Mod (words4 x) = some (words4 (x % pw)) := by
  unfold ref04_Mod
  have k0 := rmod_step x 3 0 (by decide) hx
  have hp : pw = 57896044618658097711785492504343953926634992332820282019728792003956564819949 := rfl
  generalize h1 : (if x < pw then x else x - pw) = x1 at *
  have b1 : 0 ≤ x1 ∧ x1 < 115792089237316195423570985008687907853269984665640564039457584007913129639936 := by rw [← h1]; split <;> omega
  have k1 := rmod_step x1 2 1 (by decide) b1
  generalize h2 : (if x1 < pw then x1 else x1 - pw) = x2 at *
  have b2 : 0 ≤ x2 ∧ x2 < 115792089237316195423570985008687907853269984665640564039457584007913129639936 := by rw [← h2]; split <;> omega
  have k2 := rmod_step x2 1 2 (by decide) b2
  generalize h3 : (if x2 < pw then x2 else x2 - pw) = x3 at *
  have ke : ref04_Mod_l0 1 (words4 x3) 3 = some (words4 x3) := by kernel_rfl
  have e : ref04_Mod_l0 (((3 : Int) - (0 : Int)).toNat + 1) (words4 x) 0 = some (words4 x3) := k0.trans (k1.trans (k2.trans ke))
  have : x3 = x % pw := by
    clear e ke k2 k1 k0
    rw [hp] at h1 h2 h3 ⊢
    split at h1 <;> split at h2 <;> split at h3 <;> omega
  rw [e, Option.bind_some, this]
theorem mod_bd (x : Int) : 0 ≤ x % pw ∧ x % pw < pw := ⟨Int.emod_nonneg x (by decide), Int.emod_lt_of_pos x (by decide)⟩
theorem mod_bd' (x : Int) : 0 ≤ x % pw ∧ x % pw < 115792089237316195423570985008687907853269984665640564039457584007913129639936 := ⟨(mod_bd x).1, Int.lt_trans (mod_bd x).2 (by decide)⟩
theorem rbytes_eq (w : List Int) : ref04_Bytes_l0 w (((32 : Int) - (0 : Int)).toNat + 1) (List.replicate 32 0) 0 =
    some ((List.range 32).map fun i => IntKind.u8.wrap (shr .u64 (w.getD (i / 8) 0) ((8 * (i % 8) : Nat) : Int))) := by kernel_rfl
theorem rbytes (v : Int) : ref04_Bytes (words4 v) = some (leB 32 v) := by
  unfold ref04_Bytes; rw [rbytes_eq, leB_words]; rfl
theorem rof {b : List Int} (h : Bytes32 b) : ref04_Of b = some (words4 (leV b)) := by
  unfold ref04_Of; rw [rof_l0_eq, orw_words h]; rfl
theorem radd_mod (x y : Int) (hx : 0 ≤ x ∧ x < 115792089237316195423570985008687907853269984665640564039457584007913129639936) (hy : 0 ≤ y ∧ y < 115792089237316195423570985008687907853269984665640564039457584007913129639936) : ref04_Add (words4 x) (words4 y) = some (words4 ((x + y) % pw)) := by
  unfold ref04_Add
  rw [rmod x hx, Option.bind_some, rmod y hy, Option.bind_some, radd _ _ (mod_bd' x) (mod_bd' y), Option.bind_some]
  have bx := mod_bd x; have bz := mod_bd y
  have hp : pw = 57896044618658097711785492504343953926634992332820282019728792003956564819949 := rfl
  have : (x % pw + y % pw) % 115792089237316195423570985008687907853269984665640564039457584007913129639936 = x % pw + y % pw := Int.emod_eq_of_lt (by omega) (by omega)
  simp only [this]
  rw [rmod _ (by omega), Option.bind_some, ← Int.add_emod]
theorem rsub_mod (x y : Int) (hx : 0 ≤ x ∧ x < 115792089237316195423570985008687907853269984665640564039457584007913129639936) (hy : 0 ≤ y ∧ y < 115792089237316195423570985008687907853269984665640564039457584007913129639936) : ref04_Sub (words4 x) (words4 y) = some (words4 ((x - y) % pw)) := by
  unfold ref04_Sub
  have bx := mod_bd x; have bz := mod_bd y
  have hp : pw = 57896044618658097711785492504343953926634992332820282019728792003956564819949 := rfl
  rw [rmod x hx, Option.bind_some, rP, Option.bind_some, radd _ _ (mod_bd' x) (by decide), Option.bind_some]
  have : (x % pw + pw) % 115792089237316195423570985008687907853269984665640564039457584007913129639936 = x % pw + pw := Int.emod_eq_of_lt (by omega) (by omega)
  simp only [this]
  rw [rmod y hy, Option.bind_some, rsub _ _ (by omega) (mod_bd' y), Option.bind_some]
  have : (x % pw + pw - y % pw) % 115792089237316195423570985008687907853269984665640564039457584007913129639936 = x % pw + pw - y % pw := Int.emod_eq_of_lt (by omega) (by omega)
  simp only [this]
  rw [rmod _ (by omega), Option.bind_some]
  congr 2
  have : x % pw + pw - y % pw = x % pw - y % pw + pw := by omega
  rw [this, Int.add_emod_right, ← Int.sub_emod]
end Go.Pn
