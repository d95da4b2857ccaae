/- The layer 'field': what each function answers, as bytes of a number modulo p. -/
import Derived.Test.YtdcdanfeepncmaaMPnA
import Derived.Test.YtdcdanfeepncmaaGw12
namespace Go.Pn
open Go Go.Gw Go.Proofs.Sb.D
theorem leB_succ (n : Nat) (v : Int) : leB (n + 1) v = v % 256 :: leB n (v / 256) := by
  unfold leB
  rw [List.range_succ_eq_map, List.map_cons, List.map_map]
  congr 1
  · simp
  · apply List.map_congr_left
    intro i _
    have : (2 : Int) ^ (8 * (i + 1)) = 256 * 2 ^ (8 * i) := by
      rw [Nat.mul_add, Int.pow_add, Int.mul_comm]; rfl
    simp only [Function.comp, Nat.succ_eq_add_one]
    rw [this, Int.ediv_ediv_of_nonneg (by decide)]
theorem leV_leB (n : Nat) : ∀ v : Int, leV (leB n v) = v % 256 ^ n := by
  induction n with
  | zero => intro v; simp [leB, leV]
  | succ n ih =>
    intro v
    rw [leB_succ, leV, ih, Int.pow_succ, Int.mul_comm (256 ^ n)]
    have hp : (0 : Int) < 256 ^ n := Int.pow_pos (by decide)
    generalize (256 : Int) ^ n = q at *
    rw [Int.emod_def (v / 256), Int.emod_def v (256 * q), Int.ediv_ediv_of_nonneg (by decide), Int.mul_sub]
    have : 256 * (q * (v / (256 * q))) = 256 * q * (v / (256 * q)) := by rw [Int.mul_assoc]
    omega
theorem leB_bytes (n : Nat) (v : Int) : (leB n v).length = n ∧ ∀ x ∈ leB n v, 0 ≤ x ∧ x < 256 := by
  unfold leB
  refine ⟨by simp, ?_⟩
  intro x hx
  obtain ⟨i, _, rfl⟩ := List.mem_map.1 hx
  omega
/-- the 32 bytes of a number modulo p -/
def fe (v : Int) : List Int := leB 32 (v % pw)
theorem bfe (v : Int) : Bytes32 (fe v) := leB_bytes 32 _
theorem leV_fe (v : Int) : leV (fe v) = v % pw := by
  unfold fe; rw [leV_leB]
  have : (256 : Int) ^ 32 = 115792089237316195423570985008687907853269984665640564039457584007913129639936 := by decide
  rw [this]
  have h1 := Int.emod_nonneg v (by decide : pw ≠ 0)
  have h2 := Int.emod_lt_of_pos v (by decide : 0 < pw)
  exact Int.emod_eq_of_lt h1 (Int.lt_trans h2 (by decide))
theorem fe_eq {x y : Int} (h : x % pw = y % pw) : fe x = fe y := by unfold fe; rw [h]
theorem fe_mod (x : Int) : fe (x % pw) = fe x := fe_eq (Int.emod_emod_of_dvd _ (Int.dvd_refl _))
theorem fe_add_l (x y : Int) : fe (x % pw + y) = fe (x + y) := fe_eq (by rw [Int.emod_add_emod])
theorem fe_add_r (x y : Int) : fe (x + y % pw) = fe (x + y) := fe_eq (by rw [Int.add_emod_emod])
theorem fe_sub_l (x y : Int) : fe (x % pw - y) = fe (x - y) := fe_eq (by rw [Int.emod_sub_emod])
theorem fe_sub_r (x y : Int) : fe (x - y % pw) = fe (x - y) := fe_eq (by rw [Int.sub_emod_emod])
theorem fe_mul_l (x y : Int) : fe (x % pw * y) = fe (x * y) := fe_eq (by rw [Int.mul_emod, Int.emod_emod_of_dvd _ (Int.dvd_refl _), ← Int.mul_emod])
theorem fe_mul_r (x y : Int) : fe (x * (y % pw)) = fe (x * y) := fe_eq (by rw [Int.mul_emod, Int.emod_emod_of_dvd _ (Int.dvd_refl _), ← Int.mul_emod])
theorem fmod {a : List Int} (ha : Bytes32 a) : field_Mod a = some (fe (leV a)) := by
  obtain ⟨l, e, r⟩ := of_ok ha
  unfold field_Mod; rw [e, Option.bind_some, nbytes_rep r]; rfl
theorem fadd {a b : List Int} (ha : Bytes32 a) (hb : Bytes32 b) : field_Add a b = some (fe (leV a + leV b)) := by
  obtain ⟨l, e, r⟩ := of_ok ha; obtain ⟨m, f, s⟩ := of_ok hb; obtain ⟨k, g, t⟩ := add_ok r s
  unfold field_Add; rw [e, Option.bind_some, f, Option.bind_some, g, Option.bind_some, nbytes_rep t]; rfl
theorem fsub {a b : List Int} (ha : Bytes32 a) (hb : Bytes32 b) : field_Sub a b = some (fe (leV a - leV b)) := by
  obtain ⟨l, e, r⟩ := of_ok ha; obtain ⟨m, f, s⟩ := of_ok hb; obtain ⟨k, g, t⟩ := sub_ok r s
  unfold field_Sub; rw [e, Option.bind_some, f, Option.bind_some, g, Option.bind_some, nbytes_rep t]; rfl
theorem fmul {a b : List Int} (ha : Bytes32 a) (hb : Bytes32 b) : field_Mul a b = some (fe (leV a * leV b)) := by
  obtain ⟨l, e, r⟩ := of_ok ha; obtain ⟨m, f, s⟩ := of_ok hb; obtain ⟨k, g, t⟩ := mul_ok r s
  unfold field_Mul; rw [e, Option.bind_some, f, Option.bind_some, g, Option.bind_some, nbytes_rep t]; rfl
theorem fcheck {a : List Int} (ha : Bytes32 a) : field_Check a = some (decide (fe (leV a) = a)) := by
  unfold field_Check; rw [fmod ha]; rfl
theorem fcheck_fe (v : Int) : field_Check (fe v) = some true := by
  rw [fcheck (bfe v), leV_fe, fe_mod]; simp
set_option maxRecDepth 100000 in
theorem wakes4 : law04_wakes = some true := by kernel_rfl
theorem num0 : law04_Num 0 = some (fe 0) := by kernel_rfl
theorem bytes_wf {a : List Int} (h : a.length = 32) (w : ∀ x ∈ a, (Lit.int .u8 x).wf = true) : Bytes32 a :=
  ⟨h, fun x hx => wf_u8 (w x hx)⟩
theorem FieldLaws (a0 a1 a2 : List Int) (l0 : a0.length = 32) (w0 : ∀ x ∈ a0, (Lit.int .u8 x).wf = true) (l1 : a1.length = 32) (w1 : ∀ x ∈ a1, (Lit.int .u8 x).wf = true)
    (l2 : a2.length = 32) (w2 : ∀ x ∈ a2, (Lit.int .u8 x).wf = true) : law04_FieldLaws a0 a1 a2 = some true := by
  have ha := bytes_wf l0 w0; have hb := bytes_wf l1 w1; have hc := bytes_wf l2 w2
  unfold law04_FieldLaws
  simp only [fadd, fmul, fsub, fmod, ha, hb, hc, bfe, Option.bind_some, leV_fe, fe_add_l, fe_add_r, fe_sub_l, fe_mul_l, fe_mul_r, fe_mod, num0, fcheck_fe, wakes4]
  generalize leV a0 = a; generalize leV a1 = b; generalize leV a2 = c
  have e1 : a + b = b + a := Int.add_comm ..
  have e2 : a * b = b * a := Int.mul_comm ..
  have e3 : a + b + c = a + (b + c) := Int.add_assoc ..
  have e4 : a * b * c = a * (b * c) := Int.mul_assoc ..
  have e5 : (a + b) * c = a * c + b * c := Int.add_mul ..
  have e6 : a + b - b = a := Int.add_sub_cancel ..
  have e7 : a - a = 0 := Int.sub_self ..
  have e8 : a - b + b = a := Int.sub_add_cancel ..
  rw [e3, e4, e5, e6, e7, e8, e1, e2]
  simp
end Go.Pn
/- The page's numbers of four words: sums, differences, what is left modulo p, bytes. -/
namespace Go.Pn
open Go Go.Gw Go.Proofs.Sb.D
abbrev m64 : Int := 18446744073709551616
def W4 (x0 x1 x2 x3 : Int) : Int := x0 + x1 * 18446744073709551616 + x2 * 340282366920938463463374607431768211456 + x3 * 6277101735386680763835789423207666416102355444464034512896
structure B4 (x0 x1 x2 x3 : Int) : Prop where
  h0 : 0 ≤ x0 ∧ x0 < 18446744073709551616
  h1 : 0 ≤ x1 ∧ x1 < 18446744073709551616
  h2 : 0 ≤ x2 ∧ x2 < 18446744073709551616
  h3 : 0 ≤ x3 ∧ x3 < 18446744073709551616
theorem words4_W {x0 x1 x2 x3 : Int} (h : B4 x0 x1 x2 x3) : [x0, x1, x2, x3] = words4 (W4 x0 x1 x2 x3) := by
  obtain ⟨a0, a1, a2, a3⟩ := h
  unfold words4 W4
  congr 1
  · omega
  · congr 1
    · omega
    · congr 1
      · omega
      · congr 1; omega
theorem W4_bd {x0 x1 x2 x3 : Int} (h : B4 x0 x1 x2 x3) : 0 ≤ W4 x0 x1 x2 x3 ∧ W4 x0 x1 x2 x3 < 115792089237316195423570985008687907853269984665640564039457584007913129639936 := by
  obtain ⟨a0, a1, a2, a3⟩ := h
  unfold W4; omega
/-- any number below 2^256 is four words -/
theorem words4_ex (v : Int) (h0 : 0 ≤ v) (h1 : v < 115792089237316195423570985008687907853269984665640564039457584007913129639936) : ∃ x0 x1 x2 x3, words4 v = [x0, x1, x2, x3] ∧ B4 x0 x1 x2 x3 ∧ W4 x0 x1 x2 x3 = v := by
  refine ⟨_, _, _, _, rfl, ⟨by omega, by omega, by omega, by omega⟩, ?_⟩
  unfold W4; omega
theorem sub_step (a b m : List Int) (c : Int) (k i : Nat) (hi : i < 4) : ref04_sub_l0 a b (k + 1) m c (i : Int) =
    (sub64 (a.getD i 0) (b.getD i 0) c).bind fun q => ref04_sub_l0 a b k (m.set i q.1) q.2 ((i + 1 : Nat) : Int) := by
  have ci : i = 0 ∨ i = 1 ∨ i = 2 ∨ i = 3 := by omega
  rcases ci with rfl | rfl | rfl | rfl <;> (show _ = _; kernel_rfl)
theorem sub_end (a b m : List Int) (c : Int) (k : Nat) : ref04_sub_l0 a b (k + 1) m c 4 = some (m, c) := by kernel_rfl
theorem add_step (a b m : List Int) (c : Int) (k i : Nat) (hi : i < 4) : ref04_add_l0 a b (k + 1) m c (i : Int) =
    (add64 (a.getD i 0) (b.getD i 0) c).bind fun q => ref04_add_l0 a b k (m.set i q.1) q.2 ((i + 1 : Nat) : Int) := by
  have ci : i = 0 ∨ i = 1 ∨ i = 2 ∨ i = 3 := by omega
  rcases ci with rfl | rfl | rfl | rfl <;> (show _ = _; kernel_rfl)
theorem add_end (a b m : List Int) (c : Int) (k : Nat) : ref04_add_l0 a b (k + 1) m c 4 = some (m, c) := by kernel_rfl
theorem sub64_ok (x y c : Int) (hx : 0 ≤ x ∧ x < 18446744073709551616) (hy : 0 ≤ y ∧ y < 18446744073709551616) (hc : 0 ≤ c ∧ c ≤ 1) :
    ∃ r d, sub64 x y c = some (r, d) ∧ (0 ≤ r ∧ r < 18446744073709551616) ∧ (0 ≤ d ∧ d ≤ 1) ∧ r = x - y - c + d * 18446744073709551616 := by
  refine ⟨_, _, by unfold sub64; rw [if_pos ⟨hx.1, hy, hc⟩], by omega, ?_, ?_⟩ <;> split <;> omega
theorem add64_ok' (x y c : Int) (hx : 0 ≤ x ∧ x < 18446744073709551616) (hy : 0 ≤ y ∧ y < 18446744073709551616) (hc : 0 ≤ c ∧ c ≤ 1) :
    ∃ r d, add64 x y c = some (r, d) ∧ (0 ≤ r ∧ r < 18446744073709551616) ∧ (0 ≤ d ∧ d ≤ 1) ∧ r + d * 18446744073709551616 = x + y + c := by
  refine ⟨_, _, by unfold add64; rw [if_pos ⟨hx.1, hy.1, hc⟩], by omega, by omega, by omega⟩
theorem rsub (x y : Int) (hx : 0 ≤ x ∧ x < 115792089237316195423570985008687907853269984665640564039457584007913129639936) (hy : 0 ≤ y ∧ y < 115792089237316195423570985008687907853269984665640564039457584007913129639936) : ref04_sub (words4 x) (words4 y) = some (words4 ((x - y) % 115792089237316195423570985008687907853269984665640564039457584007913129639936), if x < y then 1 else 0) := by
  obtain ⟨a0, a1, a2, a3, ea, ⟨p0, p1, p2, p3⟩, va⟩ := words4_ex x hx.1 hx.2
  obtain ⟨b0, b1, b2, b3, eb, ⟨q0, q1, q2, q3⟩, vb⟩ := words4_ex y hy.1 hy.2
  rw [ea, eb]
  obtain ⟨r0, d0, e0, u0, v0, w0⟩ := sub64_ok a0 b0 0 p0 q0 (by decide)
  obtain ⟨r1, d1, e1, u1, v1, w1⟩ := sub64_ok a1 b1 d0 p1 q1 v0
  obtain ⟨r2, d2, e2, u2, v2, w2⟩ := sub64_ok a2 b2 d1 p2 q2 v1
  obtain ⟨r3, d3, e3, u3, v3, w3⟩ := sub64_ok a3 b3 d2 p3 q3 v2
  have k0 := sub_step [a0, a1, a2, a3] [b0, b1, b2, b3] (List.replicate 4 0) 0 4 0 (by decide)
  have k1 := sub_step [a0, a1, a2, a3] [b0, b1, b2, b3] ((List.replicate 4 0).set 0 r0) d0 3 1 (by decide)
  have k2 := sub_step [a0, a1, a2, a3] [b0, b1, b2, b3] (((List.replicate 4 0).set 0 r0).set 1 r1) d1 2 2 (by decide)
  have k3 := sub_step [a0, a1, a2, a3] [b0, b1, b2, b3] ((((List.replicate 4 0).set 0 r0).set 1 r1).set 2 r2) d2 1 3 (by decide)
  simp only [List.getD_cons_zero, List.getD_cons_succ] at k0 k1 k2 k3
  rw [e0, Option.bind_some] at k0
  rw [e1, Option.bind_some] at k1
  rw [e2, Option.bind_some] at k2
  rw [e3, Option.bind_some] at k3
  have e : ref04_sub_l0 [a0, a1, a2, a3] [b0, b1, b2, b3] (((4 : Int) - (0 : Int)).toNat + 1) (List.replicate 4 0) 0 0 = some ([r0, r1, r2, r3], d3) :=
    k0.trans (k1.trans (k2.trans (k3.trans (sub_end _ _ _ d3 0))))
  have hr : B4 r0 r1 r2 r3 := ⟨u0, u1, u2, u3⟩
  have br := W4_bd hr
  have ew : W4 r0 r1 r2 r3 = x - y + d3 * 115792089237316195423570985008687907853269984665640564039457584007913129639936 := by rw [← va, ← vb]; unfold W4; omega
  unfold ref04_sub
  rw [e, Option.bind_some, words4_W hr, ew]
  simp only [Option.some.injEq, Prod.mk.injEq]
  constructor
  · congr 1; omega
  · split <;> omega
theorem radd (x y : Int) (hx : 0 ≤ x ∧ x < 115792089237316195423570985008687907853269984665640564039457584007913129639936) (hy : 0 ≤ y ∧ y < 115792089237316195423570985008687907853269984665640564039457584007913129639936) : ref04_add (words4 x) (words4 y) = some (words4 ((x + y) % 115792089237316195423570985008687907853269984665640564039457584007913129639936), (x + y) / 115792089237316195423570985008687907853269984665640564039457584007913129639936) := by
  obtain ⟨a0, a1, a2, a3, ea, ⟨p0, p1, p2, p3⟩, va⟩ := words4_ex x hx.1 hx.2
  obtain ⟨b0, b1, b2, b3, eb, ⟨q0, q1, q2, q3⟩, vb⟩ := words4_ex y hy.1 hy.2
  rw [ea, eb]
  obtain ⟨r0, d0, e0, u0, v0, w0⟩ := add64_ok' a0 b0 0 p0 q0 (by decide)
  obtain ⟨r1, d1, e1, u1, v1, w1⟩ := add64_ok' a1 b1 d0 p1 q1 v0
  obtain ⟨r2, d2, e2, u2, v2, w2⟩ := add64_ok' a2 b2 d1 p2 q2 v1
  obtain ⟨r3, d3, e3, u3, v3, w3⟩ := add64_ok' a3 b3 d2 p3 q3 v2
  have k0 := add_step [a0, a1, a2, a3] [b0, b1, b2, b3] (List.replicate 4 0) 0 4 0 (by decide)
  have k1 := add_step [a0, a1, a2, a3] [b0, b1, b2, b3] ((List.replicate 4 0).set 0 r0) d0 3 1 (by decide)
  have k2 := add_step [a0, a1, a2, a3] [b0, b1, b2, b3] (((List.replicate 4 0).set 0 r0).set 1 r1) d1 2 2 (by decide)
  have k3 := add_step [a0, a1, a2, a3] [b0, b1, b2, b3] ((((List.replicate 4 0).set 0 r0).set 1 r1).set 2 r2) d2 1 3 (by decide)
  simp only [List.getD_cons_zero, List.getD_cons_succ] at k0 k1 k2 k3
  rw [e0, Option.bind_some] at k0
  rw [e1, Option.bind_some] at k1
  rw [e2, Option.bind_some] at k2
  rw [e3, Option.bind_some] at k3
  have e : ref04_add_l0 [a0, a1, a2, a3] [b0, b1, b2, b3] (((4 : Int) - (0 : Int)).toNat + 1) (List.replicate 4 0) 0 0 = some ([r0, r1, r2, r3], d3) :=
    k0.trans (k1.trans (k2.trans (k3.trans (add_end _ _ _ d3 0))))
  have hr : B4 r0 r1 r2 r3 := ⟨u0, u1, u2, u3⟩
  have br := W4_bd hr
  have ew : W4 r0 r1 r2 r3 = x + y - d3 * 115792089237316195423570985008687907853269984665640564039457584007913129639936 := by rw [← va, ← vb]; unfold W4; omega
  unfold ref04_add
  rw [e, Option.bind_some, words4_W hr, ew]
  simp only [Option.some.injEq, Prod.mk.injEq]
  constructor
  · congr 1; omega
  · omega
theorem rless (x y : Int) (hx : 0 ≤ x ∧ x < 115792089237316195423570985008687907853269984665640564039457584007913129639936) (hy : 0 ≤ y ∧ y < 115792089237316195423570985008687907853269984665640564039457584007913129639936) : ref04_less (words4 x) (words4 y) = some (decide (x < y)) := by
  unfold ref04_less
  rw [rsub x y hx hy, Option.bind_some]
  by_cases h : x < y <;> simp [h]
theorem rP : ref04_P = some (words4 pw) := by kernel_rfl
theorem rmod_step (x : Int) (k i : Nat) (hi : i < 3) (hx : 0 ≤ x ∧ x < 115792089237316195423570985008687907853269984665640564039457584007913129639936) : ref04_Mod_l0 (k + 1) (words4 x) (i : Int) = ref04_Mod_l0 k (words4 (if x < pw then x else x - pw)) ((i + 1 : Nat) : Int) := by
  have hp : (0 : Int) ≤ pw ∧ pw < 115792089237316195423570985008687907853269984665640564039457584007913129639936 := by decide
  have hi' : IntKind.i64.wrap ((i : Int) + 1) = ((i + 1 : Nat) : Int) := by
    have ci : i = 0 ∨ i = 1 ∨ i = 2 := by omega
    rcases ci with rfl | rfl | rfl <;> decide
  have hd : decide ((i : Int) < 3) = true := decide_eq_true (by omega)
  rw [ref04_Mod_l0, hd, if_pos rfl, rP, Option.bind_some, rless x pw hx hp, Option.bind_some, hi']
  by_cases h : x < pw
  · simp [h]
  · simp only [h, decide_false, Bool.not_false, if_true, Option.bind_some, if_false]
    rw [rsub x pw hx hp, Option.bind_some]
    have : (x - pw) % 115792089237316195423570985008687907853269984665640564039457584007913129639936 = x - pw := Int.emod_eq_of_lt (by omega) (by omega)
    rw [this]
theorem rmod (x : Int) (hx : 0 ≤ x ∧ x < 115792089237316195423570985008687907853269984665640564039457584007913129639936) : ref04_Mod (words4 x) = some (words4 (x % pw)) := by
  unfold ref04_Mod
  have k0 := rmod_step x 3 0 (by decide) hx
  have hp : pw = 57896044618658097711785492504343953926634992332820282019728792003956564819949 := rfl
  generalize h1 : (if x < pw then x else x - pw) = x1 at *
  have b1 : 0 ≤ x1 ∧ x1 < 115792089237316195423570985008687907853269984665640564039457584007913129639936 := by rw [← h1]; split <;> omega
  have k1 := rmod_step x1 2 1 (by decide) b1
  generalize h2 : (if x1 < pw then x1 else x1 - pw) = x2 at *
  have b2 : 0 ≤ x2 ∧ x2 < 115792089237316195423570985008687907853269984665640564039457584007913129639936 := by rw [← h2]; split <;> omega
  have k2 := rmod_step x2 1 2 (by decide) b2
  generalize h3 : (if x2 < pw then x2 else x2 - pw) = x3 at *
  have ke : ref04_Mod_l0 1 (words4 x3) 3 = some (words4 x3) := by kernel_rfl
  have e : ref04_Mod_l0 (((3 : Int) - (0 : Int)).toNat + 1) (words4 x) 0 = some (words4 x3) := k0.trans (k1.trans (k2.trans ke))
  have : x3 = x % pw := by
    clear e ke k2 k1 k0
    rw [hp] at h1 h2 h3 ⊢
    split at h1 <;> split at h2 <;> split at h3 <;> omega
  rw [e, Option.bind_some, this]
theorem mod_bd (x : Int) : 0 ≤ x % pw ∧ x % pw < pw := ⟨Int.emod_nonneg x (by decide), Int.emod_lt_of_pos x (by decide)⟩
theorem mod_bd' (x : Int) : 0 ≤ x % pw ∧ x % pw < 115792089237316195423570985008687907853269984665640564039457584007913129639936 := ⟨(mod_bd x).1, Int.lt_trans (mod_bd x).2 (by decide)⟩
theorem rbytes_eq (w : List Int) : ref04_Bytes_l0 w (((32 : Int) - (0 : Int)).toNat + 1) (List.replicate 32 0) 0 =
    some ((List.range 32).map fun i => IntKind.u8.wrap (shr .u64 (w.getD (i / 8) 0) ((8 * (i % 8) : Nat) : Int))) := by kernel_rfl
theorem rbytes (v : Int) : ref04_Bytes (words4 v) = some (leB 32 v) := by
  unfold ref04_Bytes; rw [rbytes_eq, leB_words]; rfl
theorem rof {b : List Int} (h : Bytes32 b) : ref04_Of b = some (words4 (leV b)) := by
  unfold ref04_Of; rw [rof_l0_eq, orw_words h]; rfl
theorem radd_mod (x y : Int) (hx : 0 ≤ x ∧ x < 115792089237316195423570985008687907853269984665640564039457584007913129639936) (hy : 0 ≤ y ∧ y < 115792089237316195423570985008687907853269984665640564039457584007913129639936) : ref04_Add (words4 x) (words4 y) = some (words4 ((x + y) % pw)) := by
  unfold ref04_Add
  rw [rmod x hx, Option.bind_some, rmod y hy, Option.bind_some, radd _ _ (mod_bd' x) (mod_bd' y), Option.bind_some]
  have bx := mod_bd x; have bz := mod_bd y
  have hp : pw = 57896044618658097711785492504343953926634992332820282019728792003956564819949 := rfl
  have : (x % pw + y % pw) % 115792089237316195423570985008687907853269984665640564039457584007913129639936 = x % pw + y % pw := Int.emod_eq_of_lt (by omega) (by omega)
  simp only [this]
  rw [rmod _ (by omega), Option.bind_some, ← Int.add_emod]
theorem rsub_mod (x y : Int) (hx : 0 ≤ x ∧ x < 115792089237316195423570985008687907853269984665640564039457584007913129639936) (hy : 0 ≤ y ∧ y < 115792089237316195423570985008687907853269984665640564039457584007913129639936) : ref04_Sub (words4 x) (words4 y) = some (words4 ((x - y) % pw)) := by
  unfold ref04_Sub
  have bx := mod_bd x; have bz := mod_bd y
  have hp : pw = 57896044618658097711785492504343953926634992332820282019728792003956564819949 := rfl
  rw [rmod x hx, Option.bind_some, rP, Option.bind_some, radd _ _ (mod_bd' x) (by decide), Option.bind_some]
  have : (x % pw + pw) % 115792089237316195423570985008687907853269984665640564039457584007913129639936 = x % pw + pw := Int.emod_eq_of_lt (by omega) (by omega)
  simp only [this]
  rw [rmod y hy, Option.bind_some, rsub _ _ (by omega) (mod_bd' y), Option.bind_some]
  have : (x % pw + pw - y % pw) % 115792089237316195423570985008687907853269984665640564039457584007913129639936 = x % pw + pw - y % pw := Int.emod_eq_of_lt (by omega) (by omega)
  simp only [this]
  rw [rmod _ (by omega), Option.bind_some]
  congr 2
  have : x % pw + pw - y % pw = x % pw - y % pw + pw := by omega
  rw [this, Int.add_emod_right, ← Int.sub_emod]
end Go.Pn
/- The page's product of two numbers of four words. -/
namespace Go.Pn
open Go Go.Gw Go.Proofs.Sb.D
theorem t1_step (a b m : List Int) (c : Int) (k i j : Nat) (hi : i < 4) (hj : j < 4) : ref04_times_l1 a b (i : Int) (k + 1) m c (j : Int) =
    (math_bits_Mul64 (a.getD i 0) (b.getD j 0)).bind fun p => (add64 p.2 (m.getD (i + j) 0) 0).bind fun q => (add64 q.1 c 0).bind fun r =>
      ref04_times_l1 a b (i : Int) k (m.set (i + j) r.1) (IntKind.u64.wrap (IntKind.u64.wrap (p.1 + q.2) + r.2)) ((j + 1 : Nat) : Int) := by
  have ci : i = 0 ∨ i = 1 ∨ i = 2 ∨ i = 3 := by omega
  have cj : j = 0 ∨ j = 1 ∨ j = 2 ∨ j = 3 := by omega
  rcases ci with rfl | rfl | rfl | rfl <;> rcases cj with rfl | rfl | rfl | rfl <;> (show _ = _; kernel_rfl)
theorem t1_end (a b m : List Int) (c : Int) (k i : Nat) : ref04_times_l1 a b (i : Int) (k + 1) m c 4 = some (m, c) := by kernel_rfl
theorem t1_cell {a b m : List Int} {c x y o : Int} (k i j : Nat) (hi : i < 4) (hj : j < 4) (ex : a.getD i 0 = x) (ey : b.getD j 0 = y) (eo : m.getD (i + j) 0 = o)
    (hx : 0 ≤ x ∧ x < 18446744073709551616) (hy : 0 ≤ y ∧ y < 18446744073709551616) (ho : 0 ≤ o ∧ o < 18446744073709551616) (hc : 0 ≤ c ∧ c < 18446744073709551616) :
    ∃ r d, ref04_times_l1 a b (i : Int) (k + 1) m c (j : Int) = ref04_times_l1 a b (i : Int) k (m.set (i + j) r) d ((j + 1 : Nat) : Int) ∧
      (0 ≤ r ∧ r < 18446744073709551616) ∧ (0 ≤ d ∧ d < 18446744073709551616) ∧ r + d * 18446744073709551616 = x * y + o + c := by
  rw [t1_step a b m c k i j hi hj, ex, ey, eo, mul64_ok x y hx.1 hx.2 hy.1 hy.2, Option.bind_some]
  have pp := prod_le (x := x) (y := y) (b := 18446744073709551615) hx.1 (by omega) hy.1 (by omega)
  generalize x * y = p at *
  have q0 : 0 ≤ p % 18446744073709551616 := by omega
  have e1 : add64 (p % 18446744073709551616) o 0 = some ((p % 18446744073709551616 + o + 0) % 18446744073709551616, (p % 18446744073709551616 + o + 0) / 18446744073709551616) := by
    unfold add64; rw [if_pos ⟨q0, ho.1, by decide, by decide⟩]
  have e2 : add64 ((p % 18446744073709551616 + o + 0) % 18446744073709551616) c 0 = some (((p % 18446744073709551616 + o + 0) % 18446744073709551616 + c + 0) % 18446744073709551616, ((p % 18446744073709551616 + o + 0) % 18446744073709551616 + c + 0) / 18446744073709551616) := by
    unfold add64; rw [if_pos ⟨by omega, hc.1, by decide, by decide⟩]
  simp only [e1, Option.bind_some, e2]
  have w1 : IntKind.u64.wrap (p / 18446744073709551616 + (p % 18446744073709551616 + o + 0) / 18446744073709551616) = p / 18446744073709551616 + (p % 18446744073709551616 + o + 0) / 18446744073709551616 := u64_id (by omega) (by omega)
  rw [w1, u64_id (by omega) (by omega)]
  exact ⟨_, _, rfl, by omega, by omega, by omega⟩
theorem t1_row {a b m : List Int} {x y0 y1 y2 y3 o0 o1 o2 o3 : Int} (i : Nat) (hi : i < 4) (ex : a.getD i 0 = x) (ey0 : b.getD 0 0 = y0) (ey1 : b.getD 1 0 = y1) (ey2 : b.getD 2 0 = y2) (ey3 : b.getD 3 0 = y3)
    (hm : m.length = 8) (eo0 : m.getD i 0 = o0) (eo1 : m.getD (i + 1) 0 = o1) (eo2 : m.getD (i + 2) 0 = o2) (eo3 : m.getD (i + 3) 0 = o3)
    (hx : 0 ≤ x ∧ x < 18446744073709551616) (hy : B4 y0 y1 y2 y3) (ho : B4 o0 o1 o2 o3) :
    ∃ r0 r1 r2 r3 d, ref04_times_l1 a b (i : Int) (((4 : Int) - (0 : Int)).toNat + 1) m 0 0 = some ((((m.set i r0).set (i + 1) r1).set (i + 2) r2).set (i + 3) r3, d) ∧ B4 r0 r1 r2 r3 ∧ (0 ≤ d ∧ d < 18446744073709551616) ∧
      W4 r0 r1 r2 r3 + d * 115792089237316195423570985008687907853269984665640564039457584007913129639936 = W4 o0 o1 o2 o3 + W4 (x * y0) (x * y1) (x * y2) (x * y3) := by
  obtain ⟨r0, d0, e0, u0, v0, w0⟩ := t1_cell (a := a) (b := b) (m := m) (c := 0) 4 i 0 hi (by decide) ex ey0 eo0 hx hy.h0 ho.h0 (by decide)
  obtain ⟨r1, d1, e1, u1, v1, w1⟩ := t1_cell (a := a) (b := b) (m := m.set i r0) (c := d0) 3 i 1 hi (by decide) ex ey1 (by rw [getD_set_of _ _ _ _ (by omega), if_neg (by omega)]; exact eo1) hx hy.h1 ho.h1 v0
  obtain ⟨r2, d2, e2, u2, v2, w2⟩ := t1_cell (a := a) (b := b) (m := (m.set i r0).set (i + 1) r1) (c := d1) 2 i 2 hi (by decide) ex ey2 (by rw [getD_set_of _ _ _ _ (by rw [List.length_set]; omega), if_neg (by omega), getD_set_of _ _ _ _ (by omega), if_neg (by omega)]; exact eo2) hx hy.h2 ho.h2 v1
  obtain ⟨r3, d3, e3, u3, v3, w3⟩ := t1_cell (a := a) (b := b) (m := ((m.set i r0).set (i + 1) r1).set (i + 2) r2) (c := d2) 1 i 3 hi (by decide) ex ey3 (by rw [getD_set_of _ _ _ _ (by rw [List.length_set, List.length_set]; omega), if_neg (by omega), getD_set_of _ _ _ _ (by rw [List.length_set]; omega), if_neg (by omega), getD_set_of _ _ _ _ (by omega), if_neg (by omega)]; exact eo3) hx hy.h3 ho.h3 v2
  refine ⟨r0, r1, r2, r3, d3, ?_, ⟨u0, u1, u2, u3⟩, v3, ?_⟩
  · exact e0.trans (e1.trans (e2.trans (e3.trans (t1_end a b _ d3 0 i))))
  · unfold W4
    generalize x * y0 = p0 at *; generalize x * y1 = p1 at *; generalize x * y2 = p2 at *; generalize x * y3 = p3 at *
    omega
theorem t0_step (a b m : List Int) (k i : Nat) (hi : i < 4) : ref04_times_l0 a b (k + 1) m (i : Int) =
    (ref04_times_l1 a b (i : Int) (((4 : Int) - (0 : Int)).toNat + 1) m 0 0).bind fun p => ref04_times_l0 a b k (p.1.set (i + 4) p.2) ((i + 1 : Nat) : Int) := by
  have ci : i = 0 ∨ i = 1 ∨ i = 2 ∨ i = 3 := by omega
  rcases ci with rfl | rfl | rfl | rfl <;> (show _ = _; kernel_rfl)
theorem t0_end (a b m : List Int) (k : Nat) : ref04_times_l0 a b (k + 1) m 4 = some m := by kernel_rfl
theorem W4_prod (x0 x1 x2 x3 y0 y1 y2 y3 : Int) : W4 x0 x1 x2 x3 * W4 y0 y1 y2 y3 =
    W4 (x0 * y0) (x0 * y1) (x0 * y2) (x0 * y3) + W4 (x1 * y0) (x1 * y1) (x1 * y2) (x1 * y3) * 18446744073709551616 + W4 (x2 * y0) (x2 * y1) (x2 * y2) (x2 * y3) * 340282366920938463463374607431768211456 + W4 (x3 * y0) (x3 * y1) (x3 * y2) (x3 * y3) * 6277101735386680763835789423207666416102355444464034512896 := by
  unfold W4; grind
theorem rtimes (x y : Int) (hx : 0 ≤ x ∧ x < 115792089237316195423570985008687907853269984665640564039457584007913129639936) (hy : 0 ≤ y ∧ y < 115792089237316195423570985008687907853269984665640564039457584007913129639936) : ref04_times (words4 x) (words4 y) = some (words4 (x * y % 115792089237316195423570985008687907853269984665640564039457584007913129639936) ++ words4 (x * y / 115792089237316195423570985008687907853269984665640564039457584007913129639936)) := by
  obtain ⟨a0, a1, a2, a3, ea, ba, va⟩ := words4_ex x hx.1 hx.2
  obtain ⟨b0, b1, b2, b3, eb, bb, vb⟩ := words4_ex y hy.1 hy.2
  rw [ea, eb]
  have z : (0 : Int) ≤ 0 ∧ (0 : Int) < 18446744073709551616 := by decide
  obtain ⟨r0, r1, r2, r3, d0, e0, br, bd0, w0⟩ := t1_row (a := [a0, a1, a2, a3]) (b := [b0, b1, b2, b3]) (m := [0, 0, 0, 0, 0, 0, 0, 0]) (x := a0) (y0 := b0) (y1 := b1) (y2 := b2) (y3 := b3) (o0 := 0) (o1 := 0) (o2 := 0) (o3 := 0) 0 (by decide) rfl rfl rfl rfl rfl rfl rfl rfl rfl rfl ba.h0 bb ⟨z, z, z, z⟩
  obtain ⟨s0, s1, s2, s3, d1, e1, bs, bd1, w1⟩ := t1_row (a := [a0, a1, a2, a3]) (b := [b0, b1, b2, b3]) (m := [r0, r1, r2, r3, d0, 0, 0, 0]) (x := a1) (y0 := b0) (y1 := b1) (y2 := b2) (y3 := b3) (o0 := r1) (o1 := r2) (o2 := r3) (o3 := d0) 1 (by decide) rfl rfl rfl rfl rfl rfl rfl rfl rfl rfl ba.h1 bb ⟨br.h1, br.h2, br.h3, bd0⟩
  obtain ⟨t0, t1, t2, t3, d2, e2, bt, bd2, w2⟩ := t1_row (a := [a0, a1, a2, a3]) (b := [b0, b1, b2, b3]) (m := [r0, s0, s1, s2, s3, d1, 0, 0]) (x := a2) (y0 := b0) (y1 := b1) (y2 := b2) (y3 := b3) (o0 := s1) (o1 := s2) (o2 := s3) (o3 := d1) 2 (by decide) rfl rfl rfl rfl rfl rfl rfl rfl rfl rfl ba.h2 bb ⟨bs.h1, bs.h2, bs.h3, bd1⟩
  obtain ⟨u0, u1, u2, u3, d3, e3, bu, bd3, w3⟩ := t1_row (a := [a0, a1, a2, a3]) (b := [b0, b1, b2, b3]) (m := [r0, s0, t0, t1, t2, t3, d2, 0]) (x := a3) (y0 := b0) (y1 := b1) (y2 := b2) (y3 := b3) (o0 := t1) (o1 := t2) (o2 := t3) (o3 := d2) 3 (by decide) rfl rfl rfl rfl rfl rfl rfl rfl rfl rfl ba.h3 bb ⟨bt.h1, bt.h2, bt.h3, bd2⟩
  have k0 := t0_step [a0, a1, a2, a3] [b0, b1, b2, b3] [0, 0, 0, 0, 0, 0, 0, 0] 4 0 (by decide)
  have k1 := t0_step [a0, a1, a2, a3] [b0, b1, b2, b3] [r0, r1, r2, r3, d0, 0, 0, 0] 3 1 (by decide)
  have k2 := t0_step [a0, a1, a2, a3] [b0, b1, b2, b3] [r0, s0, s1, s2, s3, d1, 0, 0] 2 2 (by decide)
  have k3 := t0_step [a0, a1, a2, a3] [b0, b1, b2, b3] [r0, s0, t0, t1, t2, t3, d2, 0] 1 3 (by decide)
  rw [e0, Option.bind_some] at k0
  rw [e1, Option.bind_some] at k1
  rw [e2, Option.bind_some] at k2
  rw [e3, Option.bind_some] at k3
  have e : ref04_times_l0 [a0, a1, a2, a3] [b0, b1, b2, b3] (((4 : Int) - (0 : Int)).toNat + 1) (List.replicate 8 0) 0 = some [r0, s0, t0, u0, u1, u2, u3, d3] :=
    k0.trans (k1.trans (k2.trans (k3.trans (t0_end _ _ _ 0))))
  unfold ref04_times
  rw [e, Option.bind_some]
  have hl : B4 r0 s0 t0 u0 := ⟨br.h0, bs.h0, bt.h0, bu.h0⟩
  have hh : B4 u1 u2 u3 d3 := ⟨bu.h1, bu.h2, bu.h3, bd3⟩
  have bl := W4_bd hl; have bh := W4_bd hh
  have tot : x * y = W4 r0 s0 t0 u0 + W4 u1 u2 u3 d3 * 115792089237316195423570985008687907853269984665640564039457584007913129639936 := by
    rw [← va, ← vb, W4_prod]
    generalize W4 (a0 * b0) (a0 * b1) (a0 * b2) (a0 * b3) = p0 at *
    generalize W4 (a1 * b0) (a1 * b1) (a1 * b2) (a1 * b3) = p1 at *
    generalize W4 (a2 * b0) (a2 * b1) (a2 * b2) (a2 * b3) = p2 at *
    generalize W4 (a3 * b0) (a3 * b1) (a3 * b2) (a3 * b3) = p3 at *
    unfold W4 at *; omega
  have e1 : x * y % 115792089237316195423570985008687907853269984665640564039457584007913129639936 = W4 r0 s0 t0 u0 := by rw [tot]; omega
  have e2 : x * y / 115792089237316195423570985008687907853269984665640564039457584007913129639936 = W4 u1 u2 u3 d3 := by rw [tot]; omega
  rw [e1, e2, ← words4_W hl, ← words4_W hh]; rfl
end Go.Pn
/- The page's product modulo p; FieldExact. -/
namespace Go.Pn
open Go Go.Gw Go.Proofs.Sb.D
theorem w38 : [(38 : Int), 0, 0, 0] = words4 38 := by kernel_rfl
theorem word1 (v : Int) (h0 : 0 ≤ v) (h1 : v < 18446744073709551616) : [v, 0, 0, 0] = words4 v := by
  have := words4_W (x0 := v) (x1 := 0) (x2 := 0) (x3 := 0) ⟨⟨h0, h1⟩, by decide, by decide, by decide⟩
  rw [this]; congr 1; unfold W4; omega
theorem words4_getD (v : Int) : [(words4 v).getD 0 0, (words4 v).getD 1 0, (words4 v).getD 2 0, (words4 v).getD 3 0] = words4 v := by kernel_rfl
theorem app_lo (u v : Int) : [(words4 u ++ words4 v).getD 0 0, (words4 u ++ words4 v).getD 1 0, (words4 u ++ words4 v).getD 2 0, (words4 u ++ words4 v).getD 3 0] = words4 u := by kernel_rfl
theorem app_hi (u v : Int) : [(words4 u ++ words4 v).getD 4 0, (words4 u ++ words4 v).getD 5 0, (words4 u ++ words4 v).getD 6 0, (words4 u ++ words4 v).getD 7 0] = words4 v := by kernel_rfl
theorem app_4 (u v : Int) : (words4 u ++ words4 v).getD 4 0 = v % 18446744073709551616 := by kernel_rfl
theorem mul_step (k : Nat) (lo hi : Int) (h0 : 0 ≤ lo ∧ lo < 115792089237316195423570985008687907853269984665640564039457584007913129639936) (h1 : 0 ≤ hi ∧ hi < 115792089237316195423570985008687907853269984665640564039457584007913129639936) :
    ref04_Mul_l0 (k + 1) (words4 lo) (words4 hi) true = ref04_Mul_l0 k (words4 ((lo + 38 * hi) % 115792089237316195423570985008687907853269984665640564039457584007913129639936)) (words4 ((lo + 38 * hi) / 115792089237316195423570985008687907853269984665640564039457584007913129639936)) (decide ((lo + 38 * hi) / 115792089237316195423570985008687907853269984665640564039457584007913129639936 ≠ 0)) := by
  rw [ref04_Mul_l0, if_pos rfl, w38, rtimes hi 38 h1 (by decide), Option.bind_some, app_lo, app_4]
  have e38 : hi * 38 = 38 * hi := Int.mul_comm ..
  rw [e38]
  have hb : 0 ≤ 38 * hi ∧ 38 * hi < 38 * 115792089237316195423570985008687907853269984665640564039457584007913129639936 := by omega
  generalize 38 * hi = t at *
  rw [radd lo (t % 115792089237316195423570985008687907853269984665640564039457584007913129639936) h0 (by omega), Option.bind_some]
  have s1 : (lo + t % 115792089237316195423570985008687907853269984665640564039457584007913129639936) % 115792089237316195423570985008687907853269984665640564039457584007913129639936 = (lo + t) % 115792089237316195423570985008687907853269984665640564039457584007913129639936 := by omega
  have s2 : IntKind.u64.wrap (t / 115792089237316195423570985008687907853269984665640564039457584007913129639936 % 18446744073709551616 + (lo + t % 115792089237316195423570985008687907853269984665640564039457584007913129639936) / 115792089237316195423570985008687907853269984665640564039457584007913129639936) = (lo + t) / 115792089237316195423570985008687907853269984665640564039457584007913129639936 := by rw [w64]; omega
  simp only [s1, s2, List.getD_cons_zero]
  rw [word1 ((lo + t) / 115792089237316195423570985008687907853269984665640564039457584007913129639936) (by omega) (by omega)]
  congr 1
  by_cases hz : (lo + t) / 115792089237316195423570985008687907853269984665640564039457584007913129639936 = 0
  · simp [hz]
  · simp [hz]
theorem mul_done (k : Nat) (lo hi : List Int) : ref04_Mul_l0 (k + 1) lo hi false = some lo := by
  rw [ref04_Mul_l0]; rfl
theorem mod38 (lo hi : Int) : (lo + 38 * hi) % pw = (lo + hi * 115792089237316195423570985008687907853269984665640564039457584007913129639936) % pw := by
  have : lo + hi * 115792089237316195423570985008687907853269984665640564039457584007913129639936 = lo + 38 * hi + pw * (2 * hi) := by unfold pw; omega
  rw [this, Int.add_mul_emod_self_left]
theorem back (s : Int) : s % 115792089237316195423570985008687907853269984665640564039457584007913129639936 + s / 115792089237316195423570985008687907853269984665640564039457584007913129639936 * 115792089237316195423570985008687907853269984665640564039457584007913129639936 = s := by have := Int.emod_add_mul_ediv s 115792089237316195423570985008687907853269984665640564039457584007913129639936; rw [Int.mul_comm] at this; exact this
theorem mul_loop (lo hi : Int) (h0 : 0 ≤ lo ∧ lo < 115792089237316195423570985008687907853269984665640564039457584007913129639936) (h1 : 0 ≤ hi ∧ hi < 115792089237316195423570985008687907853269984665640564039457584007913129639936) :
    ∃ r, ref04_Mul_l0 10 (words4 lo) (words4 hi) true = some (words4 r) ∧ (0 ≤ r ∧ r < 115792089237316195423570985008687907853269984665640564039457584007913129639936) ∧ r % pw = (lo + hi * 115792089237316195423570985008687907853269984665640564039457584007913129639936) % pw := by
  have k1 := mul_step 9 lo hi h0 h1
  have q1 := mod38 lo hi
  generalize hs : lo + 38 * hi = s at *
  have bs : 0 ≤ s ∧ s < 39 * 115792089237316195423570985008687907853269984665640564039457584007913129639936 := by omega
  clear hs
  have r1 : 0 ≤ s % 115792089237316195423570985008687907853269984665640564039457584007913129639936 ∧ s % 115792089237316195423570985008687907853269984665640564039457584007913129639936 < 115792089237316195423570985008687907853269984665640564039457584007913129639936 := by omega
  have r2 : 0 ≤ s / 115792089237316195423570985008687907853269984665640564039457584007913129639936 ∧ s / 115792089237316195423570985008687907853269984665640564039457584007913129639936 < 115792089237316195423570985008687907853269984665640564039457584007913129639936 := by omega
  by_cases z1 : s / 115792089237316195423570985008687907853269984665640564039457584007913129639936 = 0
  · rw [decide_eq_false (by simp [z1]), mul_done] at k1
    have e : s % 115792089237316195423570985008687907853269984665640564039457584007913129639936 = s := by omega
    exact ⟨_, k1, r1, by rw [e, q1]⟩
  rw [decide_eq_true z1] at k1
  have k2 := mul_step 8 _ _ r1 r2
  have q2 := mod38 (s % 115792089237316195423570985008687907853269984665640564039457584007913129639936) (s / 115792089237316195423570985008687907853269984665640564039457584007913129639936)
  rw [back] at q2
  have b2 : 0 ≤ s % 115792089237316195423570985008687907853269984665640564039457584007913129639936 + 38 * (s / 115792089237316195423570985008687907853269984665640564039457584007913129639936) ∧ s % 115792089237316195423570985008687907853269984665640564039457584007913129639936 + 38 * (s / 115792089237316195423570985008687907853269984665640564039457584007913129639936) < 115792089237316195423570985008687907853269984665640564039457584007913129639936 + 1482 := by omega
  generalize s % 115792089237316195423570985008687907853269984665640564039457584007913129639936 + 38 * (s / 115792089237316195423570985008687907853269984665640564039457584007913129639936) = u at *
  have r3 : 0 ≤ u % 115792089237316195423570985008687907853269984665640564039457584007913129639936 ∧ u % 115792089237316195423570985008687907853269984665640564039457584007913129639936 < 115792089237316195423570985008687907853269984665640564039457584007913129639936 := by omega
  have r4 : 0 ≤ u / 115792089237316195423570985008687907853269984665640564039457584007913129639936 ∧ u / 115792089237316195423570985008687907853269984665640564039457584007913129639936 < 115792089237316195423570985008687907853269984665640564039457584007913129639936 := by omega
  by_cases z2 : u / 115792089237316195423570985008687907853269984665640564039457584007913129639936 = 0
  · rw [decide_eq_false (by simp [z2]), mul_done] at k2
    have e : u % 115792089237316195423570985008687907853269984665640564039457584007913129639936 = u := by omega
    exact ⟨_, k1.trans k2, r3, by rw [e, q2, q1]⟩
  rw [decide_eq_true z2] at k2
  have k3 := mul_step 7 _ _ r3 r4
  have q3 := mod38 (u % 115792089237316195423570985008687907853269984665640564039457584007913129639936) (u / 115792089237316195423570985008687907853269984665640564039457584007913129639936)
  rw [back] at q3
  have b3 : 0 ≤ u % 115792089237316195423570985008687907853269984665640564039457584007913129639936 + 38 * (u / 115792089237316195423570985008687907853269984665640564039457584007913129639936) ∧ u % 115792089237316195423570985008687907853269984665640564039457584007913129639936 + 38 * (u / 115792089237316195423570985008687907853269984665640564039457584007913129639936) < 115792089237316195423570985008687907853269984665640564039457584007913129639936 := by omega
  generalize u % 115792089237316195423570985008687907853269984665640564039457584007913129639936 + 38 * (u / 115792089237316195423570985008687907853269984665640564039457584007913129639936) = v at *
  have z3 : v / 115792089237316195423570985008687907853269984665640564039457584007913129639936 = 0 := by omega
  rw [decide_eq_false (by simp [z3]), mul_done] at k3
  have e : v % 115792089237316195423570985008687907853269984665640564039457584007913129639936 = v := by omega
  exact ⟨_, k1.trans (k2.trans k3), by omega, by rw [e, q3, q2, q1]⟩
theorem rmul (x y : Int) (hx : 0 ≤ x ∧ x < 115792089237316195423570985008687907853269984665640564039457584007913129639936) (hy : 0 ≤ y ∧ y < 115792089237316195423570985008687907853269984665640564039457584007913129639936) : ref04_Mul (words4 x) (words4 y) = some (words4 (x * y % pw)) := by
  unfold ref04_Mul
  rw [rtimes x y hx hy, Option.bind_some, app_lo, app_hi]
  have pn : 0 ≤ x * y := Int.mul_nonneg hx.1 hy.1
  have pb : x * y < 115792089237316195423570985008687907853269984665640564039457584007913129639936 * 115792089237316195423570985008687907853269984665640564039457584007913129639936 := by
    have a1 : x * y ≤ x * 115792089237316195423570985008687907853269984665640564039457584007913129639936 := Int.mul_le_mul_of_nonneg_left (Int.le_of_lt hy.2) hx.1
    have a2 : x * 115792089237316195423570985008687907853269984665640564039457584007913129639936 < 115792089237316195423570985008687907853269984665640564039457584007913129639936 * 115792089237316195423570985008687907853269984665640564039457584007913129639936 := Int.mul_lt_mul_of_pos_right hx.2 (by decide)
    omega
  have hh : 0 ≤ x * y / 115792089237316195423570985008687907853269984665640564039457584007913129639936 ∧ x * y / 115792089237316195423570985008687907853269984665640564039457584007913129639936 < 115792089237316195423570985008687907853269984665640564039457584007913129639936 := ⟨Int.ediv_nonneg pn (by decide), Int.ediv_lt_of_lt_mul (by decide) pb⟩
  have hl : 0 ≤ x * y % 115792089237316195423570985008687907853269984665640564039457584007913129639936 ∧ x * y % 115792089237316195423570985008687907853269984665640564039457584007913129639936 < 115792089237316195423570985008687907853269984665640564039457584007913129639936 := ⟨Int.emod_nonneg _ (by decide), Int.emod_lt_of_pos _ (by decide)⟩
  obtain ⟨r, e, br, q⟩ := mul_loop _ _ hl hh
  rw [back] at q
  show (ref04_Mul_l0 10 _ _ true).bind _ = _
  rw [e, Option.bind_some, rmod r br, Option.bind_some, q]
theorem rright {a : List Int} (ha : Bytes32 a) : law04_right a = some (decide (fe (leV a) = a)) := by
  unfold law04_right
  rw [rof ha, Option.bind_some, rmod _ (leV_bd ha), Option.bind_some, rbytes, Option.bind_some]; rfl
theorem FieldExact (a0 a1 : List Int) (l0 : a0.length = 32) (w0 : ∀ x ∈ a0, (Lit.int .u8 x).wf = true) (l1 : a1.length = 32) (w1 : ∀ x ∈ a1, (Lit.int .u8 x).wf = true) : law04_FieldExact a0 a1 = some true := by
  have ha := bytes_wf l0 w0; have hb := bytes_wf l1 w1
  have ba := leV_bd ha; have bb := leV_bd hb
  unfold law04_FieldExact
  have hfe : ∀ v, leB 32 (v % pw) = fe v := fun _ => rfl
  have hm : leV a0 % pw * (leV a1 % pw) % pw = leV a0 * leV a1 % pw := (Int.mul_emod ..).symm
  simp only [rof ha, rof hb, fcheck ha, rright ha, Option.bind_some, fmod ha, rmod _ ba, rmod _ bb, rbytes, fadd ha hb, radd_mod _ _ ba bb, fsub ha hb, rsub_mod _ _ ba bb, fmul ha hb,
    rmul _ _ (mod_bd' _) (mod_bd' _), hm, hfe, beq_self_eq_true, decide_true, if_true, wakes4]
end Go.Pn
/- FieldSmall and FieldEnds: small numbers, and numbers about p. -/
namespace Go.Pn
open Go Go.Gw Go.Proofs.Sb.D
theorem num_eq (n : Int) : law04_Num n = some ([IntKind.u8.wrap (shr .i64 n 0), IntKind.u8.wrap (shr .i64 n 8), IntKind.u8.wrap (shr .i64 n 16), IntKind.u8.wrap (shr .i64 n 24), IntKind.u8.wrap (shr .i64 n 32), IntKind.u8.wrap (shr .i64 n 40), IntKind.u8.wrap (shr .i64 n 48), IntKind.u8.wrap (shr .i64 n 56)] ++ List.replicate 24 0) := by kernel_rfl
theorem leB_zero (n : Nat) : leB n 0 = List.replicate n 0 := by
  induction n with
  | zero => rfl
  | succ n ih => rw [leB_succ]; show 0 :: leB n 0 = _; rw [ih]; rfl
theorem num_ok (n : Int) (h0 : 0 ≤ n) (h1 : n < 9223372036854775808) : law04_Num n = some (fe n) := by
  have e : fe n = leB 32 n := by unfold fe; rw [Int.emod_eq_of_lt h0 (Int.lt_trans h1 (by decide))]
  rw [e, num_eq]
  rw [shr_u _ n 0 1 (by decide) (by decide), shr_u _ n 8 256 (by decide) (by decide), shr_u _ n 16 65536 (by decide) (by decide), shr_u _ n 24 16777216 (by decide) (by decide),
    shr_u _ n 32 4294967296 (by decide) (by decide), shr_u _ n 40 1099511627776 (by decide) (by decide), shr_u _ n 48 281474976710656 (by decide) (by decide), shr_u _ n 56 72057594037927936 (by decide) (by decide)]
  simp only [w8]
  rw [show leB 32 n = leB (24 + 1 + 1 + 1 + 1 + 1 + 1 + 1 + 1) n from rfl, leB_succ, leB_succ, leB_succ, leB_succ, leB_succ, leB_succ, leB_succ, leB_succ]
  have z : n / 256 / 256 / 256 / 256 / 256 / 256 / 256 / 256 = 0 := by omega
  rw [z, leB_zero]
  simp only [List.cons_append, List.nil_append]
  congr 2
  · omega
  congr 1
  congr 1
  · omega
  congr 1
  · omega
  congr 1
  · omega
  congr 1
  · omega
  congr 1
  · omega
  congr 1
  omega
theorem small_band (a : Int) : ∃ x, band .i64 a 1073741823 = x ∧ 0 ≤ x ∧ x < 1073741824 := by
  have h : ((BitVec.ofInt 64 a &&& BitVec.ofInt 64 1073741823).toNat) ≤ 1073741823 := by
    rw [BitVec.toNat_and]; exact Nat.le_trans Nat.and_le_right (by decide)
  refine ⟨_, rfl, ?_⟩
  show 0 ≤ IntKind.i64.wrap ((BitVec.ofInt 64 a &&& BitVec.ofInt 64 1073741823).toNat : Int) ∧ IntKind.i64.wrap ((BitVec.ofInt 64 a &&& BitVec.ofInt 64 1073741823).toNat : Int) < _
  rw [IntWalk.i64_in _ (by omega)]; omega
theorem FieldSmall (a0 a1 : Int) (_w0 : (Lit.int .i64 a0).wf = true) (_w1 : (Lit.int .i64 a1).wf = true) : law04_FieldSmall a0 a1 = some true := by
  obtain ⟨x, ex, hx⟩ := small_band a0
  obtain ⟨y, ey, hy⟩ := small_band a1
  unfold law04_FieldSmall
  rw [ex, ey]
  have pb := prod_le hx.1 (b := 1073741823) (by omega) hy.1 (by omega)
  have w1 : IntKind.i64.wrap (x + y) = x + y := IntWalk.i64_in _ (by omega)
  have w2 : IntKind.i64.wrap (x * y) = x * y := IntWalk.i64_in _ (by omega)
  have n1 := num_ok x hx.1 (by omega)
  have n2 := num_ok y hy.1 (by omega)
  have n3 := num_ok (x + y) (by omega) (by omega)
  have n4 := num_ok (x * y) (by omega) (by omega)
  generalize hM : (if y > x then y else x) = M at *
  generalize hN : (if y < x then y else x) = N at *
  have bM : 0 ≤ M ∧ M < 1073741824 := by rw [← hM]; split <;> omega
  have bN : 0 ≤ N ∧ N ≤ M := by rw [← hM, ← hN]; split <;> split <;> omega
  have w3 : IntKind.i64.wrap (M - N) = M - N := IntWalk.i64_in _ (by omega)
  have n5 := num_ok M bM.1 (by omega)
  have n6 := num_ok N bN.1 (by omega)
  have n7 := num_ok (M - N) (by omega) (by omega)
  simp only [w1, w2, w3, n1, n2, n3, n4, n5, n6, n7, Option.bind_some, fadd, fmul, fsub, bfe, leV_fe, fe_add_l, fe_add_r, fe_sub_l, fe_sub_r, fe_mul_l, fe_mul_r, fcheck_fe, decide_true, if_true, wakes4]
theorem FieldEnds (a0 a1 : Int) (_w0 : (Lit.int .i64 a0).wf = true) (_w1 : (Lit.int .i64 a1).wf = true) : law04_FieldEnds a0 a1 = some true := by
  unfold law04_FieldEnds
  rw [wakes4]
  have hk : 0 ≤ (IntKind.u64.wrap a0).tmod 19 ∧ (IntKind.u64.wrap a0).tmod 19 < 19 := by
    rw [w64, Int.tmod_eq_emod_of_nonneg (by omega)]; omega
  have hw : 0 ≤ (IntKind.u64.wrap a1).tmod 4 ∧ (IntKind.u64.wrap a1).tmod 4 < 4 := by
    rw [w64, Int.tmod_eq_emod_of_nonneg (by omega)]; omega
  generalize (IntKind.u64.wrap a0).tmod 19 = κ at *
  generalize (IntKind.u64.wrap a1).tmod 4 = ω at *
  have cw : ω = 0 ∨ ω = 1 ∨ ω = 2 ∨ ω = 3 := by omega
  have ck : κ = 0 ∨ κ = 1 ∨ κ = 2 ∨ κ = 3 ∨ κ = 4 ∨ κ = 5 ∨ κ = 6 ∨ κ = 7 ∨ κ = 8 ∨ κ = 9 ∨ κ = 10 ∨ κ = 11 ∨ κ = 12 ∨ κ = 13 ∨ κ = 14 ∨ κ = 15 ∨ κ = 16 ∨ κ = 17 ∨ κ = 18 := by omega
  clear hk hw
  rcases ck with rfl | rfl | rfl | rfl | rfl | rfl | rfl | rfl | rfl | rfl | rfl | rfl | rfl | rfl | rfl | rfl | rfl | rfl | rfl <;> rcases cw with rfl | rfl | rfl | rfl <;> (show _ = _; as_aux_lemma => kernel_rfl)
end Go.Pn
