/- The page's: what is left modulo L, bit by bit; the page's product and sum. -/
import Derived.Test.YtdcdanfeepncmaaScC
import Derived.Test.YtdcdanfeepncmaaPnM
namespace Go.Sc
open Go Go.Gw Go.Proofs.Sb.D Go.Pn
theorem word8_get (lo hi : Int) (j : Nat) (hj : j < 8) (h0 : 0 ≤ lo ∧ lo < (115792089237316195423570985008687907853269984665640564039457584007913129639936 : Int)) : (words4 lo ++ words4 hi).getD j 0 = (lo + hi * (115792089237316195423570985008687907853269984665640564039457584007913129639936 : Int)) / 2 ^ (64 * j) % 18446744073709551616 := by
  have c : j = 0 ∨ j = 1 ∨ j = 2 ∨ j = 3 ∨ j = 4 ∨ j = 5 ∨ j = 6 ∨ j = 7 := by omega
  rw [Int.pow_mul, show (2 : Int) ^ 64 = 18446744073709551616 by decide]
  rcases c with rfl | rfl | rfl | rfl | rfl | rfl | rfl | rfl <;> simp only [words4, List.cons_append, List.nil_append, List.getD_cons_zero, List.getD_cons_succ, Int.reducePow] <;> omega
theorem bit64 (u : Int) (r : Nat) (hr : r < 64) : u % 18446744073709551616 / 2 ^ r % 2 = u / 2 ^ r % 2 := by
  have hk : (18446744073709551616 : Int) = 2 ^ r * 2 * 2 ^ (63 - r) := by
    rw [Int.mul_assoc, Int.mul_comm 2 (2 ^ (63 - r)), ← Int.pow_succ, ← Int.pow_add]
    have : r + (63 - r + 1) = 64 := by omega
    rw [this]; decide
  have hB : (0 : Int) < 2 ^ r := Int.pow_pos (by decide)
  have e : u = u / 18446744073709551616 * 18446744073709551616 + u % 18446744073709551616 := by omega
  conv => rhs; rw [e]
  rw [hk]
  generalize (2 : Int) ^ (63 - r) = k
  generalize (2 : Int) ^ r = B at *
  generalize u % (B * 2 * k) = s
  generalize u / (B * 2 * k) = q
  have : q * (B * 2 * k) + s = s + q * k * 2 * B := by grind
  rw [this, Int.add_mul_ediv_right _ _ (by omega : B ≠ 0), Int.add_mul_emod_self_right]
theorem rbit (lo hi : Int) (n : Nat) (hn : n < 512) (h0 : 0 ≤ lo ∧ lo < (115792089237316195423570985008687907853269984665640564039457584007913129639936 : Int)) : band .u64 (shr .u64 ((words4 lo ++ words4 hi).getD (n / 64) 0) ((n % 64 : Nat) : Int)) 1 = (lo + hi * (115792089237316195423570985008687907853269984665640564039457584007913129639936 : Int)) / 2 ^ n % 2 := by
  rw [word8_get lo hi _ (by omega) h0]
  generalize lo + hi * (115792089237316195423570985008687907853269984665640564039457584007913129639936 : Int) = v
  have e : (2 : Int) ^ (min (((n % 64 : Nat) : Int).toNat) IntKind.u64.bits) = 2 ^ (n % 64) := by
    have : min (((n % 64 : Nat) : Int).toNat) IntKind.u64.bits = n % 64 := by
      have : IntKind.u64.bits = 64 := rfl
      omega
    rw [this]
  have hB : (0 : Int) < 2 ^ (n % 64) := Int.pow_pos (by decide)
  have q0 : 0 ≤ v / 2 ^ (64 * (n / 64)) % 18446744073709551616 / 2 ^ (n % 64) := Int.ediv_nonneg (by omega) (by omega)
  have q1 : v / 2 ^ (64 * (n / 64)) % 18446744073709551616 / 2 ^ (n % 64) ≤ v / 2 ^ (64 * (n / 64)) % 18446744073709551616 := Int.ediv_le_self _ (by omega)
  rw [shr_u _ _ _ _ e (by omega), band_mask k64 1 (by decide) _ 1 2 (by decide) (by decide) q0 (by show _ < (18446744073709551616 : Int); omega), bit64 _ _ (by omega),
    Int.ediv_ediv_of_nonneg (Int.le_of_lt (Int.pow_pos (by decide))), ← Int.pow_add]
  congr 3; omega
theorem set_bit (x c : Int) (_hx : 0 ≤ x ∧ x < Lw) (hc : 0 ≤ c ∧ c ≤ 1) : (words4 (x + x)).set 0 (bor .u64 ((words4 (x + x)).getD 0 0) c) = words4 (2 * x + c) := by
  show [bor .u64 ((x + x) % 18446744073709551616) c, (x + x) / 18446744073709551616 % 18446744073709551616, (x + x) / 340282366920938463463374607431768211456 % 18446744073709551616, (x + x) / 6277101735386680763835789423207666416102355444464034512896 % 18446744073709551616] = words4 (2 * x + c)
  rw [bor_hi_lo k64 1 ((x + x) % 18446744073709551616) c 2 (by decide) (by omega) (by show _ < (18446744073709551616 : Int); omega) (by omega) hc.1 (by show _ < (18446744073709551616 : Int); omega) (by omega)]
  unfold words4
  congr 1
  · omega
  · congr 1
    · omega
    · congr 1
      · omega
      · congr 1; omega
theorem mL_step (lo hi x : Int) (k n : Nat) (hn : n < 512) (h0 : 0 ≤ lo ∧ lo < (115792089237316195423570985008687907853269984665640564039457584007913129639936 : Int)) (hx : 0 ≤ x ∧ x < Lw) : ref04_modL_l0 (words4 lo ++ words4 hi) (k + 1) (words4 x) (n : Int) =
    ref04_modL_l0 (words4 lo ++ words4 hi) k (words4 ((2 * x + (lo + hi * (115792089237316195423570985008687907853269984665640564039457584007913129639936 : Int)) / 2 ^ n % 2) % Lw)) ((n : Int) - 1) := by
  have hL : Lw = 7237005577332262213973186563042994240857116359379907606001950938285454250989 := rfl
  have e1 : (n : Int).tdiv 64 = ((n / 64 : Nat) : Int) := rfl
  have e2 : (n : Int).tmod 64 = ((n % 64 : Nat) : Int) := rfl
  have e3 : IntKind.i64.wrap ((n : Int) - 1) = (n : Int) - 1 := IntWalk.i64_in _ (by omega)
  have e4 : IntKind.u64.wrap ((n % 64 : Nat) : Int) = ((n % 64 : Nat) : Int) := by rw [w64]; omega
  have e5 : (((n / 64 : Nat) : Int)).toNat = n / 64 := rfl
  have hb := rbit lo hi n hn h0
  have q : 0 ≤ (lo + hi * (115792089237316195423570985008687907853269984665640564039457584007913129639936 : Int)) / 2 ^ n % 2 ∧ (lo + hi * (115792089237316195423570985008687907853269984665640564039457584007913129639936 : Int)) / 2 ^ n % 2 ≤ 1 := by omega
  generalize (lo + hi * (115792089237316195423570985008687907853269984665640564039457584007913129639936 : Int)) / 2 ^ n % 2 = c at *
  rw [ref04_modL_l0, if_pos (decide_eq_true (by omega)), radd x x (by omega) (by omega), Option.bind_some, Int.emod_eq_of_lt (a := x + x) (by omega) (by omega), e1, e2, i64n _ (by omega)]
  simp only [e4, e5, e3, hb]
  rw [if_pos ⟨by omega, by omega⟩, if_pos (by omega), L_eq]
  simp only [Option.bind_some, set_bit x c hx q]
  rw [rless _ _ (by omega) (by decide)]
  simp only [Option.bind_some]
  by_cases h : 2 * x + c < Lw
  · rw [decide_eq_true h, if_neg (by decide), Int.emod_eq_of_lt (a := 2 * x + c) (by omega) h]
  · rw [decide_eq_false h, if_pos (show (!false) = true from rfl), rsub _ _ (by omega) (by decide)]
    simp only [Option.bind_some]
    congr 2; unfold Lw at *; omega
theorem mL_loop (lo hi : Int) (h0 : 0 ≤ lo ∧ lo < (115792089237316195423570985008687907853269984665640564039457584007913129639936 : Int)) : ∀ n : Nat, n ≤ 512 →
    ref04_modL_l0 (words4 lo ++ words4 hi) (n + 1) (words4 ((lo + hi * (115792089237316195423570985008687907853269984665640564039457584007913129639936 : Int)) / 2 ^ n % Lw)) ((n : Int) - 1) = some (words4 ((lo + hi * (115792089237316195423570985008687907853269984665640564039457584007913129639936 : Int)) % Lw)) := by
  intro n
  induction n with
  | zero =>
    intro _
    rw [Int.pow_zero, Int.ediv_one, ref04_modL_l0, if_neg (by decide)]
  | succ n ih =>
    intro hn
    have e : ((n + 1 : Nat) : Int) - 1 = (n : Int) := by omega
    rw [e, mL_step _ _ _ _ _ (by omega) h0 ⟨Int.emod_nonneg _ (by decide), Int.emod_lt_of_pos _ (by decide)⟩]
    have e2 : (2 * ((lo + hi * (115792089237316195423570985008687907853269984665640564039457584007913129639936 : Int)) / 2 ^ (n + 1) % Lw) + (lo + hi * (115792089237316195423570985008687907853269984665640564039457584007913129639936 : Int)) / 2 ^ n % 2) % Lw = (lo + hi * (115792089237316195423570985008687907853269984665640564039457584007913129639936 : Int)) / 2 ^ n % Lw := by
      rw [Int.pow_succ, ← Int.ediv_ediv_of_nonneg (Int.le_of_lt (Int.pow_pos (by decide)))]
      generalize (lo + hi * (115792089237316195423570985008687907853269984665640564039457584007913129639936 : Int)) / 2 ^ n = y
      unfold Lw; omega
    rw [e2]
    exact ih (by omega)
theorem rmodL (lo hi : Int) (h0 : 0 ≤ lo ∧ lo < (115792089237316195423570985008687907853269984665640564039457584007913129639936 : Int)) (h1 : 0 ≤ hi ∧ hi < (115792089237316195423570985008687907853269984665640564039457584007913129639936 : Int)) : ref04_modL (words4 lo ++ words4 hi) = some (words4 ((lo + hi * (115792089237316195423570985008687907853269984665640564039457584007913129639936 : Int)) % Lw)) := by
  have h := mL_loop lo hi h0 512 (Nat.le_refl _)
  have hp2 : (2 : Int) ^ 256 = (115792089237316195423570985008687907853269984665640564039457584007913129639936 : Int) := by decide
  have hp : (2 : Int) ^ 512 = (115792089237316195423570985008687907853269984665640564039457584007913129639936 : Int) * (115792089237316195423570985008687907853269984665640564039457584007913129639936 : Int) := by rw [show 512 = 256 + 256 from rfl, Int.pow_add, hp2]
  rw [hp, Int.ediv_eq_zero_of_lt (by omega) (by omega), Int.zero_emod, ← words4_0] at h
  unfold ref04_modL
  exact (congrArg (fun z => Option.bind z fun m3 => some m3) h).trans rfl
def ML (n : Nat) (b_0 : List Int) : Nat → List Int → Int → Option (List Int)
  | 0, _, _ => none
  | k + 1, m1, i2 => if (decide (i2 < (↑n : Int))) = true then if 0 ≤ (IntKind.i64.wrap (i2.tdiv (8 : Int))) ∧ (IntKind.i64.wrap (i2.tdiv (8 : Int))) < ((8 : Nat) : Int) then if 0 ≤ i2 ∧ i2 < ↑n then if 0 ≤ (IntKind.u64.wrap (IntKind.i64.wrap ((8 : Int) * (i2.tmod (8 : Int))))) then if 0 ≤ (IntKind.i64.wrap (i2.tdiv (8 : Int))) ∧ (IntKind.i64.wrap (i2.tdiv (8 : Int))) < ((8 : Nat) : Int) then ML n b_0 k (m1.set (IntKind.i64.wrap (i2.tdiv (8 : Int))).toNat (bor .u64 (m1.getD (IntKind.i64.wrap (i2.tdiv (8 : Int))).toNat 0) (shl .u64 (IntKind.u64.wrap (b_0.getD i2.toNat 0)) (IntKind.u64.wrap (IntKind.i64.wrap ((8 : Int) * (i2.tmod (8 : Int)))))))) (IntKind.i64.wrap (i2 + (1 : Int))) else none else none else none else none else some m1
theorem ML_eq (b : List Int) : ∀ k m i, ref04_ModL_l0 b k m i = ML b.length b k m i := by
  intro k
  induction k with
  | zero => intros; rfl
  | succ k ih => intro m i; rw [ref04_ModL_l0, ML, ih]
theorem ML32 (b : List Int) : ML 32 b (((↑(32 : Nat) : Int) - (0 : Int)).toNat + 1) (List.replicate 8 0) 0 = some ([orw b 0, orw b 1, orw b 2, orw b 3] ++ [0, 0, 0, 0]) := by kernel_rfl
theorem ML64 (b : List Int) : ML 64 b (((↑(64 : Nat) : Int) - (0 : Int)).toNat + 1) (List.replicate 8 0) 0 = some ([orw b 0, orw b 1, orw b 2, orw b 3] ++ [orw b 4, orw b 5, orw b 6, orw b 7]) := by kernel_rfl
def orF (f : Nat → Int) : Int := (List.range 8).foldl (fun m j => bor .u64 m (shl .u64 (IntKind.u64.wrap (f j)) ((8 * j : Nat) : Int))) 0
theorem orF_congr {f g : Nat → Int} (h : ∀ j, j < 8 → f j = g j) : orF f = orF g := by
  have r : List.range 8 = [0, 1, 2, 3, 4, 5, 6, 7] := rfl
  unfold orF
  rw [r]
  simp only [List.foldl_cons, List.foldl_nil, h 0 (by decide), h 1 (by decide), h 2 (by decide), h 3 (by decide), h 4 (by decide), h 5 (by decide), h 6 (by decide), h 7 (by decide)]
theorem orw_lo (a b : List Int) (ha : a.length = 32) (i : Nat) (hi : i < 4) : orw (a ++ b) i = orw a i := by
  show orF (fun j => (a ++ b).getD (8 * i + j) 0) = orF (fun j => a.getD (8 * i + j) 0)
  exact orF_congr fun j hj => by simp only [List.getD_eq_getElem?_getD]; rw [List.getElem?_append_left (by omega)]
theorem orw_hi (a b : List Int) (ha : a.length = 32) (i : Nat) : orw (a ++ b) (4 + i) = orw b i := by
  show orF (fun j => (a ++ b).getD (8 * (4 + i) + j) 0) = orF (fun j => b.getD (8 * i + j) 0)
  exact orF_congr fun j hj => by
    simp only [List.getD_eq_getElem?_getD]; rw [List.getElem?_append_right (by omega)]
    congr 2; omega
theorem rModL32 {b : List Int} (h : Bytes32 b) : ref04_ModL b = some (fs (leV b)) := by
  unfold ref04_ModL
  rw [ML_eq, h.1, ML32, orw_words h, Option.bind_some]
  have z : [(0 : Int), 0, 0, 0] = words4 0 := by kernel_rfl
  rw [z, rmodL _ _ (leV_bd h) (by decide), Option.bind_some, rbytes, Option.bind_some]
  unfold fs; congr 3; omega
theorem rModL64 {a b : List Int} (ha : Bytes32 a) (hb : Bytes32 b) : ref04_ModL (a ++ b) = some (fs (leV (a ++ b))) := by
  unfold ref04_ModL
  have hl : (a ++ b).length = 64 := by rw [List.length_append, ha.1, hb.1]
  rw [ML_eq, hl, ML64, orw_lo a b ha.1 0 (by decide), orw_lo a b ha.1 1 (by decide), orw_lo a b ha.1 2 (by decide), orw_lo a b ha.1 3 (by decide), orw_words ha,
    orw_hi a b ha.1 0, orw_hi a b ha.1 1, orw_hi a b ha.1 2, orw_hi a b ha.1 3, orw_words hb, Option.bind_some,
    rmodL _ _ (leV_bd ha) (leV_bd hb), Option.bind_some, rbytes, Option.bind_some]
  have p32 : (256 : Int) ^ 32 = (115792089237316195423570985008687907853269984665640564039457584007913129639936 : Int) := by decide
  unfold fs; rw [leV_app, ha.1, p32, Int.mul_comm]
theorem m2_step (z m : List Int) (c : Int) (k i : Nat) (hi : i < 8) : ref04_MulAdd_l0 z (k + 1) m c (i : Int) =
    (add64 (m.getD i 0) (if i < 4 then z.getD i 0 else 0) c).bind fun q => ref04_MulAdd_l0 z k (m.set i q.1) q.2 ((i + 1 : Nat) : Int) := by
  have ci : i = 0 ∨ i = 1 ∨ i = 2 ∨ i = 3 ∨ i = 4 ∨ i = 5 ∨ i = 6 ∨ i = 7 := by omega
  rcases ci with rfl | rfl | rfl | rfl | rfl | rfl | rfl | rfl <;> (show _ = _; kernel_rfl)
theorem m2_end (z m : List Int) (c : Int) (k : Nat) : ref04_MulAdd_l0 z (k + 1) m c 8 = some m := by kernel_rfl
theorem m2_ok (lo hi z : Int) (h0 : 0 ≤ lo ∧ lo < (115792089237316195423570985008687907853269984665640564039457584007913129639936 : Int)) (h1 : 0 ≤ hi ∧ hi + 1 < (115792089237316195423570985008687907853269984665640564039457584007913129639936 : Int)) (h2 : 0 ≤ z ∧ z < (115792089237316195423570985008687907853269984665640564039457584007913129639936 : Int)) :
    ∃ lo' hi', ref04_MulAdd_l0 (words4 z) (((8 : Int) - (0 : Int)).toNat + 1) (words4 lo ++ words4 hi) 0 0 = some (words4 lo' ++ words4 hi') ∧ (0 ≤ lo' ∧ lo' < (115792089237316195423570985008687907853269984665640564039457584007913129639936 : Int)) ∧ (0 ≤ hi' ∧ hi' < (115792089237316195423570985008687907853269984665640564039457584007913129639936 : Int)) ∧
      lo' + hi' * (115792089237316195423570985008687907853269984665640564039457584007913129639936 : Int) = lo + hi * (115792089237316195423570985008687907853269984665640564039457584007913129639936 : Int) + z := by
  obtain ⟨a0, a1, a2, a3, ea, ba, va⟩ := words4_ex lo h0.1 h0.2
  obtain ⟨b0, b1, b2, b3, eb, bb, vb⟩ := words4_ex hi h1.1 (by omega)
  obtain ⟨c0, c1, c2, c3, ec, bc, vc⟩ := words4_ex z h2.1 h2.2
  rw [ea, eb, ec]
  have zz : (0 : Int) ≤ 0 ∧ (0 : Int) < 18446744073709551616 := by decide
  obtain ⟨r0, d0, e0, u0, v0, w0⟩ := add64_ok' a0 c0 0 ba.h0 bc.h0 (by decide)
  obtain ⟨r1, d1, e1, u1, v1, w1⟩ := add64_ok' a1 c1 d0 ba.h1 bc.h1 v0
  obtain ⟨r2, d2, e2, u2, v2, w2⟩ := add64_ok' a2 c2 d1 ba.h2 bc.h2 v1
  obtain ⟨r3, d3, e3, u3, v3, w3⟩ := add64_ok' a3 c3 d2 ba.h3 bc.h3 v2
  obtain ⟨r4, d4, e4, u4, v4, w4⟩ := add64_ok' b0 0 d3 bb.h0 zz v3
  obtain ⟨r5, d5, e5, u5, v5, w5⟩ := add64_ok' b1 0 d4 bb.h1 zz v4
  obtain ⟨r6, d6, e6, u6, v6, w6⟩ := add64_ok' b2 0 d5 bb.h2 zz v5
  obtain ⟨r7, d7, e7, u7, v7, w7⟩ := add64_ok' b3 0 d6 bb.h3 zz v6
  have k0 := m2_step [c0, c1, c2, c3] [a0, a1, a2, a3, b0, b1, b2, b3] 0 8 0 (by decide)
  have k1 := m2_step [c0, c1, c2, c3] [r0, a1, a2, a3, b0, b1, b2, b3] d0 7 1 (by decide)
  have k2 := m2_step [c0, c1, c2, c3] [r0, r1, a2, a3, b0, b1, b2, b3] d1 6 2 (by decide)
  have k3 := m2_step [c0, c1, c2, c3] [r0, r1, r2, a3, b0, b1, b2, b3] d2 5 3 (by decide)
  have k4 := m2_step [c0, c1, c2, c3] [r0, r1, r2, r3, b0, b1, b2, b3] d3 4 4 (by decide)
  have k5 := m2_step [c0, c1, c2, c3] [r0, r1, r2, r3, r4, b1, b2, b3] d4 3 5 (by decide)
  have k6 := m2_step [c0, c1, c2, c3] [r0, r1, r2, r3, r4, r5, b2, b3] d5 2 6 (by decide)
  have k7 := m2_step [c0, c1, c2, c3] [r0, r1, r2, r3, r4, r5, r6, b3] d6 1 7 (by decide)
  rw [show (add64 (List.getD [a0, a1, a2, a3, b0, b1, b2, b3] 0 0) (if 0 < 4 then List.getD [c0, c1, c2, c3] 0 0 else 0) 0) = some (r0, d0) from e0, Option.bind_some] at k0
  rw [show (add64 (List.getD [r0, a1, a2, a3, b0, b1, b2, b3] 1 0) (if 1 < 4 then List.getD [c0, c1, c2, c3] 1 0 else 0) d0) = some (r1, d1) from e1, Option.bind_some] at k1
  rw [show (add64 (List.getD [r0, r1, a2, a3, b0, b1, b2, b3] 2 0) (if 2 < 4 then List.getD [c0, c1, c2, c3] 2 0 else 0) d1) = some (r2, d2) from e2, Option.bind_some] at k2
  rw [show (add64 (List.getD [r0, r1, r2, a3, b0, b1, b2, b3] 3 0) (if 3 < 4 then List.getD [c0, c1, c2, c3] 3 0 else 0) d2) = some (r3, d3) from e3, Option.bind_some] at k3
  rw [show (add64 (List.getD [r0, r1, r2, r3, b0, b1, b2, b3] 4 0) (if 4 < 4 then List.getD [c0, c1, c2, c3] 4 0 else 0) d3) = some (r4, d4) from e4, Option.bind_some] at k4
  rw [show (add64 (List.getD [r0, r1, r2, r3, r4, b1, b2, b3] 5 0) (if 5 < 4 then List.getD [c0, c1, c2, c3] 5 0 else 0) d4) = some (r5, d5) from e5, Option.bind_some] at k5
  rw [show (add64 (List.getD [r0, r1, r2, r3, r4, r5, b2, b3] 6 0) (if 6 < 4 then List.getD [c0, c1, c2, c3] 6 0 else 0) d5) = some (r6, d6) from e6, Option.bind_some] at k6
  rw [show (add64 (List.getD [r0, r1, r2, r3, r4, r5, r6, b3] 7 0) (if 7 < 4 then List.getD [c0, c1, c2, c3] 7 0 else 0) d6) = some (r7, d7) from e7, Option.bind_some] at k7
  have hl : B4 r0 r1 r2 r3 := ⟨u0, u1, u2, u3⟩
  have hh : B4 r4 r5 r6 r7 := ⟨u4, u5, u6, u7⟩
  have bl := W4_bd hl; have bh := W4_bd hh
  have tot : W4 r0 r1 r2 r3 + W4 r4 r5 r6 r7 * (115792089237316195423570985008687907853269984665640564039457584007913129639936 : Int) + d7 * ((115792089237316195423570985008687907853269984665640564039457584007913129639936 : Int) * (115792089237316195423570985008687907853269984665640564039457584007913129639936 : Int)) = lo + hi * (115792089237316195423570985008687907853269984665640564039457584007913129639936 : Int) + z := by
    rw [← va, ← vb, ← vc]; unfold W4; omega
  have t2 : lo + hi * (115792089237316195423570985008687907853269984665640564039457584007913129639936 : Int) + z < (115792089237316195423570985008687907853269984665640564039457584007913129639936 : Int) * (115792089237316195423570985008687907853269984665640564039457584007913129639936 : Int) := by omega
  have d70 : d7 = 0 := by omega
  refine ⟨W4 r0 r1 r2 r3, W4 r4 r5 r6 r7, ?_, bl, bh, by rw [d70] at tot; omega⟩
  rw [← words4_W hl, ← words4_W hh]
  exact k0.trans (k1.trans (k2.trans (k3.trans (k4.trans (k5.trans (k6.trans (k7.trans (m2_end _ _ d7 0))))))))
theorem rMulAdd {a b c : List Int} (ha : Bytes32 a) (hb : Bytes32 b) (hc : Bytes32 c) : ref04_MulAdd a b c = some (fs (leV a * leV b + leV c)) := by
  have hx := leV_bd ha; have hy := leV_bd hb; have hz := leV_bd hc
  unfold ref04_MulAdd
  rw [rof ha, Option.bind_some, rof hb, Option.bind_some, rtimes _ _ hx hy, Option.bind_some, rof hc, Option.bind_some]
  generalize leV a = x at *; generalize leV b = y at *; generalize leV c = z at *
  have pn : 0 ≤ x * y := Int.mul_nonneg hx.1 hy.1
  have pb := prod_le hx.1 (b := (115792089237316195423570985008687907853269984665640564039457584007913129639936 : Int) - 1) (by omega) hy.1 (by omega)
  have hh : x * y / (115792089237316195423570985008687907853269984665640564039457584007913129639936 : Int) + 1 < (115792089237316195423570985008687907853269984665640564039457584007913129639936 : Int) := by omega
  obtain ⟨lo', hi', e, b1, b2, q⟩ := m2_ok (x * y % (115792089237316195423570985008687907853269984665640564039457584007913129639936 : Int)) (x * y / (115792089237316195423570985008687907853269984665640564039457584007913129639936 : Int)) z ⟨Int.emod_nonneg _ (by decide), Int.emod_lt_of_pos _ (by decide)⟩ ⟨Int.ediv_nonneg pn (by decide), hh⟩ hz
  rw [e, Option.bind_some, rmodL _ _ b1 b2, Option.bind_some, rbytes, Option.bind_some, q]
  unfold fs; congr 4; omega
theorem rbelow {b : List Int} (h : Bytes32 b) : ref04_Below b = some (decide (leV b < Lw)) := by
  unfold ref04_Below
  rw [rof h, Option.bind_some, L_eq, Option.bind_some, rless _ _ (leV_bd h) (by decide)]; rfl
end Go.Sc
