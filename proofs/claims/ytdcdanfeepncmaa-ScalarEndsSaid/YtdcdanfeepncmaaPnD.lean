/- Bytes and words: packing and unpacking. -/
import Derived.Test.YtdcdanfeepncmaaPnC
namespace Go.Pn
open Go Go.Gw Go.Proofs.Sb.D
def words4 (v : Int) : List Int := [v % 18446744073709551616, v / 18446744073709551616 % 18446744073709551616, v / 340282366920938463463374607431768211456 % 18446744073709551616, v / 6277101735386680763835789423207666416102355444464034512896 % 18446744073709551616]
theorem words4_get (v : Int) (i : Nat) (hi : i < 4) : (words4 v).getD i 0 = v / 2 ^ (64 * i) % 18446744073709551616 := by
  have : i = 0 ∨ i = 1 ∨ i = 2 ∨ i = 3 := by omega
  rcases this with rfl | rfl | rfl | rfl <;> simp [words4]
theorem dvd_pow256 (j : Nat) (hj : j < 8) : (2 : Int) ^ (8 * j) * 256 ∣ 18446744073709551616 := by
  refine ⟨2 ^ (56 - 8 * j), ?_⟩
  have e : (256 : Int) = 2 ^ 8 := by decide
  rw [e, ← Int.pow_add, ← Int.pow_add]
  have : 8 * j + 8 + (56 - 8 * j) = 64 := by omega
  rw [this]; decide
theorem leB_words (v : Int) : ((List.range 32).map fun i => IntKind.u8.wrap (shr .u64 ((words4 v).getD (i / 8) 0) ((8 * (i % 8) : Nat) : Int))) = leB 32 v := by
  unfold leB
  apply List.map_congr_left
  intro i hi
  have hi := List.mem_range.1 hi
  have hb : (8 * (i % 8) : Nat) < 64 := by omega
  rw [words4_get v _ (by omega), w8, shr_u _ _ _ (2 ^ (8 * (i % 8))) (by
    have : min (((8 * (i % 8) : Nat) : Int).toNat) IntKind.u64.bits = 8 * (i % 8) := by
      have : IntKind.u64.bits = 64 := rfl
      omega
    rw [this]) (Int.le_of_lt (Int.pow_pos (by decide))),
    byte_of_word v _ _ (Int.pow_pos (by decide)) (Int.pow_pos (by decide)) (dvd_pow256 _ (by omega)), ← Int.pow_add]
  have : 64 * (i / 8) + 8 * (i % 8) = 8 * i := by omega
  rw [this]
theorem V_pos {b x0 x1 x2 x3 x4 : Int} (h : B5 b x0 x1 x2 x3 x4) : 0 ≤ V x0 x1 x2 x3 x4 := by
  obtain ⟨⟨a0, b0⟩, ⟨a1, b1⟩, ⟨a2, b2⟩, ⟨a3, b3⟩, a4, b4⟩ := h
  unfold V; omega
theorem V_lt {x0 x1 x2 x3 x4 : Int} (h : B5 2251799813685248 x0 x1 x2 x3 x4) : V x0 x1 x2 x3 x4 < 57896044618658097711785492504343953926634992332820282019728792003956564819968 := by
  obtain ⟨⟨a0, b0⟩, ⟨a1, b1⟩, ⟨a2, b2⟩, ⟨a3, b3⟩, a4, b4⟩ := h
  unfold V; omega
theorem B5.mono {b c x0 x1 x2 x3 x4 : Int} (h : B5 b x0 x1 x2 x3 x4) (k : b ≤ c) : B5 c x0 x1 x2 x3 x4 := by
  obtain ⟨⟨a0, b0⟩, ⟨a1, b1⟩, ⟨a2, b2⟩, ⟨a3, b3⟩, a4, b4⟩ := h
  exact ⟨⟨a0, by omega⟩, ⟨a1, by omega⟩, ⟨a2, by omega⟩, ⟨a3, by omega⟩, a4, by omega⟩
theorem words_of_B5 {m0 m1 m2 m3 m4 : Int} (h : B5 2251799813685248 m0 m1 m2 m3 m4) : wordsOf m0 m1 m2 m3 m4 = words4 (V m0 m1 m2 m3 m4) := by
  rw [wordsOf_ok h]
  have := V_pos h; have := V_lt h
  unfold words4
  rw [Int.emod_eq_of_lt (a := V m0 m1 m2 m3 m4 / 6277101735386680763835789423207666416102355444464034512896) (by omega) (by omega)]
theorem nbytes_l2 {m0 m1 m2 m3 m4 : Int} (h : B5 2251799813685248 m0 m1 m2 m3 m4) : limb_N_Bytes_l2 [m0, m1, m2, m3, m4] (((32 : Int) - (0 : Int)).toNat + 1) (List.replicate 32 0) 0 = some (leB 32 (V m0 m1 m2 m3 m4)) := by
  rw [bytes_l2_eq, words_of_B5 h, leB_words]
theorem nbytes_l0 {x0 x1 x2 x3 x4 : Int} (a : List Int) (h : B5 18446744073709543424 x0 x1 x2 x3 x4) :
    ∃ y0 y1 y2 y3 y4 c, limb_N_Bytes_l0 a (((5 : Int) - (0 : Int)).toNat + 1) [x0, x1, x2, x3, x4] 0 0 = some ([y0, y1, y2, y3, y4], c) ∧ B5 2251799813685248 y0 y1 y2 y3 y4 ∧ 0 ≤ c ∧
      V x0 x1 x2 x3 x4 = c * 57896044618658097711785492504343953926634992332820282019728792003956564819968 + V y0 y1 y2 y3 y4 := by
  obtain ⟨⟨a0, b0⟩, ⟨a1, b1⟩, ⟨a2, b2⟩, ⟨a3, b3⟩, a4, b4⟩ := h
  rw [bytes_l0_eq]
  obtain ⟨y0, c0, e0, l0, u0, m0, n0, q0⟩ := cstep_ok x0 0 a0 (by omega) (by omega)
  obtain ⟨y1, c1, e1, l1, u1, m1, n1, q1⟩ := cstep_ok x1 c0 a1 m0 (by omega)
  obtain ⟨y2, c2, e2, l2, u2, m2, n2, q2⟩ := cstep_ok x2 c1 a2 m1 (by omega)
  obtain ⟨y3, c3, e3, l3, u3, m3, n3, q3⟩ := cstep_ok x3 c2 a3 m2 (by omega)
  obtain ⟨y4, c4, e4, l4, u4, m4, n4, q4⟩ := cstep_ok x4 c3 a4 m3 (by omega)
  refine ⟨y0, y1, y2, y3, y4, c4, ?_, ⟨⟨l0, u0⟩, ⟨l1, u1⟩, ⟨l2, u2⟩, ⟨l3, u3⟩, l4, u4⟩, m4, ?_⟩
  · simp only [e0, e1, e2, e3, e4]
  · unfold V; omega
theorem V_head (t c y1 y2 y3 y4 : Int) : V (t + c) y1 y2 y3 y4 = V t y1 y2 y3 y4 + c := by unfold V; omega
theorem B5.head {b c x0 x1 x2 x3 x4 y : Int} (h : B5 b x0 x1 x2 x3 x4) (k : 0 ≤ y ∧ y < c) (hb : b ≤ c) : B5 c y x1 x2 x3 x4 := by
  obtain ⟨⟨a0, b0⟩, ⟨a1, b1⟩, ⟨a2, b2⟩, ⟨a3, b3⟩, a4, b4⟩ := h
  exact ⟨k, ⟨a1, by omega⟩, ⟨a2, by omega⟩, ⟨a3, by omega⟩, a4, by omega⟩
theorem V_head_le {b x0 x1 x2 x3 x4 : Int} (h : B5 b x0 x1 x2 x3 x4) : x0 ≤ V x0 x1 x2 x3 x4 := by
  obtain ⟨⟨a0, b0⟩, ⟨a1, b1⟩, ⟨a2, b2⟩, ⟨a3, b3⟩, a4, b4⟩ := h
  unfold V; omega
/-- THE BYTES: those of the number below p -/
theorem nbytes_ok {x0 x1 x2 x3 x4 : Int} (h : B5 18446744073709543424 x0 x1 x2 x3 x4) : limb_N_Bytes [x0, x1, x2, x3, x4] = some (leB 32 (V x0 x1 x2 x3 x4 % pw)) := by
  obtain ⟨t0, t1, t2, t3, t4, c, e, ht, lc, uc, q⟩ := carried_ok h
  have k0 := ht.h0
  obtain ⟨s0, s1, s2, s3, s4, d, e', hs, ld, ud, q'⟩ := carried_ok (ht.head (y := t0 + 19 * c) (c := 18446744073709543424) (by omega) (by decide))
  have k1 := hs.h0
  have p1 := V_pos ht; have l1 := V_lt ht
  have p2 := V_pos hs; have l2 := V_lt hs
  rw [V_head] at q'
  have hd : d ≤ 1 := by omega
  obtain ⟨r0, r1, r2, r3, r4, f, e'', hr, lf, uf, q''⟩ := carried_ok (hs.head (y := s0 + 19 * d) (c := 18446744073709543424) (by omega) (by decide))
  have k2 := hr.h0
  have p3 := V_pos hr; have l3 := V_lt hr
  rw [V_head] at q''
  have hf : f ≤ 1 := by omega
  have le3 := V_head_le hr
  have hz : 0 ≤ r0 + 19 * f ∧ r0 + 19 * f < 2251799813685248 := by omega
  have hr' := hr.head (c := 2251799813685248) hz (Int.le_refl _)
  have lz := V_lt hr'; have pz := V_pos hr'
  have e19 : IntKind.u64.wrap (r0 + 19 * f + 19) = r0 + 19 * f + 19 := by rw [w64]; exact Int.emod_eq_of_lt (by omega) (by omega)
  have vz := V_head r0 (19 * f) r1 r2 r3 r4
  obtain ⟨n0, n1, n2, n3, n4, g, eg, hn, lg, qg⟩ := nbytes_l0 [r0 + 19 * f, r1, r2, r3, r4] (hr.head (y := r0 + 19 * f + 19) (c := 18446744073709543424) (by omega) (by decide))
  have p5 := V_pos hn; have l5 := V_lt hn
  rw [V_head] at qg
  have hg : g ≤ 1 := by omega
  unfold limb_N_Bytes
  rw [e, Option.bind_some, e', Option.bind_some, e'', Option.bind_some]
  simp only [List.set_cons_zero, List.getD_cons_zero, e19]
  rw [eg, Option.bind_some]
  by_cases hc : g > 0
  · simp only [decide_eq_true hc, if_true, Option.bind_some]
    rw [nbytes_l2 hn, Option.bind_some]
    congr 2
    have g1 : g = 1 := by omega
    subst g1
    have : V x0 x1 x2 x3 x4 = V n0 n1 n2 n3 n4 + pw * (c + d + f + 1) := by unfold pw; omega
    rw [this, Int.add_mul_emod_self_left, Int.emod_eq_of_lt p5 (by unfold pw; omega)]
  · simp only [decide_eq_false hc, Bool.false_eq_true, if_false, Option.bind_some]
    rw [nbytes_l2 hr', Option.bind_some]
    congr 2
    have g1 : g = 0 := by omega
    subst g1
    have : V x0 x1 x2 x3 x4 = V (r0 + 19 * f) r1 r2 r3 r4 + pw * (c + d + f) := by unfold pw; omega
    rw [this, Int.add_mul_emod_self_left, Int.emod_eq_of_lt pz (by unfold pw; omega)]
end Go.Pn
