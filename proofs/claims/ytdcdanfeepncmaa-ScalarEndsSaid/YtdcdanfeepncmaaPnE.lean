/- A number out of 32 bytes. -/
import Derived.Test.YtdcdanfeepncmaaPnD
namespace Go.Pn
open Go Go.Gw Go.Proofs.Sb.D
/-- the number of some bytes, the lowest first -/
def leV : List Int → Int
  | [] => 0
  | x :: l => x + 256 * leV l
def Bytes32 (b : List Int) : Prop := b.length = 32 ∧ ∀ x ∈ b, 0 ≤ x ∧ x < 256
theorem Bytes32.get {b : List Int} (h : Bytes32 b) (i : Nat) : 0 ≤ b.getD i 0 ∧ b.getD i 0 < 256 := by
  rw [List.getD_eq_getElem?_getD]
  by_cases hi : i < b.length
  · rw [List.getElem?_eq_getElem hi]; exact h.2 _ (List.getElem_mem hi)
  · rw [List.getElem?_eq_none (by omega)]; simp
theorem map_getD (b : List Int) : (List.range b.length).map (fun i => b.getD i 0) = b := by
  apply List.ext_getElem
  · simp
  · intro i h1 h2
    simp only [List.getElem_map, List.getElem_range, List.getD_eq_getElem?_getD]
    rw [List.getElem?_eq_getElem h2]; rfl
def orw (b : List Int) (i : Nat) : Int := (List.range 8).foldl (fun m j => bor .u64 m (shl .u64 (IntKind.u64.wrap (b.getD (8 * i + j) 0)) ((8 * j : Nat) : Int))) 0
theorem of_l0_eq (b : List Int) : limb_Of_l0 b (((32 : Int) - (0 : Int)).toNat + 1) (List.replicate 4 0) 0 = some [orw b 0, orw b 1, orw b 2, orw b 3] := by kernel_rfl
theorem rof_l0_eq (b : List Int) : ref04_Of_l0 b (((32 : Int) - (0 : Int)).toNat + 1) (List.replicate 4 0) 0 = some [orw b 0, orw b 1, orw b 2, orw b 3] := by kernel_rfl
theorem sof_l0_eq (b : List Int) : scalar_of_l0 b (((32 : Int) - (0 : Int)).toNat + 1) (List.replicate 4 0) 0 = some [orw b 0, orw b 1, orw b 2, orw b 3] := by kernel_rfl
theorem orstep (m x : Int) (j : Nat) (d e : Int) (hj : j < 8) (hd : d = 2 ^ (8 * j)) (he : e = d * 256) (h0 : 0 ≤ m) (h1 : m < d) (h2 : 0 ≤ x ∧ x < 256) (h3 : e ≤ 18446744073709551616) :
    ∃ r, bor .u64 m (shl .u64 (IntKind.u64.wrap x) ((8 * j : Nat) : Int)) = r ∧ r = m + x * d ∧ 0 ≤ r ∧ r < e := by
  have dp : 0 < d := by rw [hd]; exact Int.pow_pos (by decide)
  have hx : IntKind.u64.wrap x = x := by rw [w64]; omega
  have xd : x * d + d ≤ 256 * d := by
    have : (x + 1) * d ≤ 256 * d := Int.mul_le_mul_of_nonneg_right (by omega) (by omega)
    rw [Int.add_mul, Int.one_mul] at this; exact this
  have x0 : 0 ≤ x * d := Int.mul_nonneg h2.1 (by omega)
  have hs : shl .u64 x ((8 * j : Nat) : Int) = x * d := by
    rw [shl_u _ _ _ d (by
      have : min (((8 * j : Nat) : Int).toNat) IntKind.u64.bits = 8 * j := by
        have : IntKind.u64.bits = 64 := rfl
        omega
      rw [this, hd]), w64]
    omega
  refine ⟨_, rfl, ?_, ?_, ?_⟩
  all_goals rw [hx, hs, bor_lo_hi k64 (8 * j) m (x * d) d hd h0 (by show m < 18446744073709551616; omega) h1 x0 (by show x * d < 18446744073709551616; omega) (Int.mul_emod_left x d)]
  all_goals omega
theorem orw_ok {b : List Int} (h : Bytes32 b) (i : Nat) : orw b i = b.getD (8 * i) 0 + b.getD (8 * i + 1) 0 * 256 + b.getD (8 * i + 2) 0 * 65536 + b.getD (8 * i + 3) 0 * 16777216 + b.getD (8 * i + 4) 0 * 4294967296 + b.getD (8 * i + 5) 0 * 1099511627776 + b.getD (8 * i + 6) 0 * 281474976710656 + b.getD (8 * i + 7) 0 * 72057594037927936 := by
  obtain ⟨r0, e0, q0, l0, u0⟩ := orstep 0 (b.getD (8 * i + 0) 0) 0 1 256 (by decide) (by decide) (by decide) (by decide) (by decide) (h.get _) (by decide)
  obtain ⟨r1, e1, q1, l1, u1⟩ := orstep r0 (b.getD (8 * i + 1) 0) 1 256 65536 (by decide) (by decide) (by decide) l0 u0 (h.get _) (by decide)
  obtain ⟨r2, e2, q2, l2, u2⟩ := orstep r1 (b.getD (8 * i + 2) 0) 2 65536 16777216 (by decide) (by decide) (by decide) l1 u1 (h.get _) (by decide)
  obtain ⟨r3, e3, q3, l3, u3⟩ := orstep r2 (b.getD (8 * i + 3) 0) 3 16777216 4294967296 (by decide) (by decide) (by decide) l2 u2 (h.get _) (by decide)
  obtain ⟨r4, e4, q4, l4, u4⟩ := orstep r3 (b.getD (8 * i + 4) 0) 4 4294967296 1099511627776 (by decide) (by decide) (by decide) l3 u3 (h.get _) (by decide)
  obtain ⟨r5, e5, q5, l5, u5⟩ := orstep r4 (b.getD (8 * i + 5) 0) 5 1099511627776 281474976710656 (by decide) (by decide) (by decide) l4 u4 (h.get _) (by decide)
  obtain ⟨r6, e6, q6, l6, u6⟩ := orstep r5 (b.getD (8 * i + 6) 0) 6 281474976710656 72057594037927936 (by decide) (by decide) (by decide) l5 u5 (h.get _) (by decide)
  obtain ⟨r7, e7, q7, l7, u7⟩ := orstep r6 (b.getD (8 * i + 7) 0) 7 72057594037927936 18446744073709551616 (by decide) (by decide) (by decide) l6 u6 (h.get _) (by decide)
  have e : orw b i = r7 := by
    rw [← e7, ← e6, ← e5, ← e4, ← e3, ← e2, ← e1, ← e0]; rfl
  rw [e]
  simp only [Nat.add_zero] at q0
  omega
theorem leV32 {b : List Int} (h : Bytes32 b) : leV b = orw b 0 + orw b 1 * 18446744073709551616 + orw b 2 * 340282366920938463463374607431768211456 + orw b 3 * 6277101735386680763835789423207666416102355444464034512896 := by
  have e : leV b = leV ((List.range 32).map (fun i => b.getD i 0)) := by rw [← h.1, map_getD]
  rw [e, orw_ok h, orw_ok h, orw_ok h, orw_ok h]
  generalize hf : (fun i => b.getD i 0) = f
  have ef : ∀ i, b.getD i 0 = f i := fun i => by rw [← hf]
  simp only [ef, Nat.reduceMul, Nat.reduceAdd]
  show f 0 + 256 * (f 1 + 256 * (f 2 + 256 * (f 3 + 256 * (f 4 + 256 * (f 5 + 256 * (f 6 + 256 * (f 7 + 256 * (f 8 + 256 * (f 9 + 256 * (f 10 + 256 * (f 11 + 256 * (f 12 + 256 * (f 13 + 256 * (f 14 + 256 * (f 15 + 256 * (f 16 + 256 * (f 17 + 256 * (f 18 + 256 * (f 19 + 256 * (f 20 + 256 * (f 21 + 256 * (f 22 + 256 * (f 23 + 256 * (f 24 + 256 * (f 25 + 256 * (f 26 + 256 * (f 27 + 256 * (f 28 + 256 * (f 29 + 256 * (f 30 + 256 * (f 31 + 256 * 0))))))))))))))))))))))))))))))) = _
  omega
theorem orw_bd {b : List Int} (h : Bytes32 b) (i : Nat) : 0 ≤ orw b i ∧ orw b i < 18446744073709551616 := by
  rw [orw_ok h i]
  have a0 := h.get (8 * i); have a1 := h.get (8 * i + 1); have a2 := h.get (8 * i + 2); have a3 := h.get (8 * i + 3)
  have a4 := h.get (8 * i + 4); have a5 := h.get (8 * i + 5); have a6 := h.get (8 * i + 6); have a7 := h.get (8 * i + 7)
  omega
theorem orw_words {b : List Int} (h : Bytes32 b) : [orw b 0, orw b 1, orw b 2, orw b 3] = words4 (leV b) := by
  rw [leV32 h]
  have a0 := orw_bd h 0; have a1 := orw_bd h 1; have a2 := orw_bd h 2; have a3 := orw_bd h 3
  unfold words4
  congr 1
  · omega
  · congr 1
    · omega
    · congr 1
      · omega
      · congr 1; omega
theorem leV_bd {b : List Int} (h : Bytes32 b) : 0 ≤ leV b ∧ leV b < 115792089237316195423570985008687907853269984665640564039457584007913129639936 := by
  rw [leV32 h]
  have a0 := orw_bd h 0; have a1 := orw_bd h 1; have a2 := orw_bd h 2; have a3 := orw_bd h 3
  omega
/-- a bound of the words that each function keeps to -/
abbrev G5 : Int := 2251799813841000
/-- WORDS THAT STAND FOR A NUMBER modulo p -/
def Rep (l : List Int) (n : Int) : Prop := ∃ x0 x1 x2 x3 x4, l = [x0, x1, x2, x3, x4] ∧ B5 G5 x0 x1 x2 x3 x4 ∧ V x0 x1 x2 x3 x4 % pw = n % pw
theorem of_ok {b : List Int} (h : Bytes32 b) : ∃ l, limb_Of b = some l ∧ Rep l (leV b) := by
  have a0 := orw_bd h 0; have a1 := orw_bd h 1; have a2 := orw_bd h 2; have a3 := orw_bd h 3
  have hv := leV32 h
  unfold limb_Of
  rw [of_l0_eq, Option.bind_some]
  generalize orw b 0 = w0 at *
  generalize orw b 1 = w1 at *
  generalize orw b 2 = w2 at *
  generalize orw b 3 = w3 at *
  have p64 : (2 : Int) ^ IntKind.u64.bits = 18446744073709551616 := by decide
  simp only [List.getD_cons_zero, List.getD_cons_succ, List.set_cons_zero]
  rw [shl_u _ w1 13 8192 (by decide), shl_u _ w2 26 67108864 (by decide), shl_u _ w3 39 549755813888 (by decide),
    shr_u _ w0 51 2251799813685248 (by decide) (by decide), shr_u _ w1 38 274877906944 (by decide) (by decide), shr_u _ w2 25 33554432 (by decide) (by decide), shr_u _ w3 12 4096 (by decide) (by decide), shr_u _ w3 63 9223372036854775808 (by decide) (by decide)]
  simp only [w64]
  rw [bor_lo_hi k64 13 (w0 / 2251799813685248) _ 8192 (by decide) (by omega) (by omega) (by omega) (by omega) (by omega) (by omega),
    bor_lo_hi k64 26 (w1 / 274877906944) _ 67108864 (by decide) (by omega) (by omega) (by omega) (by omega) (by omega) (by omega),
    bor_lo_hi k64 39 (w2 / 33554432) _ 549755813888 (by decide) (by omega) (by omega) (by omega) (by omega) (by omega) (by omega)]
  rw [band_mask k64 51 (by decide) w0 _ 2251799813685248 (by decide) (by decide) (by omega) (by omega),
    band_mask k64 51 (by decide) (w0 / 2251799813685248 + _) _ 2251799813685248 (by decide) (by decide) (by omega) (by omega),
    band_mask k64 51 (by decide) (w1 / 274877906944 + _) _ 2251799813685248 (by decide) (by decide) (by omega) (by omega),
    band_mask k64 51 (by decide) (w2 / 33554432 + _) _ 2251799813685248 (by decide) (by decide) (by omega) (by omega),
    band_mask k64 51 (by decide) (w3 / 4096) _ 2251799813685248 (by decide) (by decide) (by omega) (by omega)]
  have hb : 0 ≤ w3 / 9223372036854775808 ∧ w3 / 9223372036854775808 ≤ 1 := by omega
  have e0 : (w0 % 2251799813685248 + 19 * (w3 / 9223372036854775808) % 18446744073709551616) % 18446744073709551616 = w0 % 2251799813685248 + 19 * (w3 / 9223372036854775808) := by
    generalize w3 / 9223372036854775808 = f at *; omega
  have e1 : (w0 / 2251799813685248 + w1 * 8192 % 18446744073709551616) % 2251799813685248 = w0 / 2251799813685248 + w1 % 274877906944 * 8192 := by omega
  have e2 : (w1 / 274877906944 + w2 * 67108864 % 18446744073709551616) % 2251799813685248 = w1 / 274877906944 + w2 % 33554432 * 67108864 := by omega
  have e3 : (w2 / 33554432 + w3 * 549755813888 % 18446744073709551616) % 2251799813685248 = w2 / 33554432 + w3 % 4096 * 549755813888 := by omega
  rw [e0, e1, e2, e3]
  refine ⟨_, rfl, _, _, _, _, _, rfl, ⟨⟨?_, ?_⟩, ⟨?_, ?_⟩, ⟨?_, ?_⟩, ⟨?_, ?_⟩, ?_, ?_⟩, ?_⟩
  all_goals try first | omega | (show _ < (2251799813841000 : Int); omega)
  have ev : V (w0 % 2251799813685248 + 19 * (w3 / 9223372036854775808)) (w0 / 2251799813685248 + w1 % 274877906944 * 8192) (w1 / 274877906944 + w2 % 33554432 * 67108864) (w2 / 33554432 + w3 % 4096 * 549755813888) (w3 / 4096 % 2251799813685248) = leV b - pw * (w3 / 9223372036854775808) := by
    unfold V pw; omega
  rw [ev, Int.sub_mul_emod_self_left]
end Go.Pn
