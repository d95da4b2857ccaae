/- The law of three texts. -/
import Derived.Test.YtdolipgngaljcaaCrD
namespace Go.Cr
open Go Go.Gw Go.Proofs.Sa.D

/-- Three texts held against one another. -/
def xor3 : List (BitVec 8) → List (BitVec 8) → List (BitVec 8) → List (BitVec 8)
  | x :: a, y :: b, z :: c => (x ^^^ y ^^^ z) :: xor3 a b c
  | _, _, _ => []

theorem xor3_len : ∀ (a b c : List (BitVec 8)), (xor3 a b c).length = min a.length (min b.length c.length)
  | [], _, _ => by simp [xor3]
  | _ :: _, [], _ => by simp [xor3]
  | _ :: _, _ :: _, [] => by simp [xor3]
  | x :: a, y :: b, z :: c => by simp only [xor3, List.length_cons, xor3_len a b c]; omega

theorem next3 (r s t : W) (x y z : BitVec 8) : next (r ^^^ s ^^^ t) (x ^^^ y ^^^ z) = next r x ^^^ next s y ^^^ next t z := by
  unfold next
  rw [← bitn_xor, ← bitn_xor]
  congr 1
  rw [BitVec.setWidth_xor, BitVec.setWidth_xor]
  generalize (BitVec.setWidth 32 x : W) = x'
  generalize (BitVec.setWidth 32 y : W) = y'
  generalize (BitVec.setWidth 32 z : W) = z'
  simp only [BitVec.xor_assoc]
  rw [xlc t x', xlc s x', xlc t y']

theorem fold3 : ∀ (n : Nat) (a b c : List (BitVec 8)) (r s t : W), a.length = n → b.length = n → c.length = n → fold (r ^^^ s ^^^ t) (xor3 a b c) = fold r a ^^^ fold s b ^^^ fold t c
  | 0, a, b, c, r, s, t, ha, hb, hc => by
    have := List.length_eq_zero_iff.1 ha
    have := List.length_eq_zero_iff.1 hb
    have := List.length_eq_zero_iff.1 hc
    subst_vars
    rfl
  | n + 1, x :: a, y :: b, z :: c, r, s, t, ha, hb, hc => by
    simp only [fold, xor3, List.foldl_cons]
    rw [next3]
    exact fold3 n a b c _ _ _ (by simpa using ha) (by simpa using hb) (by simpa using hc)
  | n + 1, [], _, _, _, _, _, ha, _, _ => by simp at ha
  | n + 1, _ :: _, [], _, _, _, _, _, hb, _ => by simp at hb
  | n + 1, _ :: _, _ :: _, [], _, _, _, _, _, hc => by simp at hc

theorem sum3 (n : Nat) (a b c : List (BitVec 8)) (ha : a.length = n) (hb : b.length = n) (hc : c.length = n) : sum (xor3 a b c) = sum a ^^^ sum b ^^^ sum c := by
  unfold sum
  have h := fold3 n a b c ones ones ones ha hb hc
  have e : ones ^^^ ones ^^^ ones = ones := by decide
  rw [e] at h
  rw [h]
  generalize fold ones a = x
  generalize fold ones b = y
  generalize fold ones c = z
  simp only [BitVec.xor_assoc]
  rw [xlc ones y, xlc ones z, BitVec.xor_self, BitVec.xor_zero, BitVec.xor_comm ones z]

theorem xor3_get : ∀ (a b c : List (BitVec 8)) (i : Nat) (h : i < (xor3 a b c).length) (ha : i < a.length) (hb : i < b.length) (hc : i < c.length), (xor3 a b c)[i] = a[i] ^^^ b[i] ^^^ c[i]
  | [], _, _, i, h, ha, _, _ => by simp at ha
  | _ :: _, [], _, i, h, _, hb, _ => by simp at hb
  | _ :: _, _ :: _, [], i, h, _, _, hc => by simp at hc
  | x :: a, y :: b, z :: c, 0, h, _, _, _ => rfl
  | x :: a, y :: b, z :: c, i + 1, h, ha, hb, hc => by
    simp only [xor3, List.getElem_cons_succ]
    exact xor3_get a b c i (by simpa [xor3] using h) (by simpa using ha) (by simpa using hb) (by simpa using hc)

def low (a b c : Int) : Int := if (if c < b then c else b) < a then (if c < b then c else b) else a

theorem bxor8 (x y : BitVec 8) : bxor .u8 (U x) (U y) = U (x ^^^ y) := bxor_U (k := .u8) rfl x y

/-- The loop that holds them. -/
theorem lin_loop (a b c : List (BitVec 8)) (n : Nat) (hn : (n : Int) = low a.length b.length c.length) (ha : n ≤ a.length) (hb : n ≤ b.length) (hc : n ≤ c.length) (h400 : a.length ≤ 400) : ∀ (d k i : Nat), i + d = n → d < k →
    law03_CrcLinear_l0 (a.map U) (b.map U) (c.map U) k ((((xor3 (a.take n) (b.take n) (c.take n)).take i).map U) ++ List.replicate d 0) (i : Int) = some ((xor3 (a.take n) (b.take n) (c.take n)).map U) := by
  have hlen : (xor3 (a.take n) (b.take n) (c.take n)).length = n := by rw [xor3_len]; simp; omega
  intro d
  induction d with
  | zero =>
    intro k i hi hk
    obtain ⟨k, rfl⟩ : ∃ m, k = m + 1 := ⟨k - 1, by omega⟩
    unfold law03_CrcLinear_l0
    simp only [List.length_map]
    rw [if_neg (by
      simp only [decide_eq_true_eq]
      show ¬ ((i : Int) < low a.length b.length c.length)
      omega)]
    rw [List.take_of_length_le (by omega)]
    simp
  | succ d ih =>
    intro k i hi hk
    obtain ⟨k, rfl⟩ : ∃ m, k = m + 1 := ⟨k - 1, by omega⟩
    unfold law03_CrcLinear_l0
    simp only [List.length_map]
    rw [if_pos (by
      simp only [decide_eq_true_eq]
      show ((i : Int) < low a.length b.length c.length)
      omega)]
    have hgl : (((xor3 (a.take n) (b.take n) (c.take n)).take i).map U ++ List.replicate (d + 1) (0 : Int)).length = n := by simp; omega
    rw [hgl, if_pos (by omega), if_pos (by omega), if_pos (by omega), if_pos (by omega)]
    have ga : (a.map U).getD (i : Int).toNat 0 = U a[i] := by rw [Int.toNat_natCast]; exact getD_U a i (by omega)
    have gb : (b.map U).getD (i : Int).toNat 0 = U b[i] := by rw [Int.toNat_natCast]; exact getD_U b i (by omega)
    have gc : (c.map U).getD (i : Int).toNat 0 = U c[i] := by rw [Int.toNat_natCast]; exact getD_U c i (by omega)
    have hw : IntKind.i64.wrap ((i : Int) + 1) = ((i + 1 : Nat) : Int) := by rw [i64_small (by omega) (by omega)]; rfl
    rw [ga, gb, gc, bxor8, bxor8, hw, Int.toNat_natCast]
    have hset : (((xor3 (a.take n) (b.take n) (c.take n)).take i).map U ++ List.replicate (d + 1) (0 : Int)).set i (U (a[i] ^^^ b[i] ^^^ c[i])) = ((xor3 (a.take n) (b.take n) (c.take n)).take (i + 1)).map U ++ List.replicate d 0 := by
      have hli : (((xor3 (a.take n) (b.take n) (c.take n)).take i).map (U (n := 8))).length = i := by simp; omega
      rw [List.set_append_right _ _ (by omega), hli, Nat.sub_self, List.replicate_succ, List.set_cons_zero]
      rw [List.take_add_one, List.map_append, List.append_assoc]
      congr 1
      have hlt : i < (xor3 (a.take n) (b.take n) (c.take n)).length := by omega
      rw [List.getElem?_eq_getElem hlt, xor3_get _ _ _ i hlt (by simp; omega) (by simp; omega) (by simp; omega)]
      simp
    rw [hset]
    exact ih k (i + 1) (by omega) (by omega)

theorem CrcLinear : ∀ (a0 : List Int) (a1 : List Int) (a2 : List Int), (∀ x ∈ a0, (Lit.int .u8 x).wf = true) → (∀ x ∈ a1, (Lit.int .u8 x).wf = true) → (∀ x ∈ a2, (Lit.int .u8 x).wf = true) → law03_CrcLinear a0 a1 a2 = some true := by
  intro a0 a1 a2 h0 h1 h2
  obtain ⟨a, rfl⟩ := areU h0
  obtain ⟨b, rfl⟩ := areU h1
  obtain ⟨c, rfl⟩ := areU h2
  unfold law03_CrcLinear
  simp only [List.length_map]
  by_cases hl : a.length > 400
  · rw [if_pos (by simp; omega)]
  rw [if_neg (by simp; omega)]
  by_cases hl1 : b.length > 400
  · rw [if_pos (by simp; omega)]
  rw [if_neg (by simp; omega)]
  by_cases hl2 : c.length > 400
  · rw [if_pos (by simp; omega)]
  rw [if_neg (by simp; omega)]
  have hlow : (if (if (c.length : Int) < b.length then (c.length : Int) else b.length) < a.length then (if (c.length : Int) < b.length then (c.length : Int) else b.length) else a.length) = low a.length b.length c.length := rfl
  simp only [hlow]
  obtain ⟨n, hn⟩ : ∃ n : Nat, (n : Int) = low a.length b.length c.length := ⟨(low a.length b.length c.length).toNat, by unfold low; split <;> split <;> omega⟩
  have hna : n ≤ a.length := by unfold low at hn; split at hn <;> split at hn <;> omega
  have hnb : n ≤ b.length := by unfold low at hn; split at hn <;> split at hn <;> omega
  have hnc : n ≤ c.length := by unfold low at hn; split at hn <;> split at hn <;> omega
  simp only [← hn]
  rw [if_pos (by simp only [maxN]; omega)]
  have hloop := lin_loop a b c n hn hna hnb hnc (by omega) n (((n : Int) - 0).toNat + 1) 0 (by omega) (by omega)
  simp only [List.take_zero, List.map_nil, List.nil_append] at hloop
  rw [show (((0 : Nat) : Int)) = (0 : Int) from rfl] at hloop
  rw [Int.toNat_natCast, hloop]
  have hx : (xor3 (a.take n) (b.take n) (c.take n)).length ≤ 4611686018427387904 := by rw [xor3_len]; simp; omega
  have ta : (a.take n).length = n := by simp; omega
  have tb : (b.take n).length = n := by simp; omega
  have tc : (c.take n).length = n := by simp; omega
  simp only [Option.bind_some, sum_eq _ hx, List.drop_zero, ← List.map_take]
  have q1 : (0 : Int) ≤ 0 ∧ (0 : Int) ≤ n ∧ (n : Int) ≤ a.length := by omega
  have q2 : (0 : Int) ≤ 0 ∧ (0 : Int) ≤ n ∧ (n : Int) ≤ b.length := by omega
  have q3 : (0 : Int) ≤ 0 ∧ (0 : Int) ≤ n ∧ (n : Int) ≤ c.length := by omega
  simp only [if_pos q1, if_pos q2, if_pos q3, sum_eq (a.take n) (by omega), sum_eq (b.take n) (by omega), sum_eq (c.take n) (by omega), Option.bind_some, bxor32, sum3 n _ _ _ ta tb tc, beq_self_eq_true, if_true, wakes]
end Go.Cr
