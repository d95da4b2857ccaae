/- The laws of the sum of frames: exact; with its sum behind it; held bit by bit; what was forgotten. -/
import Derived.Test.YtdolipgngaljcaaCrC
namespace Go.Cr
open Go Go.Gw Go.Proofs.Sa.D

theorem bytes_same (a : List Int) (ha : a.length ≤ 4611686018427387904) : ∀ (d k i : Nat), i + d = a.length → d < k → keep_Bytes_l0 a a k (i : Int) = some (.inl ()) := by
  intro d
  induction d with
  | zero =>
    intro k i hi hk
    obtain ⟨k, rfl⟩ : ∃ m, k = m + 1 := ⟨k - 1, by omega⟩
    unfold keep_Bytes_l0
    rw [if_neg (by simp; omega)]
  | succ d ih =>
    intro k i hi hk
    obtain ⟨k, rfl⟩ : ∃ m, k = m + 1 := ⟨k - 1, by omega⟩
    unfold keep_Bytes_l0
    have hw : IntKind.i64.wrap ((i : Int) + 1) = ((i + 1 : Nat) : Int) := by rw [i64_small (by omega) (by omega)]; rfl
    rw [if_pos (by simp; omega), if_pos (by omega), if_pos (by omega), if_neg (by simp), hw, ih k (i + 1) (by omega) (by omega)]

theorem same (a : List Int) (ha : a.length ≤ 4611686018427387904) : keep_Bytes a a = some true := by
  unfold keep_Bytes
  have h : keep_Bytes_l0 a a (((↑(List.length a) : Int) - (0 : Int)).toNat + 1) (0 : Int) = some (.inl ()) := bytes_same a ha a.length _ 0 (by omega) (by simp)
  rw [if_neg (by simp), h]
  rfl

theorem twin (a : List Int) (ha : a.length ≤ maxN) : keep_Twin a = some a := by
  unfold keep_Twin
  rw [if_pos ha]

theorem wakes : law03_wakes = some true := by kernel_rfl

theorem CrcExact : ∀ (a0 : List Int), (∀ x ∈ a0, (Lit.int .u8 x).wf = true) → law03_CrcExact a0 = some true := by
  intro a0 h0
  obtain ⟨b, rfl⟩ := areU h0
  unfold law03_CrcExact
  by_cases hl : b.length > 400
  · rw [if_pos (by simp; omega)]
  · have hn : b.length ≤ 4611686018427387904 := by omega
    rw [if_neg (by simp; omega), twin _ (by simp [maxN]; omega)]
    simp only [Option.bind_some, sum_eq b hn, page_eq b hn, beq_self_eq_true, if_true, same _ (show (b.map U).length ≤ 4611686018427387904 by simpa using hn), wakes]

/-- A word's four bytes, the lowest first. -/
def four (n : W) : List (BitVec 8) := [n.setWidth 8, (n >>> 8).setWidth 8, (n >>> 16).setWidth 8, (n >>> 24).setWidth 8]

theorem next_word (r n : W) : next r (n.setWidth 8) = bitn 8 (r ^^^ n) ^^^ (n >>> 8) := by
  unfold next
  have e : (n.setWidth 8 : BitVec 8).setWidth 32 = (n &&& BitVec.ofNat 32 (2 ^ 8 - 1) : W) := by
    apply BitVec.eq_of_getLsbD_eq
    intro i hi
    simp only [BitVec.getLsbD_setWidth, BitVec.getLsbD_and, BitVec.getLsbD_ofNat, Nat.testBit_two_pow_sub_one]
    by_cases h : i < 8 <;> simp [h, hi]
  rw [e]
  conv => rhs; rw [split_low 8 n]
  rw [← BitVec.xor_assoc, bitn_xor 8 (r ^^^ _), bitn_shl]
  conv => rhs; arg 2; rw [← split_low 8 n]
  rw [BitVec.xor_assoc, BitVec.xor_self, BitVec.xor_zero]

theorem four_gone (n : W) : (n >>> 24) >>> 8 = 0#32 := by
  rw [← BitVec.shiftRight_add]
  apply BitVec.eq_of_getLsbD_eq
  intro i hi
  simp [BitVec.getLsbD_ushiftRight]

theorem fold_four (r n : W) : fold r (four n) = bitn 32 (r ^^^ n) := by
  have s1 : (n >>> 8) >>> 8 = n >>> 16 := by rw [← BitVec.shiftRight_add]
  have s2 : (n >>> 16) >>> 8 = n >>> 24 := by rw [← BitVec.shiftRight_add]
  simp only [fold, four, List.foldl_cons, List.foldl_nil]
  rw [next_word r n, next_word, next_word, next_word, s1, s2, four_gone, BitVec.xor_zero]
  have c : ∀ x y : W, (x ^^^ y) ^^^ y = x := fun x y => by rw [BitVec.xor_assoc, BitVec.xor_self, BitVec.xor_zero]
  rw [c, c, c, ← bitn_add, ← bitn_add, ← bitn_add]

theorem fold_append (r : W) (a b : List (BitVec 8)) : fold r (a ++ b) = fold (fold r a) b := List.foldl_append

/-- Behind a text and its own sum: always the same. -/
theorem fold_own (a : List (BitVec 8)) : fold ones (a ++ four (sum a)) = bitn 32 ones := by
  rw [fold_append, fold_four]
  unfold sum
  rw [xself]

theorem four_U (n : W) : (four n).map U = [IntKind.u8.wrap (U n), IntKind.u8.wrap (shr .u32 (U n) (8 : Int)), IntKind.u8.wrap (shr .u32 (U n) (16 : Int)), IntKind.u8.wrap (shr .u32 (U n) (24 : Int))] := by
  have h8 : shr .u32 (U n) (8 : Int) = U (n >>> 8) := shr32 n 8 (by decide)
  have h16 : shr .u32 (U n) (16 : Int) = U (n >>> 16) := shr32 n 16 (by decide)
  have h24 : shr .u32 (U n) (24 : Int) = U (n >>> 24) := shr32 n 24 (by decide)
  rw [h8, h16, h24, conv8, conv8, conv8, conv8]
  rfl

theorem CrcRest : ∀ (a0 : List Int), (∀ x ∈ a0, (Lit.int .u8 x).wf = true) → law03_CrcRest a0 = some true := by
  intro a0 h0
  obtain ⟨b, rfl⟩ := areU h0
  unfold law03_CrcRest
  by_cases hl : b.length > 400
  · rw [if_pos (by simp; omega)]
  · have hn : b.length ≤ 4611686018427387904 := by omega
    rw [if_neg (by simp; omega), twin _ (by simp [maxN]; omega)]
    simp only [Option.bind_some, sum_eq b hn]
    rw [← four_U, ← List.map_append]
    have hlen : (b ++ four (sum b)).length = b.length + 4 := by simp [four]
    rw [if_pos (by rw [List.length_map, hlen]; simp only [maxN]; omega), sum_eq _ (by omega)]
    have e : U (sum (b ++ four (sum b))) = (558161692 : Int) := by
      have : sum (b ++ four (sum b)) = bitn 32 ones ^^^ ones := congrArg (· ^^^ ones) (fold_own b)
      rw [this]
      decide
    simp only [Option.bind_some, e, beq_self_eq_true, if_true, wakes]

theorem CrcForgets : ∀ (a0 : List Int) (a1 : List Int) (a2 : List Int), (∀ x ∈ a0, (Lit.int .u8 x).wf = true) → (∀ x ∈ a1, (Lit.int .u8 x).wf = true) → (∀ x ∈ a2, (Lit.int .u8 x).wf = true) → law03_CrcForgets a0 a1 a2 = some true := by
  intro a0 a1 a2 h0 h1 h2
  obtain ⟨a, rfl⟩ := areU h0
  obtain ⟨b, rfl⟩ := areU h1
  obtain ⟨c, rfl⟩ := areU h2
  unfold law03_CrcForgets
  by_cases hl : a.length > 400
  · rw [if_pos (by simp; omega)]
  rw [if_neg (by simp; omega)]
  by_cases hl1 : b.length > 400
  · rw [if_pos (by simp; omega)]
  rw [if_neg (by simp; omega)]
  by_cases hl2 : c.length > 400
  · rw [if_pos (by simp; omega)]
  rw [if_neg (by simp; omega), twin _ (by simp [maxN]; omega), twin _ (by simp [maxN]; omega)]
  simp only [Option.bind_some, sum_eq a (by omega), sum_eq b (by omega)]
  have lenf : ∀ n : W, (four n).length = 4 := fun n => rfl
  rw [← four_U, ← four_U]
  simp only [← List.map_append, List.length_map, List.length_append, lenf]
  rw [if_pos (by simp only [maxN]; omega), if_pos (by simp only [maxN]; omega), if_pos (by simp only [maxN]; omega), if_pos (by simp only [maxN]; omega)]
  have e : sum (a ++ four (sum a) ++ c) = sum (b ++ four (sum b) ++ c) := by
    have : ∀ a : List (BitVec 8), sum (a ++ four (sum a) ++ c) = fold (bitn 32 ones) c ^^^ ones := fun a => by show fold ones (a ++ four (sum a) ++ c) ^^^ ones = _; rw [fold_append, fold_own]
    rw [this, this]
  have hnil : crc_Sum [] = some 0 := by kernel_rfl
  simp only [sum_eq _ (show (a ++ four (sum a) ++ c).length ≤ 4611686018427387904 by simp [lenf]; omega), sum_eq _ (show (b ++ four (sum b) ++ c).length ≤ 4611686018427387904 by simp [lenf]; omega), Option.bind_some, e, beq_self_eq_true, if_true, hnil, wakes]
end Go.Cr
