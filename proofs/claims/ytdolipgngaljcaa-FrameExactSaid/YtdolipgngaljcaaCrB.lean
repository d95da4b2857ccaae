/- The sum of frames as steps of one bit. -/
import Derived.Test.YtdolipgngaljcaaCrA
namespace Go.Cr
open Go Go.Gw
abbrev W := BitVec 32
def poly : W := 0xedb88320#32
/-- One bit. -/
def bit1 (r : W) : W := (r >>> 1) ^^^ (if r.getLsbD 0 then poly else 0#32)
def bitn : Nat → W → W
  | 0, r => r
  | n + 1, r => bitn n (bit1 r)

theorem xlc {n : Nat} (x y z : BitVec n) : x ^^^ (y ^^^ z) = y ^^^ (x ^^^ z) := by rw [← BitVec.xor_assoc, BitVec.xor_comm x y, BitVec.xor_assoc]
theorem xself {n : Nat} (x y : BitVec n) : x ^^^ (x ^^^ y) = y := by rw [← BitVec.xor_assoc, BitVec.xor_self, BitVec.zero_xor]
theorem bit1_xor (x y : W) : bit1 (x ^^^ y) = bit1 x ^^^ bit1 y := by
  unfold bit1
  rw [BitVec.ushiftRight_xor_distrib, BitVec.getLsbD_xor]
  generalize x >>> 1 = a
  generalize y >>> 1 = b
  cases x.getLsbD 0 <;> cases y.getLsbD 0 <;> simp only [Bool.xor_false, Bool.xor_true, Bool.not_false, Bool.not_true, Bool.false_eq_true, if_true, if_false, BitVec.xor_zero]
  · rw [BitVec.xor_assoc]
  · rw [BitVec.xor_assoc, BitVec.xor_comm b poly, ← BitVec.xor_assoc]
  · rw [BitVec.xor_assoc, BitVec.xor_comm b poly, xself]
theorem bitn_xor (n : Nat) : ∀ x y : W, bitn n (x ^^^ y) = bitn n x ^^^ bitn n y := by
  induction n with
  | zero => intro x y; rfl
  | succ n ih => intro x y; simp only [bitn, bit1_xor, ih]
theorem bitn_add (n : Nat) : ∀ (m : Nat) (x : W), bitn (m + n) x = bitn n (bitn m x)
  | 0, x => by simp [bitn]
  | m + 1, x => by rw [Nat.add_right_comm]; simp only [bitn]; exact bitn_add n m _
theorem bit1_zero : bit1 0#32 = 0#32 := by decide
theorem bitn_zero (n : Nat) : bitn n 0#32 = 0#32 := by
  induction n with
  | zero => rfl
  | succ n ih => simp only [bitn, bit1_zero, ih]
/-- Noughts at the low end are shifted out. -/
theorem bitn_low (n : Nat) : ∀ x : W, (∀ i, i < n → x.getLsbD i = false) → bitn n x = x >>> n := by
  induction n with
  | zero => intro x _; simp [bitn]
  | succ n ih =>
    intro x h
    have h0 : bit1 x = x >>> 1 := by
      unfold bit1
      rw [h 0 (by omega)]
      simp
    simp only [bitn, h0]
    rw [ih _ fun i hi => by rw [BitVec.getLsbD_ushiftRight]; exact h (1 + i) (by omega)]
    rw [← BitVec.shiftRight_add, Nat.add_comm]
/-- A word is its low bits and the others. -/
theorem split_low (n : Nat) (x : W) : x = (x &&& BitVec.ofNat 32 (2 ^ n - 1)) ^^^ ((x >>> n) <<< n) := by
  apply BitVec.eq_of_getLsbD_eq
  intro i hi
  simp only [BitVec.getLsbD_xor, BitVec.getLsbD_and, BitVec.getLsbD_shiftLeft, BitVec.getLsbD_ushiftRight, BitVec.getLsbD_ofNat, Nat.testBit_two_pow_sub_one]
  by_cases h : i < n
  · simp [h, hi]
  · simp [h, hi, show n + (i - n) = i by omega]
theorem bitn_shl (n : Nat) (y : W) : bitn n ((y >>> n) <<< n) = y >>> n := by
  rw [bitn_low n _ fun i hi => by simp [BitVec.getLsbD_shiftLeft, hi]]
  apply BitVec.eq_of_getLsbD_eq
  intro i hi
  simp only [BitVec.getLsbD_shiftLeft, BitVec.getLsbD_ushiftRight]
  by_cases h : n + i < 32
  · simp [h, show ¬ n + i < n by omega, show n + i - n = i by omega]
  · simp [h]
    rw [BitVec.getLsbD_of_ge _ _ (by omega)]
/-- n steps at once, by what n bits make of nothing. -/
theorem bitn_split (n : Nat) (x : W) : bitn n x = (x >>> n) ^^^ bitn n (x &&& BitVec.ofNat 32 (2 ^ n - 1)) := by
  conv => lhs; rw [split_low n x]
  rw [bitn_xor, bitn_shl, BitVec.xor_comm]

/-- One bit can be taken back: the highest bit tells. -/
theorem bit1_inj {x : W} (h : bit1 x = 0#32) : x = 0#32 := by
  have h31 : (bit1 x).getLsbD 31 = x.getLsbD 0 := by
    unfold bit1
    rw [BitVec.getLsbD_xor, BitVec.getLsbD_ushiftRight]
    have : x.getLsbD (1 + 31) = false := BitVec.getLsbD_of_ge _ _ (by omega)
    rw [this]
    cases x.getLsbD 0 <;> decide
  rw [h] at h31
  have h0 : x.getLsbD 0 = false := by rw [← h31]; decide
  have hs : x >>> 1 = 0#32 := by
    unfold bit1 at h
    rw [h0] at h
    simpa using h
  apply BitVec.eq_of_getLsbD_eq
  intro i hi
  cases i with
  | zero => rw [h0]; simp
  | succ i =>
    have := congrArg (fun z : W => z.getLsbD i) hs
    simp only [BitVec.getLsbD_ushiftRight] at this
    rw [Nat.add_comm, this]
    simp
theorem bitn_inj (n : Nat) : ∀ {x : W}, bitn n x = 0#32 → x = 0#32 := by
  induction n with
  | zero => intro x h; exact h
  | succ n ih => intro x h; exact bit1_inj (ih h)

/-- One byte. -/
def next (r : W) (c : BitVec 8) : W := bitn 8 (r ^^^ c.setWidth 32)
def fold (r : W) (l : List (BitVec 8)) : W := l.foldl next r
def ones : W := 0xffffffff#32
def sum (l : List (BitVec 8)) : W := fold ones l ^^^ ones
end Go.Cr
