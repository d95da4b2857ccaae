/- The sum of frames: what the program's and the page's functions tell is the sum, bit by bit. -/
import Derived.Test.YtdolipgngaljcaaCrB
import Derived.Test.YtdolipgngaljcaaSaD
import Derived.KernelRfl
namespace Go.Cr
open Go Go.Gw Go.Proofs.Sa.D

theorem shr32 (x : W) (m : Nat) (hm : m ≤ 32) : shr .u32 (U x) (m : Int) = U (x >>> m) := shr_U (k := .u32) x _ m (by simp) hm
theorem bxor32 (x y : W) : bxor .u32 (U x) (U y) = U (x ^^^ y) := bxor_U (k := .u32) rfl x y
theorem band32 (x y : W) : band .u32 (U x) (U y) = U (x &&& y) := band_U (k := .u32) rfl x y
theorem conv32 (c : BitVec 8) : IntKind.u32.wrap (U c) = U (c.setWidth 32) := conv_U (k := .u32) rfl c
theorem conv8 (c : W) : IntKind.u8.wrap (U c) = U (c.setWidth 8) := conv_U (k := .u8) rfl c

def tab : List Int := (List.range 16).map fun i => U (bitn 4 (BitVec.ofNat 32 i))
theorem steps_eq : crc_steps = some tab := by kernel_rfl

theorem tab_get (x : W) (h : x.toNat < 16) : tab.getD (U x).toNat 0 = U (bitn 4 x) := by
  have e : x = BitVec.ofNat 32 x.toNat := by simp
  rw [e]
  generalize x.toNat = i at h
  have hi : (U (BitVec.ofNat 32 i)).toNat = i := by simp [U]; omega
  rw [hi]
  simp [tab, List.getD, h]

theorem low4 (x : W) : (x &&& 15#32).toNat < 16 := by
  rw [BitVec.toNat_and]
  exact Nat.lt_of_le_of_lt Nat.and_le_right (by decide)

/-- Four bits at once. -/
theorem nib (x : W) : bxor .u32 (shr .u32 (U x) (4 : Int)) (tab.getD (band .u32 (U x) (15 : Int)).toNat 0) = U (bitn 4 x) := by
  have h15 : (15 : Int) = U (15#32) := by decide
  rw [h15, band32, tab_get _ (low4 x)]
  have := shr32 x 4 (by decide)
  rw [show ((4 : Nat) : Int) = 4 from rfl] at this
  rw [this, bxor32]
  exact congrArg U (bitn_split 4 x).symm
theorem nib_in (x : W) : 0 ≤ band .u32 (U x) (15 : Int) ∧ band .u32 (U x) (15 : Int) < ((16 : Nat) : Int) := by
  have h15 : (15 : Int) = U (15#32) := by decide
  rw [h15, band32]
  have := low4 x
  simp only [U]
  omega

theorem next_two (r : W) (c : BitVec 8) : bitn 4 (bitn 4 (r ^^^ c.setWidth 32)) = next r c := (bitn_add 4 4 _).symm

theorem sum_loop (b : List (BitVec 8)) (hb : b.length ≤ 4611686018427387904) : ∀ (d : Nat) (k i : Nat) (r : W), i + d = b.length → d < k → crc_Sum_l0 (b.map U) tab k (U r) (i : Int) = some (U (fold r (b.drop i))) := by
  intro d
  induction d with
  | zero =>
    intro k i r hi hk
    obtain ⟨k, rfl⟩ : ∃ m, k = m + 1 := ⟨k - 1, by omega⟩
    unfold crc_Sum_l0
    rw [if_neg (by simp; omega), List.drop_of_length_le (by omega)]
    rfl
  | succ d ih =>
    intro k i r hi hk
    obtain ⟨k, rfl⟩ : ∃ m, k = m + 1 := ⟨k - 1, by omega⟩
    have hlt : i < b.length := by omega
    have hg : (b.map U).getD (i : Int).toNat 0 = U b[i] := by rw [Int.toNat_natCast]; exact getD_U b i hlt
    unfold crc_Sum_l0
    rw [if_pos (by simp; omega), if_pos (by simp; omega), hg, conv32, bxor32, if_pos (nib_in _), nib, if_pos (nib_in _), nib, next_two]
    have hw : IntKind.i64.wrap ((i : Int) + 1) = ((i + 1 : Nat) : Int) := by rw [i64_small (by omega) (by omega)]; rfl
    rw [hw, ih k (i + 1) _ (by omega) (by omega)]
    rw [List.drop_eq_getElem_cons hlt]
    rfl

theorem sum_eq (b : List (BitVec 8)) (hb : b.length ≤ 4611686018427387904) : crc_Sum (b.map U) = some (U (sum b)) := by
  unfold crc_Sum
  rw [steps_eq]
  have h : crc_Sum_l0 (b.map U) tab (((↑(List.length (b.map U)) : Int) - (0 : Int)).toNat + 1) (U ones) (0 : Int) = some (U (fold ones (b.drop 0))) := sum_loop b hb b.length _ 0 ones (by omega) (by simp)
  have e1 : (4294967295 : Int) = U ones := by decide
  simp only [Option.bind_some]
  rw [e1, h]
  simp only [Option.bind_some, bxor32]
  rfl

/-! The page's. -/

theorem page_bits (b : List (BitVec 8)) (i : Nat) (hi : i < b.length) : ∀ (d j k : Nat) (r : W), j + d = 8 → d < k →
    ∃ r' : W, ref01_Crc_l1 (b.map U) (i : Int) k (U r) (j : Int) = some (U r') ∧ r' ^^^ ((b[i].setWidth 32) >>> 8) = bitn d (r ^^^ ((b[i].setWidth 32) >>> j)) := by
  intro d
  induction d with
  | zero =>
    intro j k r hj hk
    obtain ⟨k, rfl⟩ : ∃ m, k = m + 1 := ⟨k - 1, by omega⟩
    obtain rfl : j = 8 := by omega
    refine ⟨r, ?_, rfl⟩
    unfold ref01_Crc_l1
    rw [if_neg (by decide)]
  | succ d ih =>
    intro j k r hj hk
    obtain ⟨k, rfl⟩ : ∃ m, k = m + 1 := ⟨k - 1, by omega⟩
    have hg : (b.map U).getD (i : Int).toNat 0 = U b[i] := by rw [Int.toNat_natCast]; exact getD_U b i hi
    have hu : IntKind.u64.wrap (j : Int) = (j : Int) := u64_small (by omega) (by omega)
    have hw : IntKind.i64.wrap ((j : Int) + 1) = ((j + 1 : Nat) : Int) := by rw [i64_small (by omega) (by omega)]; rfl
    have hs : shr .u8 (U b[i]) (j : Int) = U (b[i] >>> j) := shr_U (k := .u8) _ _ j (by simp) (by simp [IntKind.bits]; omega)
    have h1 : (1 : Int) = U (1#32) := by decide
    have hs1 : shr .u32 (U r) (1 : Int) = U (r >>> 1) := shr32 r 1 (by decide)
    have hp : (3988292384 : Int) = U poly := by decide
    unfold ref01_Crc_l1
    rw [if_pos (by simp; omega), if_pos (by simp; omega), hu, if_pos (by omega), hg, hs, conv32, hw, hs1, hp, bxor32]
    have hcond : ((band .u32 (U r) (1 : Int)) != (band .u32 (U ((b[i] >>> j).setWidth 32)) (1 : Int))) = (r ^^^ ((b[i].setWidth 32) >>> j)).getLsbD 0 := by
      rw [h1, band32, band32]
      have lsb : ∀ x : W, U (x &&& 1#32) = if x.getLsbD 0 then 1 else 0 := fun x => by
        rw [BitVec.and_one_eq_setWidth_ofBool_getLsbD]
        cases x.getLsbD 0 <;> decide
      rw [lsb, lsb, BitVec.getLsbD_xor]
      have e : ((b[i] >>> j).setWidth 32).getLsbD 0 = ((b[i].setWidth 32) >>> j).getLsbD 0 := by
        simp only [BitVec.getLsbD_setWidth, BitVec.getLsbD_ushiftRight]
        simp
        intro h
        omega
      rw [e]
      cases r.getLsbD 0 <;> cases ((b[i].setWidth 32) >>> j).getLsbD 0 <;> decide
    have hstep : ∀ t : W, t = bit1 (r ^^^ ((b[i].setWidth 32) >>> j)) ^^^ ((b[i].setWidth 32) >>> (j + 1)) →
        ∃ r' : W, ref01_Crc_l1 (b.map U) (i : Int) k (U t) ((j + 1 : Nat) : Int) = some (U r') ∧ r' ^^^ ((b[i].setWidth 32) >>> 8) = bitn (d + 1) (r ^^^ ((b[i].setWidth 32) >>> j)) := fun t ht => by
      obtain ⟨r', h1, h2⟩ := ih (j + 1) k t (by omega) (by omega)
      refine ⟨r', h1, ?_⟩
      rw [h2, ht, BitVec.xor_assoc, BitVec.xor_self, BitVec.xor_zero]
      rfl
    have sh : ((b[i].setWidth 32) >>> j) >>> 1 = (b[i].setWidth 32) >>> (j + 1) := by rw [← BitVec.shiftRight_add]
    rw [hcond]
    cases hc : (r ^^^ ((b[i].setWidth 32) >>> j)).getLsbD 0 with
    | true =>
      rw [if_pos rfl]
      refine hstep _ ?_
      unfold bit1
      rw [hc, if_pos rfl, BitVec.ushiftRight_xor_distrib, sh]
      generalize (b[i].setWidth 32) >>> (j + 1) = y
      generalize r >>> 1 = z
      rw [BitVec.xor_assoc, BitVec.xor_assoc, BitVec.xor_comm poly y, xself]
    | false =>
      rw [if_neg (by simp)]
      refine hstep _ ?_
      unfold bit1
      rw [hc, BitVec.ushiftRight_xor_distrib, sh]
      generalize (b[i].setWidth 32) >>> (j + 1) = y
      generalize r >>> 1 = z
      simp [BitVec.xor_assoc]

theorem byte_gone (c : BitVec 8) : (c.setWidth 32 : W) >>> 8 = 0#32 := by
  apply BitVec.eq_of_getLsbD_eq
  intro i hi
  simp [BitVec.getLsbD_ushiftRight, BitVec.getLsbD_setWidth]

theorem page_loop (b : List (BitVec 8)) (hb : b.length ≤ 4611686018427387904) : ∀ (d : Nat) (k i : Nat) (r : W), i + d = b.length → d < k → ref01_Crc_l0 (b.map U) k (U r) (i : Int) = some (U (fold r (b.drop i))) := by
  intro d
  induction d with
  | zero =>
    intro k i r hi hk
    obtain ⟨k, rfl⟩ : ∃ m, k = m + 1 := ⟨k - 1, by omega⟩
    unfold ref01_Crc_l0
    rw [if_neg (by simp; omega), List.drop_of_length_le (by omega)]
    rfl
  | succ d ih =>
    intro k i r hi hk
    obtain ⟨k, rfl⟩ : ∃ m, k = m + 1 := ⟨k - 1, by omega⟩
    have hlt : i < b.length := by omega
    obtain ⟨r', h1, h2⟩ := page_bits b i hlt 8 0 (((8 : Int) - (0 : Int)).toNat + 1) r (by omega) (by decide)
    rw [byte_gone, BitVec.xor_zero] at h2
    have h0 : (b[i].setWidth 32 : W) >>> 0 = b[i].setWidth 32 := by simp
    rw [h0] at h2
    unfold ref01_Crc_l0
    rw [if_pos (by simp; omega)]
    rw [show ((0 : Nat) : Int) = (0 : Int) from rfl] at h1
    rw [h1, Option.bind_some, h2]
    have hw : IntKind.i64.wrap ((i : Int) + 1) = ((i + 1 : Nat) : Int) := by rw [i64_small (by omega) (by omega)]; rfl
    rw [hw, ih k (i + 1) _ (by omega) (by omega)]
    rw [List.drop_eq_getElem_cons hlt]
    rfl

theorem page_eq (b : List (BitVec 8)) (hb : b.length ≤ 4611686018427387904) : ref01_Crc (b.map U) = some (U (sum b)) := by
  unfold ref01_Crc
  have h : ref01_Crc_l0 (b.map U) (((↑(List.length (b.map U)) : Int) - (0 : Int)).toNat + 1) (U ones) (0 : Int) = some (U (fold ones (b.drop 0))) := page_loop b hb b.length _ 0 ones (by omega) (by simp)
  have e1 : (4294967295 : Int) = U ones := by decide
  rw [e1, h]
  simp only [Option.bind_some, bxor32]
  rfl
end Go.Cr
