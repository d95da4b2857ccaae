/- The bytes of a number modulo 2^255 - 19. -/
import Derived.Test.YtdcdanfeepncmaaPnB
namespace Go.Pn
open Go Go.Gw Go.Proofs.Sb.D
/-- the bytes of a number, the lowest first -/
def leB (n : Nat) (v : Int) : List Int := (List.range n).map fun i => v / 2 ^ (8 * i) % 256
theorem bytes_l0_eq (a : List Int) (x0 x1 x2 x3 x4 : Int) : limb_N_Bytes_l0 a (((5 : Int) - (0 : Int)).toNat + 1) [x0, x1, x2, x3, x4] 0 0 =
    (let s0 := cstep x0 0; let s1 := cstep x1 s0.2; let s2 := cstep x2 s1.2; let s3 := cstep x3 s2.2; let s4 := cstep x4 s3.2
     some ([s0.1, s1.1, s2.1, s3.1, s4.1], s4.2)) := by kernel_rfl
def wordsOf (m0 m1 m2 m3 m4 : Int) : List Int := [bor .u64 m0 (shl .u64 m1 51), bor .u64 (shr .u64 m1 13) (shl .u64 m2 38), bor .u64 (shr .u64 m2 26) (shl .u64 m3 25), bor .u64 (shr .u64 m3 39) (shl .u64 m4 12)]
theorem bytes_l2_eq (m0 m1 m2 m3 m4 : Int) : limb_N_Bytes_l2 [m0, m1, m2, m3, m4] (((32 : Int) - (0 : Int)).toNat + 1) (List.replicate 32 0) 0 =
    some ((List.range 32).map fun i => IntKind.u8.wrap (shr .u64 ((wordsOf m0 m1 m2 m3 m4).getD (i / 8) 0) ((8 * (i % 8) : Nat) : Int))) := by kernel_rfl
theorem wordsOf_ok {m0 m1 m2 m3 m4 : Int} (h : B5 2251799813685248 m0 m1 m2 m3 m4) : wordsOf m0 m1 m2 m3 m4 =
    [V m0 m1 m2 m3 m4 % 18446744073709551616, V m0 m1 m2 m3 m4 / 18446744073709551616 % 18446744073709551616, V m0 m1 m2 m3 m4 / 340282366920938463463374607431768211456 % 18446744073709551616, V m0 m1 m2 m3 m4 / 6277101735386680763835789423207666416102355444464034512896] := by
  obtain ⟨⟨a0, b0⟩, ⟨a1, b1⟩, ⟨a2, b2⟩, ⟨a3, b3⟩, a4, b4⟩ := h
  have p64 : (2 : Int) ^ IntKind.u64.bits = 18446744073709551616 := by decide
  unfold wordsOf V
  rw [shl_u _ m1 51 2251799813685248 (by decide), shl_u _ m2 38 274877906944 (by decide), shl_u _ m3 25 33554432 (by decide), shl_u _ m4 12 4096 (by decide),
    shr_u _ m1 13 8192 (by decide) (by decide), shr_u _ m2 26 67108864 (by decide) (by decide), shr_u _ m3 39 549755813888 (by decide) (by decide)]
  simp only [w64]
  rw [bor_lo_hi k64 51 m0 _ 2251799813685248 (by decide) a0 (by omega) b0 (by omega) (by omega) (by omega),
    bor_lo_hi k64 38 (m1 / 8192) _ 274877906944 (by decide) (by omega) (by omega) (by omega) (by omega) (by omega) (by omega),
    bor_lo_hi k64 25 (m2 / 67108864) _ 33554432 (by decide) (by omega) (by omega) (by omega) (by omega) (by omega) (by omega),
    bor_lo_hi k64 12 (m3 / 549755813888) _ 4096 (by decide) (by omega) (by omega) (by omega) (by omega) (by omega) (by omega)]
  congr 1
  · omega
  · congr 1
    · omega
    · congr 1
      · omega
      · congr 1; omega
theorem byte_of_word (v A B : Int) (hA : 0 < A) (hB : 0 < B) (h : B * 256 ∣ 18446744073709551616) : v / A % 18446744073709551616 / B % 256 = v / (A * B) % 256 := by
  obtain ⟨k, hk⟩ := h
  rw [← Int.ediv_ediv_of_nonneg (Int.le_of_lt hA)]
  generalize v / A = u
  have e : u = u / 18446744073709551616 * 18446744073709551616 + u % 18446744073709551616 := by omega
  conv => rhs; rw [e]
  rw [hk]
  generalize u % (B * 256 * k) = r
  generalize u / (B * 256 * k) = q
  have : q * (B * 256 * k) + r = r + q * 256 * k * B := by
    rw [Int.add_comm]; congr 1; simp only [Int.mul_comm, Int.mul_left_comm]
  rw [this, Int.add_mul_ediv_right _ _ (by omega : B ≠ 0)]
  have : q * 256 * k = q * k * 256 := by simp only [Int.mul_assoc, Int.mul_comm]
  rw [this, Int.add_mul_emod_self_right]
end Go.Pn
