/- The words of a number modulo 2^255 - 19: what each function of the limb layer computes. -/
import Derived.Test.YtdcdanfeepncmaaSbD
import Derived.Test.YtdcdanfeepncmaaPnA
import Derived.KernelRfl
namespace Go.Pn
open Go Go.Gw Go.Proofs.Sb.D
def cstep (x c : Int) : Int × Int := (band .u64 (IntKind.u64.wrap (x + c)) 2251799813685247, shr .u64 (IntKind.u64.wrap (x + c)) 51)
theorem carried_eq (x0 x1 x2 x3 x4 : Int) : limb_carried [x0, x1, x2, x3, x4] =
    (let s0 := cstep x0 0; let s1 := cstep x1 s0.2; let s2 := cstep x2 s1.2; let s3 := cstep x3 s2.2; let s4 := cstep x4 s3.2
     some [IntKind.u64.wrap (s0.1 + IntKind.u64.wrap (19 * s4.2)), s1.1, s2.1, s3.1, s4.1]) := by kernel_rfl
theorem cstep_ok (x c : Int) (h0 : 0 ≤ x) (h1 : 0 ≤ c) (h2 : x + c < 18446744073709551616) :
    ∃ y d, cstep x c = (y, d) ∧ 0 ≤ y ∧ y < 2251799813685248 ∧ 0 ≤ d ∧ d < 8192 ∧ x + c = d * 2251799813685248 + y := by
  refine ⟨(x + c) % 2251799813685248, (x + c) / 2251799813685248, ?_, ?_, ?_, ?_, ?_, ?_⟩
  · unfold cstep
    rw [w64, Int.emod_eq_of_lt (by omega) h2, band_mask k64 51 (by decide) (x + c) _ 2251799813685248 (by decide) (by decide) (by omega) h2, shr_u _ _ _ 2251799813685248 (by decide) (by decide)]
  all_goals omega
/-- five words -/
def V (x0 x1 x2 x3 x4 : Int) : Int := x0 + x1 * 2251799813685248 + x2 * 5070602400912917605986812821504 + x3 * 11417981541647679048466287755595961091061972992 + x4 * 25711008708143844408671393477458601640355247900524685364822016
abbrev pw : Int := 57896044618658097711785492504343953926634992332820282019728792003956564819949
/-- words in bounds -/
structure B5 (b x0 x1 x2 x3 x4 : Int) : Prop where
  h0 : 0 ≤ x0 ∧ x0 < b
  h1 : 0 ≤ x1 ∧ x1 < b
  h2 : 0 ≤ x2 ∧ x2 < b
  h3 : 0 ≤ x3 ∧ x3 < b
  h4 : 0 ≤ x4 ∧ x4 < b
theorem carried_ok {x0 x1 x2 x3 x4 : Int} (h : B5 18446744073709543424 x0 x1 x2 x3 x4) :
    ∃ t0 y1 y2 y3 y4 c, limb_carried [x0, x1, x2, x3, x4] = some [t0 + 19 * c, y1, y2, y3, y4] ∧ B5 2251799813685248 t0 y1 y2 y3 y4 ∧ 0 ≤ c ∧ c < 8192 ∧
      V x0 x1 x2 x3 x4 = c * 57896044618658097711785492504343953926634992332820282019728792003956564819968 + V t0 y1 y2 y3 y4 := by
  obtain ⟨⟨a0, b0⟩, ⟨a1, b1⟩, ⟨a2, b2⟩, ⟨a3, b3⟩, a4, b4⟩ := h
  rw [carried_eq]
  obtain ⟨y0, c0, e0, l0, u0, m0, n0, q0⟩ := cstep_ok x0 0 a0 (by omega) (by omega)
  obtain ⟨y1, c1, e1, l1, u1, m1, n1, q1⟩ := cstep_ok x1 c0 a1 m0 (by omega)
  obtain ⟨y2, c2, e2, l2, u2, m2, n2, q2⟩ := cstep_ok x2 c1 a2 m1 (by omega)
  obtain ⟨y3, c3, e3, l3, u3, m3, n3, q3⟩ := cstep_ok x3 c2 a3 m2 (by omega)
  obtain ⟨y4, c4, e4, l4, u4, m4, n4, q4⟩ := cstep_ok x4 c3 a4 m3 (by omega)
  refine ⟨y0, y1, y2, y3, y4, c4, ?_, ⟨⟨l0, u0⟩, ⟨l1, u1⟩, ⟨l2, u2⟩, ⟨l3, u3⟩, l4, u4⟩, m4, n4, ?_⟩
  · simp only [e0, e1, e2, e3, e4, w64]
    rw [Int.emod_eq_of_lt (a := 19 * c4) (by omega) (by omega), Int.emod_eq_of_lt (by omega) (by omega)]
  · unfold V; omega
end Go.Pn
