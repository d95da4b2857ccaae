/- Roots modulo p. -/
import Derived.Test.YtdcdanfeepncmaaPnT
namespace Go.Pn
open Go Go.Gw Go.Proofs.Sb.D
theorem fe_iff (x y : Int) : fe x = fe y ↔ x % pw = y % pw :=
  ⟨fun h => by have := congrArg leV h; rwa [leV_fe, leV_fe] at this, fe_eq⟩
theorem words4_inj {x y : Int} (hx : 0 ≤ x ∧ x < 115792089237316195423570985008687907853269984665640564039457584007913129639936) (hy : 0 ≤ y ∧ y < 115792089237316195423570985008687907853269984665640564039457584007913129639936) : words4 x = words4 y ↔ x = y := by
  refine ⟨fun h => ?_, fun h => by rw [h]⟩
  obtain ⟨a0, a1, a2, a3, ea, _, va⟩ := words4_ex x hx.1 hx.2
  obtain ⟨b0, b1, b2, b3, eb, _, vb⟩ := words4_ex y hy.1 hy.2
  rw [ea, eb] at h
  simp only [List.cons.injEq, and_true] at h
  obtain ⟨rfl, rfl, rfl, rfl⟩ := h
  rw [← va, ← vb]
def E1 : Nat := (pN + 3) / 8
def E2 : Nat := (pN - 1) / 4
/-- what is tried as a root -/
def rho (A : Int) : Int := if A ^ E1 * A ^ E1 % pw = A % pw then A ^ E1 else A ^ E1 * 2 ^ E2
def okR (A : Int) : Bool := decide (rho A * rho A % pw = A % pw)
def rv (A : Int) : Int := if rho A % pw % 2 = 1 then 0 - rho A else rho A
theorem below252 : limb_Below 252 2 = some (leB 32 (E1 : Int)) := by kernel_rfl
theorem below253 : limb_Below 253 5 = some (leB 32 (E2 : Int)) := by kernel_rfl
theorem lsame {a b : List Int} {x y : Int} (ha : Rep a x) (hb : Rep b y) : limb_Same a b = some (decide (x % pw = y % pw)) := by
  unfold limb_Same
  rw [nbytes_rep ha, Option.bind_some, nbytes_rep hb, Option.bind_some]
  have : (leB 32 (x % pw) = leB 32 (y % pw)) ↔ x % pw = y % pw := fe_iff x y
  simp only [this]
theorem lroot {a : List Int} {A : Int} (ha : Rep a A) : ∃ l, limb_Root a = some (l, okR A) ∧ Rep l (rho A) := by
  obtain ⟨a3, f3, r3⟩ := lpow ha E1 (by decide)
  obtain ⟨a5, f5, r5⟩ := mul_ok r3 r3
  obtain ⟨a10, f10, r10⟩ := small_ok 2 (by decide) (by decide)
  obtain ⟨a14, f14, r14⟩ := lpow r10 E2 (by decide)
  obtain ⟨a16, f16, r16⟩ := mul_ok r3 r14
  unfold limb_Root
  rw [below252, Option.bind_some, f3, Option.bind_some, f5, Option.bind_some, lsame r5 ha, Option.bind_some]
  unfold okR rho
  by_cases h : A ^ E1 * A ^ E1 % pw = A % pw
  · simp only [h, decide_true, Bool.not_true, Bool.false_eq_true, if_false, if_true, Option.bind_some, f5]
    rw [lsame r5 ha, Option.bind_some]
    simp only [h, decide_true]
    exact ⟨_, rfl, r3⟩
  · obtain ⟨a19, f19, r19⟩ := mul_ok r16 r16
    simp only [h, decide_false, Bool.not_false, if_true, if_false, f10, below253, f14, f16, Option.bind_some, f19]
    rw [lsame r19 ha, Option.bind_some]
    exact ⟨_, rfl, r16⟩
theorem fe_getD0 (v : Int) : (fe v).getD 0 0 = v % pw % 256 := by
  unfold fe; rw [leB_getD 32 _ 0 (by decide)]; simp
theorem odd8 (v : Int) : band .u8 ((fe v).getD 0 0) 1 = v % pw % 2 := by
  have b := mod_bd v
  rw [fe_getD0, band_mask k8 1 (by decide) _ _ 2 (by decide) (by decide) (by omega) (by show _ < (256 : Int); omega)]
  omega
theorem lodd {a : List Int} {x : Int} (ha : Rep a x) : limb_N_Odd a = some (decide (x % pw % 2 = 1)) := by
  unfold limb_N_Odd
  rw [nbytes_rep ha, Option.bind_some]
  have := odd8 x
  unfold fe at this
  rw [this, Bool.eq_iff_iff.2 (by simp : (x % pw % 2 == 1) = true ↔ decide (x % pw % 2 = 1) = true)]
theorem froot {a : List Int} (ha : Bytes32 a) : field_Root a = some (if okR (leV a) then fe (rv (leV a)) else List.replicate 32 0, okR (leV a)) := by
  obtain ⟨l, e, r⟩ := of_ok ha
  obtain ⟨m, f, s⟩ := lroot r
  obtain ⟨z, fz, rz⟩ := small_ok 0 (by decide) (by decide)
  obtain ⟨n, fn, rn⟩ := sub_ok rz s
  unfold field_Root
  rw [e, Option.bind_some, f, Option.bind_some]
  simp only []
  cases hk : okR (leV a)
  · simp
  · simp only [Bool.not_true, Bool.false_eq_true, if_false, if_true]
    rw [lodd s, Option.bind_some]
    unfold rv
    by_cases ho : rho (leV a) % pw % 2 = 1
    · simp only [ho, decide_true, if_true, fz, fn, Option.bind_some]
      rw [nbytes_rep rn, Option.bind_some]; rfl
    · simp only [ho, decide_false, Bool.false_eq_true, if_false, Option.bind_some]
      rw [nbytes_rep s, Option.bind_some]; rfl
theorem words4_odd (v : Int) : band .u64 ((words4 v).getD 0 0) 1 = v % 2 := by
  have e : (words4 v).getD 0 0 = v % 18446744073709551616 := rfl
  rw [e, band_mask k64 1 (by decide) _ _ 2 (by decide) (by decide) (by omega) (by show _ < (18446744073709551616 : Int); omega)]
  omega
theorem half_E1 : (ref04_half (words4 ((pw + 3) % 115792089237316195423570985008687907853269984665640564039457584007913129639936))).bind (fun a => (ref04_half a).bind fun b => ref04_half b) = some (words4 (E1 : Int)) := by kernel_rfl
theorem half_E2 : (ref04_half (words4 ((pw - 1) % 115792089237316195423570985008687907853269984665640564039457584007913129639936))).bind (fun a => ref04_half a) = some (words4 (E2 : Int)) := by kernel_rfl
theorem modmod (x : Int) : x % pw % pw = x % pw := Int.emod_emod_of_dvd _ (Int.dvd_refl _)
end Go.Pn
