/- Squares have roots modulo p; FieldRoot. -/
import Derived.Test.YtdcdanfeepncmaaPnW
namespace Go.Pn
open Go Go.Gw Go.Proofs.Sb.D
theorem euclid {u v : Int} (h : u * v % pw = 0) : u % pw = 0 ∨ v % pw = 0 := by
  have hd : (pN : Int) ∣ u * v := by rw [pN_pw]; exact Int.dvd_of_emod_eq_zero h
  have hn : pN ∣ u.natAbs * v.natAbs := by rw [← Int.natAbs_mul]; exact Int.ofNat_dvd_left.1 hd
  rcases pN_pr.dvd_mul hn with h1 | h1
  · left; have := Int.ofNat_dvd_left.2 h1; rw [pN_pw] at this; exact Int.emod_eq_zero_of_dvd this
  · right; have := Int.ofNat_dvd_left.2 h1; rw [pN_pw] at this; exact Int.emod_eq_zero_of_dvd this
theorem sub_zero_mod {x y : Int} (h : (x - y) % pw = 0) : x % pw = y % pw := (Int.emod_eq_emod_iff_emod_sub_eq_zero).2 h
/-- a number whose square is another one's is it or its other side -/
theorem sq_eq {x y : Int} (h : x * x % pw = y * y % pw) : x % pw = y % pw ∨ x % pw = (0 - y) % pw := by
  have h1 : (x - y) * (x + y) % pw = 0 := by
    have e : (x - y) * (x + y) = x * x - y * y := by grind
    rw [e]; exact (Int.emod_eq_emod_iff_emod_sub_eq_zero).1 h
  rcases euclid h1 with h2 | h2
  · exact .inl (sub_zero_mod h2)
  · right; apply sub_zero_mod
    have : x - (0 - y) = x + y := by omega
    rw [this]; exact h2
def hN : Nat := (pN - 1) / 2
theorem pm_ok1 : pm pN 256 2 hN 1 % pN = pN - 1 := by kernel_rfl
theorem cast_pow (b n m r : Nat) (h : b ^ n % m = r) : (b : Int) ^ n % (m : Int) = (r : Int) := by
  subst h; simp
theorem pm_two (n m k r : Nat) (hk : n < 2 ^ k) (h : pm m k 2 n 1 % m = r) : ((2 : Nat) : Int) ^ n % (m : Int) = (r : Int) := by
  rw [pm_ok m k 2 n 1 hk, Nat.one_mul] at h
  exact cast_pow 2 n m r h
theorem pN1 : ((pN - 1 : Nat) : Int) = pw - 1 := by kernel_rfl
theorem two_half : (2 : Int) ^ hN % pw = pw - 1 := by
  have t := pm_two hN pN 256 (pN - 1) (by decide) pm_ok1
  rw [pN_pw, pN1] at t
  exact t
theorem half_unit {A : Int} (h : A % pw ≠ 0) : A ^ hN % pw = 1 ∨ A ^ hN % pw = (0 - 1) % pw := by
  have f := fermat1P A h
  have e : pN - 1 = hN + hN := by decide
  rw [e, Int.pow_add] at f
  exact sq_eq (x := A ^ hN) (y := 1) (by rw [f]; decide)
theorem e4 : E1 + E1 + (E1 + E1) = hN + 2 := by decide
theorem e2 : E2 + E2 = hN := by decide
theorem rho_sq {A S : Int} (hS : S % pw = A * A % pw) : okR S = true := by
  have hu : S ^ E1 % pw = (A * A) ^ E1 % pw := by rw [← powP_mod, hS, powP_mod]
  have hv : S ^ E1 * S ^ E1 % pw = A ^ hN * (A * A) % pw := by
    rw [Int.mul_emod, hu, ← Int.mul_emod, Int.mul_pow, ← Int.pow_add]
    have : A ^ (E1 + E1) * A ^ (E1 + E1) = A ^ hN * (A * A) := by
      rw [← Int.pow_add, e4, Int.pow_add, Int.pow_succ, Int.pow_succ, Int.pow_zero, Int.one_mul]
    rw [this]
  have key : rho S * rho S % pw = S % pw := by
    rw [rho_eq]; unfold rhoG
    generalize hU : S ^ E1 = u at *
    by_cases h : u * u % pw = S % pw
    · rw [if_pos h]; exact h
    · rw [if_neg h]
      have ss : (2 : Int) ^ E2 * 2 ^ E2 % pw = pw - 1 := by rw [← Int.pow_add, e2]; exact two_half
      generalize (2 : Int) ^ E2 = s at *
      have hA : A % pw ≠ 0 := fun hz => h (by
        have z : A * A % pw = 0 := by rw [Int.mul_emod, hz]; decide
        rw [hv, hS, Int.mul_emod, z, Int.mul_zero]; decide)
      have e : u * s * (u * s) = u * u * (s * s) := by grind
      rw [e, Int.mul_emod, ss, hv, hS]
      rcases half_unit hA with h1 | h1
      · exfalso; apply h; rw [hv, Int.mul_emod, h1, Int.one_mul, modmod, hS]
      · rw [Int.mul_emod (A ^ hN), h1, ← Int.mul_emod]
        have : (0 - 1) * (A * A) % pw * (pw - 1) % pw = (0 - 1) * (A * A) * (pw - 1) % pw := by
          rw [Int.mul_emod, modmod, ← Int.mul_emod]
        rw [this]
        have : (0 - 1) * (A * A) * (pw - 1) = A * A + pw * (-(A * A)) := by grind
        rw [this, Int.add_mul_emod_self_left]
  unfold okR; exact decide_eq_true key
theorem rv_sq {A : Int} (h : okR A = true) : rv A * rv A % pw = A % pw := by
  unfold okR at h
  have h := of_decide_eq_true h
  unfold rv
  generalize rho A = r at *
  split
  · have : (0 - r) * (0 - r) = r * r := by grind
    rw [this]; exact h
  · exact h
theorem rv_even (A : Int) : rv A % pw % 2 = 0 := by
  unfold rv
  generalize rho A = r
  split
  · rename_i ho
    have h1 := mod_bd r
    have e : (0 - r) % pw = pw - r % pw := by
      have h2 : (0 - r) % pw = (pw - r % pw) % pw := by
        have := Int.emod_add_mul_ediv r pw
        have e3 : 0 - r = pw - r % pw + pw * (-(r / pw) - 1) := by grind
        rw [e3, Int.add_mul_emod_self_left]
      rw [h2]; exact Int.emod_eq_of_lt (by omega) (by omega)
    rw [e]
    have hp : pw = 57896044618658097711785492504343953926634992332820282019728792003956564819949 := rfl
    omega
  · omega
end Go.Pn
