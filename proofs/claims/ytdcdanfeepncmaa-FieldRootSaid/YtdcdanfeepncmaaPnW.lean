/- The page's root; FieldRoot. -/
import Derived.Test.YtdcdanfeepncmaaPnU
namespace Go.Pn
open Go Go.Gw Go.Proofs.Sb.D
theorem hA1 : ref04_half (words4 ((pw + 3) % 115792089237316195423570985008687907853269984665640564039457584007913129639936)) = some (words4 (((pN + 3) / 2 : Nat) : Int)) := by kernel_rfl
theorem hA2 : ref04_half (words4 (((pN + 3) / 2 : Nat) : Int)) = some (words4 (((pN + 3) / 4 : Nat) : Int)) := by kernel_rfl
theorem hA3 : ref04_half (words4 (((pN + 3) / 4 : Nat) : Int)) = some (words4 (E1 : Int)) := by kernel_rfl
theorem hB1 : ref04_half (words4 ((pw - 1) % 115792089237316195423570985008687907853269984665640564039457584007913129639936)) = some (words4 (((pN - 1) / 2 : Nat) : Int)) := by kernel_rfl
theorem hB2 : ref04_half (words4 (((pN - 1) / 2 : Nat) : Int)) = some (words4 (E2 : Int)) := by kernel_rfl
theorem dec_w (x y : Int) : (words4 (x % pw) = words4 (y % pw)) ↔ x % pw = y % pw := words4_inj (mod_bd' x) (mod_bd' y)
def rhoG (u s A : Int) : Int := if u * u % pw = A % pw then u else u * s
def okG (u s A : Int) : Bool := decide (rhoG u s A * rhoG u s A % pw = A % pw)
def rvG (u s A : Int) : Int := if rhoG u s A % pw % 2 = 1 then 0 - rhoG u s A else rhoG u s A
theorem rho_eq (A : Int) : rho A = rhoG (A ^ E1) (2 ^ E2) A := by unfold rho rhoG; rfl
theorem okR_eq (A : Int) : okR A = okG (A ^ E1) (2 ^ E2) A := by unfold okR okG; rw [rho_eq]
theorem rv_eq (A : Int) : rv A = rvG (A ^ E1) (2 ^ E2) A := by unfold rv rvG; rw [rho_eq]
theorem w1' : [(1 : Int), 0, 0, 0] = words4 1 := by kernel_rfl
theorem w2' : [(2 : Int), 0, 0, 0] = words4 2 := by kernel_rfl
theorem w3' : [(3 : Int), 0, 0, 0] = words4 3 := by kernel_rfl
theorem w0' : List.replicate 4 (0 : Int) = words4 0 := by kernel_rfl
theorem rroot_core {A u s : Int} (hA : 0 ≤ A ∧ A < 115792089237316195423570985008687907853269984665640564039457584007913129639936)
    (pow1 : ref04_Pow (words4 (A % pw)) (words4 (E1 : Int)) = some (words4 (u % pw))) (pow2 : ref04_Pow (words4 2) (words4 (E2 : Int)) = some (words4 (s % pw))) :
    ref04_Root (words4 A) = some (if okG u s A then words4 (rvG u s A % pw) else List.replicate 4 0, okG u s A) := by
  unfold ref04_Root
  rw [rmod A hA, Option.bind_some, rP, Option.bind_some, w3', radd pw 3 (by decide) (by decide), Option.bind_some]
  simp only []
  rw [hA1, Option.bind_some, hA2, Option.bind_some, hA3, Option.bind_some, pow1, Option.bind_some, rmul _ _ (mod_bd' _) (mod_bd' _), ← Int.mul_emod, Option.bind_some]
  by_cases h : u * u % pw = A % pw
  · have hrho : rhoG u s A = u := if_pos h
    have hok : okG u s A = true := by unfold okG; rw [hrho]; exact decide_eq_true h
    rw [hok]
    unfold rvG
    have hd : decide (words4 (u * u % pw) = words4 (A % pw)) = true := decide_eq_true (by rw [h])
    rw [hrho, hd]
    rw [Bool.not_true, if_neg (by decide : ¬ (false = true)), Option.bind_some, if_pos rfl]
    rw [rmul _ _ (mod_bd' _) (mod_bd' _), ← Int.mul_emod, Option.bind_some]
    rw [hd, words4_odd, Bool.not_true, if_neg (by decide : ¬ (false = true))]
    by_cases ho : u % pw % 2 = 1
    · have hb : (u % pw % 2 == 1) = true := by rw [ho]; decide
      rw [if_pos ho, if_pos hb, w0', rsub_mod 0 _ (by decide) (mod_bd' _), Option.bind_some, Option.bind_some, Int.sub_emod_emod]
    · have hb : ¬ ((u % pw % 2 == 1) = true) := by rw [beq_iff_eq]; exact ho
      rw [if_neg ho, if_neg hb, Option.bind_some]
  · have hrho : rhoG u s A = u * s := if_neg h
    have hd0 : decide (words4 (u * u % pw) = words4 (A % pw)) = false := decide_eq_false (by rw [dec_w]; exact h)
    rw [hd0]
    unfold rvG okG
    rw [hrho]
    rw [Bool.not_false, if_pos (rfl : true = true), w1', w2', Option.bind_some, rsub pw 1 (by decide) (by decide), Option.bind_some]
    simp only []
    rw [hB1, Option.bind_some, hB2, Option.bind_some, pow2, Option.bind_some, rmul _ _ (mod_bd' _) (mod_bd' _), ← Int.mul_emod, Option.bind_some, Option.bind_some]
    rw [rmul _ _ (mod_bd' _) (mod_bd' _), ← Int.mul_emod, Option.bind_some]
    by_cases hk : u * s * (u * s) % pw = A % pw
    · have hd : decide (words4 (u * s * (u * s) % pw) = words4 (A % pw)) = true := decide_eq_true (by rw [hk])
      rw [hd, decide_eq_true hk, words4_odd, Bool.not_true, if_neg (by decide : ¬ (false = true)), if_pos rfl]
      by_cases ho : u * s % pw % 2 = 1
      · have hb : (u * s % pw % 2 == 1) = true := by rw [ho]; decide
        rw [if_pos ho, if_pos hb, w0', rsub_mod 0 _ (by decide) (mod_bd' _), Option.bind_some, Option.bind_some, Int.sub_emod_emod]
      · have hb : ¬ ((u * s % pw % 2 == 1) = true) := by rw [beq_iff_eq]; exact ho
        rw [if_neg ho, if_neg hb, Option.bind_some]
    · have hd : decide (words4 (u * s * (u * s) % pw) = words4 (A % pw)) = false := decide_eq_false (by rw [dec_w]; exact hk)
      rw [hd, decide_eq_false hk, Bool.not_false, if_pos (rfl : true = true), if_neg (by decide : ¬ (false = true))]
theorem rroot {A : Int} (hA : 0 ≤ A ∧ A < 115792089237316195423570985008687907853269984665640564039457584007913129639936) :
    ref04_Root (words4 A) = some (if okR A then words4 (rv A % pw) else List.replicate 4 0, okR A) := by
  have pow1 := rpow (mod_bd' A) E1 (by decide)
  rw [powP_mod] at pow1
  have := rroot_core hA pow1 (rpow (x := 2) (by decide) E2 (by decide))
  rw [← okR_eq, ← rv_eq] at this
  exact this
end Go.Pn
