/- FieldRoot: a root is even, its square is the number, and each square has one. -/
import Derived.Test.YtdcdanfeepncmaaPnX
namespace Go.Pn
open Go Go.Gw Go.Proofs.Sb.D
theorem square_root (a : List Int) : ∃ z, field_Root (fe (leV a * leV a)) = some (z, true) ∧ (z = fe (leV a) ∨ z = fe (0 - leV a)) := by
  have hS : leV (fe (leV a * leV a)) % pw = leV a * leV a % pw := by rw [leV_fe, modmod]
  have hk := rho_sq hS
  have hq := rv_sq hk
  refine ⟨_, by rw [froot (bfe _), hk, if_pos rfl], ?_⟩
  rw [hS] at hq
  rcases sq_eq hq with h | h
  · exact .inl (fe_eq h)
  · exact .inr (fe_eq h)
theorem FieldRoot (a0 : List Int) (l0 : a0.length = 32) (w0 : ∀ x ∈ a0, (Lit.int .u8 x).wf = true) : law04_FieldRoot a0 = some true := by
  have ha := bytes_wf l0 w0
  have ba := leV_bd ha
  obtain ⟨z, hz, hz2⟩ := square_root a0
  have z0 : (List.replicate 32 (0 : Int)) = fe 0 := by kernel_rfl
  have hzz : ¬ z = fe (leV a0) → z = fe (0 - leV a0) := fun h => hz2.resolve_left h
  have hev := rv_even (leV a0)
  have hsq := fun h => rv_sq (A := leV a0) h
  unfold law04_FieldRoot
  rw [froot ha, Option.bind_some]
  simp only []
  rw [rof ha, Option.bind_some, rroot ba, Option.bind_some]
  simp only []
  rw [num0, fmul ha ha, Option.bind_some, fmod ha, wakes4]
  cases hk : okR (leV a0)
  · simp only [beq_self_eq_true, Bool.not_true, Bool.false_eq_true, if_false, Bool.not_false, if_true, Option.bind_some, z0, decide_true, hz]
    by_cases e : z = fe (leV a0)
    · simp only [e, decide_true, if_true]
    · rw [fsub (bfe _) (bfe _), leV_fe, leV_fe, fe_sub_r, fe_sub_l, Option.bind_some]
      simp only [hzz e, decide_true, if_true, ite_self]
  · have hm : fe (rv (leV a0) * rv (leV a0)) = fe (leV a0) := fe_eq (hsq hk)
    clear hsq
    generalize rv (leV a0) = r at *
    have hb : leB 32 (r % pw) = fe r := rfl
    have ho : (band .u8 ((fe r).getD 0 0) 1 != 0) = false := by rw [odd8, hev]; rfl
    simp only [beq_self_eq_true, Bool.not_true, Bool.false_eq_true, if_false, if_true, rbytes, hb, Option.bind_some, decide_true, fmul (bfe _) (bfe _), leV_fe, fe_mul_l, fe_mul_r, hm, ho, fcheck_fe, hz]
    by_cases e : z = fe (leV a0)
    · simp only [e, decide_true, if_true]
    · rw [fsub (bfe _) (bfe _), leV_fe, leV_fe, fe_sub_r, fe_sub_l, Option.bind_some]
      simp only [hzz e, decide_true, if_true, ite_self]
end Go.Pn
