/- FieldFermat: the 2^255-th power of a number is its 20th. -/
import Derived.Test.YtdcdanfeepncmaaPnN
import Derived.Test.YtdcdanfeepncmaaPnQ
namespace Go.Pn
open Go Go.Gw Go.Proofs.Sb.D
theorem int_pow_mod (x : Int) (n m : Nat) : (x % (m : Int)) ^ n % (m : Int) = x ^ n % (m : Int) := by
  induction n with
  | zero => rw [Int.pow_zero, Int.pow_zero]
  | succ n ih => rw [Int.pow_succ, Int.pow_succ, Int.mul_emod, ih, Int.emod_emod_of_dvd _ (Int.dvd_refl _), ← Int.mul_emod]
theorem fermatI {p : Nat} (hp : Pr p) (x : Int) : x ^ p % (p : Int) = x % (p : Int) := by
  have h2 := hp.1
  have h0 : 0 ≤ x % (p : Int) := Int.emod_nonneg _ (by omega)
  rw [← int_pow_mod]
  obtain ⟨y, hy⟩ := Int.eq_ofNat_of_zero_le h0
  rw [hy]
  have := fermat hp y
  have e : (x % (p : Int)) % (p : Int) = x % (p : Int) := Int.emod_emod_of_dvd _ (Int.dvd_refl _)
  rw [hy] at e
  have t : (y : Int) ^ p % (p : Int) = (y : Int) % (p : Int) := by exact_mod_cast this
  rw [t, e]
theorem fermatP (x : Int) : ∀ n : Nat, n = 57896044618658097711785492504343953926634992332820282019728792003956564819949 → x ^ n % pw = x % pw := by
  intro n hn
  have hp : Pr n := by rw [hn]; exact pr578960446186
  have := fermatI hp x
  rw [show (n : Int) = pw from by rw [hn]; rfl] at this
  exact this
theorem fermat_l0 (a : List Int) : ∀ (k i : Nat) (v : Int), i + k = 255 → law04_FieldFermat_l0 a (k + 1) (fe v) (i : Int) = some (fe (v ^ (2 ^ k))) := by
  intro k; induction k with
  | zero =>
    intro i v h
    rw [law04_FieldFermat_l0, if_neg (by simp; omega), Nat.pow_zero, Int.pow_succ, Int.pow_zero, Int.one_mul]
  | succ k ih =>
    intro i v h
    have hi : IntKind.i64.wrap ((i : Int) + 1) = ((i + 1 : Nat) : Int) := by rw [IntWalk.i64_in _ (by omega)]; omega
    rw [law04_FieldFermat_l0, if_pos (by simp; omega), fmul (bfe v) (bfe v), Option.bind_some, hi, leV_fe, fe_mul_l, fe_mul_r, ih (i + 1) (v * v) (by omega)]
    congr 2
    rw [Nat.pow_succ, Nat.mul_comm, Int.pow_mul]
    congr 1
    rw [Int.pow_succ, Int.pow_succ, Int.pow_zero, Int.one_mul]
theorem fermat_l1 {a : List Int} (ha : Bytes32 a) (m : List Int) : ∀ (k i : Nat) (v : Int), i + k = 19 → law04_FieldFermat_l1 a m (k + 1) (fe v) (i : Int) = some (fe (v * leV a ^ k)) := by
  intro k; induction k with
  | zero =>
    intro i v h
    rw [law04_FieldFermat_l1, if_neg (by simp; omega), Int.pow_zero, Int.mul_one]
  | succ k ih =>
    intro i v h
    have hi : IntKind.i64.wrap ((i : Int) + 1) = ((i + 1 : Nat) : Int) := by rw [IntWalk.i64_in _ (by omega)]; omega
    rw [law04_FieldFermat_l1, if_pos (by simp; omega), fmul (bfe v) ha, Option.bind_some, hi, leV_fe, fe_mul_l, ih (i + 1) (v * leV a) (by omega)]
    congr 2
    rw [Int.pow_succ, Int.mul_assoc, Int.mul_comm (leV a)]
theorem FieldFermat (a0 : List Int) (l0 : a0.length = 32) (w0 : ∀ x ∈ a0, (Lit.int .u8 x).wf = true) : law04_FieldFermat a0 = some true := by
  have ha := bytes_wf l0 w0
  unfold law04_FieldFermat
  have k0 := fermat_l0 a0 255 0 (leV a0) rfl
  have e0 : law04_FieldFermat_l0 a0 (((255 : Int) - (0 : Int)).toNat + 1) (fe (leV a0)) 0 = some (fe (leV a0 ^ (2 ^ 255))) := k0
  have e1 : ∀ m, law04_FieldFermat_l1 a0 m (((19 : Int) - (0 : Int)).toNat + 1) (fe (leV a0)) 0 = some (fe (leV a0 * leV a0 ^ 19)) := fun m => fermat_l1 ha m 19 0 (leV a0) rfl
  simp only [fmod ha, Option.bind_some, e0, e1]
  have key : fe (leV a0 ^ (2 ^ 255)) = fe (leV a0 * leV a0 ^ 19) := by
    apply fe_eq
    generalize leV a0 = x
    generalize hn : (57896044618658097711785492504343953926634992332820282019728792003956564819949 : Nat) = n
    have e : 2 ^ 255 = n + 19 := by rw [← hn]
    rw [e, Int.pow_add, Int.mul_emod, fermatP x n hn.symm, ← Int.mul_emod]
  rw [key]
  simp [wakes4]
end Go.Pn
