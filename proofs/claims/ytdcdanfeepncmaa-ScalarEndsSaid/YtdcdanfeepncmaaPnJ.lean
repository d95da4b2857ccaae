/- The layer 'field': what each function answers, as bytes of a number modulo p. -/
import Derived.Test.YtdcdanfeepncmaaPnI
import Derived.Test.YtdcdanfeepncmaaGw12
namespace Go.Pn
open Go Go.Gw Go.Proofs.Sb.D
theorem leB_succ (n : Nat) (v : Int) : leB (n + 1) v = v % 256 :: leB n (v / 256) := by
  unfold leB
  rw [List.range_succ_eq_map, List.map_cons, List.map_map]
  congr 1
  · simp
  · apply List.map_congr_left
    intro i _
    have : (2 : Int) ^ (8 * (i + 1)) = 256 * 2 ^ (8 * i) := by
      rw [Nat.mul_add, Int.pow_add, Int.mul_comm]; rfl
    simp only [Function.comp, Nat.succ_eq_add_one]
    rw [this, Int.ediv_ediv_of_nonneg (by decide)]
theorem leV_leB (n : Nat) : ∀ v : Int, leV (leB n v) = v % 256 ^ n := by
  induction n with
  | zero => intro v; simp [leB, leV]
  | succ n ih =>
    intro v
    rw [leB_succ, leV, ih, Int.pow_succ, Int.mul_comm (256 ^ n)]
    have hp : (0 : Int) < 256 ^ n := Int.pow_pos (by decide)
    generalize (256 : Int) ^ n = q at *
    rw [Int.emod_def (v / 256), Int.emod_def v (256 * q), Int.ediv_ediv_of_nonneg (by decide), Int.mul_sub]
    have : 256 * (q * (v / (256 * q))) = 256 * q * (v / (256 * q)) := by rw [Int.mul_assoc]
    omega
theorem leB_bytes (n : Nat) (v : Int) : (leB n v).length = n ∧ ∀ x ∈ leB n v, 0 ≤ x ∧ x < 256 := by
  unfold leB
  refine ⟨by simp, ?_⟩
  intro x hx
  obtain ⟨i, _, rfl⟩ := List.mem_map.1 hx
  omega
/-- the 32 bytes of a number modulo p -/
def fe (v : Int) : List Int := leB 32 (v % pw)
theorem bfe (v : Int) : Bytes32 (fe v) := leB_bytes 32 _
theorem leV_fe (v : Int) : leV (fe v) = v % pw := by
  unfold fe; rw [leV_leB]
  have : (256 : Int) ^ 32 = 115792089237316195423570985008687907853269984665640564039457584007913129639936 := by decide
  rw [this]
  have h1 := Int.emod_nonneg v (by decide : pw ≠ 0)
  have h2 := Int.emod_lt_of_pos v (by decide : 0 < pw)
  exact Int.emod_eq_of_lt h1 (Int.lt_trans h2 (by decide))
theorem fe_eq {x y : Int} (h : x % pw = y % pw) : fe x = fe y := by unfold fe; rw [h]
theorem fe_mod (x : Int) : fe (x % pw) = fe x := fe_eq (Int.emod_emod_of_dvd _ (Int.dvd_refl _))
theorem fe_add_l (x y : Int) : fe (x % pw + y) = fe (x + y) := fe_eq (by rw [Int.emod_add_emod])
theorem fe_add_r (x y : Int) : fe (x + y % pw) = fe (x + y) := fe_eq (by rw [Int.add_emod_emod])
theorem fe_sub_l (x y : Int) : fe (x % pw - y) = fe (x - y) := fe_eq (by rw [Int.emod_sub_emod])
theorem fe_sub_r (x y : Int) : fe (x - y % pw) = fe (x - y) := fe_eq (by rw [Int.sub_emod_emod])
theorem fe_mul_l (x y : Int) : fe (x % pw * y) = fe (x * y) := fe_eq (by rw [Int.mul_emod, Int.emod_emod_of_dvd _ (Int.dvd_refl _), ← Int.mul_emod])
theorem fe_mul_r (x y : Int) : fe (x * (y % pw)) = fe (x * y) := fe_eq (by rw [Int.mul_emod, Int.emod_emod_of_dvd _ (Int.dvd_refl _), ← Int.mul_emod])
theorem fmod {a : List Int} (ha : Bytes32 a) : field_Mod a = some (fe (leV a)) := by
  obtain ⟨l, e, r⟩ := of_ok ha
  unfold field_Mod; rw [e, Option.bind_some, nbytes_rep r]; rfl
theorem fadd {a b : List Int} (ha : Bytes32 a) (hb : Bytes32 b) : field_Add a b = some (fe (leV a + leV b)) := by
  obtain ⟨l, e, r⟩ := of_ok ha; obtain ⟨m, f, s⟩ := of_ok hb; obtain ⟨k, g, t⟩ := add_ok r s
  unfold field_Add; rw [e, Option.bind_some, f, Option.bind_some, g, Option.bind_some, nbytes_rep t]; rfl
theorem fsub {a b : List Int} (ha : Bytes32 a) (hb : Bytes32 b) : field_Sub a b = some (fe (leV a - leV b)) := by
  obtain ⟨l, e, r⟩ := of_ok ha; obtain ⟨m, f, s⟩ := of_ok hb; obtain ⟨k, g, t⟩ := sub_ok r s
  unfold field_Sub; rw [e, Option.bind_some, f, Option.bind_some, g, Option.bind_some, nbytes_rep t]; rfl
theorem fmul {a b : List Int} (ha : Bytes32 a) (hb : Bytes32 b) : field_Mul a b = some (fe (leV a * leV b)) := by
  obtain ⟨l, e, r⟩ := of_ok ha; obtain ⟨m, f, s⟩ := of_ok hb; obtain ⟨k, g, t⟩ := mul_ok r s
  unfold field_Mul; rw [e, Option.bind_some, f, Option.bind_some, g, Option.bind_some, nbytes_rep t]; rfl
theorem fcheck {a : List Int} (ha : Bytes32 a) : field_Check a = some (decide (fe (leV a) = a)) := by
  unfold field_Check; rw [fmod ha]; rfl
theorem fcheck_fe (v : Int) : field_Check (fe v) = some true := by
  rw [fcheck (bfe v), leV_fe, fe_mod]; simp
set_option maxRecDepth 100000 in
theorem wakes4 : law04_wakes = some true := by kernel_rfl
theorem num0 : law04_Num 0 = some (fe 0) := by kernel_rfl
theorem bytes_wf {a : List Int} (h : a.length = 32) (w : ∀ x ∈ a, (Lit.int .u8 x).wf = true) : Bytes32 a :=
  ⟨h, fun x hx => wf_u8 (w x hx)⟩
theorem FieldLaws (a0 a1 a2 : List Int) (l0 : a0.length = 32) (w0 : ∀ x ∈ a0, (Lit.int .u8 x).wf = true) (l1 : a1.length = 32) (w1 : ∀ x ∈ a1, (Lit.int .u8 x).wf = true)
    (l2 : a2.length = 32) (w2 : ∀ x ∈ a2, (Lit.int .u8 x).wf = true) : law04_FieldLaws a0 a1 a2 = some true := by
  have ha := bytes_wf l0 w0; have hb := bytes_wf l1 w1; have hc := bytes_wf l2 w2
  unfold law04_FieldLaws
  simp only [fadd, fmul, fsub, fmod, ha, hb, hc, bfe, Option.bind_some, leV_fe, fe_add_l, fe_add_r, fe_sub_l, fe_mul_l, fe_mul_r, fe_mod, num0, fcheck_fe, wakes4]
  generalize leV a0 = a; generalize leV a1 = b; generalize leV a2 = c
  have e1 : a + b = b + a := Int.add_comm ..
  have e2 : a * b = b * a := Int.mul_comm ..
  have e3 : a + b + c = a + (b + c) := Int.add_assoc ..
  have e4 : a * b * c = a * (b * c) := Int.mul_assoc ..
  have e5 : (a + b) * c = a * c + b * c := Int.add_mul ..
  have e6 : a + b - b = a := Int.add_sub_cancel ..
  have e7 : a - a = 0 := Int.sub_self ..
  have e8 : a - b + b = a := Int.sub_add_cancel ..
  rw [e3, e4, e5, e6, e7, e8, e1, e2]
  simp
end Go.Pn
