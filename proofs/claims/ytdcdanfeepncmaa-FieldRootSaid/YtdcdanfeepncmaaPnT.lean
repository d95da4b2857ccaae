/- Inverses modulo p: FieldInverse and FieldSquares. -/
import Derived.Test.YtdcdanfeepncmaaPnS
namespace Go.Pn
open Go Go.Gw Go.Proofs.Sb.D
def pN : Nat := 57896044618658097711785492504343953926634992332820282019728792003956564819949
theorem pN_pw : (pN : Int) = pw := by kernel_rfl
theorem pN_pr : Pr pN := pr578960446186
/-- what the program takes as the inverse -/
def ivx (x : Int) : Int := x ^ (pN - 2)
theorem powP_mod (x : Int) (n : Nat) : (x % pw) ^ n % pw = x ^ n % pw := by
  have := int_pow_mod x n pN; rw [pN_pw] at this; exact this
theorem fermat1P (x : Int) (h : x % pw ≠ 0) : x ^ (pN - 1) % pw = 1 := by
  have h2 := pN_pr.1
  rw [← powP_mod]
  have h0 : 0 ≤ x % pw := Int.emod_nonneg _ (by decide)
  have h1 : x % pw < pw := Int.emod_lt_of_pos _ (by decide)
  obtain ⟨y, hy⟩ := Int.eq_ofNat_of_zero_le h0
  rw [hy] at h h1 ⊢
  have hd : ¬ pN ∣ y := fun hd => by
    have := Nat.le_of_dvd (by omega) hd
    have e := pN_pw
    omega
  have := fermat1 pN_pr y hd
  have t : (y : Int) ^ (pN - 1) % (pN : Int) = 1 := by exact_mod_cast this
  rw [pN_pw] at t; exact t
theorem ivx_mul (x : Int) (h : x % pw ≠ 0) : x * ivx x % pw = 1 := by
  have := fermat1P x h
  have h3 : 3 ≤ pN := by decide
  have h2 : pN - 1 = (pN - 2) + 1 := by omega
  rw [h2, Int.pow_succ, Int.mul_comm] at this
  exact this
theorem ivx_zero (x : Int) (h : x % pw = 0) : ivx x % pw = 0 := by
  unfold ivx
  rw [← powP_mod, h, Int.zero_pow (by decide)]; decide
theorem ivx_mod (x : Int) : ivx (x % pw) % pw = ivx x % pw := powP_mod x _
theorem ivx_prod (x y : Int) : ivx (x * y) = ivx x * ivx y := Int.mul_pow ..
theorem ivx_ivx (x : Int) : ivx (ivx x) % pw = x % pw := by
  by_cases h : x % pw = 0
  · rw [h]; exact ivx_zero _ (ivx_zero x h)
  · have h1 := ivx_mul x h
    have h3 : ivx x % pw ≠ 0 := fun hz => by
      rw [Int.mul_emod, hz, Int.mul_zero] at h1; exact absurd h1 (by decide)
    have h2 := ivx_mul (ivx x) h3
    generalize ivx (ivx x) = z at *
    generalize ivx x = y at *
    have e1 : x * (y * z) % pw = x % pw := by rw [Int.mul_emod, h2, Int.mul_one, Int.emod_emod_of_dvd _ (Int.dvd_refl _)]
    have e2 : x * y * z % pw = z % pw := by rw [Int.mul_emod, h1, Int.one_mul, Int.emod_emod_of_dvd _ (Int.dvd_refl _)]
    rw [← e2, Int.mul_assoc, e1]
theorem below21 : limb_Below 255 21 = some (leB 32 ((pN - 2 : Nat) : Int)) := by kernel_rfl
theorem linv {a : List Int} {x : Int} (ha : Rep a x) : ∃ l, limb_Inv a = some l ∧ Rep l (ivx x) := by
  obtain ⟨l, f, r⟩ := lpow ha (pN - 2) (by decide)
  refine ⟨l, ?_, r⟩
  unfold limb_Inv; rw [below21, Option.bind_some, f]; rfl
theorem finv {a : List Int} (ha : Bytes32 a) : field_Inv a = some (fe (ivx (leV a))) := by
  obtain ⟨l, e, r⟩ := of_ok ha; obtain ⟨k, g, t⟩ := linv r
  unfold field_Inv; rw [e, Option.bind_some, g, Option.bind_some, nbytes_rep t]; rfl
theorem bit64 (v : Int) (i : Nat) : band .u64 (shr .u64 (v / 2 ^ (64 * (i / 64)) % 18446744073709551616) ((i % 64 : Nat) : Int)) 1 = v / 2 ^ i % 2 := by
  have hs : shr .u64 (v / 2 ^ (64 * (i / 64)) % 18446744073709551616) ((i % 64 : Nat) : Int) = v / 2 ^ (64 * (i / 64)) % 18446744073709551616 / 2 ^ (i % 64) := shr_u _ _ _ _ (by
    have : min (((i % 64 : Nat) : Int).toNat) IntKind.u64.bits = i % 64 := by
      have : IntKind.u64.bits = 64 := rfl
      omega
    rw [this]) (Int.le_of_lt (Int.pow_pos (by decide)))
  have hp : (0 : Int) < 2 ^ (i % 64) := Int.pow_pos (by decide)
  have b0 : 0 ≤ v / 2 ^ (64 * (i / 64)) % 18446744073709551616 ∧ v / 2 ^ (64 * (i / 64)) % 18446744073709551616 < 18446744073709551616 := by omega
  have b1 : 0 ≤ v / 2 ^ (64 * (i / 64)) % 18446744073709551616 / 2 ^ (i % 64) := Int.ediv_nonneg b0.1 (Int.le_of_lt hp)
  have b2 : v / 2 ^ (64 * (i / 64)) % 18446744073709551616 / 2 ^ (i % 64) ≤ v / 2 ^ (64 * (i / 64)) % 18446744073709551616 := Int.ediv_le_self _ b0.1
  rw [hs, band_mask k64 1 (by decide) _ _ 2 (by decide) (by decide) b1 (by show _ < (18446744073709551616 : Int); omega)]
  rw [part_of v _ _ 18446744073709551616 2 (Int.pow_pos (by decide)) hp ⟨2 ^ (63 - i % 64), by
    rw [Int.mul_assoc, ← Int.pow_succ', ← Int.pow_add]
    have : i % 64 + (63 - i % 64 + 1) = 64 := by omega
    rw [this]; decide⟩, ← Int.pow_add]
  have : 64 * (i / 64) + i % 64 = i := by omega
  rw [this]
theorem rpow_loop {x : Int} (hx : 0 ≤ x ∧ x < 115792089237316195423570985008687907853269984665640564039457584007913129639936) (E : Nat) : ∀ j : Nat, j ≤ 256 → ∀ m, m % pw = x ^ (E / 2 ^ j) % pw → 0 ≤ m ∧ m < pw →
    ref04_Pow_l0 (words4 x) (words4 E) (j + 1) (words4 m) ((j : Int) - 1) = some (words4 (x ^ E % pw)) := by
  intro j; induction j with
  | zero =>
    intro _ m hm hb
    rw [ref04_Pow_l0, if_neg (by decide)]
    rw [Int.emod_eq_of_lt hb.1 hb.2] at hm
    rw [hm]; simp
  | succ j ih =>
    intro hj m hm hb
    have hlt : (pw : Int) < 115792089237316195423570985008687907853269984665640564039457584007913129639936 := by decide
    have e1 : ((j + 1 : Nat) : Int) - 1 = (j : Int) := by omega
    have d1 : IntKind.i64.wrap ((j : Int).tdiv 64) = ((j / 64 : Nat) : Int) := by
      rw [Int.tdiv_eq_ediv_of_nonneg (by omega), IntWalk.i64_in _ (by omega)]; omega
    have d2 : IntKind.u64.wrap ((j : Int).tmod 64) = ((j % 64 : Nat) : Int) := by rw [Int.tmod_eq_emod_of_nonneg (by omega), w64]; omega
    have d3 : IntKind.i64.wrap ((j : Int) - 1) = (j : Int) - 1 := IntWalk.i64_in _ (by omega)
    have hb' := hb
    rw [e1, ref04_Pow_l0, if_pos (by simp), rmul m m ⟨hb.1, by omega⟩ ⟨hb.1, by omega⟩, Option.bind_some, d1, d2, d3, if_pos (by omega), if_pos (by omega), Int.toNat_natCast, words4_get _ _ (by omega), bit64, bit_nat]
    have sq : m * m % pw % pw = x ^ (E / 2 ^ (j + 1)) * x ^ (E / 2 ^ (j + 1)) % pw := by
      rw [Int.emod_emod_of_dvd _ (Int.dvd_refl _), Int.mul_emod, hm, ← Int.mul_emod]
    by_cases hbit : E / 2 ^ j % 2 = 1
    · rw [if_pos (decide_eq_true hbit), rmul _ _ (mod_bd' _) hx, Option.bind_some]
      refine ih (by omega) _ ?_ (mod_bd _)
      rw [pow_half, if_pos hbit, Int.emod_emod_of_dvd _ (Int.dvd_refl _), Int.mul_emod, sq, ← Int.mul_emod]
    · rw [decide_eq_false hbit, if_neg (by decide)]
      refine ih (by omega) _ ?_ (mod_bd _)
      rw [pow_half, if_neg hbit, Int.mul_one]; exact sq
theorem rpow {x : Int} (hx : 0 ≤ x ∧ x < 115792089237316195423570985008687907853269984665640564039457584007913129639936) (E : Nat) (hE : E < 2 ^ 256) : ref04_Pow (words4 x) (words4 E) = some (words4 (x ^ E % pw)) := by
  unfold ref04_Pow
  have f := rpow_loop hx E 256 (Nat.le_refl _) 1 (by rw [Nat.div_eq_of_lt hE, Int.pow_zero]) (by decide)
  have f' : ref04_Pow_l0 (words4 x) (words4 E) (((255 : Int) - (0 : Int) + 1).toNat + 1) [1, 0, 0, 0] 255 = some (words4 (x ^ E % pw)) := f
  rw [f', Option.bind_some]
theorem rinv {x : Int} (hx : 0 ≤ x ∧ x < 115792089237316195423570985008687907853269984665640564039457584007913129639936) : ref04_Inv (words4 x) = some (words4 (ivx x % pw)) := by
  unfold ref04_Inv
  have e2 : [(2 : Int), 0, 0, 0] = words4 2 := by kernel_rfl
  have ep : (pw - 2) % 115792089237316195423570985008687907853269984665640564039457584007913129639936 = ((pN - 2 : Nat) : Int) := by kernel_rfl
  rw [rP, Option.bind_some, e2, rsub pw 2 (by decide) (by decide), Option.bind_some]
  simp only [ep]
  rw [rpow hx (pN - 2) (by decide), Option.bind_some]; rfl
theorem fe_ivx (x : Int) : fe (ivx (x % pw)) = fe (ivx x) := fe_eq (ivx_mod x)
theorem num1 : law04_Num 1 = some (fe 1) := by kernel_rfl
theorem FieldInverse (a0 : List Int) (l0 : a0.length = 32) (w0 : ∀ x ∈ a0, (Lit.int .u8 x).wf = true) : law04_FieldInverse a0 = some true := by
  have ha := bytes_wf l0 w0
  have ba := leV_bd ha
  unfold law04_FieldInverse
  have hfe : ∀ v, leB 32 (v % pw) = fe v := fun _ => rfl
  have hii : fe (ivx (ivx (leV a0))) = fe (leV a0) := fe_eq (ivx_ivx _)
  simp only [finv ha, finv (bfe _), rof ha, Option.bind_some, rmod _ ba, rinv (mod_bd' _), rbytes, hfe, leV_fe, fe_ivx, decide_true, Bool.not_true, Bool.false_eq_true, if_false, fmod ha, hii, num0, num1, wakes4, fmul ha (bfe _), fe_mul_r]
  by_cases h : leV a0 % pw = 0
  · have e1 : fe (leV a0) = fe 0 := fe_eq (by rw [h]; decide)
    have e2 : fe (ivx (leV a0)) = fe 0 := fe_eq (by rw [ivx_zero _ h]; decide)
    simp [e1, e2]
  · have e1 : fe (leV a0) ≠ fe 0 := fun e => h (by have := congrArg leV e; rw [leV_fe, leV_fe] at this; rw [this]; decide)
    have e2 : fe (leV a0 * ivx (leV a0)) = fe 1 := fe_eq (by rw [ivx_mul _ h]; decide)
    simp [e1, e2]
theorem FieldSquares (a0 a1 : List Int) (l0 : a0.length = 32) (w0 : ∀ x ∈ a0, (Lit.int .u8 x).wf = true) (l1 : a1.length = 32) (w1 : ∀ x ∈ a1, (Lit.int .u8 x).wf = true) : law04_FieldSquares a0 a1 = some true := by
  have ha := bytes_wf l0 w0; have hb := bytes_wf l1 w1
  have h0 : Bytes32 (fe 0) := bfe 0
  unfold law04_FieldSquares
  simp only [num0, fadd, fmul, fsub, fmod, ha, hb, bfe, finv ha, finv hb, finv (bfe _), Option.bind_some, leV_fe, fe_ivx, fe_add_r, fe_sub_l, fe_sub_r, fe_mul_l, fe_mul_r, wakes4]
  generalize leV a0 = a; generalize leV a1 = b
  have e1 : a * a - b * b = (a - b) * (a + b) := by grind
  have e2 : (0 - a) * (0 - a) = a * a := by grind
  have e3 : a + (0 - a) = 0 := by omega
  have e4 : 0 - (0 - a) = a := by omega
  rw [e1, e2, e3, e4, ivx_prod]
  simp
end Go.Pn
