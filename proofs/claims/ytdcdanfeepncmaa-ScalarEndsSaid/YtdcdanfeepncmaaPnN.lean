/- FieldSmall and FieldEnds: small numbers, and numbers about p. -/
import Derived.Test.YtdcdanfeepncmaaPnM
namespace Go.Pn
open Go Go.Gw Go.Proofs.Sb.D
theorem num_eq (n : Int) : law04_Num n = some ([IntKind.u8.wrap (shr .i64 n 0), IntKind.u8.wrap (shr .i64 n 8), IntKind.u8.wrap (shr .i64 n 16), IntKind.u8.wrap (shr .i64 n 24), IntKind.u8.wrap (shr .i64 n 32), IntKind.u8.wrap (shr .i64 n 40), IntKind.u8.wrap (shr .i64 n 48), IntKind.u8.wrap (shr .i64 n 56)] ++ List.replicate 24 0) := by kernel_rfl
theorem leB_zero (n : Nat) : leB n 0 = List.replicate n 0 := by
  induction n with
  | zero => rfl
  | succ n ih => rw [leB_succ]; show 0 :: leB n 0 = _; rw [ih]; rfl
theorem num_ok (n : Int) (h0 : 0 ≤ n) (h1 : n < 9223372036854775808) : law04_Num n = some (fe n) := by
  have e : fe n = leB 32 n := by unfold fe; rw [Int.emod_eq_of_lt h0 (Int.lt_trans h1 (by decide))]
  rw [e, num_eq]
  rw [shr_u _ n 0 1 (by decide) (by decide), shr_u _ n 8 256 (by decide) (by decide), shr_u _ n 16 65536 (by decide) (by decide), shr_u _ n 24 16777216 (by decide) (by decide),
    shr_u _ n 32 4294967296 (by decide) (by decide), shr_u _ n 40 1099511627776 (by decide) (by decide), shr_u _ n 48 281474976710656 (by decide) (by decide), shr_u _ n 56 72057594037927936 (by decide) (by decide)]
  simp only [w8]
  rw [show leB 32 n = leB (24 + 1 + 1 + 1 + 1 + 1 + 1 + 1 + 1) n from rfl, leB_succ, leB_succ, leB_succ, leB_succ, leB_succ, leB_succ, leB_succ, leB_succ]
  have z : n / 256 / 256 / 256 / 256 / 256 / 256 / 256 / 256 = 0 := by omega
  rw [z, leB_zero]
  simp only [List.cons_append, List.nil_append]
  congr 2
  · omega
  congr 1
  congr 1
  · omega
  congr 1
  · omega
  congr 1
  · omega
  congr 1
  · omega
  congr 1
  · omega
  congr 1
  omega
theorem small_band (a : Int) : ∃ x, band .i64 a 1073741823 = x ∧ 0 ≤ x ∧ x < 1073741824 := by
  have h : ((BitVec.ofInt 64 a &&& BitVec.ofInt 64 1073741823).toNat) ≤ 1073741823 := by
    rw [BitVec.toNat_and]; exact Nat.le_trans Nat.and_le_right (by decide)
  refine ⟨_, rfl, ?_⟩
  show 0 ≤ IntKind.i64.wrap ((BitVec.ofInt 64 a &&& BitVec.ofInt 64 1073741823).toNat : Int) ∧ IntKind.i64.wrap ((BitVec.ofInt 64 a &&& BitVec.ofInt 64 1073741823).toNat : Int) < _
  rw [IntWalk.i64_in _ (by omega)]; omega
theorem FieldSmall (a0 a1 : Int) (_w0 : (Lit.int .i64 a0).wf = true) (_w1 : (Lit.int .i64 a1).wf = true) : law04_FieldSmall a0 a1 = some true := by
  obtain ⟨x, ex, hx⟩ := small_band a0
  obtain ⟨y, ey, hy⟩ := small_band a1
  unfold law04_FieldSmall
  rw [ex, ey]
  have pb := prod_le hx.1 (b := 1073741823) (by omega) hy.1 (by omega)
  have w1 : IntKind.i64.wrap (x + y) = x + y := IntWalk.i64_in _ (by omega)
  have w2 : IntKind.i64.wrap (x * y) = x * y := IntWalk.i64_in _ (by omega)
  have n1 := num_ok x hx.1 (by omega)
  have n2 := num_ok y hy.1 (by omega)
  have n3 := num_ok (x + y) (by omega) (by omega)
  have n4 := num_ok (x * y) (by omega) (by omega)
  generalize hM : (if y > x then y else x) = M at *
  generalize hN : (if y < x then y else x) = N at *
  have bM : 0 ≤ M ∧ M < 1073741824 := by rw [← hM]; split <;> omega
  have bN : 0 ≤ N ∧ N ≤ M := by rw [← hM, ← hN]; split <;> split <;> omega
  have w3 : IntKind.i64.wrap (M - N) = M - N := IntWalk.i64_in _ (by omega)
  have n5 := num_ok M bM.1 (by omega)
  have n6 := num_ok N bN.1 (by omega)
  have n7 := num_ok (M - N) (by omega) (by omega)
  simp only [w1, w2, w3, n1, n2, n3, n4, n5, n6, n7, Option.bind_some, fadd, fmul, fsub, bfe, leV_fe, fe_add_l, fe_add_r, fe_sub_l, fe_sub_r, fe_mul_l, fe_mul_r, fcheck_fe, decide_true, if_true, wakes4]
theorem FieldEnds (a0 a1 : Int) (_w0 : (Lit.int .i64 a0).wf = true) (_w1 : (Lit.int .i64 a1).wf = true) : law04_FieldEnds a0 a1 = some true := by
  unfold law04_FieldEnds
  rw [wakes4]
  have hk : 0 ≤ (IntKind.u64.wrap a0).tmod 19 ∧ (IntKind.u64.wrap a0).tmod 19 < 19 := by
    rw [w64, Int.tmod_eq_emod_of_nonneg (by omega)]; omega
  have hw : 0 ≤ (IntKind.u64.wrap a1).tmod 4 ∧ (IntKind.u64.wrap a1).tmod 4 < 4 := by
    rw [w64, Int.tmod_eq_emod_of_nonneg (by omega)]; omega
  generalize (IntKind.u64.wrap a0).tmod 19 = κ at *
  generalize (IntKind.u64.wrap a1).tmod 4 = ω at *
  have cw : ω = 0 ∨ ω = 1 ∨ ω = 2 ∨ ω = 3 := by omega
  have ck : κ = 0 ∨ κ = 1 ∨ κ = 2 ∨ κ = 3 ∨ κ = 4 ∨ κ = 5 ∨ κ = 6 ∨ κ = 7 ∨ κ = 8 ∨ κ = 9 ∨ κ = 10 ∨ κ = 11 ∨ κ = 12 ∨ κ = 13 ∨ κ = 14 ∨ κ = 15 ∨ κ = 16 ∨ κ = 17 ∨ κ = 18 := by omega
  clear hk hw
  rcases ck with rfl | rfl | rfl | rfl | rfl | rfl | rfl | rfl | rfl | rfl | rfl | rfl | rfl | rfl | rfl | rfl | rfl | rfl | rfl <;> rcases cw with rfl | rfl | rfl | rfl <;> (show _ = _; as_aux_lemma => kernel_rfl)
end Go.Pn
