/- Multiples of the base; order L. -/
import Derived.Test.YtdcdanfeepncmaaMCuC
import Derived.Test.YtdcdanfeepncmaaCuH
namespace Go.Cu
open Go Go.Gw Go.Proofs.Sb.D Go.Pn
theorem encB : encV B = (byN : Int) := by
  show (mk (byN : Int)).v + (mk (bxN : Int)).v % 2 * Hb = _
  rw [mk_val, mk_val]; decide
theorem curve_base_ok : ∃ r0 r1 r2 r3, curve_base = some (r0, r1, r2, r3) ∧ LP r0 r1 r2 r3 B := by
  have e : curve_base_l0 (((32 : Int) - (1 : Int)).toNat + 1) ((List.replicate 32 0).set 0 (88 : Int)) 1 = some (leB 32 (byN : Int)) := by kernel_rfl
  have hn : Num (leB 32 (byN : Int)) (encV B) := by rw [encB]; exact ⟨rfl, by decide⟩
  obtain ⟨r0, r1, r2, r3, f, h⟩ := un_some hn (dec_enc B)
  refine ⟨r0, r1, r2, r3, ?_, h⟩
  unfold curve_base
  rw [e, Option.bind_some, f, Option.bind_some]
theorem ref_base_ok : ∃ r0 r1 r2 r3, ref04_base = some (r0, r1, r2, r3) ∧ WP r0 r1 r2 r3 B := by
  have e5 : [(5 : Int), 0, 0, 0] = words4 (mk 5).v := by kernel_rfl
  have e4 : [(4 : Int), 0, 0, 0] = words4 (mk 4).v := by kernel_rfl
  have hn : Num (leB 32 (byN : Int)) (encV B) := by rw [encB]; exact ⟨rfl, by decide⟩
  have h5 : mk 5 ≠ 0 := fun h => absurd (mk_zero.1 h) (by decide)
  have hi := K.inv_ok _ h5
  have hb : mk 5 * mk (byN : Int) = mk 4 := by rw [mk_mul, mk_eq]; decide
  have key : mk 4 * K.inv (mk 5) = mk (byN : Int) := by
    rw [← hb]
    generalize K.inv (mk 5) = i at *
    generalize mk 5 = u at *
    generalize mk (byN : Int) = d at *
    clear hb h5 e5 e4 hn
    grind
  have hv : (mk (byN : Int)).v = (byN : Int) := by rw [mk_val]; decide
  obtain ⟨r0, r1, r2, r3, f, h⟩ := wn_some hn (dec_enc B)
  refine ⟨r0, r1, r2, r3, ?_, h⟩
  unfold ref04_base
  rw [e5, e4, winv, Option.bind_some, wmul, Option.bind_some, key, rbytes, Option.bind_some, hv, f, Option.bind_some]
theorem c_base {n : List Int} {N : Nat} (hn : n = leB 32 N) (hN : N < 2 ^ 256) : curve_Base n = some (enc (Pt.mul N B)) := by
  subst hn
  obtain ⟨r0, r1, r2, r3, f, h⟩ := curve_base_ok
  obtain ⟨q0, q1, q2, q3, g, hq⟩ := l_times h N hN
  unfold curve_Base
  rw [f, Option.bind_some]
  simp only []
  rw [g, Option.bind_some]
  simp only []
  rw [l_pack hq]; rfl
theorem nat256 {N : Nat} (hN : N < 2 ^ 256) : (0 : Int) ≤ (N : Int) ∧ (N : Int) < 115792089237316195423570985008687907853269984665640564039457584007913129639936 := by
  have h256 : (2 : Nat) ^ 256 = 115792089237316195423570985008687907853269984665640564039457584007913129639936 := by decide
  omega
theorem r_base {n : List Int} {N : Nat} (hn : n = leB 32 N) (hN : N < 2 ^ 256) : ref04_Base n = some (enc (Pt.mul N B)) := by
  subst hn
  obtain ⟨r0, r1, r2, r3, f, h⟩ := ref_base_ok
  obtain ⟨q0, q1, q2, q3, g, hq⟩ := w_times h N hN
  unfold ref04_Base
  rw [rof (leB_bytes 32 _), Go.Sc.leV_lb _ (nat256 hN), Option.bind_some, f, Option.bind_some]
  simp only []
  rw [g, Option.bind_some]
  simp only []
  rw [w_pack hq]; rfl
theorem nat_of {a : List Int} (h : Bytes32 a) : ∃ N : Nat, a = leB 32 N ∧ N < 2 ^ 256 := by
  have b := leV_bd h
  refine ⟨(leV a).toNat, ?_, ?_⟩
  · rw [Int.toNat_of_nonneg b.1]; exact (leB_leV h).symm
  · have h256 : (2 : Nat) ^ 256 = 115792089237316195423570985008687907853269984665640564039457584007913129639936 := by decide
    omega
theorem num6 (n : Nat) (h : n < 9223372036854775808) : law06_num (n : Int) = some (leB 32 n) := by
  unfold law06_num
  rw [num_ok n (by omega) (by omega)]
  show some (leB 32 ((n : Int) % pw)) = _
  rw [Int.emod_eq_of_lt (by omega) (by unfold pw; omega)]
theorem enc_zero : enc (Pt.zero K) = leB 32 1 := by
  have : encV (Pt.zero K) = 1 := by
    show (1 : Fp).v + (0 : Fp).v % 2 * Hb = 1
    rw [one_mk, zero_mk, mk_val, mk_val]; decide
  unfold enc; rw [this]
theorem enc_inj {P Q : Pt K} : enc P = enc Q ↔ P = Q := by
  constructor
  · intro h
    have := (leB_inj (encV_bd P) (encV_bd Q)).1 h
    have e := dec_enc P
    rw [this, dec_enc Q] at e
    exact (Option.some.inj e).symm
  · exact fun h => by rw [h]
/-- the program at points that are known -/
theorem check_enc (P : Pt K) : curve_Check (enc P) = some true := by rw [c_check (num_enc P), dec_enc]; rfl
theorem add_enc (P Q : Pt K) : curve_Add (enc P) (enc Q) = some (enc (P.add Q), 0) := by rw [c_add (num_enc P) (num_enc Q), dec_enc, dec_enc]; rfl
theorem neg_enc (P : Pt K) : curve_Neg (enc P) = some (enc P.neg, 0) := by rw [c_neg (num_enc P), dec_enc]; rfl
theorem mul_enc {e : List Int} {E : Nat} (he : e = leB 32 E) (hE : E < 2 ^ 256) (P : Pt K) : curve_Mul e (enc P) = some (enc (Pt.mul E P), 0) := by rw [c_mul he hE (num_enc P), dec_enc]; rfl
theorem wakes6 : law06_wakes = some true := by
  have b1 := c_base (n := leB 32 (1 : Nat)) (N := 1) rfl (by decide)
  have b0 := c_base (n := leB 32 (0 : Nat)) (N := 0) rfl (by decide)
  have n1 := num6 1 (by decide)
  have n0 := num6 0 (by decide)
  have n1' : law06_num 1 = some (leB 32 ((1 : Nat) : Int)) := n1
  have n0' : law06_num 0 = some (leB 32 ((0 : Nat) : Int)) := n0
  have g0 : (enc B).getD 0 0 = 88 := by unfold enc; rw [encB]; decide
  have g1 : (enc B).getD 1 0 = 102 := by unfold enc; rw [encB]; decide
  have g31 : (enc B).getD 31 0 = 102 := by unfold enc; rw [encB]; decide
  unfold law06_wakes
  rw [n1', Option.bind_some, b1, Option.bind_some, mul_one, g0, g1, g31, check_enc, n0', Option.bind_some, Option.bind_some, b0, Option.bind_some, Option.bind_some]
  show (if ((88 : Int) == 88) = true then if ((102 : Int) == 102) = true then if ((102 : Int) == 102) = true then if true = true then some (decide (enc (Pt.zero K) = leB 32 1)) else some false else some false else some false else some false) = some true
  rw [enc_zero, decide_eq_true (show leB 32 1 = leB 32 1 from rfl)]; rfl
/-- a number modulo L does as well -/
theorem mulL (P : Pt K) (j : Nat) (hP : P = Pt.mul j B) : Pt.mul LN P = Pt.zero K := by
  rw [hP, mul_mul, Nat.mul_comm, ← mul_mul, LB, mul_zero]
theorem mul_mod (P : Pt K) (n : Nat) (h : Pt.mul LN P = Pt.zero K) : Pt.mul (n % LN) P = Pt.mul n P := by
  have e : n = n % LN + n / LN * LN := by rw [Nat.mul_comm]; exact (Nat.mod_add_div n LN).symm
  conv => rhs; rw [e, mul_add, ← mul_mul, h, mul_zero, add_zero]
theorem fs_nat (n : Nat) : Go.Sc.fs (n : Int) = leB 32 ((n % LN : Nat) : Int) := by
  unfold Go.Sc.fs
  have : ((n % LN : Nat) : Int) = (n : Int) % Go.Sc.Lw := by rw [Int.natCast_emod]; rfl
  rw [this]
theorem modL_lt (n : Nat) : n % LN < 2 ^ 256 := Nat.lt_trans (Nat.mod_lt _ (by decide)) (by decide)
theorem modL_ok {a : List Int} {N : Nat} (h : a = leB 32 N) (hN : N < 2 ^ 256) : ref04_ModL a = some (leB 32 ((N % LN : Nat) : Int)) := by
  have hb : Bytes32 a := by rw [h]; exact leB_bytes 32 _
  rw [Go.Sc.rModL32 hb, h, Go.Sc.leV_lb _ (nat256 hN), fs_nat]
theorem mulAdd_ok {a b c : List Int} {N M S : Nat} (h : a = leB 32 N) (hN : N < 2 ^ 256) (g : b = leB 32 M) (hM : M < 2 ^ 256) (k : c = leB 32 S) (hS : S < 2 ^ 256) : ref04_MulAdd a b c = some (leB 32 (((N * M + S) % LN : Nat) : Int)) := by
  have ha : Bytes32 a := by rw [h]; exact leB_bytes 32 _
  have hb : Bytes32 b := by rw [g]; exact leB_bytes 32 _
  have hc : Bytes32 c := by rw [k]; exact leB_bytes 32 _
  rw [Go.Sc.rMulAdd ha hb hc, h, g, k, Go.Sc.leV_lb _ (nat256 hN), Go.Sc.leV_lb _ (nat256 hM), Go.Sc.leV_lb _ (nat256 hS), ← fs_nat]
  congr 2
theorem L_bytes : leB 32 Go.Sc.Lw = leB 32 ((LN : Nat) : Int) := rfl
theorem LN_lt : LN < 2 ^ 256 := by decide
end Go.Cu
/- The laws of the curve. -/
namespace Go.Cu
open Go Go.Gw Go.Proofs.Sb.D Go.Pn Go.Sc
theorem num1e : law06_num 1 = some (enc (Pt.zero K)) := by rw [enc_zero]; exact num6 1 (by decide)
theorem num2e : law06_num 2 = some (leB 32 ((2 : Nat) : Int)) := num6 2 (by decide)
theorem num8e : law06_num 8 = some (leB 32 ((8 : Nat) : Int)) := num6 8 (by decide)
theorem base1 : curve_Base (enc (Pt.zero K)) = some (enc B) := by
  rw [c_base (N := 1) enc_zero (by decide), mul_one]
theorem CurveBase (a0 : List Int) (l0 : a0.length = 32) (w0 : ∀ x ∈ a0, (Lit.int .u8 x).wf = true) : law06_CurveBase a0 = some true := by
  obtain ⟨N, hn, hN⟩ := nat_of (bytes_wf l0 w0)
  have b := c_base hn hN
  have rb := r_base hn hN
  have mL : curve_Mul (leB 32 Lw) (enc (Pt.mul N B)) = some (enc (Pt.zero K), 0) := by
    rw [mul_enc L_bytes LN_lt, mulL _ N rfl]
  have m2 := mul_enc hn hN B
  have ml := modL_ok hn hN
  have bm : curve_Base (leB 32 ((N % LN : Nat) : Int)) = some (enc (Pt.mul N B)) := by
    rw [c_base rfl (modL_lt N), mul_mod B N LB]
  unfold law06_CurveBase
  rw [take_all 32 l0]
  simp only [b, obs, L_eq, rbytes, mL, num1e, base1, m2, rb, check_enc, ml, bm, wakes6, beq_self_eq_true, decide_true, if_true]
theorem CurveGroup (a0 a1 a2 : List Int) (l0 : a0.length = 32) (w0 : ∀ x ∈ a0, (Lit.int .u8 x).wf = true) (l1 : a1.length = 32) (w1 : ∀ x ∈ a1, (Lit.int .u8 x).wf = true) (l2 : a2.length = 32) (w2 : ∀ x ∈ a2, (Lit.int .u8 x).wf = true) : law06_CurveGroup a0 a1 a2 = some true := by
  obtain ⟨N, hn, hN⟩ := nat_of (bytes_wf l0 w0)
  obtain ⟨M, hm, hM⟩ := nat_of (bytes_wf l1 w1)
  obtain ⟨S, hs, hS⟩ := nat_of (bytes_wf l2 w2)
  have ma : ref04_MulAdd a0 (enc (Pt.zero K)) a1 = some (leB 32 (((N * 1 + M) % LN : Nat) : Int)) := mulAdd_ok hn hN (M := 1) enc_zero (by decide) hm hM
  have bm : curve_Base (leB 32 (((N * 1 + M) % LN : Nat) : Int)) = some (enc ((Pt.mul N B).add (Pt.mul M B))) := by
    rw [c_base rfl (modL_lt _), mul_mod B _ LB, Nat.mul_one, mul_add]
  unfold law06_CurveGroup
  simp only [c_base hn hN, c_base hm hM, c_base hs hS, obs, add_enc, neg_enc, num1e, ma, bm]
  generalize Pt.mul N B = P; generalize Pt.mul M B = Q; generalize Pt.mul S B = T
  rw [add_comm Q P, add_assoc P Q T, add_neg, add_zero]
  simp only [wakes6, obs, beq_self_eq_true, decide_true, if_true]
theorem CurveTimes (a0 a1 a2 : List Int) (l0 : a0.length = 32) (w0 : ∀ x ∈ a0, (Lit.int .u8 x).wf = true) (l1 : a1.length = 32) (w1 : ∀ x ∈ a1, (Lit.int .u8 x).wf = true) (l2 : a2.length = 32) (w2 : ∀ x ∈ a2, (Lit.int .u8 x).wf = true) : law06_CurveTimes a0 a1 a2 = some true := by
  obtain ⟨N, hn, hN⟩ := nat_of (bytes_wf l0 w0)
  obtain ⟨M, hm, hM⟩ := nat_of (bytes_wf l1 w1)
  obtain ⟨S, hs, hS⟩ := nat_of (bytes_wf l2 w2)
  have z32 : List.replicate 32 (0 : Int) = leB 32 ((0 : Nat) : Int) := (leB_zero 32).symm
  have ma : ref04_MulAdd a1 a2 (List.replicate 32 0) = some (leB 32 (((M * S + 0) % LN : Nat) : Int)) := mulAdd_ok hm hM hs hS z32 (by decide)
  have e1 : Pt.mul S (Pt.mul M (Pt.mul N B)) = Pt.mul ((M * S + 0) % LN) (Pt.mul N B) := by
    rw [mul_mod _ _ (mulL _ N rfl), mul_mul, Nat.add_zero, Nat.mul_comm]
  have e2 : Pt.mul 2 (Pt.mul N B) = (Pt.mul N B).add (Pt.mul N B) := by
    show ((Pt.zero K).add (Pt.mul N B)).add (Pt.mul N B) = _; rw [zero_add]
  unfold law06_CurveTimes
  simp only [c_base hn hN, obs, mul_enc hm hM, mul_enc hs hS, ma, mul_enc rfl (modL_lt (M * S + 0)), add_enc, num2e, mul_enc (e := leB 32 ((2 : Nat) : Int)) rfl (by decide : 2 < 2 ^ 256), num1e, e1, e2, mul_zero, beq_self_eq_true, decide_true, if_true, wakes6]
theorem small_loop (k1 : Int) (t : Nat) (ht : t < 12) (hk : IntKind.i64.wrap ((IntKind.u64.wrap k1).tmod 12) = (t : Int)) (P : Pt K) : ∀ j i : Nat, i + j = t →
    law06_CurveSmall_l0 k1 (enc P) (j + 1) (enc (Pt.mul i P)) (i : Int) = some (.inl (enc (Pt.mul t P))) := by
  intro j
  induction j with
  | zero =>
    intro i hi
    have : i = t := by omega
    subst this
    rw [law06_CurveSmall_l0, hk, if_neg (by simp)]
  | succ j ih =>
    intro i hi
    have e : IntKind.i64.wrap ((i : Int) + 1) = ((i + 1 : Nat) : Int) := by rw [IntWalk.i64_in _ (by omega)]; omega
    rw [law06_CurveSmall_l0, hk, if_pos (decide_eq_true (by omega)), add_enc, Option.bind_some]
    simp only []
    rw [if_neg (by decide), e]
    exact ih (i + 1) (by omega)
theorem CurveSmall (a0 : List Int) (a1 : Int) (l0 : a0.length = 32) (w0 : ∀ x ∈ a0, (Lit.int .u8 x).wf = true) (_w1 : (Lit.int .i64 a1).wf = true) : law06_CurveSmall a0 a1 = some true := by
  obtain ⟨N, hn, hN⟩ := nat_of (bytes_wf l0 w0)
  obtain ⟨t, ht, hk⟩ : ∃ t : Nat, t < 12 ∧ IntKind.i64.wrap ((IntKind.u64.wrap a1).tmod 12) = (t : Int) := by
    have h : 0 ≤ (IntKind.u64.wrap a1).tmod 12 ∧ (IntKind.u64.wrap a1).tmod 12 < 12 := by
      rw [w64, Int.tmod_eq_emod_of_nonneg (by omega)]; omega
    refine ⟨((IntKind.u64.wrap a1).tmod 12).toNat, by omega, ?_⟩
    rw [IntWalk.i64_in _ (by omega), Int.toNat_of_nonneg h.1]
  have hl := small_loop a1 t ht hk (Pt.mul N B) t 0 (by omega)
  have hl' : law06_CurveSmall_l0 a1 (enc (Pt.mul N B)) (((t : Int) - (0 : Int)).toNat + 1) (enc (Pt.zero K)) 0 = some (.inl (enc (Pt.mul t (Pt.mul N B)))) := by
    rw [show ((t : Int) - (0 : Int)).toNat = t by omega]; exact hl
  unfold law06_CurveSmall
  simp only [c_base hn hN, obs, num1e, hk, hl', num6 t (by omega), mul_enc (e := leB 32 (t : Int)) rfl (by omega : t < 2 ^ 256), beq_self_eq_true, decide_true, if_true, wakes6]
end Go.Cu
/- The point of order two, other sides, the equation, the page's answers. -/
namespace Go.Cu
open Go Go.Gw Go.Proofs.Sb.D Go.Pn Go.Sc
theorem two_on {q : Nat} [NeZero q] (k : Fld q) : On k 0 (-1) := by unfold On; generalize k.d = d; grind
/-- the point of order two -/
def T2 : Pt K := ⟨0, -1, two_on K⟩
theorem two_two {q : Nat} [NeZero q] (k : Fld q) : (⟨0, -1, two_on k⟩ : Pt k).add ⟨0, -1, two_on k⟩ = Pt.zero k := by
  apply add_uniq
  · show (0 : Fin q) * (1 + k.d * 0 * 0 * -1 * -1) = 0 * -1 + -1 * 0; generalize k.d = d; grind
  · show (1 : Fin q) * (1 - k.d * 0 * 0 * -1 * -1) = -1 * -1 + 0 * 0; generalize k.d = d; grind
theorem T2_T2 : T2.add T2 = Pt.zero K := two_two K
theorem T2_even (m : Nat) : Pt.mul (m + m) T2 = Pt.zero K := by
  rw [mul_add, ← mul_dist, T2_T2, mul_zero]
theorem T2_odd (m : Nat) : Pt.mul (m + m + 1) T2 = T2 := by
  rw [mul_add, T2_even, mul_one, zero_add]
theorem LN_odd : LN = LN / 2 + LN / 2 + 1 := by decide
theorem T2_L : Pt.mul LN T2 = T2 := by rw [LN_odd]; exact T2_odd _
theorem T2_ne : T2 ≠ Pt.zero K := by
  intro h
  have : (-1 : Fp) = 1 := congrArg Pt.y h
  rw [one_mk, mk_neg, mk_eq] at this
  exact absurd this (by decide)
theorem T2_not (n : Nat) : Pt.mul n B ≠ T2 := by
  intro h
  have := mulL _ n h.symm
  rw [T2_L] at this
  exact T2_ne this
theorem add_T2_ne (P : Pt K) : P.add T2 ≠ P := by
  intro h
  have e : P.neg.add (P.add T2) = P.neg.add P := by rw [h]
  rw [← add_assoc, add_comm P.neg P, add_neg, zero_add] at e
  exact T2_ne e
theorem encT2 : enc T2 = leB 32 (pw - 1) := by
  have : encV T2 = pw - 1 := by
    show (-1 : Fp).v + (0 : Fp).v % 2 * Hb = _
    rw [one_mk, mk_neg, zero_mk, mk_val, mk_val]; decide
  unfold enc; rw [this]
theorem CurveTorsion (a0 : List Int) (l0 : a0.length = 32) (w0 : ∀ x ∈ a0, (Lit.int .u8 x).wf = true) : law06_CurveTorsion a0 = some true := by
  obtain ⟨N, hn, hN⟩ := nat_of (bytes_wf l0 w0)
  have hw : [(IntKind.u64.wrap (((words4 pw).getD 0 0) - (1 : Int))), ((words4 pw).getD 1 0), ((words4 pw).getD 2 0), ((words4 pw).getD 3 0)] = words4 (pw - 1) := by kernel_rfl
  have e8 : Pt.mul 8 ((Pt.mul N B).add T2) = Pt.mul 8 (Pt.mul N B) := by
    rw [mul_dist, T2_even 4, add_zero]
  have m8 := fun P => mul_enc (e := leB 32 ((8 : Nat) : Int)) rfl (by decide : 8 < 2 ^ 256) P
  have hne : decide (enc ((Pt.mul N B).add T2) = enc (Pt.mul N B)) = false := decide_eq_false fun h => add_T2_ne _ (enc_inj.1 h)
  unfold law06_CurveTorsion
  simp only [rP, obs, hw, rbytes, ← encT2, c_base hn hN, add_enc, T2_T2, num8e, m8, e8, L_eq, mul_enc L_bytes LN_lt, T2_L, check_enc, num1e, hne, beq_self_eq_true, decide_true, if_true, Bool.not_false, wakes6]
/-- the other side, as bytes -/
theorem flip_int (x y p : Int) (hp : p % 2 = 1) (hy : 0 ≤ y ∧ y < Hb) : (if y + x % 2 * Hb < Hb then y + x % 2 * Hb + Hb else y + x % 2 * Hb - Hb) = y + (p - x) % 2 * Hb := by
  by_cases h : x % 2 = 1
  · have h2 : (p - x) % 2 = 0 := by omega
    rw [h, h2, if_neg (by omega)]; omega
  · have h1 : x % 2 = 0 := by omega
    have h2 : (p - x) % 2 = 1 := by omega
    rw [h1, h2, if_pos (by omega)]; omega
theorem neg_v (a : Fp) (h : a.v ≠ 0) : (-a).v = pw - a.v := by
  have b := fbd a
  have z : (0 : Fp).v = 0 := by rw [zero_mk, mk_val]; decide
  rw [neg_sub0, vsub, z, negmod _ pw ⟨by omega, b.2⟩]
theorem flip_encV (P : Pt K) (hx : P.x.v ≠ 0) : (if encV P < Hb then encV P + Hb else encV P - Hb) = encV P.neg := by
  have c := fbd P.y
  have e : encV P.neg = P.y.v + (-P.x).v % 2 * Hb := rfl
  rw [e, neg_v _ hx]
  exact flip_int P.x.v P.y.v pw (by decide) ⟨c.1, Int.lt_trans c.2 (by decide)⟩
theorem flip_enc (P : Pt K) (hx : P.x.v ≠ 0) : (enc P).set 31 (bxor .u8 ((enc P).getD 31 0) 128) = enc P.neg := by
  unfold enc
  rw [xor31 _ (encV_bd P), flip_encV P hx]
theorem y_of_x0 {q : Nat} [NeZero q] (k : Fld q) (P : Pt k) (h : P.x = 0) : P.y = 1 ∨ P.y = -1 := by
  have on := P.on
  unfold On at on
  rw [h] at on
  have : (P.y - 1) * (P.y + 1) = 0 := by
    generalize k.d = d at *
    generalize P.y = y at *
    grind
  rcases k.dom _ _ this with h | h
  · left; generalize P.y = y at *; grind
  · right; generalize P.y = y at *; grind
theorem x_ne (n : Nat) (h : Pt.mul n B ≠ Pt.zero K) : (Pt.mul n B).x.v ≠ 0 := by
  intro h0
  have hx : (Pt.mul n B).x = 0 := Fp.ext' (by rw [h0, zero_mk, mk_val]; decide)
  rcases y_of_x0 K _ hx with hy | hy
  · exact h (Pt.ext' hx hy)
  · exact T2_not n (Pt.ext' hx hy)
theorem good_one : good (1 + Hb) = false := by
  have e1 : (1 + Hb) % Hb = 1 := by decide
  have e2 : (1 + Hb) / Hb = 1 := by decide
  have eA : AF (mk 1) = 0 := by
    have h := AF_of (x := 0) (y := mk 1) (by rw [← one_mk]; exact (Pt.zero K).on)
    rw [h, zero_mk, mk_mul, Int.mul_zero]
  unfold good
  rw [e1, e2, eA]
  cases hk : okR (0 : Fp).v with
  | false => rw [Bool.and_false]; rfl
  | true =>
    have h := rv_sq hk
    have h0 : rv (0 : Fp).v % pw = 0 := by
      rw [show (0 : Fp).v % pw = 0 from z0] at h
      rcases euclid h with g | g <;> exact g
    rw [decide_eq_true h0]; rfl
theorem CurveSides (a0 a1 : List Int) (l0 : a0.length = 32) (w0 : ∀ x ∈ a0, (Lit.int .u8 x).wf = true) (l1 : a1.length = 32) (w1 : ∀ x ∈ a1, (Lit.int .u8 x).wf = true) : law06_CurveSides a0 a1 = some true := by
  obtain ⟨N, hn, hN⟩ := nat_of (bytes_wf l0 w0)
  obtain ⟨M, hm, hM⟩ := nat_of (bytes_wf l1 w1)
  have hb : ((0 : Int) != 0) = false := by decide
  unfold law06_CurveSides
  simp only [c_base hn hN, c_base hm hM, obs, neg_enc, add_enc, neg_neg, neg_add, num1e, hb, decide_true, Bool.not_true, Bool.false_eq_true, if_false]
  by_cases hz : Pt.mul N B = Pt.zero K
  · have hc : curve_Check ((enc (Pt.zero K)).set 31 (bxor .u8 ((enc (Pt.zero K)).getD 31 0) 128)) = some false := by
      rw [enc_zero, xor31 1 (by decide), if_pos (by decide), c_check ⟨rfl, by decide⟩, dec_none good_one]; rfl
    rw [hz, neg_zero, hc]
    simp only [decide_true, if_true, obs, Bool.not_false, wakes6]
  · have hx := x_ne N hz
    have hd : decide (enc (Pt.mul N B) = enc (Pt.zero K)) = false := decide_eq_false fun h => hz (enc_inj.1 h)
    rw [hd, flip_enc _ hx, check_enc]
    simp only [decide_true, if_true, obs, wakes6, Bool.false_eq_true, if_false]
end Go.Cu
/- The equation; the page's answers. -/
namespace Go.Cu
open Go Go.Gw Go.Proofs.Sb.D Go.Pn Go.Sc
/-- the bytes of a number modulo p -/
def fb (a : Fp) : List Int := leB 32 a.v
theorem fb_mk (x : Int) : fb (mk x) = fe x := by unfold fb fe; rw [mk_val]
theorem fb_bytes (a : Fp) : Bytes32 (fb a) := leB_bytes 32 _
theorem leV_fb (a : Fp) : leV (fb a) = a.v := leV_lb _ (fbd' a)
theorem fe_v (x : Int) (a : Fp) (h : mk x = a) : fe x = fb a := by rw [← h, fb_mk]
theorem fb_add (a b : Fp) : field_Add (fb a) (fb b) = some (fb (a + b)) := by
  rw [fadd (fb_bytes a) (fb_bytes b), leV_fb, leV_fb, fe_v _ (a + b) (by rw [← mk_add, mk_v, mk_v])]
theorem fb_sub (a b : Fp) : field_Sub (fb a) (fb b) = some (fb (a - b)) := by
  rw [fsub (fb_bytes a) (fb_bytes b), leV_fb, leV_fb, fe_v _ (a - b) (by rw [← mk_sub, mk_v, mk_v])]
theorem fb_mul (a b : Fp) : field_Mul (fb a) (fb b) = some (fb (a * b)) := by
  rw [fmul (fb_bytes a) (fb_bytes b), leV_fb, leV_fb, fe_v _ (a * b) (by rw [← mk_mul, mk_v, mk_v])]
theorem fb_inv (a : Fp) : field_Inv (fb a) = some (fb (K.inv a)) := by
  rw [finv (fb_bytes a), leV_fb, fe_v _ (K.inv a) (K_inv a).symm]
theorem fb_root (a : Fp) : field_Root (fb a) = some (if okR a.v then fb (mk (rv a.v)) else List.replicate 32 0, okR a.v) := by
  rw [froot (fb_bytes a), leV_fb, fb_mk]
theorem n4 (n : Nat) (h : n < 9223372036854775808) : law04_Num (n : Int) = some (fb (mk (n : Int))) := by
  rw [num_ok n (by omega) (by omega), fb_mk]
theorem n40 : law04_Num 0 = some (fb 0) := by rw [zero_mk]; exact n4 0 (by decide)
theorem n41 : law04_Num 1 = some (fb 1) := by rw [one_mk]; exact n4 1 (by decide)
theorem fb_zero (x : Int) : decide (fb (mk x) = fb 0) = decide (x % pw = 0) := by
  apply decide_eq_decide.2
  unfold fb
  rw [leB_inj (fbd' _) (fbd' _), zero_mk, mk_val, mk_val]; rfl
theorem check_y (y : Int) (h : 0 ≤ y ∧ y < 115792089237316195423570985008687907853269984665640564039457584007913129639936) : field_Check (leB 32 y) = some (decide (y < pw)) := by
  rw [fcheck (leB_bytes 32 y), leV_lb y h]
  congr 1
  apply decide_eq_decide.2
  unfold fe
  rw [leB_inj (mod_bd' y) h]
  constructor
  · intro e; rw [← e]; exact (mod_bd y).2
  · intro e; exact Int.emod_eq_of_lt h.1 e
theorem isSome_dec (v : Int) : (dec v).isSome = good v := by
  cases h : good v with
  | true => rw [dec_some h]; rfl
  | false => rw [dec_none h]; rfl
theorem CurveEquation (a0 : List Int) (l0 : a0.length = 32) (w0 : ∀ x ∈ a0, (Lit.int .u8 x).wf = true) : law06_CurveEquation a0 = some true := by
  have h0 := bytes_wf l0 w0
  have hn := num_of h0
  generalize leV a0 = v at hn
  obtain ⟨e, hv⟩ := hn
  subst e
  have hy0 : 0 ≤ v % Hb ∧ v % Hb < 115792089237316195423570985008687907853269984665640564039457584007913129639936 := by unfold Hb; omega
  have c1 : law04_Num 121665 = some (fb (mk 121665)) := n4 121665 (by decide)
  have c2 : law04_Num 121666 = some (fb (mk 121666)) := n4 121666 (by decide)
  have hyy : field_Mul (leB 32 (v % Hb)) (leB 32 (v % Hb)) = some (fb (mk (v % Hb) * mk (v % Hb))) := by
    rw [fmul (leB_bytes 32 _) (leB_bytes 32 _), leV_lb _ hy0, fe_v _ _ (mk_mul _ _).symm]
  have hA : (mk (v % Hb) * mk (v % Hb) - 1) * K.inv (K.d * (mk (v % Hb) * mk (v % Hb)) + 1) = AF (mk (v % Hb)) := rfl
  have hc := c_check (a := leB 32 v) ⟨rfl, hv⟩
  rw [isSome_dec] at hc
  unfold law06_CurveEquation
  simp only [low31 v, n40, n41, c1, c2, obs, fb_sub, fb_inv, fb_mul, d_key, hyy, fb_add, hA, fb_root, hc, check_y _ hy0, ge31 v hv]
  unfold good
  by_cases h1 : v % Hb < pw
  · rw [decide_eq_true h1]
    cases hk : okR (AF (mk (v % Hb))).v
    · simp only [if_true, Bool.and_false, Bool.false_and, Bool.false_eq_true, if_false, beq_self_eq_true, wakes6, obs]
    · simp only [if_true, Bool.true_and, fb_zero]
      by_cases hz : rv (AF (mk (v % Hb))).v % pw = 0
      · rw [decide_eq_true hz]
        simp only [if_true, Bool.and_true, beq_self_eq_true, wakes6, obs]
      · rw [decide_eq_false hz]
        simp only [Bool.and_false, Bool.not_false, beq_self_eq_true, wakes6, obs, Bool.false_eq_true, if_false, if_true]
  · rw [decide_eq_false h1]
    simp only [Bool.false_and, Bool.false_eq_true, if_false, beq_self_eq_true, wakes6, obs, if_true]
theorem CurveExact (a0 a1 a2 : List Int) (l0 : a0.length = 32) (w0 : ∀ x ∈ a0, (Lit.int .u8 x).wf = true) (l1 : a1.length = 32) (w1 : ∀ x ∈ a1, (Lit.int .u8 x).wf = true) (l2 : a2.length = 32) (w2 : ∀ x ∈ a2, (Lit.int .u8 x).wf = true) : law06_CurveExact a0 a1 a2 = some true := by
  have hu := num_of (bytes_wf l0 w0)
  have hv := num_of (bytes_wf l1 w1)
  obtain ⟨S, hs, hS⟩ := nat_of (bytes_wf l2 w2)
  generalize leV a0 = u at hu
  generalize leV a1 = v at hv
  have k1 : ((0 : Int) == 0) = true := by decide
  have k2 : ((1 : Int) == 0) = false := by decide
  have k3 : ((1 : Int) != 1) = false := by decide
  have k4 : ((1 : Int) == 1) = true := by decide
  have hc := c_check hu
  have ha := c_add hu hv
  have hra := r_sum hu hv
  have hng := c_neg hu
  have hrn := r_neg hu
  have hm := c_mul hs hS hu
  have hrm := r_times hs hS hu
  unfold law06_CurveExact
  cases hd : dec u with
  | none =>
    obtain ⟨r0, r1, r2, r3, e⟩ := wn_none hu hd
    rw [hd] at hc ha hra hng hrn hm hrm
    have ea : add? none (dec v) = none := by cases dec v <;> rfl
    rw [ea] at ha hra
    simp only [ansC, ansR, Option.map_none] at ha hra hng hrn hm hrm
    simp only [e, hc, ha, hra, hng, hrn, hm, hrm, obs, Option.isSome_none, k2, k3, k4, beq_self_eq_true, Bool.not_true, Bool.not_false, Bool.false_eq_true, if_false, if_true, decide_true, wakes6]
  | some P =>
    obtain ⟨r0, r1, r2, r3, e, _⟩ := wn_some hu hd
    rw [hd] at hc ha hra hng hrn hm hrm
    simp only [ansC, ansR, Option.map_some] at hng hrn hm hrm
    cases hg : dec v with
    | none =>
      rw [hg] at ha hra
      simp only [add?, ansC, ansR] at ha hra
      simp only [e, hc, ha, hra, hng, hrn, hm, hrm, obs, Option.isSome_some, k1, k2, k3, beq_self_eq_true, Bool.not_true, Bool.not_false, Bool.false_eq_true, if_false, if_true, decide_true, wakes6]
    | some Q =>
      rw [hg] at ha hra
      simp only [add?, ansC, ansR] at ha hra
      simp only [e, hc, ha, hra, hng, hrn, hm, hrm, obs, Option.isSome_some, k1, beq_self_eq_true, Bool.not_true, Bool.false_eq_true, if_false, if_true, decide_true, wakes6]
end Go.Cu
