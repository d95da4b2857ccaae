/- About L, and many times L. -/
import Derived.Test.YtdcdanfeepncmaaScE
namespace Go.Sc
open Go Go.Gw Go.Proofs.Sb.D Go.Pn
def endsW (τ : Int) : List Int → Int → List Int
  | [], _ => []
  | x :: l, c => IntKind.u8.wrap (IntKind.i64.wrap (c + IntKind.i64.wrap (τ * IntKind.i64.wrap x))) :: endsW τ l (shr .i64 (IntKind.i64.wrap (c + IntKind.i64.wrap (τ * IntKind.i64.wrap x))) 8)
theorem ends_l0 (kk tt c : Int) (a : List Int) : law05_ScalarEnds_l0 kk tt a (((32 : Int) - (0 : Int)).toNat + 1) (List.replicate 32 0) c 0 =
    some (endsW (IntKind.i64.wrap ((IntKind.u64.wrap tt).tmod 15)) ((List.range 32).map (fun i => a.getD i 0)) c) := by kernel_rfl
theorem endsW_ok (τ : Int) (ht : 0 ≤ τ ∧ τ < 15) : ∀ (l : List Int) (c : Int), Bytes l → 0 ≤ c → c < 5000 → endsW τ l c = leB l.length (c + τ * leV l)
  | [], c, _, _, _ => rfl
  | x :: l, c, h, h0, h1 => by
    have hx := h x (List.mem_cons_self ..)
    have hl : Bytes l := fun y hy => h y (List.mem_cons_of_mem _ hy)
    have e1 : IntKind.i64.wrap x = x := IntWalk.i64_in _ (by omega)
    have p0 : 0 ≤ τ * x := Int.mul_nonneg ht.1 hx.1
    have p2 : τ * x ≤ 14 * 255 := by
      have := Int.mul_le_mul (a := τ) (b := x) (c := 14) (d := 255) (by omega) (by omega) hx.1 (by decide)
      exact this
    have e2 : IntKind.i64.wrap (τ * x) = τ * x := IntWalk.i64_in _ (by omega)
    have e3 : IntKind.i64.wrap (c + τ * x) = c + τ * x := IntWalk.i64_in _ (by omega)
    show IntKind.u8.wrap (IntKind.i64.wrap (c + IntKind.i64.wrap (τ * IntKind.i64.wrap x))) :: endsW τ l (shr .i64 (IntKind.i64.wrap (c + IntKind.i64.wrap (τ * IntKind.i64.wrap x))) 8) = leB (l.length + 1) (c + τ * (x + 256 * leV l))
    rw [e1, e2, e3, w8, shr_u _ _ 8 256 (by decide) (by decide), endsW_ok τ ht l _ hl (by omega) (by omega), leB_succ]
    have e4 : c + τ * (x + 256 * leV l) = c + τ * x + 256 * (τ * leV l) := by grind
    rw [e4]
    generalize τ * leV l = q
    generalize τ * x = p
    congr 1
    · omega
    · congr 1; omega
theorem ends1 (τ κ : Int) : fs (τ % Lw * Lw + κ % Lw) = fs κ := by
  rw [fs_addr]; exact laws3 _ _
theorem ends2 (τ κ : Int) : fs (κ + τ * Lw) = fs κ := by rw [Int.add_comm]; exact laws3 _ _
theorem ScalarEnds (a0 a1 : Int) (_w0 : (Lit.int .i64 a0).wf = true) (_w1 : (Lit.int .i64 a1).wf = true) : law05_ScalarEnds a0 a1 = some true := by
  have hk : 0 ≤ (IntKind.u64.wrap a0).tmod 1000 ∧ (IntKind.u64.wrap a0).tmod 1000 < 1000 := by
    rw [w64, Int.tmod_eq_emod_of_nonneg (by omega)]; omega
  have ht : 0 ≤ (IntKind.u64.wrap a1).tmod 15 ∧ (IntKind.u64.wrap a1).tmod 15 < 15 := by
    rw [w64, Int.tmod_eq_emod_of_nonneg (by omega)]; omega
  unfold law05_ScalarEnds
  simp only [ends_l0]
  generalize (IntKind.u64.wrap a0).tmod 1000 = κ at *
  generalize (IntKind.u64.wrap a1).tmod 15 = τ at *
  have ek : IntKind.i64.wrap κ = κ := IntWalk.i64_in _ (by omega)
  have et : IntKind.i64.wrap τ = τ := IntWalk.i64_in _ (by omega)
  have hbl : Bytes32 (leB 32 Lw) := lb Lw
  have hm : (List.range 32).map (fun i => (leB 32 Lw).getD i 0) = leB 32 Lw := by
    have := map_getD (leB 32 Lw); rw [hbl.1] at this; exact this
  have hvl : leV (leB 32 Lw) = Lw := leV_lb Lw (by decide)
  have hE : endsW τ (leB 32 Lw) κ = leB 32 (κ + τ * Lw) := by
    rw [endsW_ok τ ht _ _ hbl.2 hk.1 (by omega), hvl, hbl.1]
  have hV : leV (leB 32 (κ + τ * Lw)) = κ + τ * Lw := leV_lb _ (by unfold Lw; omega)
  have nk := num_s κ hk.1 (by omega)
  have nt := num_s τ ht.1 (by omega)
  have hC : decide (κ + τ * Lw < Lw) = (τ == 0) := by
    rw [Bool.eq_iff_iff, decide_eq_true_eq, beq_iff_eq]; unfold Lw; omega
  simp only [L_eq, obs, rbytes, ek, et, hm, hE, nk, nt, smod (lb _), hV, ends2, scheck (lb _), hC, smul (bfs _) hbl (bfs _), leV_fs, hvl, ends1, beq_self_eq_true, decide_true, if_true, wakes5]
end Go.Sc
