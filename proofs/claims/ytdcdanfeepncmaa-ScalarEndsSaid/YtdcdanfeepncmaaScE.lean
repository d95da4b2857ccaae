/- The laws of the numbers modulo L. -/
import Derived.Test.YtdcdanfeepncmaaScD
namespace Go.Sc
open Go Go.Gw Go.Proofs.Sb.D Go.Pn
/-- (not by rfl: so simp leaves the kernel a proof, not a computation) -/
theorem obs {α β : Type} (a : α) (f : α → Option β) : (some a).bind f = f a := Eq.trans (Option.bind_some a f) (Eq.refl _)
theorem wakes5 : law05_wakes = some true := by kernel_rfl
theorem bfs (v : Int) : Bytes32 (fs v) := leB_bytes 32 _
theorem leV_fs (v : Int) : leV (fs v) = v % Lw := by
  unfold fs
  rw [leV_leB]
  have h1 := Int.emod_nonneg v (show Lw ≠ 0 by decide)
  have h2 := Int.emod_lt_of_pos v (show 0 < Lw by decide)
  exact Int.emod_eq_of_lt h1 (Int.lt_trans h2 (by decide))
theorem fs_eq {x y : Int} (h : x % Lw = y % Lw) : fs x = fs y := by unfold fs; rw [h]
theorem mm (x : Int) : x % Lw % Lw = x % Lw := Int.emod_emod_of_dvd _ (Int.dvd_refl _)
theorem fs_mod (x : Int) : fs (x % Lw) = fs x := fs_eq (mm x)
theorem fs_addl (x y : Int) : fs (x % Lw + y) = fs (x + y) := fs_eq (by rw [Int.emod_add_emod])
theorem fs_addr (x y : Int) : fs (x + y % Lw) = fs (x + y) := fs_eq (by rw [Int.add_emod_emod])
theorem ml (x y : Int) : (x % Lw * y) % Lw = (x * y) % Lw := by rw [Int.mul_emod, mm, ← Int.mul_emod]
theorem mr (x y : Int) : (x * (y % Lw)) % Lw = (x * y) % Lw := by rw [Int.mul_emod, mm, ← Int.mul_emod]
theorem fs_mull (x y z : Int) : fs (x % Lw * y + z) = fs (x * y + z) := fs_eq (by rw [Int.add_emod, ml, ← Int.add_emod])
theorem fs_mulr (x y z : Int) : fs (x * (y % Lw) + z) = fs (x * y + z) := fs_eq (by rw [Int.add_emod, mr, ← Int.add_emod])
theorem num_s (n : Int) (h0 : 0 ≤ n) (h1 : n < 9223372036854775808) : law04_Num n = some (fs n) := by
  rw [num_ok n h0 h1]; unfold fe fs
  rw [Int.emod_eq_of_lt h0 (Int.lt_trans h1 (by decide)), Int.emod_eq_of_lt h0 (Int.lt_trans h1 (by decide))]
theorem n0 : law04_Num 0 = some (fs 0) := num_s 0 (by decide) (by decide)
theorem n1 : law04_Num 1 = some (fs 1) := num_s 1 (by decide) (by decide)
theorem scheck_fs (v : Int) : scalar_Check (fs v) = some true := by
  rw [scheck (bfs v), leV_fs, decide_eq_true (Int.emod_lt_of_pos v (show 0 < Lw by decide))]
/-- numbers in bytes -/
theorem lb (v : Int) : Bytes32 (leB 32 v) := leB_bytes 32 _
theorem leV_lb (v : Int) (h : 0 ≤ v ∧ v < (115792089237316195423570985008687907853269984665640564039457584007913129639936 : Int)) : leV (leB 32 v) = v := by rw [leV_leB]; exact Int.emod_eq_of_lt h.1 h.2
theorem bsplit {w : List Int} (l : w.length = 64) (h : Bytes w) : ∃ a b, w = a ++ b ∧ Bytes32 a ∧ Bytes32 b :=
  ⟨w.take 32, w.drop 32, (List.take_append_drop 32 w).symm, ⟨by rw [List.length_take]; omega, fun x hx => h x (List.mem_of_mem_take hx)⟩, by rw [List.length_drop]; omega, fun x hx => h x (List.mem_of_mem_drop hx)⟩
theorem wf_bytes {a : List Int} (w : ∀ x ∈ a, (Lit.int .u8 x).wf = true) : Bytes a := fun x hx => (bytes_wf (a := List.replicate 31 0 ++ [x]) (by simp) (by
  intro y hy
  rw [List.mem_append, List.mem_singleton] at hy
  rcases hy with hy | hy
  · rw [List.eq_of_mem_replicate hy]; decide
  · rw [hy]; exact w x hx)).2 x (by simp)
theorem ScalarExact (a0 a1 a2 a3 : List Int) (l0 : a0.length = 32) (w0 : ∀ x ∈ a0, (Lit.int .u8 x).wf = true) (l1 : a1.length = 32) (w1 : ∀ x ∈ a1, (Lit.int .u8 x).wf = true) (l2 : a2.length = 32) (w2 : ∀ x ∈ a2, (Lit.int .u8 x).wf = true)
    (l3 : a3.length = 64) (w3 : ∀ x ∈ a3, (Lit.int .u8 x).wf = true) : law05_ScalarExact a0 a1 a2 a3 = some true := by
  have ha := bytes_wf l0 w0; have hb := bytes_wf l1 w1; have hc := bytes_wf l2 w2
  have hw := wf_bytes w3
  obtain ⟨u, v, rfl, hu, hv⟩ := bsplit l3 hw
  unfold law05_ScalarExact
  rw [take_all 32 l0, take_all 64 l3]
  simp only [scheck ha, rbelow ha, obs, smod ha, rModL32 ha, swide hw l3, rModL64 hu hv, smul ha hb hc, rMulAdd ha hb hc, beq_self_eq_true, decide_true, if_true, wakes5]
theorem goes1 (a b c d : Int) : fs ((a * (1 % Lw) + b) % Lw * c + d) = fs (a * c + (b * c + d) % Lw) := by
  rw [fs_mull, fs_addr]
  have : (1 : Int) % Lw = 1 := by decide
  rw [this]; congr 1; grind
theorem goes2 (a b c : Int) : fs ((a * b + 0 % Lw) % Lw * c + 0 % Lw) = fs (a * ((b * c + 0 % Lw) % Lw) + 0 % Lw) := by
  rw [fs_mull, fs_mulr]
  have : (0 : Int) % Lw = 0 := by decide
  rw [this]; congr 1; grind
theorem ScalarGoes (a0 a1 a2 a3 : List Int) (l0 : a0.length = 32) (w0 : ∀ x ∈ a0, (Lit.int .u8 x).wf = true) (l1 : a1.length = 32) (w1 : ∀ x ∈ a1, (Lit.int .u8 x).wf = true) (l2 : a2.length = 32) (w2 : ∀ x ∈ a2, (Lit.int .u8 x).wf = true)
    (l3 : a3.length = 32) (w3 : ∀ x ∈ a3, (Lit.int .u8 x).wf = true) : law05_ScalarGoes a0 a1 a2 a3 = some true := by
  have ha := bytes_wf l0 w0; have hb := bytes_wf l1 w1; have hc := bytes_wf l2 w2; have hd := bytes_wf l3 w3
  unfold law05_ScalarGoes
  simp only [n0, n1, obs, smul ha (bfs _) hb, smul (bfs _) hc hd, smul hb hc hd, smul ha hc (bfs _), smul ha hb (bfs _), smul (bfs _) hc (bfs _), smul hb hc (bfs _), smul ha (bfs _) (bfs _), leV_fs, wakes5]
  generalize leV a0 = a; generalize leV a1 = b; generalize leV a2 = c; generalize leV a3 = d
  rw [goes1 a b c d, goes2 a b c]
  simp only [decide_true, if_true]
theorem ScalarSmall (a0 a1 a2 : Int) (_w0 : (Lit.int .i64 a0).wf = true) (_w1 : (Lit.int .i64 a1).wf = true) (_w2 : (Lit.int .i64 a2).wf = true) : law05_ScalarSmall a0 a1 a2 = some true := by
  obtain ⟨x, ex, hx⟩ := small_band a0
  obtain ⟨y, ey, hy⟩ := small_band a1
  obtain ⟨z, ez, hz⟩ := small_band a2
  unfold law05_ScalarSmall
  rw [ex, ey, ez]
  have pb := prod_le hx.1 (b := 1073741823) (by omega) hy.1 (by omega)
  have w1 : IntKind.i64.wrap (x * y) = x * y := IntWalk.i64_in _ (by omega)
  have w2 : IntKind.i64.wrap (x * y + z) = x * y + z := IntWalk.i64_in _ (by omega)
  have n1 := num_s x hx.1 (by omega)
  have n2 := num_s y hy.1 (by omega)
  have n3 := num_s z hz.1 (by omega)
  have n4 := num_s (x * y + z) (by omega) (by omega)
  simp only [w1, w2, n1, n2, n3, n4, obs, smul (bfs _) (bfs _) (bfs _), smod (bfs _), scheck_fs, leV_fs, fs_mull, fs_mulr, fs_addr, fs_mod, decide_true, if_true, wakes5]
theorem z0 : (0 : Int) % Lw = 0 := by decide
theorem z1 : (1 : Int) % Lw = 1 := by decide
theorem zm : (Lw - 1) % Lw = Lw - 1 := by decide
theorem ring1 (a l : Int) : (a * (l - 1) + 0) * 1 + a = 0 + l * a := by grind
theorem ring2 (a l : Int) : (a * (l - 1) + 0) * (l - 1) + 0 = a + l * (a * (l - 2)) := by grind
theorem turn1 (a : Int) : fs ((a * ((Lw - 1) % Lw) + 0 % Lw) % Lw * (1 % Lw) + a) = fs 0 := by
  rw [fs_mull]; apply fs_eq
  rw [z1, zm, z0, ring1, Int.add_mul_emod_self_left]
  exact z0
theorem turn2 (a : Int) : fs ((a * ((Lw - 1) % Lw) + 0 % Lw) % Lw * ((Lw - 1) % Lw) + 0 % Lw) = fs a := by
  rw [fs_mull]; apply fs_eq
  rw [z0, zm, ring2, Int.add_mul_emod_self_left]
theorem ScalarTurns (a0 : List Int) (l0 : a0.length = 32) (w0 : ∀ x ∈ a0, (Lit.int .u8 x).wf = true) : law05_ScalarTurns a0 = some true := by
  have ha := bytes_wf l0 w0
  have hw : [(IntKind.u64.wrap (((words4 Lw).getD 0 0) - (1 : Int))), ((words4 Lw).getD 1 0), ((words4 Lw).getD 2 0), ((words4 Lw).getD 3 0)] = words4 (Lw - 1) := by kernel_rfl
  have hl : leB 32 (Lw - 1) = fs (Lw - 1) := by unfold fs; rw [Int.emod_eq_of_lt (by decide) (by decide)]
  unfold law05_ScalarTurns
  simp only [L_eq, obs, hw, rbytes, hl, n0, n1, smul ha (bfs _) (bfs _), smul (bfs _) (bfs _) ha, smul (bfs _) (bfs _) (bfs _), smod ha, scheck_fs, leV_fs, wakes5]
  generalize leV a0 = a
  rw [turn1 a, turn2 a]
  simp only [decide_true, if_true]
theorem laws_l0 (a b c d : List Int) : law05_ScalarLaws_l0 a b c d (((32 : Int) - (0 : Int)).toNat + 1) (List.replicate 64 0) 0 = some ((List.range 32).map (fun i => a.getD i 0) ++ List.replicate 32 0) := by kernel_rfl
theorem leV_zeros (n : Nat) : leV (List.replicate n 0) = 0 := by
  induction n with
  | zero => rfl
  | succ n ih => rw [List.replicate_succ]; show 0 + 256 * leV (List.replicate n 0) = 0; rw [ih]; rfl
theorem ringL (a b : Int) : a * 1 + 0 = a ∧ 0 * b + a = a := by constructor <;> grind
theorem laws1 (a : Int) : fs (a * (1 % Lw) + 0 % Lw) = fs a := by rw [z0, z1]; congr 1; grind
theorem laws2 (a b : Int) : fs (0 % Lw * b + a) = fs a := by rw [z0]; congr 1; grind
theorem laws3 (a c : Int) : fs (a * Lw + c) = fs c := fs_eq (by rw [Int.add_comm, Int.add_mul_emod_self_right])
theorem laws4 (b : Int) : fs (Lw * b + Lw) = fs 0 := fs_eq (by rw [show Lw * b + Lw = 0 + Lw * (b + 1) by rw [Int.mul_add]; omega, Int.add_mul_emod_self_left])
theorem laws5 (a b c : Int) : fs (a % Lw * (b % Lw) + c % Lw) = fs (a * b + c) := by rw [fs_mull, fs_mulr, fs_addr]
theorem ScalarLaws (a0 a1 a2 : List Int) (l0 : a0.length = 32) (w0 : ∀ x ∈ a0, (Lit.int .u8 x).wf = true) (l1 : a1.length = 32) (w1 : ∀ x ∈ a1, (Lit.int .u8 x).wf = true) (l2 : a2.length = 32) (w2 : ∀ x ∈ a2, (Lit.int .u8 x).wf = true) : law05_ScalarLaws a0 a1 a2 = some true := by
  have ha := bytes_wf l0 w0; have hb := bytes_wf l1 w1; have hc := bytes_wf l2 w2
  have hw : Bytes (a0 ++ List.replicate 32 0) := fun x hx => by
    rw [List.mem_append] at hx
    rcases hx with hx | hx
    · exact ha.2 x hx
    · rw [List.eq_of_mem_replicate hx]; decide
  have hwl : (a0 ++ List.replicate 32 (0 : Int)).length = 64 := by simp [l0]
  have hm : (List.range 32).map (fun i => a0.getD i 0) = a0 := by rw [← l0, map_getD]
  have hlV : leV (a0 ++ List.replicate 32 0) = leV a0 := by rw [leV_app, leV_zeros, Int.mul_zero, Int.add_zero]
  have hbl : Bytes32 (leB 32 Lw) := lb Lw
  have hvl : leV (leB 32 Lw) = Lw := leV_lb Lw (by decide)
  unfold law05_ScalarLaws
  simp only [L_eq, obs, rbytes, laws_l0, hm, n0, n1, smod ha, smod hb, smod hc, smod (bfs _), swide hw hwl, hlV, smul ha hb hc, smul hb ha hc, smul ha (bfs _) (bfs _), smul (bfs _) hb ha, smul ha hbl hc, smul hbl hb hbl, smul (bfs _) (bfs _) (bfs _), hvl,
    scheck_fs, leV_fs, fs_mod, laws1, laws2, laws3, laws4, laws5, Int.mul_comm (leV a1) (leV a0), wakes5, decide_true, if_true]
theorem wide_l0 (w : List Int) : law05_ScalarWide_l0 w (((32 : Int) - (0 : Int)).toNat + 1) (List.replicate 32 0) (List.replicate 32 0) (List.replicate 32 0) 0 =
    some ((List.range 32).map (fun i => w.getD i 0), (List.range 32).map (fun i => w.getD (32 + i) 0), List.replicate 32 255) := by kernel_rfl
theorem wide1 (lo hi : Int) : fs (hi * ((1 % Lw * 115792089237316195423570985008687907853269984665640564039457584007913129639935 + 1 % Lw) % Lw) + lo) = fs (lo + 115792089237316195423570985008687907853269984665640564039457584007913129639936 * hi) := by
  rw [fs_mulr, z1]
  have e : (1 : Int) * 115792089237316195423570985008687907853269984665640564039457584007913129639935 + 1 = 115792089237316195423570985008687907853269984665640564039457584007913129639936 := by decide
  rw [e]; congr 1; rw [Int.add_comm, Int.mul_comm]
theorem ScalarWide (a0 : List Int) (l0 : a0.length = 64) (w0 : ∀ x ∈ a0, (Lit.int .u8 x).wf = true) : law05_ScalarWide a0 = some true := by
  have hw := wf_bytes w0
  obtain ⟨u, v, rfl, hu, hv⟩ := bsplit l0 hw
  have h1 : (List.range 32).map (fun i => (u ++ v).getD i 0) = u := by
    conv => rhs; rw [← map_getD u, hu.1]
    apply List.map_congr_left
    intro i hi
    have hi := List.mem_range.1 hi
    simp only [List.getD_eq_getElem?_getD]; rw [List.getElem?_append_left (by rw [hu.1]; exact hi)]
  have h2 : (List.range 32).map (fun i => (u ++ v).getD (32 + i) 0) = v := by
    conv => rhs; rw [← map_getD v, hv.1]
    apply List.map_congr_left
    intro i hi
    have hi := List.mem_range.1 hi
    simp only [List.getD_eq_getElem?_getD]; rw [List.getElem?_append_right (by rw [hu.1]; omega), hu.1]
    congr 2; omega
  have hr : Bytes32 (List.replicate 32 255) := ⟨by simp, fun x hx => by rw [List.eq_of_mem_replicate hx]; decide⟩
  have hrv : leV (List.replicate 32 255) = 115792089237316195423570985008687907853269984665640564039457584007913129639935 := by decide
  have p32 : (256 : Int) ^ 32 = 115792089237316195423570985008687907853269984665640564039457584007913129639936 := by decide
  unfold law05_ScalarWide
  rw [wide_l0, h1, h2]
  simp only [obs, n1, smul (bfs _) hr (bfs _), swide hw l0, smul hv (bfs _) hu, leV_fs, hrv, wide1, leV_app, hu.1, p32, wakes5, decide_true, if_true]
end Go.Sc
