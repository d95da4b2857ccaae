/- Sums, differences and products of words. -/
import Derived.Test.YtdcdanfeepncmaaPnE
namespace Go.Pn
open Go Go.Gw Go.Proofs.Sb.D
theorem prod_le {x y b : Int} (h0 : 0 ≤ x) (h1 : x ≤ b) (h2 : 0 ≤ y) (h3 : y ≤ b) : 0 ≤ x * y ∧ x * y ≤ b * b :=
  ⟨Int.mul_nonneg h0 h2, Int.mul_le_mul h1 h3 h2 (by omega)⟩
theorem mul64_ok (x y : Int) (h0 : 0 ≤ x) (h1 : x < 18446744073709551616) (h2 : 0 ≤ y) (h3 : y < 18446744073709551616) :
    math_bits_Mul64 x y = some (x * y / 18446744073709551616, x * y % 18446744073709551616) := by
  unfold math_bits_Mul64
  rw [shr_u _ x 32 4294967296 (by decide) (by decide), shr_u _ y 32 4294967296 (by decide) (by decide),
    band_mask k64 32 (by decide) x _ 4294967296 (by decide) (by decide) h0 h1, band_mask k64 32 (by decide) y _ 4294967296 (by decide) (by decide) h2 h3]
  have ex : x = x / 4294967296 * 4294967296 + x % 4294967296 := by omega
  have ey : y = y / 4294967296 * 4294967296 + y % 4294967296 := by omega
  have exy : x * y = (x / 4294967296) * (y / 4294967296) * 18446744073709551616 + ((x / 4294967296) * (y % 4294967296) + (x % 4294967296) * (y / 4294967296)) * 4294967296 + (x % 4294967296) * (y % 4294967296) := by
    conv => lhs; rw [ex, ey]
    generalize x / 4294967296 = a; generalize x % 4294967296 = b; generalize y / 4294967296 = c; generalize y % 4294967296 = d
    grind
  have b1 : 0 ≤ x / 4294967296 ∧ x / 4294967296 ≤ 4294967295 := by omega
  have b2 : 0 ≤ x % 4294967296 ∧ x % 4294967296 ≤ 4294967295 := by omega
  have b3 : 0 ≤ y / 4294967296 ∧ y / 4294967296 ≤ 4294967295 := by omega
  have b4 : 0 ≤ y % 4294967296 ∧ y % 4294967296 ≤ 4294967295 := by omega
  rw [exy]
  have pp := prod_le b1.1 b1.2 b3.1 b3.2
  have pq := prod_le b1.1 b1.2 b4.1 b4.2
  have pr := prod_le b2.1 b2.2 b3.1 b3.2
  have ps := prod_le b2.1 b2.2 b4.1 b4.2
  generalize x / 4294967296 * (y / 4294967296) = p at *
  generalize x / 4294967296 * (y % 4294967296) = q at *
  generalize x % 4294967296 * (y / 4294967296) = r at *
  generalize x % 4294967296 * (y % 4294967296) = s at *
  simp only [w64]
  have es : s % 18446744073709551616 = s := by omega
  have eq : q % 18446744073709551616 = q := by omega
  have er : r % 18446744073709551616 = r := by omega
  have ep : p % 18446744073709551616 = p := by omega
  rw [es, eq, er, ep, shr_u _ s 32 4294967296 (by decide) (by decide)]
  have et : (q + s / 4294967296) % 18446744073709551616 = q + s / 4294967296 := by omega
  rw [et, shr_u _ (q + s / 4294967296) 32 4294967296 (by decide) (by decide),
    band_mask k64 32 (by decide) (q + s / 4294967296) _ 4294967296 (by decide) (by decide) (by omega) (by show _ < (18446744073709551616 : Int); omega),
    shr_u _ _ 32 4294967296 (by decide) (by decide)]
  congr 2 <;> omega
theorem add_l0_eq (b : List Int) (x0 x1 x2 x3 x4 : Int) : limb_Add_l0 b (((5 : Int) - (0 : Int)).toNat + 1) [x0, x1, x2, x3, x4] 0 =
    some [IntKind.u64.wrap (x0 + b.getD 0 0), IntKind.u64.wrap (x1 + b.getD 1 0), IntKind.u64.wrap (x2 + b.getD 2 0), IntKind.u64.wrap (x3 + b.getD 3 0), IntKind.u64.wrap (x4 + b.getD 4 0)] := by kernel_rfl
theorem sub_l0_eq (b : List Int) (x0 x1 x2 x3 x4 : Int) : limb_Sub_l0 b (((5 : Int) - (0 : Int)).toNat + 1) [x0, x1, x2, x3, x4] 0 =
    some [IntKind.u64.wrap (x0 + IntKind.u64.wrap (9007199254740916 - b.getD 0 0)), IntKind.u64.wrap (x1 + IntKind.u64.wrap (9007199254740988 - b.getD 1 0)), IntKind.u64.wrap (x2 + IntKind.u64.wrap (9007199254740988 - b.getD 2 0)), IntKind.u64.wrap (x3 + IntKind.u64.wrap (9007199254740988 - b.getD 3 0)), IntKind.u64.wrap (x4 + IntKind.u64.wrap (9007199254740988 - b.getD 4 0))] := by kernel_rfl
theorem carried_rep {x0 x1 x2 x3 x4 n : Int} (h : B5 18446744073709543424 x0 x1 x2 x3 x4) (hv : V x0 x1 x2 x3 x4 % pw = n % pw) : ∃ l, limb_carried [x0, x1, x2, x3, x4] = some l ∧ Rep l n := by
  obtain ⟨t0, t1, t2, t3, t4, c, e, ht, lc, uc, q⟩ := carried_ok h
  have k0 := ht.h0
  refine ⟨_, e, _, _, _, _, _, rfl, ht.head ?_ (by decide), ?_⟩
  · show _ ∧ _ < (2251799813841000 : Int); omega
  · rw [V_head, ← hv, q]
    have : c * 57896044618658097711785492504343953926634992332820282019728792003956564819968 + V t0 t1 t2 t3 t4 = V t0 t1 t2 t3 t4 + 19 * c + pw * c := by unfold pw; omega
    rw [this, Int.add_mul_emod_self_left]
theorem u64_id {x : Int} (h0 : 0 ≤ x) (h1 : x < 18446744073709551616) : IntKind.u64.wrap x = x := by rw [w64]; omega
theorem add_ok {a b : List Int} {m n : Int} (ha : Rep a m) (hb : Rep b n) : ∃ l, limb_Add a b = some l ∧ Rep l (m + n) := by
  obtain ⟨x0, x1, x2, x3, x4, rfl, ⟨⟨a0, b0⟩, ⟨a1, b1⟩, ⟨a2, b2⟩, ⟨a3, b3⟩, a4, b4⟩, vx⟩ := ha
  obtain ⟨y0, y1, y2, y3, y4, rfl, ⟨⟨c0, d0⟩, ⟨c1, d1⟩, ⟨c2, d2⟩, ⟨c3, d3⟩, c4, d4⟩, vy⟩ := hb
  unfold limb_Add
  rw [add_l0_eq, Option.bind_some]
  simp only [List.getD_cons_zero, List.getD_cons_succ]
  have g : G5 = 2251799813841000 := rfl
  rw [u64_id (x := x0 + y0) (by omega) (by omega), u64_id (x := x1 + y1) (by omega) (by omega), u64_id (x := x2 + y2) (by omega) (by omega), u64_id (x := x3 + y3) (by omega) (by omega), u64_id (x := x4 + y4) (by omega) (by omega)]
  obtain ⟨l, e, r⟩ := carried_rep (n := m + n) (x0 := x0 + y0) (x1 := x1 + y1) (x2 := x2 + y2) (x3 := x3 + y3) (x4 := x4 + y4) (by constructor <;> omega) (by
    have : V (x0 + y0) (x1 + y1) (x2 + y2) (x3 + y3) (x4 + y4) = V x0 x1 x2 x3 x4 + V y0 y1 y2 y3 y4 := by unfold V; omega
    rw [this, Int.add_emod, vx, vy, ← Int.add_emod])
  exact ⟨l, by rw [e]; rfl, r⟩
theorem sub_ok {a b : List Int} {m n : Int} (ha : Rep a m) (hb : Rep b n) : ∃ l, limb_Sub a b = some l ∧ Rep l (m - n) := by
  obtain ⟨x0, x1, x2, x3, x4, rfl, ⟨⟨a0, b0⟩, ⟨a1, b1⟩, ⟨a2, b2⟩, ⟨a3, b3⟩, a4, b4⟩, vx⟩ := ha
  obtain ⟨y0, y1, y2, y3, y4, rfl, ⟨⟨c0, d0⟩, ⟨c1, d1⟩, ⟨c2, d2⟩, ⟨c3, d3⟩, c4, d4⟩, vy⟩ := hb
  unfold limb_Sub
  rw [sub_l0_eq, Option.bind_some]
  simp only [List.getD_cons_zero, List.getD_cons_succ]
  have g : G5 = 2251799813841000 := rfl
  rw [u64_id (x := 9007199254740916 - y0) (by omega) (by omega), u64_id (x := 9007199254740988 - y1) (by omega) (by omega), u64_id (x := 9007199254740988 - y2) (by omega) (by omega), u64_id (x := 9007199254740988 - y3) (by omega) (by omega), u64_id (x := 9007199254740988 - y4) (by omega) (by omega)]
  rw [u64_id (x := x0 + (9007199254740916 - y0)) (by omega) (by omega), u64_id (x := x1 + (9007199254740988 - y1)) (by omega) (by omega), u64_id (x := x2 + (9007199254740988 - y2)) (by omega) (by omega), u64_id (x := x3 + (9007199254740988 - y3)) (by omega) (by omega), u64_id (x := x4 + (9007199254740988 - y4)) (by omega) (by omega)]
  obtain ⟨l, e, r⟩ := carried_rep (n := m - n) (x0 := x0 + (9007199254740916 - y0)) (x1 := x1 + (9007199254740988 - y1)) (x2 := x2 + (9007199254740988 - y2)) (x3 := x3 + (9007199254740988 - y3)) (x4 := x4 + (9007199254740988 - y4)) (by constructor <;> omega) (by
    have : V (x0 + (9007199254740916 - y0)) (x1 + (9007199254740988 - y1)) (x2 + (9007199254740988 - y2)) (x3 + (9007199254740988 - y3)) (x4 + (9007199254740988 - y4)) = V x0 x1 x2 x3 x4 - V y0 y1 y2 y3 y4 + pw * 4 := by unfold V pw; omega
    rw [this, Int.add_mul_emod_self_left, Int.sub_emod, vx, vy, ← Int.sub_emod])
  exact ⟨l, by rw [e]; rfl, r⟩
theorem small_ok (x : Int) (h0 : 0 ≤ x) (h1 : x < G5) : ∃ l, limb_Small x = some l ∧ Rep l x := by
  have g : G5 = 2251799813841000 := rfl
  refine ⟨_, rfl, x, 0, 0, 0, 0, rfl, ?_, ?_⟩
  · constructor <;> omega
  · have : V x 0 0 0 0 = x := by unfold V; omega
    rw [this]
theorem nbytes_rep {l : List Int} {n : Int} (h : Rep l n) : limb_N_Bytes l = some (leB 32 (n % pw)) := by
  obtain ⟨x0, x1, x2, x3, x4, rfl, hb, vx⟩ := h
  rw [nbytes_ok (hb.mono (by decide)), vx]
end Go.Pn
