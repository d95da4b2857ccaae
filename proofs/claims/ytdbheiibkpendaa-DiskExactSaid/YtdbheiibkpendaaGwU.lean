/- The walk's engine, part 5d: literals of one part; rows of a function's own, and what is put behind these. -/
import Derived.Test.YtdbheiibkpendaaGwR
import Derived.Lib.AppendZerosOnto
namespace Go.Gw
open Go.RowKit
variable {P : Program} {T : TypeId → Option TD} {B : Nat → Prop} {N : Nat} {w0 : W0} {γ : Nat → Value} {σ : Stt} {a : Act} {w : World}
theorem elim_some {α : Type} {o : Option α} {f : α → Bool} (h : o.elim false f = true) : ∃ x, o = some x ∧ f x = true := by
 cases o with
 | none => cases h
 | some x => exact ⟨x, rfl, h⟩
theorem rows_info {t e : TypeId} {sz : Nat} (hT : (TD.sliceR e sz).ok P t) : P.underlying t = some (.slice e) ∧ ∃ i z, P.info? e = some i ∧ i.size = sz ∧ i.zero = some z ∧ z.cells.size = sz ∧ i.bytes ≤ 128 ∧ 0 < sz ∧ sz ≤ 16 := by
 obtain ⟨t1, t2, t3, t4⟩ := hT
 obtain ⟨i, hi, h⟩ := elim_some t4
 simp only [Bool.and_eq_true] at h
 obtain ⟨z, hz, hzs⟩ := elim_some h.2
 rw [hi] at t2
 simp only [Option.map_some, Option.some.injEq] at t2
 have q1 := Nat.le_of_ble_eq_true h.1.1.1
 have q2 := Nat.le_of_ble_eq_true h.1.1.2
 have q3 := Nat.le_of_ble_eq_true h.1.2
 have q4 := Nat.eq_of_beq_eq_true hzs
 exact ⟨t1, i, z, hi, t2, hz, by omega, q1, by omega, by omega⟩
theorem append_zeros_own (I : Inv B N w0 γ σ a w) {t tn ty e : TypeId} {k k1 kn : IntKind} (hT : (TD.slice e k).ok P t) (hn : (TD.int kn).ok P tn) {κ κ' : Nat} {l : List Int} (hk : σ (.h κ) = some (.e (.own e k l))) (hf : NoKey κ' σ)
  {n : Int} (h0 : 0 ≤ n) (hle : l.length + n ≤ maxN) {p : List Prop} :
  ∃ v w', (Builtin.append_ #[t, tn] ty #[γ κ, .int k1 n]).run P w = .ok v w' ∧ Post B N w0 σ a ⟨some (.v (.one (.slc κ'))), [(κ', .own e k (l ++ List.replicate n.toNat 0)), (κ, .dead)], p⟩ v w' := by
 obtain ⟨t1, t2, t3, t4⟩ := hT
 obtain ⟨i, hi, hsz, hby, hz⟩ : ∃ i, P.info? e = some i ∧ i.size = 1 ∧ i.bytes = cst k ∧ i.zero = some (.int k 0) := by
  cases hq : P.info? e with
  | none => simp [hq] at t3
  | some i => simp [hq] at t3; exact ⟨i, rfl, t3⟩
 have hk8 : cst k ≤ 8 := by cases k <;> simp [cst]
 obtain ⟨m, rfl⟩ := Int.eq_ofNat_of_zero_le (show 0 ≤ n by omega)
 simp only [Int.toNat_natCast]
 have hm : l.length + m ≤ 17592186044416 := by simp only [maxN] at hle; omega
 have hb1 : (l.length + m) * cst k ≤ 140737488355328 := by have := Nat.mul_le_mul hm hk8; omega
 have hb2 : m * cst k ≤ 281474976710656 := by have := Nat.mul_le_mul (show m ≤ 17592186044416 by omega) hk8; omega
 obtain ⟨ho, hB⟩ := I.ent κ _ hk
 have ez : ∀ q, (Builtin.zeroCells (Value.int k 0).cells q).toList = List.replicate q (.int k 0) := fun q => by
  have := toList_madeCells_one (.int k 0) q
  simp only [madeCells] at this
  simp only [Builtin.zeroCells, Value.cells]
  simpa using this
 have zs : ∀ q, (Builtin.zeroCells (Value.int k 0).cells q).size = q := fun q => by rw [← Array.length_toList, ez]; simp
 have hml : (l ++ List.replicate m 0).map (Value.int k) = l.map (Value.int k) ++ List.replicate m (.int k 0) := by simp
 have grown : ∀ (old : Nat), old ≤ l.length + m →
   (w.drew.alloc (.cells ((l.map (Value.int k)).toArray ++ Builtin.zeroCells (Value.int k 0).cells m ++ Builtin.zeroCells (Value.int k 0).cells (grownCap w (l.length + m) old e - (l.length + m))) e)).ownsRow 0 e 1
    (.slice (some ⟨w.heap.size, 0, none⟩) (l.length + m) (grownCap w (l.length + m) old e)) (l ++ List.replicate m 0).length ((l ++ List.replicate m 0).map (.int k)) := by
  intro old _
  have hge := grownCap_ge w (l.length + m) old e
  have hcm := grownCap_le_maxLen w (l.length + m) old e (by simp only [maxLen]; omega)
  refine ⟨by simp, .inr ⟨w.heap.size, _, _, by simp, Nat.zero_le _, heap_alloc_new w.drew _, by simpa using hge, hcm, ?_, ?_⟩⟩
  ·simp only [Array.size_append, zs, List.size_toArray, List.length_map]
   omega
  ·simp only [Array.toList_append, ez, hml, Nat.mul_one, List.length_append, List.length_replicate]
   rw [List.take_append_of_le_length (by simp)]
   exact List.take_of_length_le (by simp)
 have hgr : ∀ o : Obj, BelowX (fun b => w.heap.size ≤ b ∨ blkO (γ κ) = some b) w (w.drew.alloc o) := fun o => ⟨rfl, rfl, rfl, by simp, fun k hk _ => heap_alloc_old w.drew o k hk⟩
 have done : ∀ (v' : Value) (w' : World), (Builtin.append_ #[t, tn] ty #[γ κ, .int k1 (m : Int)]).run P w = .ok v' w' → v'.oneCell' = true → w'.ownsRow 0 e 1 v' (l ++ List.replicate m 0).length ((l ++ List.replicate m 0).map (.int k)) →
   BelowX (fun b => w.heap.size ≤ b ∨ blkO (γ κ) = some b) w w' → (∀ b, blkO v' = some b → w.heap.size ≤ b ∨ blkO (γ κ) = some b) →
   ∃ v w', (Builtin.append_ #[t, tn] ty #[γ κ, .int k1 (m : Int)]).run P w = .ok v w' ∧ Post B N w0 σ a ⟨some (.v (.one (.slc κ'))), [(κ', .own e k (l ++ List.replicate m 0)), (κ, .dead)], p⟩ v w' :=
  fun v' w' r1 r2 r3 r4 r5 => ⟨v', w', r1, fun x => if x = κ' then v' else γ x, by simp [SV.den, V1.den, Leaf.cells], ⟨trivial, trivial⟩,
   take_over I hk rfl hf r2 r4 ⟨by simpa using r3, fun b hb => r5 b (by simpa using hb)⟩ fun b hb => r5 b (by simpa [Ent.foot] using hb)⟩
 by_cases hm0 : m = 0
 ·subst hm0
  have hw0 : IntKind.i64.wrap 0 = 0 := by rw [IntKind.wrap_i64]; rfl
  refine done (γ κ) w ?_ (I.cell1 κ) (by simpa using ho) ⟨rfl, rfl, rfl, Nat.le_refl _, fun _ _ _ => rfl⟩ (fun b hb => .inr hb)
  rcases ho.2 with ⟨hv, h0'⟩ | ⟨g, cap, cur, hv, _, hg, hnc, hcm, hcs, htake⟩
  ·rw [hv]
   simp [Builtin.append_, run_underlying t1, run_underlying hn.1, sizeOf, typeInfo, hi, asInt, asIntOf, hw0]
  ·rw [hv]
   have hroom : l.length ≤ cap := hnc
   simp [Builtin.append_, run_underlying t1, run_underlying hn.1, sizeOf, typeInfo, hi, asInt, asIntOf, hw0, hroom, storeCells]
 have hm0 : 0 < m := by omega
 rcases ho.2 with ⟨hv, h0'⟩ | ⟨g, cap, cur, hv, _, hg, hnc, hcm, hcs, htake⟩
 ·have : l = [] := List.length_eq_zero_iff.1 h0'
  subst this
  have hr := Lib.run_append_nil_zeros (P := P) (ty := ty) w t tn e i (.int k 0) k1 kn t1 hn.1 hi hz m (by omega) (by omega) (by omega) (by rw [hby]; exact hb2)
  have hgw := grown 0 (by omega)
  simp only [List.length_nil, Nat.zero_add, List.map_nil] at hgw
  rw [show (#[] : Array Value) ++ Builtin.zeroCells (Value.int k 0).cells m = Builtin.zeroCells (Value.int k 0).cells m by simp] at hgw
  exact done _ _ (by rw [hv]; exact hr) rfl hgw (hgr _) (fun b hb => by simp [blkO] at hb; omega)
 ·by_cases hroom : l.length + m ≤ cap
  ·have hcl : l.length * 1 + m ≤ cur.size := by omega
   have hst := run_storeCells_at P g (l.length * 1) e (List.replicate m (Value.int k 0)) 0 cur w hg (by simpa using hcl) (by intro v hv; rw [List.eq_of_mem_replicate hv]; rfl)
   simp only [Nat.add_zero, List.length_replicate] at hst
   have hr : (Builtin.append_ #[t, tn] ty #[.slice (some ⟨g, 0, none⟩) l.length cap, .int k1 (m : Int)]).run P w =
     .ok (.slice (some ⟨g, 0, none⟩) (l.length + m) cap) (w.setRow g (cur.toList.take (l.length * 1) ++ List.replicate m (Value.int k 0) ++ cur.toList.drop (l.length * 1 + m)).toArray) := by
    have hw : IntKind.i64.wrap (m : Int) = m := by rw [IntKind.wrap_i64]; omega
    have h48i : ¬ (281474976710656 < (m : Int) * (i.bytes : Int)) := by rw [hby, ← Int.natCast_mul]; omega
    have hneg : ¬ ((m : Int) < 0) := by omega
    have hns : ¬ (m * i.size = 0) := by rw [hsz]; omega
    have hm1 : m ≠ 0 := by omega
    simp only [Nat.mul_one] at hst ⊢
    simp [Builtin.append_, run_underlying t1, run_underlying hn.1, sizeOf, typeInfo, zeroValue, hi, hz, hsz, asInt, asIntOf, hw, hneg, h48i, hroom, Addr.add_lit, ez, hst, hm1]
   refine done (.slice (some ⟨g, 0, none⟩) (l.length + m) cap) (w.setRow g (cur.toList.take (l.length * 1) ++ List.replicate m (Value.int k 0) ++ cur.toList.drop (l.length * 1 + m)).toArray) (by rw [hv]; exact hr) rfl ?_ ⟨rfl, rfl, rfl, by simp, fun k' _ hn' => setRow_other w g k' _ fun e' => hn' (.inr (by simp [hv, blkO, e']))⟩ (fun b hb => .inr (by rw [hv]; simpa [blkO] using hb))
   refine ⟨by simp, .inr ⟨g, cap, _, by simp, Nat.zero_le _, setRow_heap w g cur _ e _ hg, by simpa using hroom, hcm, ?_, ?_⟩⟩
   ·simp only [List.size_toArray, List.length_append, List.length_take, List.length_drop, List.length_replicate, Array.length_toList]
    omega
   ·rw [hml, htake, List.take_left' (by simp)]
  ·have holds : ∀ j u, (l.map (Value.int k))[j]? = some u → w.drew.cell? ((⟨g, 0, none⟩ : Addr).add j) = some u := ho.cells (g := g) (by rw [hv]; rfl)
   have hold := run_firstCells_some (P := P) w.drew i.size l.length ⟨g, 0, none⟩ l.length cap (l.map (Value.int k)) (by rw [hsz]; simp) holds
   have hr := Lib.run_append_grow_zeros (P := P) (ty := ty) w t tn e i (.int k 0) k1 kn t1 hn.1 hi hz (some ⟨g, 0, none⟩) l.length cap _ hold m hm0 (by omega) (by omega) (by omega) (by rw [hby]; exact hb2) (growslice_fits (by omega) (by rw [hby]; exact hb1))
   exact done _ _ (by rw [hv]; exact hr) rfl (grown cap (by omega)) (hgr _) (fun b hb => by simp [blkO] at hb; omega)
end Go.Gw
