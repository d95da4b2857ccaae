/- The walk's engine, part 12: from a law's contract to its row. -/
import Derived.Test.YtdbheiibkpendaaGw10
import Derived.ProofKit
import Derived.ChangeShapes
import Derived.OpenShut
import Derived.ShutString
import Derived.ChangeOld
import Derived.Below
import Derived.SizedLaws
import Derived.Carry
import Derived.ChangeSlices
import Derived.ChangeSame
import Derived.Deep.SlicePairs
namespace Go.Gw
open Go.RowKit Go.ChangeShapes Go.WideShapes Go.ChangeAt

variable {P : Program}

/-- The meaning of the names that a law is handed. -/
def handG : List (Nat × Value) → Nat → Value
  | [], _ => .nilFunc
  | (κ, v) :: r, x => bif Nat.beq κ x then v else handG r x
theorem handG_one {l : List (Nat × Value)} (h : ∀ p ∈ l, p.2.oneCell' = true) (κ : Nat) : (handG l κ).oneCell' = true := by
  induction l with
  | nil => rfl
  | cons p r ih =>
    obtain ⟨κ', v⟩ := p
    simp only [handG]
    cases Nat.beq κ' κ with
    | true => exact h (κ', v) (by simp)
    | false => exact ih fun p hp => h p (by simp [hp])

theorem calls_of_ok1 {f : Nat} {fn : Func} {c : Code} {args : List SV} {pre : List (Nat × Ent)} {res : SV} (hf : P.funcs[f]? = some fn) (hnm : (fn.name == "runtime.NumGoroutine") = false) (hb : fn.body = some c)
    (h : CallOk P f args pre res []) (hok : ∀ x ∈ args, x.ok) (γ : Nat → Value) (h1 : ∀ κ, (γ κ).oneCell' = true) (w : World) (hp : ∀ p ∈ pre, p.2.at (Ge w) γ w p.1) (hm : ∀ p ∈ pre, p.2.mut = false) :
    Calls P f (args.map (SV.den γ)).toArray w fun e w' => e = .returned (res.den γ) ∧ Below w.heap.size w w' := by
  have := h (Ge w) γ w hp (fun p hpp q _ _ hmu => by rw [hm p hpp] at hmu; cases hmu) hok (fun b hb => hb) h1
  unfold RunOk at this
  rw [callFunc_enter hf hnm hb] at this
  refine Calls.mono this ?_
  rintro e w' ⟨v, rfl, γ', g1, _, h2, _, h3, _⟩
  refine ⟨?_, ⟨h3.os, h3.tape, h3.output, h3.size, fun k hk => h3.block k hk fun ht => ?_⟩⟩
  · rw [h2]
    congr 1
    exact SV.den_congr fun κ _ => g1 κ (by simp)
  · rcases ht with ht | ⟨p, hpp, hmu, _⟩
    · omega
    · rw [hm p hpp] at hmu; cases hmu

theorem calls_of_ok {f : Nat} {fn : Func} {c : Code} {args : List SV} {res : SV} (hf : P.funcs[f]? = some fn) (hnm : (fn.name == "runtime.NumGoroutine") = false) (hb : fn.body = some c)
    (h : CallOk P f args [] res []) (hok : ∀ x ∈ args, x.ok) (w : World) :
    Calls P f (args.map (SV.den fun _ => .nilFunc)).toArray w fun e w' => e = .returned (res.den fun _ => .nilFunc) ∧ Below w.heap.size w w' :=
  calls_of_ok1 hf hnm hb h hok (fun _ => .nilFunc) (fun _ => rfl) w (by simp) (by simp)

section
variable {H : Type} {enc : TypeId × Value → H} {w : World} {base : Nat} {spare : Nat → Bool} {held : Bool}

theorem mapM_all {α β : Type} {f : α → Option β} : ∀ {l : List α} {r : List β}, l.mapM f = some r → ∀ x ∈ l, ∃ y, f x = some y
  | [], r, _, x, hx => by simp at hx
  | a :: l, r, h, x, hx => by
    rw [List.mapM_cons] at h
    cases ha : f a with
    | none => simp [ha] at h
    | some y =>
      cases hl : l.mapM f with
      | none => simp [ha, hl] at h
      | some ys =>
        rcases List.mem_cons.1 hx with rfl | hx
        · exact ⟨y, ha⟩
        · exact mapM_all hl x hx

/-- An array of numbers, opened. -/
theorem open_arr {r : Reach} {b0 : Nat} {t e : TypeId} {n : Nat} {k : IntKind} {v : Value} {d : DataW H} {ps : List MemPlace} (ht : P.underlying t = some (.array n e)) (he : P.underlying e = some (.int k))
    (hce : P.cellsOf e = 1) (hct : P.cellsOf t = n) (hval : Value.okWide P w r b0 t v) (hd : DataW.Trod enc P w base spare held t v d ps) :
    ∃ l : List Int, v = .agg (l.map (Value.int k)).toArray ∧ l.length = n ∧ ∀ x ∈ l, (Lit.int k x).wf = true := by
  unfold Value.okWide at hval
  rw [ht] at hval
  obtain ⟨cs, rfl, hsz, _⟩ := hval
  obtain ⟨fuel, hf⟩ := hd
  obtain ⟨xs, m, rfl, _, hl, hxl, hall⟩ := DataW.trod_array ht hf
  simp only [Value.cells] at hl hall
  rw [hct] at hl
  have each : ∀ i, i < n → ∃ z : Int, cs.toList[i]? = some (.int k z) ∧ (Lit.int k z).wf = true := by
    intro i hi
    have h1 := hall i hi
    have hi2 : i < xs.length := by omega
    rw [List.getElem?_eq_getElem hi2, hce] at h1
    have hi3 : i < cs.toList.length := by omega
    have e1 : (cs.toList.drop (i * 1)).take 1 = [cs.toList[i]] := by
      rw [Nat.mul_one, List.drop_eq_getElem_cons hi3]
      rfl
    rw [e1] at h1
    cases m with
    | zero => simp [DataW.trod] at h1
    | succ m =>
      obtain ⟨z, h2, h3, h4⟩ := DataW.trod_int he h1
      simp only [List.cons.injEq, and_true] at h2
      exact ⟨z, by rw [List.getElem?_eq_getElem hi3, h2], h4⟩
  -- gather
  have gather : ∀ (l : List Value) (n : Nat), l.length = n → (∀ i, i < n → ∃ z : Int, l[i]? = some (.int k z) ∧ (Lit.int k z).wf = true) → ∃ zs : List Int, l = zs.map (Value.int k) ∧ zs.length = n ∧ ∀ x ∈ zs, (Lit.int k x).wf = true := by
    intro l
    induction l with
    | nil => intro n hn _; exact ⟨[], rfl, by simpa using hn, by simp⟩
    | cons a l ih =>
      intro n hn h
      obtain ⟨z, h1, h2⟩ := h 0 (by simp at hn; omega)
      simp at h1
      subst h1
      obtain ⟨zs, h3, h4, h5⟩ := ih (n - 1) (by simp at hn; omega) (fun i hi => by simpa using h (i + 1) (by omega))
      refine ⟨z :: zs, by simp [h3], by simp at hn ⊢; omega, fun x hx => ?_⟩
      rcases List.mem_cons.1 hx with rfl | hx
      · exact h2
      · exact h5 x hx
  obtain ⟨zs, h1, h2, h3⟩ := gather cs.toList n hl each
  exact ⟨zs, by rw [← h1, Array.toArray_toList], h2, h3⟩

theorem has_lt {w : World} {r : Reach} {b0 : Nat} {a : Addr} {e : TypeId} {n : Nat} (h : w.has P r b0 a e n) : a.spot = none ∧ a.block < w.heap.size := by
  obtain ⟨_, h1, row, cells, h2, _⟩ := h
  refine ⟨h1, ?_⟩
  rcases Nat.lt_or_ge a.block w.heap.size with h' | h'
  · exact h'
  · simp [World.shape?, Array.getElem?_eq_none h'] at h2

/-- A slice of numbers, opened. -/
theorem open_slc {r : Reach} {b0 : Nat} {t e : TypeId} {k : IntKind} {v : Value} {d : DataW H} {ps : List MemPlace} (ht : P.underlying t = some (.slice e)) (he : P.underlying e = some (.int k)) (hce : P.cellsOf e = 1)
    (hval : Value.okWide P w r b0 t v) (hd : DataW.Trod enc P w base spare held t v d ps) :
    ∃ l : List Int, RdI w v k l ∧ v.oneCell' = true ∧ ∀ x ∈ l, (Lit.int k x).wf = true := by
  obtain ⟨fuel, hf⟩ := hd
  have hc : Cell.ok P w r b0 t v := by
    unfold Value.okWide at hval
    rw [ht] at hval
    unfold Cell.okWide at hval
    rw [ht] at hval
    simpa using hval
  unfold Cell.ok at hc
  rw [ht] at hc
  split at hc <;> first | (rename_i h1; cases h1; done) | (rename_i h1 _; cases h1; done) | (rename_i h1 _ _; cases h1; done) | skip
  all_goals first
    | exact hc.elim
    | skip
  · exact ⟨[], .inl ⟨⟨none, rfl⟩, rfl⟩, rfl, by simp⟩
  · rename_i e' a len cap h1
    cases h1
    obtain ⟨h2, h3, h4⟩ := hc
    obtain ⟨q1, q2⟩ := has_lt h4
    rcases open_ints ht he hce hf with ⟨h, _⟩ | ⟨a', len', cap', zs, h, _, g1, g2, g3, _, g5, g6⟩
    · simp [Value.cells] at h
    · simp only [Value.cells, List.cons.injEq, Value.slice.injEq, Option.some.injEq, and_true] at h
      obtain ⟨rfl, rfl, rfl⟩ := h
      have hlz : len ≤ zs.length := by rw [g3]; split <;> omega
      have hlen : (zs.take len).length = len := by simp; omega
      refine ⟨zs.take len, .inr ⟨a, cap, by rw [hlen], by rw [hlen]; exact g1, g2, q2, q1, fun i hi => ?_⟩, rfl, fun x hx => g6 x (List.mem_of_mem_take hx)⟩
      rw [hlen] at hi
      rw [g5 i (by omega)]
      simp [List.getD, hi]
/-- A cell that is a slice of numbers, opened. -/
theorem open_cell {r : Reach} {b0 : Nat} {t e : TypeId} {k : IntKind} {v : Value} {n : Nat} {x : DataW H × List MemPlace} (ht : P.underlying t = some (.slice e)) (he : P.underlying e = some (.int k)) (hce : P.cellsOf e = 1)
    (hval : Cell.okWide P w r b0 t v) (hf : DataW.trod enc P w base spare held n t [v] = some x) :
    ∃ l : List Int, RdI w v k l ∧ v.oneCell' = true ∧ ∀ x ∈ l, (Lit.int k x).wf = true := by
  have hc : Cell.ok P w r b0 t v := by
    unfold Cell.okWide at hval
    rw [ht] at hval
    simpa using hval
  unfold Cell.ok at hc
  rw [ht] at hc
  split at hc <;> first | (rename_i h1; cases h1; done) | (rename_i h1 _; cases h1; done) | (rename_i h1 _ _; cases h1; done) | skip
  all_goals first
    | exact hc.elim
    | skip
  · exact ⟨[], .inl ⟨⟨none, rfl⟩, rfl⟩, rfl, by simp⟩
  · rename_i e' a len cap h1
    cases h1
    obtain ⟨h2, h3, h4⟩ := hc
    obtain ⟨q1, q2⟩ := has_lt h4
    rcases open_ints ht he hce hf with ⟨h, _⟩ | ⟨a', len', cap', zs, h, _, g1, g2, g3, _, g5, g6⟩
    · simp at h
    · simp only [List.cons.injEq, Value.slice.injEq, Option.some.injEq, and_true] at h
      obtain ⟨rfl, rfl, rfl⟩ := h
      have hlz : len ≤ zs.length := by rw [g3]; split <;> omega
      have hlen : (zs.take len).length = len := by simp; omega
      refine ⟨zs.take len, .inr ⟨a, cap, by rw [hlen], by rw [hlen]; exact g1, g2, q2, q1, fun i hi => ?_⟩, rfl, fun x hx => g6 x (List.mem_of_mem_take hx)⟩
      rw [hlen] at hi
      rw [g5 i (by omega)]
      simp [List.getD, hi]

/-- A record of a number and bytes, opened. -/
theorem open_rec {r : Reach} {b0 : Nat} {t e : TypeId} {f0 f1 : Field} {v : Value} {d : DataW H} {ps : List MemPlace} (ht : P.underlying t = some (.struct #[f0, f1])) (k0 : P.underlying f0.type = some (.int .i64)) (k1 : P.underlying f1.type = some (.slice e))
    (ke : P.underlying e = some (.int .u8)) (hce : P.cellsOf e = 1) (hct : P.cellsOf t = 2) (o0 : f0.offset = 0) (o1 : f1.offset = 1) (c0 : P.cellsOf f0.type = 1) (c1 : P.cellsOf f1.type = 1) (hts : P.cellTypes P.depth t = some [f0.type, f1.type])
    (hval : Value.okWide P w r b0 t v) (hd : DataW.Trod enc P w base spare held t v d ps) :
    ∃ (n : Int) (u : Value) (l : List Int), v = .agg #[.int .i64 n, u] ∧ (Lit.int .i64 n).wf = true ∧ RdI w u .u8 l ∧ u.oneCell' = true ∧ ∀ x ∈ l, (Lit.int .u8 x).wf = true := by
  unfold Value.okWide at hval
  rw [ht] at hval
  obtain ⟨cs, rfl, hsz, ts, h1, _, h3⟩ := hval
  rw [hts] at h1
  cases h1
  rw [hct] at hsz
  obtain ⟨a, u, rfl⟩ : ∃ a u, cs = #[a, u] := by
    match cs, hsz with
    | ⟨[a, u]⟩, _ => exact ⟨a, u, rfl⟩
  obtain ⟨fuel, hf⟩ := hd
  obtain ⟨y0, y1, n, _, _, g0, g1⟩ := trod_struct2 ht hf
  rw [o0, c0] at g0
  rw [o1, c1] at g1
  simp only [Value.cells, List.drop_zero, List.take_succ_cons, List.take_zero, List.drop_succ_cons] at g0 g1
  obtain ⟨u', g2, g3⟩ := h3 1 u rfl
  simp only [List.length_cons, List.length_nil] at g2
  have : u' = f1.type := by simpa using g2.symm
  subst this
  obtain ⟨l, q1, q2, q3⟩ := open_cell k1 ke hce g3 g1
  cases n with
  | zero => simp [DataW.trod] at g0
  | succ m =>
    obtain ⟨z, h2, _, h4⟩ := DataW.trod_int k0 g0
    simp only [List.cons.injEq, and_true] at h2
    subst h2
    exact ⟨z, u, l, rfl, h4, q1, q2, q3⟩

theorem cell_plain {w : World} {a : Addr} {u : Value} (h : w.cell? a = some u) : a.spot = none ∧ a.block < w.heap.size := by
  unfold World.cell? at h
  split at h
  · rename_i c _ _ hc
    refine ⟨?_, (Array.getElem?_eq_some_iff.1 hc).1⟩
    cases hs : a.spot with
    | none => rfl
    | some x => rw [hs] at h; simp at h
  · cases h

/-- A slice of numbers that lies in a row, opened. -/
theorem open_inner {t e : TypeId} {k : IntKind} {v : Value} {n : Nat} {x : DataW H × List MemPlace} (ht : P.underlying t = some (.slice e)) (he : P.underlying e = some (.int k)) (hce : P.cellsOf e = 1)
    (hf : DataW.trod enc P w base (fun _ => true) held n t [v] = some x) : ∃ l : List Int, RdI w v k l ∧ v.oneCell' = true ∧ ∀ x ∈ l, (Lit.int k x).wf = true := by
  rcases open_ints ht he hce hf with ⟨h, _⟩ | ⟨a, len, cap, zs, h, _, g1, g2, g3, _, g5, g6⟩
  · simp only [List.cons.injEq, and_true] at h
    subst h
    exact ⟨[], .inl ⟨⟨none, rfl⟩, rfl⟩, rfl, by simp⟩
  · simp only [List.cons.injEq, and_true] at h
    subst h
    simp only [if_true] at g3
    by_cases hc : cap = 0
    · subst hc
      obtain rfl : len = 0 := by omega
      exact ⟨[], .inl ⟨⟨some a, rfl⟩, rfl⟩, rfl, by simp⟩
    · have h0 := g5 0 (by omega)
      have h0' : w.cell? a = some (.int k (zs.getD 0 0)) := by simpa [Addr.add] using h0
      obtain ⟨q1, q2⟩ := cell_plain h0'
      have hlen : (zs.take len).length = len := by simp; omega
      refine ⟨zs.take len, .inr ⟨a, cap, by rw [hlen], by rw [hlen]; exact g1, g2, q2, q1, fun i hi => ?_⟩, rfl, fun x hx => g6 x (List.mem_of_mem_take hx)⟩
      rw [hlen] at hi
      rw [g5 i (by omega)]
      simp [List.getD, hi]

theorem gather_list {α : Type} {p : Nat → α → Prop} : ∀ n : Nat, (∀ i, i < n → ∃ y, p i y) → ∃ L : List α, L.length = n ∧ ∀ i y, L[i]? = some y → p i y
  | 0, _ => ⟨[], rfl, fun i y h => by simp at h⟩
  | n + 1, h => by
    obtain ⟨L, h1, h2⟩ := gather_list n fun i hi => h i (by omega)
    obtain ⟨y, hy⟩ := h n (by omega)
    refine ⟨L ++ [y], by simp [h1], fun i z hz => ?_⟩
    by_cases hi : i < L.length
    · rw [List.getElem?_append_left hi] at hz; exact h2 i z hz
    · rw [List.getElem?_append_right (by omega)] at hz
      have hi2 : i - L.length = 0 := by
        rcases Nat.eq_zero_or_pos (i - L.length) with h' | h'
        · exact h'
        · rw [List.getElem?_eq_none (by simp; omega)] at hz; cases hz
      rw [hi2] at hz
      simp at hz
      subst hz
      have : i = n := by omega
      rw [this]; exact hy

theorem has_slice {r : Reach} {b0 : Nat} {t e : TypeId} {v : Value} (ht : P.underlying t = some (.slice e)) (hval : Value.okWide P w r b0 t v) : (v = .slice none 0 0) ∨ ∃ a len cap, v = .slice (some a) len cap ∧ a.spot = none ∧ a.block < w.heap.size := by
  have hc : Cell.ok P w r b0 t v := by
    unfold Value.okWide at hval
    rw [ht] at hval
    unfold Cell.okWide at hval
    rw [ht] at hval
    simpa using hval
  unfold Cell.ok at hc
  rw [ht] at hc
  split at hc <;> first | (rename_i h1; cases h1; done) | (rename_i h1 _; cases h1; done) | (rename_i h1 _ _; cases h1; done) | skip
  all_goals first
    | exact hc.elim
    | skip
  · exact .inl rfl
  · rename_i e' a len cap h1
    cases h1
    obtain ⟨h2, h3, h4⟩ := hc
    obtain ⟨q1, q2⟩ := has_lt h4
    exact .inr ⟨a, len, cap, rfl, q1, q2⟩

/-- A slice of slices of numbers, opened. -/
theorem open_rows {r : Reach} {b0 : Nat} {t e e2 : TypeId} {k : IntKind} {v : Value} {d : DataW H} {ps : List MemPlace} (ht : P.underlying t = some (.slice e)) (he : P.underlying e = some (.slice e2)) (he2 : P.underlying e2 = some (.int k)) (hce2 : P.cellsOf e2 = 1) (hce : P.cellsOf e = 1)
    (hval : Value.okWide P w r b0 t v) (hd : DataW.Trod enc P w base (fun _ => true) held t v d ps) :
    ∃ ll : List (List Int), RdR w v (.bs k ll) ∧ v.oneCell' = true ∧ ∀ l ∈ ll, ∀ x ∈ l, (Lit.int k x).wf = true := by
  obtain ⟨fuel, hf⟩ := hd
  rcases has_slice ht hval with rfl | ⟨a, len, cap, rfl, q1, q2⟩
  · exact ⟨[], .inl ⟨rfl, rfl⟩, rfl, by simp⟩
  · rcases Deep.open_slice1 ht hce hf with ⟨h, _⟩ | ⟨a', len', cap', m, n, V, D, Pl, h, _, h1, h2, h3, _, h4⟩
    · simp [Value.cells] at h
    · simp only [Value.cells, List.cons.injEq, Value.slice.injEq, Option.some.injEq, and_true] at h
      obtain ⟨rfl, rfl, rfl⟩ := h
      simp only [if_true] at h3
      obtain ⟨ll, g1, g2⟩ := gather_list (p := fun i (l : List Int) => RdI w (V i) k l ∧ (V i).oneCell' = true ∧ ∀ x ∈ l, (Lit.int k x).wf = true) len fun i hi => open_inner he he2 hce2 (h4 i (by omega)).2
      refine ⟨ll, .inr ⟨a, cap, by simp [RowsK.len, g1], by simp [RowsK.len, g1]; exact h1, h2, q2, q1, fun j d hd => ?_⟩, rfl, fun l hl => ?_⟩
      · simp only [RowsK.cells, List.getElem?_map] at hd
        cases hj : ll[j]? with
        | none => rw [hj] at hd; cases hd
        | some l =>
          rw [hj] at hd
          simp only [Option.map_some, Option.some.injEq] at hd
          subst hd
          have hjl : j < len := by rw [← g1]; exact (List.getElem?_eq_some_iff.1 hj).1
          obtain ⟨s1, s2, _⟩ := g2 j l hj
          exact ⟨V j, (h4 j (by omega)).1, s2, s1⟩
      · obtain ⟨j, hj⟩ := List.mem_iff_getElem?.1 hl
        exact (g2 j l hj).2.2

/-- A slice of records of a number and bytes, opened. -/
theorem open_recs {r : Reach} {b0 : Nat} {t e e2 : TypeId} {f0 f1 : Field} {v : Value} {d : DataW H} {ps : List MemPlace} (ht : P.underlying t = some (.slice e)) (he : P.underlying e = some (.struct #[f0, f1])) (k0 : P.underlying f0.type = some (.int .i64)) (k1 : P.underlying f1.type = some (.slice e2))
    (ke : P.underlying e2 = some (.int .u8)) (hce : P.cellsOf e2 = 1) (hct : P.cellsOf e = 2) (o0 : f0.offset = 0) (o1 : f1.offset = 1) (c0 : P.cellsOf f0.type = 1) (c1 : P.cellsOf f1.type = 1)
    (hval : Value.okWide P w r b0 t v) (hd : DataW.Trod enc P w base (fun _ => true) held t v d ps) :
    ∃ ll : List (Int × List Int), RdR w v (.rc ll) ∧ v.oneCell' = true ∧ ∀ r ∈ ll, (Lit.int .i64 r.1).wf = true ∧ ∀ x ∈ r.2, (Lit.int .u8 x).wf = true := by
  obtain ⟨fuel, hf⟩ := hd
  rcases has_slice ht hval with rfl | ⟨a, len, cap, rfl, q1, q2⟩
  · exact ⟨[], .inl ⟨rfl, rfl⟩, rfl, by simp⟩
  · rcases Deep.open_slice_pairs ht he hct o0 o1 c0 c1 hf with ⟨h, _⟩ | ⟨a', len', cap', m, n, V0, V1, D0, D1, P0, P1, h, _, h1, h2, h3, _, h4⟩
    · simp [Value.cells] at h
    · simp only [Value.cells, List.cons.injEq, Value.slice.injEq, Option.some.injEq, and_true] at h
      obtain ⟨rfl, rfl, rfl⟩ := h
      simp only [if_true] at h3
      obtain ⟨ll, g1, g2⟩ := gather_list (p := fun i (l : Int × List Int) => V0 i = .int .i64 l.1 ∧ RdI w (V1 i) .u8 l.2 ∧ (V1 i).oneCell' = true ∧ (Lit.int .i64 l.1).wf = true ∧ ∀ x ∈ l.2, (Lit.int .u8 x).wf = true) len fun i hi => by
        obtain ⟨_, _, t0, t1⟩ := h4 i (by omega)
        obtain ⟨l, s1, s2, s3⟩ := open_inner k1 ke hce t1
        cases n with
        | zero => simp [DataW.trod] at t0
        | succ m' =>
          obtain ⟨z, z1, _, z3⟩ := DataW.trod_int k0 t0
          simp only [List.cons.injEq, and_true] at z1
          exact ⟨(z, l), z1, s1, s2, z3, s3⟩
      refine ⟨ll, .inr ⟨a, cap, by simp [RowsK.len, g1], by simp [RowsK.len, g1]; exact h1, h2, q2, q1, fun j d hd => ?_⟩, rfl, fun l hl => ?_⟩
      · have hj2 : j < (RowsK.rc ll).cells.length := (List.getElem?_eq_some_iff.1 hd).1
        rw [RowsK.cells_len] at hj2
        simp only [RowsK.len, RowsK.sz] at hj2
        have hi : j / 2 < ll.length := by omega
        obtain ⟨c1', c2'⟩ := rc_get ll (j / 2) hi
        obtain ⟨s1, s2, s3, _⟩ := g2 (j / 2) ll[j / 2] (List.getElem?_eq_getElem hi)
        have hg : ll.getD (j / 2) (0, []) = ll[j / 2] := by simp [List.getD, hi]
        obtain ⟨t0, t1, _, _⟩ := h4 (j / 2) (by omega)
        rcases Nat.mod_two_eq_zero_or_one j with hm | hm
        · have ej : j = j / 2 * 2 := by omega
          rw [ej] at hd ⊢
          rw [c1'] at hd
          cases hd
          exact ⟨_, t0, by rw [s1]; rfl, by rw [hg]; exact s1⟩
        · have ej : j = j / 2 * 2 + 1 := by omega
          rw [ej] at hd ⊢
          rw [c2'] at hd
          cases hd
          exact ⟨_, t1, s3, by rw [hg]; exact s2⟩
      · obtain ⟨j, hj⟩ := List.mem_iff_getElem?.1 hl
        exact (g2 j l hj).2.2.2
end

theorem wf_u8 {x : Int} (h : (Lit.int .u8 x).wf = true) : 0 ≤ x ∧ x < 256 := by
  have := bounds_u8 h
  omega

end Go.Gw
