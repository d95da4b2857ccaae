/- The walk's engine, part 1: what the symbols say is so. -/
import Derived.Test.YtdcdanfeepncmaaGw0
namespace Go.Gw
open Go.RowKit

theorem keq_eq {a b : IntKind} (h : keq a b = true) : a = b := by
  cases a <;> cases b <;> first | rfl | (simp [keq, kcode] at h)

theorem Leaf.cells_len {γ : Nat → Value} {x : Leaf} (h : x.ok) : (x.cells γ).length = x.size := by
  cases x <;> simp [Leaf.cells, Leaf.size]
  simpa [Leaf.ok] using h

theorem cellsL_len {γ : Nat → Value} : ∀ {m : List Leaf}, (∀ x ∈ m, x.ok) → (cellsL γ m).length = (m.map Leaf.size).sum
  | [], _ => rfl
  | x :: r, h => by
    have := cellsL_len (γ := γ) (m := r) fun y hy => h y (by simp [hy])
    simp only [cellsL, List.flatMap_cons, List.length_append, List.map_cons, List.sum_cons] at *
    rw [this, Leaf.cells_len (h x (by simp))]

theorem cellsL_append {γ : Nat → Value} (a b : List Leaf) : cellsL γ (a ++ b) = cellsL γ a ++ cellsL γ b := by simp [cellsL]
theorem cellsL_cons {γ : Nat → Value} (a : Leaf) (b : List Leaf) : cellsL γ (a :: b) = a.cells γ ++ cellsL γ b := by simp [cellsL]

theorem takeL_spec : ∀ (ls : List Leaf) (n : Nat) (m r : List Leaf), takeL ls n = some (m, r) → ls = m ++ r ∧ (m.map Leaf.size).sum = n
  | ls, 0, m, r, h => by
    simp [takeL] at h
    obtain ⟨rfl, rfl⟩ := h
    simp
  | [], n + 1, m, r, h => by simp [takeL] at h
  | x :: t, n + 1, m, r, h => by
    simp only [takeL] at h
    cases hc : (Nat.ble x.size (n + 1) && Nat.ble 1 x.size) with
    | false => simp [hc] at h
    | true =>
      simp only [hc, cond_true, Option.map_eq_some_iff] at h
      obtain ⟨⟨m', r'⟩, h1, h2⟩ := h
      simp only [Prod.mk.injEq] at h2
      obtain ⟨rfl, rfl⟩ := h2
      have hle : x.size ≤ n + 1 := Nat.le_of_ble_eq_true (by simp at hc; simpa using hc.1)
      have h1' : 1 ≤ x.size := Nat.le_of_ble_eq_true (by simp at hc; simpa using hc.2)
      obtain ⟨e1, e2⟩ := takeL_spec t (n + 1 - x.size) m' r' h1
      subst e1
      simp
      omega
termination_by _ n => n

theorem dropL_spec : ∀ (ls : List Leaf) (n : Nat) (r : List Leaf), dropL ls n = some r → ∃ m, ls = m ++ r ∧ (m.map Leaf.size).sum = n
  | ls, 0, r, h => by
    simp [dropL] at h
    exact ⟨[], by simp [h]⟩
  | [], n + 1, r, h => by simp [dropL] at h
  | x :: t, n + 1, r, h => by
    simp only [dropL] at h
    cases hc : (Nat.ble x.size (n + 1) && Nat.ble 1 x.size) with
    | false => simp [hc] at h
    | true =>
      simp only [hc, cond_true] at h
      have hle : x.size ≤ n + 1 := Nat.le_of_ble_eq_true (by simp at hc; simpa using hc.1)
      have h1' : 1 ≤ x.size := Nat.le_of_ble_eq_true (by simp at hc; simpa using hc.2)
      obtain ⟨m, e1, e2⟩ := dropL_spec t (n + 1 - x.size) r h
      exact ⟨x :: m, by simp [e1], by simp; omega⟩
termination_by _ n => n

theorem leafAt_spec : ∀ (ls : List Leaf) (off : Nat) (x : Leaf), leafAt ls off = some x →
    ∃ m r, ls = m ++ x :: r ∧ (m.map Leaf.size).sum = off ∧ ∀ y, setLeaf ls off y = m ++ y :: r
  | [], off, x, h => by simp [leafAt] at h
  | z :: t, off, x, h => by
    simp only [leafAt] at h
    cases h0 : Nat.beq off 0 with
    | true =>
      simp only [h0, cond_true, Option.some.injEq] at h
      subst h
      have := Nat.eq_of_beq_eq_true h0
      subst this
      exact ⟨[], t, rfl, rfl, fun y => by simp [setLeaf]⟩
    | false =>
      simp only [h0, cond_false] at h
      cases h1 : Nat.ble z.size off with
      | false => simp [h1] at h
      | true =>
        simp only [h1, cond_true] at h
        have hle := Nat.le_of_ble_eq_true h1
        obtain ⟨m, r, e1, e2, e3⟩ := leafAt_spec t (off - z.size) x h
        refine ⟨z :: m, r, by simp [e1], by simp; omega, fun y => ?_⟩
        simp [setLeaf, h0, e3 y]

theorem one_cell {γ : Nat → Value} (h1 : ∀ κ, (γ κ).oneCell' = true) (x : Leaf) : ∀ v ∈ x.cells γ, v.oneCell' = true := by
  intro v hv
  cases x <;> simp [Leaf.cells] at hv
  case arr k n l => obtain ⟨a, _, rfl⟩ := hv; rfl
  case pes κ i => subst hv; unfold elemV; split <;> rfl
  case slc κ => subst hv; exact h1 κ
  all_goals (subst hv; rfl)

theorem one_cells {γ : Nat → Value} (h1 : ∀ κ, (γ κ).oneCell' = true) (m : List Leaf) : ∀ v ∈ cellsL γ m, v.oneCell' = true := by
  intro v hv
  simp only [cellsL, List.mem_flatMap] at hv
  obtain ⟨x, _, hx⟩ := hv
  exact one_cell h1 x v hx

theorem lone_cells {γ : Nat → Value} {x : Leaf} (h : x.lone) : x.cells γ = [(x.cells γ).headD undef] := by
  cases x <;> first | rfl | exact h.elim

theorem lone_den {γ : Nat → Value} (h1 : ∀ κ, (γ κ).oneCell' = true) {x : Leaf} (h : x.lone) : ((x.cells γ).headD undef).oneCell' = true :=
  one_cell h1 x _ (by rw [lone_cells h]; simp)

theorem cells_of_oneCell {v : Value} (h : v.oneCell' = true) : v.cells = #[v] := by cases v <;> simp_all [Value.cells, Value.oneCell']

/-! ### Names -/

def Leaf.keys : Leaf → List Nat
  | .ptr κ _ | .pe κ _ _ _ | .pes κ _ | .slc κ | .view κ _ _ _ _ => [κ]
  | _ => []

theorem lk_eq (x : Leaf) : V1.keys.lk x = x.keys := by cases x <;> rfl

theorem cells_congr {γ γ' : Nat → Value} {x : Leaf} (h : ∀ κ ∈ x.keys, γ' κ = γ κ) : x.cells γ' = x.cells γ := by
  cases x <;> first | rfl | (simp [Leaf.keys] at h; simp [Leaf.cells, bk, h])

theorem cellsL_congr {γ γ' : Nat → Value} {m : List Leaf} (h : ∀ x ∈ m, ∀ κ ∈ x.keys, γ' κ = γ κ) : cellsL γ' m = cellsL γ m := by
  induction m with
  | nil => rfl
  | cons x r ih =>
    rw [cellsL_cons, cellsL_cons, cells_congr (h x (by simp)), ih fun y hy => h y (by simp [hy])]

theorem V1.den_congr {γ γ' : Nat → Value} {x : V1} (h : ∀ κ ∈ x.keys, γ' κ = γ κ) : x.den γ' = x.den γ := by
  cases x with
  | one x => simp only [V1.den]; rw [cells_congr (by simpa [V1.keys, lk_eq] using h)]
  | agg l =>
    simp only [V1.den]
    rw [cellsL_congr fun x hx κ hκ => h κ (by simp only [V1.keys, List.mem_flatMap]; exact ⟨x, hx, by rwa [lk_eq]⟩)]

theorem SV.den_congr {γ γ' : Nat → Value} {x : SV} (h : ∀ κ ∈ x.keys, γ' κ = γ κ) : x.den γ' = x.den γ := by
  cases x with
  | v x => exact V1.den_congr h
  | tup l =>
    simp only [SV.den]
    congr 2
    exact List.map_congr_left fun x hx => V1.den_congr fun κ hκ => h κ (by simp only [SV.keys, List.mem_flatMap]; exact ⟨x, hx, hκ⟩)

def Ent.keys : Ent → List Nat
  | .blk _ l => l.flatMap Leaf.keys
  | _ => []

def Cont.keys : Cont → List Nat
  | .v x => x.keys
  | .e x => x.keys

theorem Ent.at_congr {B : Nat} {γ γ' : Nat → Value} {w : World} {κ : Nat} {e : Ent} (h0 : γ' κ = γ κ) (h : ∀ κ' ∈ e.keys, γ' κ' = γ κ') (ha : e.at B γ w κ) : e.at B γ' w κ := by
  cases e with
  | blk ty l =>
    obtain ⟨b, h1, h2, h3, h4⟩ := ha
    refine ⟨b, h0.trans h1, h2, ?_, h4⟩
    rw [cellsL_congr fun x hx κ' hκ' => h κ' (by simp only [Ent.keys, List.mem_flatMap]; exact ⟨x, hx, hκ'⟩)]
    exact h3
  | rd k l => simp only [Ent.at, h0] at *; exact ha
  | own e k l => simp only [Ent.at, h0] at *; exact ha
  | dead => trivial

theorem Ent.at_keep {B : Nat} {γ : Nat → Value} {w w' : World} {κ : Nat} {e : Ent} (hs : w.heap.size ≤ w'.heap.size)
    (hb : ∀ b, blkO (γ κ) = some b → w'.heap[b]? = w.heap[b]?) (ha : e.at B γ w κ) : e.at B γ w' κ := by
  cases e with
  | blk ty l =>
    obtain ⟨b, h1, h2, h3, h4⟩ := ha
    exact ⟨b, h1, h2, (hb b (by simp [h1, blkO])).trans h3, h4⟩
  | rd k l =>
    simp only [Ent.at] at *
    rcases ha with ha | ⟨a, cap, h1, h2, h3, h4, h5, h6⟩
    · exact .inl ha
    · refine .inr ⟨a, cap, h1, h2, h3, by omega, h5, fun i hi => ?_⟩
      rw [World.cell?_of_block (w := w)]
      · exact h6 i hi
      · have e : (a.add i).block = a.block := by unfold Addr.add; split <;> rfl
        rw [e]
        exact hb a.block (by simp [h1, blkO])
  | own e k l =>
    simp only [Ent.at] at *
    refine ⟨ha.1, ?_⟩
    rcases ha.2 with h | ⟨g, cap, cur, h1, h2, h3, h4⟩
    · exact .inl h
    · exact .inr ⟨g, cap, cur, h1, h2, (hb g (by simp [h1, blkO])).trans h3, h4⟩
  | dead => trivial

theorem Ent.at_mono {B B' : Nat} (hB : B' ≤ B) {γ : Nat → Value} {w : World} {κ : Nat} {e : Ent} (ha : e.at B γ w κ) : e.at B' γ w κ := by
  cases e with
  | blk ty l => obtain ⟨b, h1, h2, h3⟩ := ha; exact ⟨b, h1, by omega, h3⟩
  | rd k l => exact ha
  | own e k l =>
    simp only [Ent.at] at *
    refine ⟨ha.1, ?_⟩
    rcases ha.2 with h | ⟨g, cap, cur, h1, h2, h3⟩
    · exact .inl h
    · exact .inr ⟨g, cap, cur, h1, by omega, h3⟩
  | dead => trivial

theorem Ent.blk_lt {B : Nat} {γ : Nat → Value} {w : World} {κ : Nat} {e : Ent} (he : e ≠ .dead) (ha : e.at B γ w κ) : ∀ b, blkO (γ κ) = some b → b < w.heap.size := by
  intro b hb
  cases e with
  | blk ty l =>
    obtain ⟨b', h1, _, h3, _⟩ := ha
    simp [h1, blkO] at hb
    subst hb
    exact (Array.getElem?_eq_some_iff.1 h3).1
  | rd k l =>
    rcases ha with ⟨h, _⟩ | ⟨a, cap, h1, _, _, h4, _⟩
    · simp [h, blkO] at hb
    · simp [h1, blkO] at hb; subst hb; exact h4
  | own e k l =>
    rcases ha.2 with ⟨h, _⟩ | ⟨g, cap, cur, h1, _, h3, _⟩
    · simp [h, blkO] at hb
    · simp [h1, blkO] at hb; subst hb; exact (Array.getElem?_eq_some_iff.1 h3).1
  | dead => exact absurd rfl he

end Go.Gw
