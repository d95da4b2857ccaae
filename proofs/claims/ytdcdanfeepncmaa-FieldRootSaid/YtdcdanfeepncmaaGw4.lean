/- The walk's engine, part 4: loads, stores, literals; the whole step. -/
import Derived.Test.YtdcdanfeepncmaaGw3
namespace Go.Gw
open Go.RowKit

variable {P : Program} {T : TypeId → Option TD} {B N : Nat} {w0 : World} {γ : Nat → Value} {σ : Stt} {a : Act} {w : World}

theorem add_none (b off i : Nat) : (⟨b, off, none⟩ : Addr).add i = ⟨b, off + i, none⟩ := by unfold Addr.add; split <;> simp_all

theorem loadVar_agg {t : TypeId} {b off : Nat} {c : Array Value} {ty : TypeId} {fr : Nat × Nat} {cs : List Value} (hg : w.heap[b]? = some (.cells c ty fr)) (hagg : (isAgg t).run P w = .ok true w)
    (hs : (sizeOf t).run P w = .ok cs.length w) (hc : ∀ j v, cs[j]? = some v → c[off + j]? = some v) : (loadVar t ⟨b, off, none⟩).run P w = .ok (.agg cs.toArray) w := by
  have hl := run_loadCells_list (P := P) w ⟨b, off, none⟩ cs fun j v hv => by
    rw [add_none, cell_of_row w b _ c ty fr hg]
    exact hc j v hv
  simp [loadVar, hagg, hs, hl]

theorem loadVar_one {t : TypeId} {ad : Addr} {v : Value} (hagg : (isAgg t).run P w = .ok false w) (hc : w.cell? ad = some v) : (loadVar t ad).run P w = .ok v w := by
  simp [loadVar, hagg, load, Sem.run, hc]

theorem storeVar_at {t : TypeId} {b off : Nat} {ty : TypeId} {A M Z : List Value} {v : Value} (hg : w.heap[b]? = some (.cells (A ++ (M ++ Z)).toArray ty (0, 0))) (hA : A.length = off)
    (hs : (sizeOf t).run P w = .ok M.length w) (hv : v.cells.size = M.length) (h1 : ∀ x ∈ v.cells.toList, x.oneCell' = true) :
    (storeVar t ⟨b, off, none⟩ v).run P w = .ok () (w.setRow b (A ++ (v.cells.toList ++ Z)).toArray) := by
  have := run_storeCells_at P b off ty v.cells.toList 0 (A ++ (M ++ Z)).toArray w hg (by simp; omega) h1
  have e1 : (A ++ (M ++ Z)).take off = A := by rw [← hA]; exact List.take_left
  have e2 : (A ++ (M ++ Z)).drop (off + v.cells.size) = Z := by
    rw [← List.drop_drop, ← hA, List.drop_left, hv]
    exact List.drop_left
  simp only [Nat.add_zero, Array.length_toList, e1, e2, List.append_assoc] at this
  simp [storeVar, hs, hv, this]

def TD.isA : TD → Bool
  | .arr .. | .struct .. => true
  | _ => false

theorem agg_run {t : TypeId} {d : TD} (h : d.ok P t) (w : World) : (isAgg t).run P w = .ok d.isA w := by
  cases d with
  | int k => simp [isAgg, run_underlying h.1, TD.isA]
  | bool => simp [isAgg, run_underlying h.1, TD.isA]
  | str => simp [isAgg, run_underlying h.1, TD.isA]
  | arr n e k => simp [isAgg, run_underlying h.1, TD.isA]
  | struct n o z => obtain ⟨fs, h1, _⟩ := h; simp [isAgg, run_underlying h1, TD.isA]
  | slice e k => simp [isAgg, run_underlying h.1, TD.isA]
  | ptr => obtain ⟨e, h1, _⟩ := h; simp [isAgg, run_underlying h1, TD.isA]

def TD.sz : TD → Nat
  | .arr n _ _ => n
  | .struct n _ _ => n
  | _ => 1

theorem sz_run {t : TypeId} {d : TD} (h : d.ok P t) (w : World) : (sizeOf t).run P w = .ok d.sz w := by
  cases d with
  | int k => exact (info_run h.2 w).1
  | bool => exact (info_run h.2 w).1
  | str => exact (info_run h.2 w).1
  | arr n e k => exact (info_run h.2.2.1 w).1
  | struct n o z => obtain ⟨fs, _, _, h1, _⟩ := h; exact (info_run (h1 fun _ => default) w).1
  | slice e k => exact (info_run h.2.2.2 w).1
  | ptr => obtain ⟨e, _, h1⟩ := h; exact (info_run h1 w).1

theorem sub_get {A M Z : List Value} {off j : Nat} {v : Value} (hA : A.length = off) (h : M[j]? = some v) : (A ++ (M ++ Z)).toArray[off + j]? = some v := by
  have hj : j < M.length := by
    rcases Nat.lt_or_ge j M.length with h' | h'
    · exact h'
    · rw [List.getElem?_eq_none h'] at h; cases h
  simp only [List.getElem?_toArray]
  rw [List.getElem?_append_right (by omega), List.getElem?_append_left (by omega), ← h]
  congr 1
  omega

theorem load_agg_run {t : TypeId} {d : TD} {κ off n : Nat} {ty : TypeId} {ls r m z : List Leaf} (hd : d.ok P t) (hA : d.isA = true) (hn : d.sz = n) (I : Inv B N w0 γ σ a w) (hk : lookH σ κ = some (.blk ty ls))
    (h1 : dropL ls off = some r) (h2 : takeL r n = some (m, z)) :
    (Instr.loadAt t ((SV.v (.one (.ptr κ off))).den γ)).run P w = .ok ((SV.v (.agg m)).den γ) w ∧ (SV.v (.agg m)).ok := by
  obtain ⟨b, hb, _, hg, hok⟩ := (I.key hk).2
  obtain ⟨p, e1, e2⟩ := dropL_spec ls off r h1
  obtain ⟨e3, e4⟩ := takeL_spec r n m z h2
  subst e3; subst e1
  have okp : ∀ x ∈ p, x.ok := fun x hx => hok x (by simp [hx])
  have okm : ∀ x ∈ m, x.ok := fun x hx => hok x (by simp [hx])
  refine ⟨?_, okm⟩
  have hbk : bk γ κ = b := by simp [bk, hb]
  rw [cellsL_append, cellsL_append] at hg
  have := loadVar_agg (P := P) (w := w) (t := t) (off := off) (cs := cellsL γ m) hg (hA ▸ agg_run hd w) (by rw [cellsL_len okm, e4, ← hn]; exact sz_run hd w)
    (fun j v hv => sub_get (by rw [cellsL_len okp, e2]) hv)
  simp only [SV.den, V1.den, Leaf.cells, List.headD_cons, hbk, Instr.loadAt, Instr.sureAddr, Sem.run_bind, Sem.run_pure, Result.andThen_ok]
  exact this

theorem load_one_run {t : TypeId} {d : TD} {κ off : Nat} {ty : TypeId} {ls : List Leaf} {x : Leaf} (hd : d.ok P t) (hA : d.isA = false) (I : Inv B N w0 γ σ a w) (hk : lookH σ κ = some (.blk ty ls))
    (h1 : leafAt ls off = some x) (hx : x.lone) :
    (Instr.loadAt t ((SV.v (.one (.ptr κ off))).den γ)).run P w = .ok ((SV.v (.one x)).den γ) w ∧ (SV.v (.one x)).ok := by
  obtain ⟨b, hb, _, hg, hok⟩ := (I.key hk).2
  obtain ⟨p, r, e1, e2, _⟩ := leafAt_spec ls off x h1
  subst e1
  have okp : ∀ x ∈ p, x.ok := fun x hx => hok x (by simp [hx])
  refine ⟨?_, hok x (by simp), hx⟩
  have hbk : bk γ κ = b := by simp [bk, hb]
  rw [cellsL_append, cellsL_cons] at hg
  have hc : w.cell? ⟨b, off, none⟩ = some ((x.cells γ).headD undef) := by
    rw [cell_of_row w b off _ ty _ hg]
    have := sub_get (A := cellsL γ p) (M := x.cells γ) (Z := cellsL γ r) (j := 0) (off := off) (v := (x.cells γ).headD undef) (by rw [cellsL_len okp, e2]) (by rw [lone_cells hx]; simp)
    simpa using this
  have := loadVar_one (P := P) (t := t) (hA ▸ agg_run hd w) hc
  simp only [SV.den, V1.den, Leaf.cells, List.headD_cons, hbk, Instr.loadAt, Instr.sureAddr, Sem.run_bind, Sem.run_pure, Result.andThen_ok]
  exact this

theorem RdI.get {v : Value} {k : IntKind} {l : List Int} (h : RdI w v k l) {i : Nat} (hi : i < l.length) : ∃ ad, elemV v i = .pointer (some ad) ∧ w.cell? ad = some (.int k (l.getD i 0)) := by
  rcases h with ⟨_, rfl⟩ | ⟨a, cap, rfl, _, _, _, _, h⟩
  · simp at hi
  · exact ⟨_, rfl, h i hi⟩

theorem own_rd {e : TypeId} {k : IntKind} {l : List Int} {v : Value} (h : w.ownsRow B e 1 v l.length (l.map (.int k))) : RdI w v k l := by
  rcases h.2 with ⟨h1, h2⟩ | ⟨g, cap, cur, h1, h2, h3, h4, h5, h6, h7⟩
  · exact .inl ⟨h1, List.length_eq_zero_iff.1 h2⟩
  · refine .inr ⟨⟨g, 0, none⟩, cap, h1, h4, h5, (Array.getElem?_eq_some_iff.1 h3).1, rfl, fun i hi => ?_⟩
    have := World.ownsRow.cells h (g := g) (by simp [h1, Value.ownBlock]) i (.int k (l.getD i 0)) (by simp [List.getD, hi])
    exact this

theorem load_run (hT : TOk P T) (I : Inv B N w0 γ σ a w) {t : TypeId} {u : SV} {eff : Eff} (hu : u.ok) (h : loadS T (lookH σ) t u = some eff) (hn : eff.need) :
    ∃ r : SV, eff.val = some r ∧ eff.wr = [] ∧ r.ok ∧ (Instr.loadAt t (u.den γ)).run P w = .ok (r.den γ) w := by
  unfold loadS at h
  split at h
  · rename_i κ off
    split at h
    · rename_i ty ls n e k hk hd
      split at h
      · rename_i r h1
        split at h
        · rename_i m z h2
          simp only [pureE, Option.some.injEq] at h
          subst h
          obtain ⟨h3, h4⟩ := load_agg_run (hT t _ hd) rfl rfl I hk h1 h2
          exact ⟨_, rfl, rfl, h4, h3⟩
        · cases h
      · cases h
    · rename_i ty ls n e k hk hd
      split at h
      · rename_i r h1
        split at h
        · rename_i m z h2
          simp only [pureE, Option.some.injEq] at h
          subst h
          obtain ⟨h3, h4⟩ := load_agg_run (hT t _ hd) rfl rfl I hk h1 h2
          exact ⟨_, rfl, rfl, h4, h3⟩
        · cases h
      · cases h
    · rename_i ty ls d hna hns hk hd
      split at h
      · cases h
      · rename_i x hx h1
        simp only [pureE, Option.some.injEq] at h
        subst h
        have hA : d.isA = false := by cases d <;> first | rfl | exact (hna _ _ _ rfl).elim | exact (hns _ _ _ rfl).elim
        obtain ⟨h3, h4⟩ := load_one_run (hT t d hd) hA I hk h1 (by cases x <;> first | trivial | exact (hx _ _ _ rfl).elim)
        exact ⟨_, rfl, rfl, h4, h3⟩
      · cases h
    · cases h
  · rename_i κ base n i
    split at h
    · rename_i ty ls k hk hd
      split at h
      · rename_i k' n' l h1
        cases hc : (keq k k' && Nat.beq n n') with
        | false => simp [hc] at h
        | true =>
          simp only [hc, cond_true, pureE, Option.some.injEq] at h
          subst h
          simp only [Bool.and_eq_true] at hc
          obtain rfl := keq_eq hc.1
          obtain rfl := Nat.eq_of_beq_eq_true hc.2
          obtain ⟨b, hb, _, hg, hok⟩ := (I.key hk).2
          obtain ⟨p, r, e1, e2, _⟩ := leafAt_spec ls base _ h1
          subst e1
          have okp : ∀ x ∈ p, x.ok := fun x hx => hok x (by simp [hx])
          have hl : l.length = n := hok (.arr k n l) (by simp)
          obtain ⟨⟨hi0, hi1⟩, _⟩ : (0 ≤ i ∧ i < n) ∧ True := hu
          have hbk : bk γ κ = b := by simp [bk, hb]
          rw [cellsL_append, cellsL_cons] at hg
          have hc : w.cell? ⟨b, base + i.toNat, none⟩ = some (.int k (l.getD i.toNat 0)) := by
            rw [cell_of_row w b _ _ ty _ hg]
            refine sub_get (by rw [cellsL_len okp, e2]) ?_
            have : i.toNat < l.length := by omega
            simp [Leaf.cells, List.getD, this]
          have := loadVar_one (P := P) (t := t) (agg_run (hT t _ hd) w) hc
          refine ⟨_, rfl, rfl, ⟨trivial, trivial⟩, ?_⟩
          simp only [SV.den, V1.den, Leaf.cells, List.headD_cons, hbk, Instr.loadAt, Instr.sureAddr, Sem.run_bind, Sem.run_pure, Result.andThen_ok]
          exact this
      · cases h
    · cases h
  · rename_i κ i
    obtain ⟨hi0, _⟩ : 0 ≤ i ∧ True := hu
    have go : ∀ (k : IntKind) (l : List Int), i < l.length → RdI w (γ κ) k l → T t = some (.int k) → (Instr.loadAt t ((SV.v (.one (.pes κ i))).den γ)).run P w = .ok ((int1 k (l.getD i.toNat 0)).den γ) w := fun k l hi hr hd => by
      obtain ⟨ad, h1, h2⟩ := hr.get (i := i.toNat) (by omega)
      have := loadVar_one (P := P) (t := t) (agg_run (hT t _ hd) w) h2
      simp only [SV.den, V1.den, Leaf.cells, List.headD_cons, h1, Instr.loadAt, Instr.sureAddr, Sem.run_bind, Sem.run_pure, Result.andThen_ok]
      exact this
    split at h
    · rename_i k l k' hk hd
      cases hc : keq k k' with
      | false => simp [hc] at h
      | true =>
        simp only [hc, cond_true, needE, Option.some.injEq] at h
        subst h
        obtain rfl := keq_eq hc
        exact ⟨_, rfl, rfl, ⟨trivial, trivial⟩, go k l hn (I.key hk).2 hd⟩
    · rename_i e k l k' hk hd
      cases hc : keq k k' with
      | false => simp [hc] at h
      | true =>
        simp only [hc, cond_true, needE, Option.some.injEq] at h
        subst h
        obtain rfl := keq_eq hc
        exact ⟨_, rfl, rfl, ⟨trivial, trivial⟩, go k l hn (own_rd (I.key hk).2) hd⟩
    · cases h
  · cases h

end Go.Gw
