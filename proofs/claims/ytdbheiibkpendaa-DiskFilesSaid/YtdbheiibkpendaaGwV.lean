/- The walk's engine, part 5e: rows whose parts are the function's own too. -/
import Derived.Test.YtdbheiibkpendaaGwU
namespace Go.Gw
open Go.RowKit

variable {P : Program} {T : TypeId → Option TD} {B : Nat → Prop} {N : Nat} {w0 : W0} {γ : Nat → Value} {σ : Stt} {a : Act} {w : World}

theorem run_lit1 {t e : TypeId} {sz : Nat} (hT : (TD.sliceR e sz).ok P t) {x : Value} {vs : List Value} (ex : x.cells.toList = vs) (hl : vs.length = sz) :
    (Instr.buildSlice t 1 #[(0, x)]).run P w = .ok (.slice (some ⟨w.heap.size, 0, none⟩) 1 1) (w.alloc (.cells vs.toArray e)) := by
  obtain ⟨t1, i, z, hi, hisz, hz, hzs, _, hp, hp16⟩ := rows_info hT
  have h24 : ¬ (1 * sz > 2 ^ 24) := by omega
  have hz' : ∀ w, (zeroValue e).run P w = .ok z w := fun w => by simp [zeroValue, typeInfo, hi, hz]
  have hs' : ∀ w, (sizeOf e).run P w = .ok sz w := fun w => by simp [sizeOf, typeInfo, hi, hisz]
  have hf1 : Instr.fill (fun i => some (i * sz, sz)) ((Array.range (1 * sz)).map (z.cells[· % z.cells.size]!)) [(0, x)] = some vs.toArray := by
    have := fill_one (fun i => some (i * sz, sz)) (i := 0) (off := 0) (sz := sz) (by simp) x [] ((Array.range (1 * sz)).map (z.cells[· % z.cells.size]!)).toList [] [] rfl (by simp) (by rw [← Array.length_toList, ex, hl])
    simp only [List.append_nil, List.nil_append, Array.toArray_toList] at this
    rw [this]
    simp [Instr.fill, ← ex]
  unfold Instr.buildSlice
  simp only [Sem.run_bind, run_underlying t1, Result.andThen_ok, hs', if_neg h24, if_neg (show ¬ 1 * sz = 0 by omega), hz', Sem.run_pure, hf1]
  simp [newRow]

theorem litD_spec (I : Inv B N w0 γ σ a w) {e eb : TypeId} {sz n : Nat} {ps : List (Nat × Operand)} {r : RowsK} {fr : List (Nat × Ent)} (h : litD T σ e eb sz n ps = some (r, fr)) :
    n = 1 ∧ sz = 2 ∧ ∃ x m u l, ps = [(0, x)] ∧ (a.eval x).cells.toList = [.int .i64 m, u] ∧ r = .rc [(m, l)] ∧ u.oneCell' = true ∧ w.ownsRow 0 eb 1 u l.length (l.map (.int .u8)) ∧
      ((u = .slice none 0 0 ∧ fr = []) ∨ ∃ κ1, u = γ κ1 ∧ fr = [(κ1, .dead)] ∧ σ (.h κ1) = some (.e (.own eb .u8 l))) := by
  unfold litD at h
  split at h
  · rename_i x
    cases hn : Nat.beq n 1 with
    | false => rw [hn] at h; cases h
    | true =>
      rw [hn] at h
      simp only [cond_true] at h
      have hn1 := Nat.eq_of_beq_eq_true hn
      split at h
      · rename_i _ _ _ m κ hd hx
        split at h
        · rename_i e' l hk
          cases hc : Nat.beq sz 2 && Nat.beq eb e' with
          | false => rw [hc] at h; cases h
          | true =>
            rw [hc] at h
            simp only [cond_true, Option.some.injEq, Prod.mk.injEq] at h
            obtain ⟨rfl, rfl⟩ := h
            simp only [Bool.and_eq_true] at hc
            obtain rfl := Nat.eq_of_beq_eq_true hc.2
            obtain ⟨h1, h2⟩ := I.key hk
            exact ⟨hn1, Nat.eq_of_beq_eq_true hc.1, x, m, γ κ, l, rfl, by rw [(I.eval hx).1]; rfl, rfl, I.cell1 κ, h2.1, .inr ⟨κ, rfl, rfl, h1⟩⟩
        · cases h
      · rename_i _ _ _ m hd hx
        cases hc : Nat.beq sz 2 with
        | false => rw [hc] at h; cases h
        | true =>
          rw [hc] at h
          simp only [cond_true, Option.some.injEq, Prod.mk.injEq] at h
          obtain ⟨rfl, rfl⟩ := h
          exact ⟨hn1, Nat.eq_of_beq_eq_true hc, x, m, .slice none 0 0, [], rfl, by rw [(I.eval hx).1]; rfl, rfl, rfl, World.ownsRow_nil w 0 eb 1, .inl ⟨rfl, rfl⟩⟩
      · cases h
  · cases h

theorem build_deep (I : Inv B N w0 γ σ a w) {t e eb : TypeId} {sz n : Nat} (hT : (TD.sliceR e sz).ok P t) {κ' : Nat} (hf : NoKey κ' σ) {ps : List (Nat × Operand)} {r : RowsK} {fr : List (Nat × Ent)}
    (h : litD T σ e eb sz n ps = some (r, fr)) {p : List Prop} :
    ∃ v w', (Instr.buildSlice t n (ps.map fun q => (q.1, a.eval q.2)).toArray).run P w = .ok v w' ∧ Post B N w0 σ a ⟨some (.v (.one (.slc κ'))), (κ', .frows e eb (.ofNat 0) r) :: fr, p⟩ v w' := by
  obtain ⟨rfl, rfl, x, m, u, l, rfl, ex, rfl, hu1, hown, hfr⟩ := litD_spec (a := a) I h
  refine ⟨_, _, run_lit1 hT ex rfl, fun x => if x = κ' then .slice (some ⟨w.heap.size, 0, none⟩) 1 1 else γ x, by simp [SV.den, V1.den, Leaf.cells], ⟨trivial, trivial⟩, ?_⟩
  have hg := World.grownBy_alloc w (.cells [Value.int .i64 m, u].toArray e) none
  have hO : (w.alloc (.cells [Value.int .i64 m, u].toArray e)).ownsRow 0 e 2 (.slice (some ⟨w.heap.size, 0, none⟩) 1 1) 1 [Value.int .i64 m, u] :=
    World.ownsRow_lit (base := 0) (e := e) (size := 2) w [Value.int .i64 m, u].toArray 1 (Nat.zero_le _) (by simp [maxLen]) rfl
  have ult : ∀ b, blkO u = some b → b < w.heap.size := fun b hb => by
    rcases hown.2 with ⟨h, _⟩ | ⟨g, cap, cur, h1, _, h3, _⟩
    · simp [h, blkO] at hb
    · simp [h1, blkO] at hb; subst hb; exact (Array.getElem?_eq_some_iff.1 h3).1
  let use : Nat → Prop := fun κ => ∃ q ∈ fr, q.1 = κ
  have ublk : ∀ b, blkO u = some b → TouchU γ w use b := fun b hb => by
    rcases hfr with ⟨rfl, _⟩ | ⟨κ1, rfl, rfl, _⟩
    · simp [blkO] at hb
    · exact .inr ⟨κ1, ⟨(κ1, .dead), by simp, rfl⟩, hb⟩
  have cells : ∀ (j : Nat) (v : Value), [Value.int .i64 m, u][j]? = some v → (j = 0 ∧ v = .int .i64 m) ∨ (j = 1 ∧ v = u) := fun j v hv => by
    match j with
    | 0 => simp at hv; exact .inl ⟨rfl, hv.symm⟩
    | 1 => simp at hv; exact .inr ⟨rfl, hv.symm⟩
    | j + 2 => simp at hv
  have hat : FR (TouchU γ w use) (w.alloc (.cells [Value.int .i64 m, u].toArray e)) (.slice (some ⟨w.heap.size, 0, none⟩) 1 1) e eb 0 (.rc [(m, l)]) := by
    refine ⟨[.int .i64 m, u], hO, fun v hv => ?_, fun b hb => ?_, fun j d _ hd => ?_, fun j v b _ hv hb => ?_, fun j j' v v' b _ _ hne hv hv' hb hb' => ?_⟩
    · simp only [List.mem_cons, List.not_mem_nil, or_false] at hv
      rcases hv with rfl | rfl
      · rfl
      · exact hu1
    · simp only [blkO, Option.some.injEq] at hb
      exact .inl (Nat.le_of_eq hb)
    · match j with
      | 0 => simp [RowsK.cells] at hd; subst hd; exact ⟨_, rfl, rfl⟩
      | 1 => simp [RowsK.cells] at hd; subst hd; exact ⟨u, rfl, hown.alloc _⟩
      | j + 2 => simp [RowsK.cells] at hd
    · rcases cells j v hv with ⟨_, rfl⟩ | ⟨_, rfl⟩
      · simp [blkO] at hb
      · refine ⟨ublk b hb, fun h => ?_⟩
        simp only [blkO, Option.some.injEq] at h
        have := ult b hb
        omega
    · rcases cells j v hv with ⟨rfl, rfl⟩ | ⟨rfl, rfl⟩
      · simp [blkO] at hb
      · rcases cells j' v' hv' with ⟨rfl, rfl⟩ | ⟨rfl, _⟩
        · simp [blkO] at hb'
        · exact hne rfl
  have hfoot : ∀ b, blkO (.slice (some ⟨w.heap.size, 0, none⟩) 1 1) = some b ∨ InO (w.alloc (.cells [Value.int .i64 m, u].toArray e)) e 2 (.slice (some ⟨w.heap.size, 0, none⟩) 1 1) 1 0 b → TouchU γ w use b := fun b hb => by
    rcases hb with hb | ⟨ys, j, v, q1, _, q3, q4⟩
    · simp only [blkO, Option.some.injEq] at hb
      exact .inl (Nat.le_of_eq hb)
    · obtain rfl := own_same hO q1
      rcases cells j v q3 with ⟨_, rfl⟩ | ⟨_, rfl⟩
      · simp [blkO] at q4
      · exact ublk b q4
  have hdead : ∀ q ∈ fr, q.2 = .dead ∧ (∃ e1, σ (.h q.1) = some (.e e1) ∧ e1.mut = true) := fun q hq => by
    rcases hfr with ⟨_, rfl⟩ | ⟨κ1, _, rfl, hk⟩
    · simp at hq
    · simp only [List.mem_singleton] at hq; subst hq; exact ⟨rfl, _, hk, rfl⟩
  have hnk : ∀ q ∈ fr, q.1 ≠ κ' := fun q hq e => by
    obtain ⟨_, e1, h1, _⟩ := hdead q hq
    rw [e, hf.1] at h1; cases h1
  refine I.news use (fun p hp => ?_) (fun κ hκ => ?_) (fun κ hκ => ?_) (one_upd I.cell1 rfl) ⟨hg.os, hg.tape, hg.output, hg.size, fun b hb _ => hg.block b hb (by simp)⟩ (fun p hp => ?_) (fun p hp q hq hpq => ?_)
  · rcases List.mem_cons.1 hp with rfl | hp
    · exact .inl hf
    · exact .inr ⟨p, hp, rfl⟩
  · obtain ⟨q, hq, rfl⟩ := hκ
    exact ⟨⟨q, List.mem_cons_of_mem _ hq, rfl⟩, (hdead q hq).2⟩
  · have : κ ≠ κ' := fun eq => by
      obtain ⟨q, hq, hqe⟩ := hκ (κ', .frows e eb (.ofNat 0) (.rc [(m, l)])) (by simp) eq.symm
      exact hnk q hq (hqe.trans eq)
    simp [this]
  · rcases List.mem_cons.1 hp with rfl | hp
    · refine ⟨by simpa [Ent.at] using hat, fun b hb => hfoot b (by simpa [Ent.foot, RowsK.len, RowsK.sz] using hb)⟩
    · rw [(hdead p hp).1]
      exact ⟨trivial, fun b hb => hb.elim⟩
  · rcases List.mem_cons.1 hp with rfl | hp <;> rcases List.mem_cons.1 hq with rfl | hq
    · exact absurd rfl hpq
    · rw [(hdead q hq).1]; exact fun _ _ _ h => h
    · rw [(hdead p hp).1]; intro h; cases h
    · rw [(hdead p hp).1]; intro h; cases h

theorem litL_spec {sz n : Nat} {ps : List (Nat × Operand)} {ls : List Leaf} (h : litL σ sz n ps = some ls) :
    (n = 1 ∧ ∃ x, ps = [(0, x)] ∧ evalS σ x = some (.v (.agg ls)) ∧ ls.length = sz ∧ ∀ y ∈ ls, y.size = 1) ∨
    (n = 2 ∧ sz = 1 ∧ ∃ x y κ1 κ2, ps = [(0, x), (1, y)] ∧ evalS σ x = some (.v (.one (.slc κ1))) ∧ evalS σ y = some (.v (.one (.slc κ2))) ∧ ls = [.slc κ1, .slc κ2]) := by
  unfold litL at h
  split at h
  · rename_i x
    left
    cases hn : Nat.beq n 1 with
    | false => rw [hn] at h; cases h
    | true =>
      rw [hn] at h
      simp only [cond_true] at h
      refine ⟨Nat.eq_of_beq_eq_true hn, x, rfl, ?_⟩
      split at h
      · rename_i ls' hx
        cases hc : (Nat.beq ls'.length sz && ls'.all fun y => Nat.beq y.size 1) with
        | false => rw [hc] at h; cases h
        | true =>
          rw [hc] at h
          simp only [cond_true, Option.some.injEq] at h
          subst h
          simp only [Bool.and_eq_true, List.all_eq_true] at hc
          exact ⟨hx, Nat.eq_of_beq_eq_true hc.1, fun y hy => Nat.eq_of_beq_eq_true (hc.2 y hy)⟩
      · cases h
  · rename_i x y
    right
    cases hn : (Nat.beq n 2 && Nat.beq sz 1) with
    | false => rw [hn] at h; cases h
    | true =>
      rw [hn] at h
      simp only [cond_true] at h
      simp only [Bool.and_eq_true] at hn
      split at h
      · rename_i κ1 κ2 h1 h2
        cases h
        exact ⟨Nat.eq_of_beq_eq_true hn.1, Nat.eq_of_beq_eq_true hn.2, x, y, κ1, κ2, rfl, h1, h2, rfl⟩
      · cases h
  · cases h

theorem evalS_agg_keys {κ' : Nat} (hf : NoKey κ' σ) {x : Operand} {u : SV} (hx : evalS σ x = some u) : ∀ κ ∈ u.keys, κ ≠ κ' := fun κ hκ eq => by
  cases x with
  | tmp s =>
    have hsl : σ (.s s) = some (.v u) := by
      simp only [evalS, lookS] at hx
      split at hx
      · rename_i z hz; cases hx; exact hz
      · cases hx
    exact hf.2.1 _ _ hsl (by rw [← eq]; exact hκ)
  | const v =>
    simp only [evalS, constS] at hx
    split at hx <;> first | (cases hx; cases hκ; done) | cases hx
  | func f => simp only [evalS, Option.some.injEq] at hx; subst hx; cases hκ
  | global g => simp [evalS] at hx

/-- A literal of two parts, run. -/
theorem run_lit2 {t e : TypeId} (hT : (TD.sliceR e 1).ok P t) {x y : Value} (h1 : x.oneCell' = true) (h2 : y.oneCell' = true) :
    (Instr.buildSlice t 2 #[(0, x), (1, y)]).run P w = .ok (.slice (some ⟨w.heap.size, 0, none⟩) 2 2) (w.alloc (.cells #[x, y] e)) := by
  obtain ⟨t1, i, z, hi, hisz, hz, hzs, _, hp, hp16⟩ := rows_info hT
  have hz' : ∀ w, (zeroValue e).run P w = .ok z w := fun w => by simp [zeroValue, typeInfo, hi, hz]
  have hs' : ∀ w, (sizeOf e).run P w = .ok 1 w := fun w => by simp [sizeOf, typeInfo, hi, hisz]
  have cx : x.cells.toList = [x] := by rw [cells_of_oneCell h1]
  have cy : y.cells.toList = [y] := by rw [cells_of_oneCell h2]
  have hsx : x.cells.size = 1 := by rw [cells_of_oneCell h1]; rfl
  have hsy : y.cells.size = 1 := by rw [cells_of_oneCell h2]; rfl
  have hf1 : ∀ u v : Value, Instr.fill (fun i => some (i * 1, 1)) #[u, v] [(0, x), (1, y)] = some #[x, y] := fun u v => by
    have q1 := fill_one (fun i => some (i * 1, 1)) (i := 0) (off := 0) (sz := 1) (by simp) x [] [u] [v] [(1, y)] rfl rfl hsx
    have q2 := fill_one (fun i => some (i * 1, 1)) (i := 1) (off := 1) (sz := 1) (by simp) y [x] [v] [] [] rfl rfl hsy
    simp only [cx, cy, List.nil_append, List.cons_append, List.append_nil] at q1 q2
    have q3 : (#[u, v] : Array Value) = [u, v].toArray := rfl
    rw [q3, q1, q2]
    rfl
  unfold Instr.buildSlice
  simp only [Sem.run_bind, run_underlying t1, Result.andThen_ok, hs', if_neg (show ¬ (2 * 1 > 2 ^ 24) by omega), if_neg (show ¬ 2 * 1 = 0 by omega), hz', Sem.run_pure]
  have hr : (Array.range (2 * 1)).map (z.cells[· % z.cells.size]!) = #[z.cells[0 % z.cells.size]!, z.cells[1 % z.cells.size]!] := by
    have : Array.range (2 * 1) = #[0, 1] := rfl
    rw [this]; simp
  rw [hr, hf1]
  simp [newRow]

/-- A literal, as it is. -/
theorem build_litL (I : Inv B N w0 γ σ a w) {t e : TypeId} {sz n : Nat} (hT : (TD.sliceR e sz).ok P t) {κ' : Nat} (hf : NoKey κ' σ) {ps : List (Nat × Operand)} {ls : List Leaf}
    (h : litL σ sz n ps = some ls) {p : List Prop} :
    ∃ v w', (Instr.buildSlice t n (ps.map fun q => (q.1, a.eval q.2)).toArray).run P w = .ok v w' ∧ Post B N w0 σ a ⟨some (.v (.one (.slc κ'))), [(κ', .lit e n ls)], p⟩ v w' := by
  have hg := World.grownBy_alloc w (.cells (cellsL γ ls).toArray e) none
  have fin : ∀ n, n ≤ maxLen → (∀ y ∈ ls, y.ok) → (∀ y ∈ ls, ∀ κ ∈ y.keys, κ ≠ κ') → Post B N w0 σ a ⟨some (.v (.one (.slc κ'))), [(κ', .lit e n ls)], p⟩ (.slice (some ⟨w.heap.size, 0, none⟩) n n) (w.alloc (.cells (cellsL γ ls).toArray e)) := by
    intro n hn hok hkeys
    refine ⟨fun x => if x = κ' then .slice (some ⟨w.heap.size, 0, none⟩) n n else γ x, by simp [SV.den, V1.den, Leaf.cells], ⟨trivial, trivial⟩, ?_⟩
    have hc : cellsL (fun x => if x = κ' then .slice (some ⟨w.heap.size, 0, none⟩) n n else γ x) ls = cellsL γ ls := cellsL_congr fun y hy κ hκ => if_neg (hkeys y hy κ hκ)
    refine I.fresh hf rfl ⟨hg.os, hg.tape, hg.output, hg.size, fun b hb _ => hg.block b hb (by simp)⟩ ⟨w.heap.size, by simp, Nat.le_refl _, hn, ?_, hok⟩ (by intro b hb; simp [Ent.foot, blkO] at hb; omega)
    rw [hc]
    exact heap_alloc_new w _
  rcases litL_spec h with ⟨rfl, x, rfl, hx, hl2, hs1⟩ | ⟨rfl, rfl, x, y, κ1, κ2, rfl, hx, hy, rfl⟩
  · obtain ⟨ex, hok⟩ := I.eval hx
    have hlen : (cellsL γ ls).length = sz := by
      rw [cellsL_len hok, ← hl2]
      clear h hx hl2 hg fin ex hok
      induction ls with
      | nil => rfl
      | cons q r ih => simp only [List.map_cons, List.sum_cons, List.length_cons, hs1 q (by simp), ih fun y hy => hs1 y (by simp [hy])]; omega
    have exl : (a.eval x).cells.toList = cellsL γ ls := by rw [ex]; simp [SV.den, V1.den, Value.cells]
    refine ⟨_, _, run_lit1 hT exl hlen, fin 1 (by simp [maxLen]) hok fun y hy κ hκ => evalS_agg_keys hf hx κ ?_⟩
    simp only [SV.keys, V1.keys, List.mem_flatMap]
    exact ⟨y, hy, by rw [lk_eq]; exact hκ⟩
  · have ex : a.eval x = γ κ1 := (I.eval hx).1
    have ey : a.eval y = γ κ2 := (I.eval hy).1
    have hr := run_lit2 (P := P) (w := w) hT (x := γ κ1) (y := γ κ2) (I.cell1 _) (I.cell1 _)
    refine ⟨_, _, by simpa [ex, ey] using hr, ?_⟩
    have := fin 2 (by simp [maxLen]) (by intro y hy; simp at hy; rcases hy with rfl | rfl <;> trivial) fun q hq κ hκ => by
      simp only [List.mem_cons, List.not_mem_nil, or_false] at hq
      rcases hq with rfl | rfl
      · exact evalS_agg_keys hf hx κ (by simpa [SV.keys, V1.keys, V1.keys.lk, Leaf.keys] using hκ)
      · exact evalS_agg_keys hf hy κ (by simpa [SV.keys, V1.keys, V1.keys.lk, Leaf.keys] using hκ)
    simpa [cellsL, Leaf.cells] using this

/-! ### Behind such rows -/
theorem append_F (I : Inv B N w0 γ σ a w) {t ty e eb : TypeId} {sz : Nat} (hT : (TD.sliceR e sz).ok P t) {v y : Value} {r1 r2 r : RowsK} (hs : r2.sz = sz) (happ : r1.app r2 = some r) (hlen : r.len ≤ maxR)
    (hx : FR B w v e eb 0 r1) (hy : FR B w y e eb 0 r2)
    (hxy : ∀ b, (blkO v = some b ∨ InO w e sz v r1.len 0 b) → ¬ (blkO y = some b ∨ InO w e sz y r2.len 0 b)) :
    ∃ v' w', (Builtin.append_ #[t, t] ty #[v, y]).run P w = .ok v' w' ∧ v'.oneCell' = true ∧ FR B w' v' e eb 0 r ∧ w.grownBy w' v.ownBlock ∧ v.ownBlock = blkO v ∧
      (∀ b, blkO v' = some b → blkO v = some b ∨ w.heap.size ≤ b) ∧ ∀ b, InO w' e sz v' r.len 0 b → InO w e sz v r1.len 0 b ∨ InO w e sz y r2.len 0 b := by
  obtain ⟨t1, i, z, hi, hisz, hz, hzs, hby, hp, hp16⟩ := rows_info hT
  obtain ⟨a1, a2, a3, a4⟩ := app_spec happ
  have hs1 : r1.sz = sz := by rw [← a3]; exact hs
  have hsr : r.sz = sz := by rw [a2]; exact hs1
  have hmx : r1.len + r2.len ≤ 1099511627776 := by rw [← a1]; exact hlen
  obtain ⟨xs, x1, x2, x3, x4, x5, x6⟩ := hx
  obtain ⟨ys, y1, y2, y3, y4, y5, y6⟩ := hy
  rw [hs1] at x1 x4 x5 x6
  rw [hs] at y1 y4 y5 y6
  simp only [Nat.zero_mul, Nat.zero_le, forall_const] at x4 x5 x6 y4 y5 y6
  have inX : ∀ j u b, xs[j]? = some u → blkO u = some b → InO w e sz v r1.len 0 b := fun j u b h1 h2 => ⟨xs, j, u, x1, Nat.zero_le _, h1, h2⟩
  have inY : ∀ j u b, ys[j]? = some u → blkO u = some b → InO w e sz y r2.len 0 b := fun j u b h1 h2 => ⟨ys, j, u, y1, Nat.zero_le _, h1, h2⟩
  have olt : ∀ {e : TypeId} {sz n : Nat} {v : Value} {xs : List Value} {b : Nat}, w.ownsRow 0 e sz v n xs → blkO v = some b → b < w.heap.size := fun h hb => by
    rcases h.2 with ⟨h, _⟩ | ⟨g, cap, cur, h1, _, h3, _⟩
    · simp [h, blkO] at hb
    · simp [h1, blkO] at hb; subst hb; exact (Array.getElem?_eq_some_iff.1 h3).1
  have dlt : ∀ {d : DL} {u : Value} {b : Nat}, d.own w eb u → blkO u = some b → b < w.heap.size := fun {d u b} h hb => by
    cases d with
    | int k n => simp only [DL.own] at h; subst h; simp [blkO] at hb
    | bytes k l => exact olt h hb
    | bool k => simp only [DL.own] at h; subst h; simp [blkO] at hb
    | str k => simp only [DL.own] at h; subst h; simp [blkO] at hb
    | bools l => exact olt h hb
  have hxl : xs.length = r1.cells.length := by rw [x1.1, RowsK.cells_len, hs1]
  have hyl : ys.length = r2.cells.length := by rw [y1.1, RowsK.cells_len, hs]
  have h63 : r1.len + r2.len ≤ maxLen := by simp only [maxLen]; omega
  have hbytes : (r1.len + r2.len) * i.bytes ≤ 140737488355328 := by
    have := Nat.mul_le_mul hmx hby
    omega
  -- what is run
  have run : ∃ v' w', (Builtin.append_ #[t, t] ty #[v, y]).run P w = .ok v' w' ∧ w'.ownsRow 0 e sz v' (r1.len + r2.len) (xs ++ ys) ∧ w.grownBy w' v.ownBlock ∧ (∀ b, blkO v' = some b → blkO v = some b ∨ w.heap.size ≤ b) := by
    rcases y1.2 with ⟨hv, h0⟩ | ⟨g2, cap2, cur2, hv, _, hg2, _⟩
    · have hys : ys = [] := List.length_eq_zero_iff.1 (by rw [y1.1, h0, Nat.zero_mul])
      refine ⟨v, w, by rw [hv]; exact run_append_owned_none w 0 t ty e i sz t1 hi v _ _ x1, by rw [h0, hys, Nat.add_zero, List.append_nil]; exact x1, ⟨rfl, rfl, rfl, Nat.le_refl _, fun _ _ _ => rfl⟩, fun b hb => .inl hb⟩
    · have hnews := y1.cells (g := g2) (by rw [hv]; rfl)
      subst hv
      obtain ⟨v', w', k1, k2, k3, k4⟩ := run_append_own (P := P) w 0 t ty e i z sz i.bytes t1 hi hz hisz rfl hzs hp v _ _ x1 ⟨g2, 0, none⟩ r2.len cap2 ys y1.1 hnews y2 h63 hbytes (Nat.zero_le _)
      refine ⟨v', w', k1, k2, k3, fun b hb => ?_⟩
      rcases x1.2 with ⟨hv, h0⟩ | ⟨g, cap, cur, hv, _, hg, hnc, hcm, hcs, htake⟩
      · subst hv
        have ho' : w.ownsRow w.heap.size e sz (.slice none 0 0) r1.len xs := ⟨x1.1, .inl ⟨rfl, h0⟩⟩
        obtain ⟨v2, w2, s1, s2, _, _⟩ := run_append_own (P := P) w w.heap.size t ty e i z sz i.bytes t1 hi hz hisz rfl hzs hp _ _ _ ho' ⟨g2, 0, none⟩ r2.len cap2 ys y1.1 hnews y2 h63 hbytes (Nat.le_refl _)
        rw [k1] at s1
        cases s1
        right
        exact (World.ownsRow.lt s2 b (by rw [(own_blkO k2).1]; exact hb)).1
      · subst hv
        by_cases hroom : r1.len + r2.len ≤ cap
        · obtain ⟨w2, s1, _⟩ := run_append_fits (P := P) w 0 t ty e i sz t1 hi hisz g r1.len cap _ x1 ⟨g2, 0, none⟩ r2.len cap2 ys y1.1 hnews y2 hroom
          rw [k1] at s1
          cases s1
          exact .inl hb
        · have holds : ∀ j u, xs[j]? = some u → w.cell? ((⟨g, 0, none⟩ : Addr).add j) = some u := x1.cells (g := g) rfl
          have hr := run_append_grow (P := P) w t ty e i z t1 hi hz ⟨g, 0, none⟩ r1.len cap _ (by rw [hisz]; exact x1.1) holds ⟨g2, 0, none⟩ r2.len cap2 ys (by rw [hisz]; exact y1.1) hnews (by omega) (by simp only [maxLen] at h63; omega) (growslice_fits (by omega) hbytes)
          rw [k1] at hr
          cases hr
          right
          simp [blkO] at hb
          omega
  obtain ⟨v', w', k1, k2, k3, k4⟩ := run
  have hob := (own_blkO x1).1
  have keep : ∀ {u : Value} {d : DL}, (∀ b, blkO u = some b → blkO v ≠ some b) → d.own w eb u → d.own w' eb u := fun hn h => DL.own_keep (fun b hb => k3.block b (dlt h hb) fun e => hn b hb (by rw [← hob]; exact e.symm)) h
  have part : ∀ (j : Nat) (u : Value), (xs ++ ys)[j]? = some u → (j < xs.length ∧ xs[j]? = some u) ∨ (xs.length ≤ j ∧ ys[j - xs.length]? = some u) := fun j u h => by
    by_cases hj : j < xs.length
    · rw [List.getElem?_append_left hj] at h; exact .inl ⟨hj, h⟩
    · rw [List.getElem?_append_right (by omega)] at h; exact .inr ⟨by omega, h⟩
  have xd : ∀ j u, xs[j]? = some u → ∃ d : DL, d.own w eb u := fun j u h => by
    have hj : j < r1.cells.length := by rw [← hxl]; exact (List.getElem?_eq_some_iff.1 h).1
    obtain ⟨u', g1, g2⟩ := x4 j _ (List.getElem?_eq_getElem hj)
    rw [h] at g1; cases g1
    exact ⟨_, g2⟩
  have yd : ∀ j u, ys[j]? = some u → ∃ d : DL, d.own w eb u := fun j u h => by
    have hj : j < r2.cells.length := by rw [← hyl]; exact (List.getElem?_eq_some_iff.1 h).1
    obtain ⟨u', g1, g2⟩ := y4 j _ (List.getElem?_eq_getElem hj)
    rw [h] at g1; cases g1
    exact ⟨_, g2⟩
  refine ⟨v', w', k1, (own_blkO k2).2, ⟨xs ++ ys, by rw [hsr, a1]; exact k2, fun u hu => ?_, fun b hb => ?_, fun j d _ hd => ?_, fun j u b _ hu hb => ?_, fun j j' u u' b _ _ hne hu hu' hb hb' => ?_⟩, k3, hob, k4, fun b hb => ?_⟩
  · rcases List.mem_append.1 hu with hu | hu
    · exact x2 u hu
    · exact y2 u hu
  · rcases k4 b hb with h | h
    · exact x3 b h
    · exact I.top b (Nat.le_trans I.below.size h)
  · rw [a4] at hd
    by_cases hj : j < r1.cells.length
    · rw [List.getElem?_append_left hj] at hd
      obtain ⟨u, g1, g2⟩ := x4 j d hd
      exact ⟨u, by rw [List.getElem?_append_left (by omega)]; exact g1, keep (fun b hb => (x5 j u b g1 hb).2) g2⟩
    · rw [List.getElem?_append_right (by omega)] at hd
      obtain ⟨u, g1, g2⟩ := y4 _ d hd
      exact ⟨u, by rw [List.getElem?_append_right (by omega), hxl]; exact g1, keep (fun b hb h => hxy b (.inl h) (.inr (inY _ u b g1 hb))) g2⟩
  · rcases part j u hu with ⟨_, g1⟩ | ⟨_, g1⟩
    · obtain ⟨d, hd⟩ := xd j u g1
      refine ⟨(x5 j u b g1 hb).1, fun hm => ?_⟩
      rcases k4 b hm with h | h
      · exact (x5 j u b g1 hb).2 h
      · have := dlt hd hb; omega
    · obtain ⟨d, hd⟩ := yd _ u g1
      refine ⟨(y5 _ u b g1 hb).1, fun hm => ?_⟩
      rcases k4 b hm with h | h
      · exact hxy b (.inl h) (.inr (inY _ u b g1 hb))
      · have := dlt hd hb; omega
  · rcases part j u hu with ⟨l1, g1⟩ | ⟨l1, g1⟩ <;> rcases part j' u' hu' with ⟨l2, g2⟩ | ⟨l2, g2⟩
    · exact x6 j j' u u' b hne g1 g2 hb hb'
    · exact hxy b (.inr (inX j u b g1 hb)) (.inr (inY _ u' b g2 hb'))
    · exact hxy b (.inr (inX j' u' b g2 hb')) (.inr (inY _ u b g1 hb))
    · exact y6 _ _ u u' b (by omega) g1 g2 hb hb'
  · obtain ⟨zs, j, u, q1, _, q3, q4⟩ := hb
    rw [a1] at q1
    obtain rfl := own_same k2 q1
    rcases part j u q3 with ⟨_, g1⟩ | ⟨_, g1⟩
    · exact .inl (inX j u b g1 q4)
    · exact .inr (inY _ u b g1 q4)

theorem append_frows (I : Inv B N w0 γ σ a w) {t ty e e2 eb : TypeId} {sz : Nat} (hT : (TD.sliceR e sz).ok P t) {κ κ2 κ' : Nat} {r1 r2 r : RowsK} (hk : σ (.h κ) = some (.e (.frows e eb (.ofNat 0) r1))) (hk2 : σ (.h κ2) = some (.e (.frows e2 eb (.ofNat 0) r2))) (he2 : e2 = e) (hne : κ ≠ κ2)
    (hf : NoKey κ' σ) (hs : r2.sz = sz) (happ : r1.app r2 = some r) (hlen : r.len ≤ maxR) {p : List Prop} :
    ∃ v w', (Builtin.append_ #[t, t] ty #[γ κ, γ κ2]).run P w = .ok v w' ∧ Post B N w0 σ a ⟨some (.v (.one (.slc κ'))), [(κ', .frows e eb (.ofNat 0) r), (κ, .dead), (κ2, .dead)], p⟩ v w' := by
  subst he2
  obtain ⟨a1, a2, a3, a4⟩ := app_spec happ
  have hs1 : r1.sz = sz := by rw [← a3]; exact hs
  have hsr : r.sz = sz := by rw [a2]; exact hs1
  have hx := I.ent κ _ hk
  have hy := I.ent κ2 _ hk2
  have R1 : ∀ b, (Ent.frows e2 eb (.ofNat 0) r1).reg γ w κ b ↔ (blkO (γ κ) = some b ∨ InO w e2 sz (γ κ) r1.len 0 b) := fun b => by simp [Ent.reg, hs1]
  have R2 : ∀ b, (Ent.frows e2 eb (.ofNat 0) r2).reg γ w κ2 b ↔ (blkO (γ κ2) = some b ∨ InO w e2 sz (γ κ2) r2.len 0 b) := fun b => by simp [Ent.reg, hs]
  have hxy : ∀ b, (blkO (γ κ) = some b ∨ InO w e2 sz (γ κ) r1.len 0 b) → ¬ (blkO (γ κ2) = some b ∨ InO w e2 sz (γ κ2) r2.len 0 b) := fun b h1 h2 =>
    I.apart κ _ κ2 _ hk hk2 hne rfl b ((R1 b).2 h1) (Ent.reg_foot ((R2 b).2 h2))
  obtain ⟨v', w', k1, k2, k3, k4, k5, k6, k7⟩ := append_F (P := P) (t := t) (ty := ty) I hT hs happ hlen hx hy hxy
  refine ⟨v', w', k1, fun x => if x = κ' then v' else γ x, by simp [SV.den, V1.den, Leaf.cells], ⟨trivial, trivial⟩, ?_⟩
  have hn1 : κ ≠ κ' := fun e => by subst e; rw [hf.1] at hk; cases hk
  have hn2 : κ2 ≠ κ' := fun e => by subst e; rw [hf.1] at hk2; cases hk2
  have alt : ∀ b, (blkO v' = some b ∨ InO w' e2 sz v' r.len 0 b) → TouchU γ w (fun x => x = κ ∨ x = κ2) b ∨ InO w e2 sz (γ κ) r1.len 0 b ∨ InO w e2 sz (γ κ2) r2.len 0 b := fun b hb => by
    rcases hb with hb | hb
    · rcases k6 b hb with h | h
      · exact .inl (.inr ⟨κ, .inl rfl, h⟩)
      · exact .inl (.inl h)
    · exact .inr (k7 b hb)
  refine I.news2 (fun x => x = κ ∨ x = κ2) (fun p hp => ?_) (fun x hx => ?_) (fun x hx => ?_) (one_upd I.cell1 k2)
    ⟨k4.os, k4.tape, k4.output, k4.size, fun b hb hn => k4.block b hb fun e => hn (.inr ⟨κ, .inl rfl, by rw [← k5]; exact e.symm⟩)⟩ (fun p hp => ?_) (fun p hp q hq hpq => ?_)
  · simp only [List.mem_cons, List.not_mem_nil, or_false] at hp
    rcases hp with rfl | rfl | rfl
    · exact .inl hf
    · exact .inr (.inl rfl)
    · exact .inr (.inr rfl)
  · rcases hx with rfl | rfl
    · exact ⟨⟨(x, .dead), by simp, rfl⟩, _, hk, rfl⟩
    · exact ⟨⟨(x, .dead), by simp, rfl⟩, _, hk2, rfl⟩
  · have : x ≠ κ' := fun eq => by
      rcases hx (κ', .frows e2 eb (.ofNat 0) r) (by simp) eq.symm with h | h
      · exact hn1 (h.symm.trans eq)
      · exact hn2 (h.symm.trans eq)
    simp [this]
  · simp only [List.mem_cons, List.not_mem_nil, or_false] at hp
    rcases hp with rfl | rfl | rfl
    · refine ⟨by simpa [Ent.at] using k3, fun _ b hb => ?_, fun b hb => ?_⟩
      · have hb' : blkO v' = some b ∨ InO w' e2 sz v' r.len 0 b := by simpa [Ent.reg, hsr] using hb
        rcases alt b hb' with h | h | h
        · exact .inl h
        · exact .inr fun κ1 e1 he hn hft => I.apart κ _ κ1 e1 hk he (fun eq => hn (κ, .dead) (by simp) eq) rfl b ((R1 b).2 (.inr h)) hft
        · exact .inr fun κ1 e1 he hn hft => I.apart κ2 _ κ1 e1 hk2 he (fun eq => hn (κ2, .dead) (by simp) eq) rfl b ((R2 b).2 (.inr h)) hft
      · have hb' : blkO v' = some b ∨ InO w' e2 sz v' r.len 0 b := by simpa [Ent.foot, hsr] using hb
        rcases alt b hb' with h | h | h
        · exact .inl h
        · exact .inr fun κ1 e1 he hn hm hreg => I.apart κ1 e1 κ _ he hk (fun eq => hn (κ, .dead) (by simp) eq.symm) hm b hreg (Ent.reg_foot ((R1 b).2 (.inr h)))
        · exact .inr fun κ1 e1 he hn hm hreg => I.apart κ1 e1 κ2 _ he hk2 (fun eq => hn (κ2, .dead) (by simp) eq.symm) hm b hreg (Ent.reg_foot ((R2 b).2 (.inr h)))
    · exact ⟨trivial, (fun h => by cases h), fun b hb => hb.elim⟩
    · exact ⟨trivial, (fun h => by cases h), fun b hb => hb.elim⟩
  · simp only [List.mem_cons, List.not_mem_nil, or_false] at hp hq
    rcases hp with rfl | rfl | rfl <;> rcases hq with rfl | rfl | rfl <;> first
      | exact absurd rfl hpq
      | exact fun _ _ _ h => h
      | (intro h; cases h)

theorem append_nil_frows (I : Inv B N w0 γ σ a w) {t ty e e2 eb : TypeId} {sz : Nat} (hT : (TD.sliceR e sz).ok P t) {κ2 κ' : Nat} {r2 : RowsK} (hk2 : σ (.h κ2) = some (.e (.frows e2 eb (.ofNat 0) r2))) (he2 : e2 = e)
    (hf : NoKey κ' σ) (hs : r2.sz = sz) (hlen : r2.len ≤ maxR) {p : List Prop} :
    ∃ v w', (Builtin.append_ #[t, t] ty #[.slice none 0 0, γ κ2]).run P w = .ok v w' ∧ Post B N w0 σ a ⟨some (.v (.one (.slc κ'))), [(κ', .frows e eb (.ofNat 0) r2), (κ2, .dead)], p⟩ v w' := by
  subst he2
  have hy := I.ent κ2 _ hk2
  obtain ⟨r1, h1, h2, h3, happ⟩ : ∃ r1 : RowsK, r1.len = 0 ∧ r1.sz = sz ∧ r1.cells = [] ∧ r1.app r2 = some r2 := by
    cases r2 with
    | bs k ll => exact ⟨.bs k [], rfl, hs, rfl, by simp [RowsK.app, keq]⟩
    | rc ll => exact ⟨.rc [], rfl, hs, rfl, by simp [RowsK.app]⟩
    | gn s ll => exact ⟨.gn s [], rfl, hs, rfl, by simp [RowsK.app]⟩
  have hx : FR B w (.slice none 0 0) e2 eb 0 r1 := ⟨[], by rw [h1]; exact World.ownsRow_nil w 0 e2 _, by simp, by simp [blkO], fun j d _ hd => by rw [h3] at hd; simp at hd, fun j u b _ h => by simp at h, fun j j' u u' b _ _ _ h => by simp at h⟩
  have noI : ∀ b, ¬ InO w e2 sz (.slice none 0 0) r1.len 0 b := fun b ⟨xs, j, u, q1, _, q3, _⟩ => by
    have := q1.1
    rw [h1, Nat.zero_mul] at this
    rw [List.length_eq_zero_iff.1 this] at q3
    simp at q3
  have R2 : ∀ b, (Ent.frows e2 eb (.ofNat 0) r2).reg γ w κ2 b ↔ (blkO (γ κ2) = some b ∨ InO w e2 sz (γ κ2) r2.len 0 b) := fun b => by simp [Ent.reg, hs]
  obtain ⟨v', w', k1, k2, k3, k4, k5, k6, k7⟩ := append_F (P := P) (t := t) (ty := ty) I hT hs happ hlen hx hy (fun b h1 => by
    rcases h1 with h1 | h1
    · simp [blkO] at h1
    · exact absurd h1 (noI b))
  refine ⟨v', w', k1, fun x => if x = κ' then v' else γ x, by simp [SV.den, V1.den, Leaf.cells], ⟨trivial, trivial⟩, ?_⟩
  have hn2 : κ2 ≠ κ' := fun e => by subst e; rw [hf.1] at hk2; cases hk2
  have alt : ∀ b, (blkO v' = some b ∨ InO w' e2 sz v' r2.len 0 b) → TouchU γ w (fun x => x = κ2) b ∨ InO w e2 sz (γ κ2) r2.len 0 b := fun b hb => by
    rcases hb with hb | hb
    · rcases k6 b hb with h | h
      · simp [blkO] at h
      · exact .inl (.inl h)
    · exact .inr ((k7 b hb).resolve_left (noI b))
  refine I.news2 (fun x => x = κ2) (fun p hp => ?_) (fun x hx => ?_) (fun x hx => ?_) (one_upd I.cell1 k2)
    ⟨k4.os, k4.tape, k4.output, k4.size, fun b hb _ => k4.block b hb (by simp [Value.ownBlock])⟩ (fun p hp => ?_) (fun p hp q hq hpq => ?_)
  · simp only [List.mem_cons, List.not_mem_nil, or_false] at hp
    rcases hp with rfl | rfl
    · exact .inl hf
    · exact .inr rfl
  · subst hx
    exact ⟨⟨(x, .dead), by simp, rfl⟩, _, hk2, rfl⟩
  · have : x ≠ κ' := fun eq => hn2 ((hx (κ', .frows e2 eb (.ofNat 0) r2) (by simp) eq.symm).symm.trans eq)
    simp [this]
  · simp only [List.mem_cons, List.not_mem_nil, or_false] at hp
    rcases hp with rfl | rfl
    · refine ⟨by simpa [Ent.at] using k3, fun _ b hb => ?_, fun b hb => ?_⟩
      · have hb' : blkO v' = some b ∨ InO w' e2 sz v' r2.len 0 b := by simpa [Ent.reg, hs] using hb
        rcases alt b hb' with h | h
        · exact .inl h
        · exact .inr fun κ1 e1 he hn hft => I.apart κ2 _ κ1 e1 hk2 he (fun eq => hn (κ2, .dead) (by simp) eq) rfl b ((R2 b).2 (.inr h)) hft
      · have hb' : blkO v' = some b ∨ InO w' e2 sz v' r2.len 0 b := by simpa [Ent.foot, hs] using hb
        rcases alt b hb' with h | h
        · exact .inl h
        · exact .inr fun κ1 e1 he hn hm hreg => I.apart κ1 e1 κ2 _ he hk2 (fun eq => hn (κ2, .dead) (by simp) eq.symm) hm b hreg (Ent.reg_foot ((R2 b).2 (.inr h)))
    · exact ⟨trivial, (fun h => by cases h), fun b hb => hb.elim⟩
  · simp only [List.mem_cons, List.not_mem_nil, or_false] at hp hq
    rcases hp with rfl | rfl <;> rcases hq with rfl | rfl <;> first
      | exact absurd rfl hpq
      | exact fun _ _ _ h => h
      | (intro h; cases h)

theorem ownb_rdv {e : TypeId} {l : List Bool} {v : Value} (h : w.ownsRow 0 e 1 v l.length (l.map .bool)) : RdB w v l := by
  rcases h.2 with ⟨h1, h2⟩ | ⟨g, cap, cur, hv, _, hg, hnc, hcm, hcs, htake⟩
  · exact .inl ⟨⟨none, h1⟩, List.length_eq_zero_iff.1 h2⟩
  · refine .inr ⟨⟨g, 0, none⟩, cap, hv, hnc, hcm, (Array.getElem?_eq_some_iff.1 hg).1, rfl, fun i hi => ?_⟩
    have := h.cells (g := g) (by rw [hv]; rfl) i (.bool (l.getD i false)) (by simp [List.getD, hi])
    exact this
/-- such rows, read -/
theorem FR.rd {v : Value} {e eb : TypeId} {r : RowsK} (h : FR B w v e eb 0 r) : RdR w v r := by
  obtain ⟨xs, x1, x2, x3, x4, _, _⟩ := h
  rcases x1.2 with ⟨hv, h0⟩ | ⟨g, cap, cur, hv, _, hg, hnc, hcm, hcs, htake⟩
  · exact .inl ⟨hv, h0⟩
  · refine .inr ⟨⟨g, 0, none⟩, cap, hv, hnc, hcm, (Array.getElem?_eq_some_iff.1 hg).1, rfl, fun j d hd => ?_⟩
    obtain ⟨u, g1, g2⟩ := x4 j d (by omega) hd
    refine ⟨u, x1.cells (g := g) (by rw [hv]; rfl) j u g1, x2 u (List.mem_of_getElem? g1), ?_⟩
    cases d with
    | int k n => exact g2
    | bytes k l => exact own_rd g2
    | bools l => exact ownb_rdv g2
    | bool b => exact g2
    | str s => exact g2

end Go.Gw
