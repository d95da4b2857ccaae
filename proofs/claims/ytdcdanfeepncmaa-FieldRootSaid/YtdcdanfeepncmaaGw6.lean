/- The walk's engine, part 6: struct literals; the whole step. -/
import Derived.Test.YtdcdanfeepncmaaGw5
namespace Go.Gw
open Go.RowKit

variable {P : Program} {T : TypeId → Option TD} {B N : Nat} {w0 : World} {γ : Nat → Value} {σ : Stt} {a : Act} {w : World}

theorem fillF_run (I : Inv B N w0 γ σ a w) (pl : List (Nat × Nat)) : ∀ (ps : List (Nat × Operand)) (acc l : List Leaf), (∀ x ∈ acc, x.ok) → fillF ps (evalS σ) pl acc = some l →
    Instr.fill (pl.toArray[·]?) (cellsL γ acc).toArray (ps.map fun p => (p.1, a.eval p.2)) = some (cellsL γ l).toArray ∧ ∀ x ∈ l, x.ok
  | [], acc, l, ha, h => by
    simp only [fillF, Option.some.injEq] at h
    subst h
    exact ⟨rfl, ha⟩
  | (i, x) :: r, acc, l, ha, h => by
    simp only [fillF] at h
    split at h
    · rename_i off sz y hp hx
      split at h
      · cases h
      · cases h
      · rename_i yy _ _ z hza hz hya
        cases hs : Nat.beq sz 1 with
        | false => simp [hs] at h
        | true =>
          simp only [hs, cond_true] at h
          have hsz := Nat.eq_of_beq_eq_true hs
          subst hsz
          obtain ⟨m, r', e1, e2, e3⟩ := leafAt_spec acc off z hz
          have hv := I.eval hx
          have hyl : yy.lone := hv.2.2
          have hzl : z.lone := by cases z <;> first | trivial | exact (hza _ _ _ rfl).elim
          subst e1
          have okm : ∀ x ∈ m, x.ok := fun x hx => ha x (by simp [hx])
          have ok2 : ∀ x ∈ setLeaf (m ++ z :: r') off yy, x.ok := fun u hu => by
            rw [e3 yy] at hu
            simp only [List.mem_append, List.mem_cons] at hu
            rcases hu with hu | rfl | hu
            · exact okm u hu
            · exact hv.2.1
            · exact ha u (by simp [hu])
          obtain ⟨h1, h2⟩ := fillF_run I pl r _ l ok2 h
          refine ⟨?_, h2⟩
          have hc := cells_of_oneCell (lone_den I.cell1 hyl)
          have e : a.eval x = (yy.cells γ).headD undef := hv.1
          simp only [List.map_cons, e]
          rw [cellsL_append, cellsL_cons, lone_cells hzl]
          rw [fill_one (pl.toArray[·]?) (off := off) (sz := 1) (by simpa using hp) _ _ _ _ _ (by rw [cellsL_len okm, e2]) rfl (by rw [hc]; rfl)]
          rw [e3 yy, cellsL_append, cellsL_cons, lone_cells hyl] at h1
          rw [hc]
          exact h1
      · cases h
    · rename_i off sz m hp hx
      split at h
      · rename_i pre r' h1
        split at h
        · rename_i mid post m1 h2 h3
          obtain ⟨e1, e2⟩ := takeL_spec _ _ _ _ h1
          obtain ⟨e3, e4⟩ := takeL_spec _ _ _ _ h2
          obtain ⟨e5, e6⟩ := takeL_spec _ _ _ _ h3
          rw [List.append_nil] at e5
          subst e5; subst e3; subst e1
          have hv := I.eval hx
          have okm : ∀ x ∈ m, x.ok := hv.2
          have okp : ∀ x ∈ pre, x.ok := fun x hx => ha x (by simp [hx])
          have okd : ∀ x ∈ mid, x.ok := fun x hx => ha x (by simp [hx])
          obtain ⟨g1, g2⟩ := fillF_run I pl r _ l (fun u hu => by
            simp only [List.mem_append] at hu
            rcases hu with hu | hu | hu
            · exact okp u hu
            · exact okm u hu
            · exact ha u (by simp [hu])) h
          refine ⟨?_, g2⟩
          have e : a.eval x = .agg (cellsL γ m).toArray := hv.1
          simp only [List.map_cons, e]
          rw [cellsL_append, cellsL_append]
          rw [fill_one (pl.toArray[·]?) (off := off) (sz := sz) (by simpa using hp) _ _ _ _ _ (by rw [cellsL_len okp, e2]) (by rw [cellsL_len okd, e4]) (by simp [Value.cells, cellsL_len okm, e6])]
          rw [cellsL_append, cellsL_append] at g1
          exact g1
        · cases h
      · cases h
    · cases h

theorem mapM_get : ∀ {fs : List Field} {offs : List (Nat × Nat)}, fs.mapM (fun f => (P.info? f.type).map fun i => (f.offset, i.size)) = some offs → ∀ (f : Nat) {oo os : Nat}, offs[f]? = some (oo, os) →
    ∃ fl, fs[f]? = some fl ∧ ∃ i, P.info? fl.type = some i ∧ fl.offset = oo ∧ i.size = os
  | [], offs, h, f, oo, os, ho => by simp at h; subst h; simp at ho
  | g :: fs, offs, h, f, oo, os, ho => by
    simp only [List.mapM_cons, Option.bind_eq_bind, Option.pure_def] at h
    cases hi : P.info? g.type with
    | none => simp [hi] at h
    | some i =>
      cases hr : fs.mapM (fun f => (P.info? f.type).map fun i => (f.offset, i.size)) with
      | none => simp [hi, hr] at h
      | some rest =>
        simp [hi, hr] at h
        subst h
        cases f with
        | zero => simp at ho; exact ⟨g, rfl, i, hi, ho.1, ho.2⟩
        | succ f =>
          obtain ⟨fl, h1, h2⟩ := mapM_get hr f (by simpa using ho)
          exact ⟨fl, by simpa using h1, h2⟩

def Fresh (hint : Hint) (σ : Stt) : Prop :=
  match hint with
  | .key κ => NoKey κ σ
  | .call _ news => ∀ p ∈ news, NoKey p.1 σ
  | _ => True

theorem argsS_den (I : Inv B N w0 γ σ a w) : ∀ (xs : List Operand) (l : List SV), argsS σ xs = some l → xs.map a.eval = l.map (SV.den γ) ∧ ∀ x ∈ l, x.ok
  | [], l, h => by simp only [argsS, Option.some.injEq] at h; subst h; simp
  | x :: r, l, h => by
    simp only [argsS] at h
    split at h
    · rename_i v l' h1 h2
      simp only [Option.some.injEq] at h
      subst h
      obtain ⟨e1, e2⟩ := argsS_den I r l' h2
      have := I.eval h1
      refine ⟨by simp [e1, this.1], fun y hy => ?_⟩
      rcases List.mem_cons.1 hy with rfl | hy
      · exact this.2
      · exact e2 y hy
    · cases h

theorem preOf_at (I : Inv B N w0 γ σ a w) : ∀ (ks : List Nat), ∀ p ∈ preOf σ ks, p.2.at B γ w p.1
  | [], p, hp => by simp [preOf] at hp
  | κ :: r, p, hp => by
    simp only [preOf] at hp
    split at hp
    · rename_i e he
      rcases List.mem_cons.1 hp with rfl | hp
      · exact (I.key he).2
      · exact preOf_at I r p hp
    · exact preOf_at I r p hp

theorem RunOk.of_eq {s s' : Sem Next} {post : Value → World → Prop} (h : s = s') (hr : RunOk P s' w post) : RunOk P s w post := h ▸ hr

/-- **One operation.** -/
theorem step_sound (hT : TOk P T) (I : Inv B N w0 γ σ a w) {hint : Hint} {o : Oper} {eff : Eff} (hf : Fresh hint σ) (h : stepS P T σ hint o.op = some eff) (hn : eff.need) :
    RunOk P (execOp a.eval o) w (Post B N w0 σ a eff) := by
  have val : ∀ (v : SV), v.ok → Post B N w0 σ a ⟨some v, [], []⟩ (v.den γ) w := fun v hv => ⟨γ, rfl, hv, I⟩
  obtain ⟨dst, op, ty, pos, after, guard⟩ := o
  unfold stepS at h
  split at h
  · -- move
    rename_i x heq
    simp only at heq
    subst heq
    refine decB_run h hn fun eff' h' hn' => ?_
    cases hx : evalS σ x with
    | none => simp [hx] at h'
    | some v =>
      simp only [hx, Option.bind_some, pureE, Option.some.injEq] at h'
      subst h'
      have := I.eval hx
      exact RunOk.pureV (by rw [this.1]; exact val v this.2)
  · -- assign
    rename_i x heq
    simp only at heq
    subst heq
    refine decB_run h hn fun eff' h' hn' => ?_
    cases hx : evalS σ x with
    | none => simp [hx] at h'
    | some v =>
      simp only [hx, Option.bind_some, pureE, Option.some.injEq] at h'
      subst h'
      have := I.eval hx
      exact RunOk.pureV (by rw [this.1]; exact val v this.2)
  · -- pick
    rename_i c x y heq
    simp only at heq
    subst heq
    split at h
    · rename_i hc
      have ec : a.eval c = .bool true := (I.eval hc).1
      refine decB_run h hn fun eff' h' hn' => ?_
      cases hx : evalS σ x with
      | none => simp [hx] at h'
      | some v =>
        simp only [hx, Option.bind_some, pureE, Option.some.injEq] at h'
        subst h'
        have := I.eval hx
        have hp := val v this.2
        rw [← this.1] at hp
        simpa [execOp, ec, asBool, RunOk] using hp
    · rename_i hc
      have ec : a.eval c = .bool false := (I.eval hc).1
      refine decB_run h hn fun eff' h' hn' => ?_
      cases hx : evalS σ y with
      | none => simp [hx] at h'
      | some v =>
        simp only [hx, Option.bind_some, pureE, Option.some.injEq] at h'
        subst h'
        have := I.eval hx
        have hp := val v this.2
        rw [← this.1] at hp
        simpa [execOp, ec, asBool, RunOk] using hp
    · cases h
  · -- extract
    rename_i t i heq
    simp only at heq
    subst heq
    split at h
    · rename_i l ht
      refine decB_run h hn fun eff' h' hn' => ?_
      cases hx : l[i]? with
      | none => simp [hx] at h'
      | some v =>
        simp only [hx, Option.bind_some, pureE, Option.some.injEq] at h'
        subst h'
        have := I.eval ht
        have e : a.eval t = .tuple (l.map (V1.den γ)).toArray := this.1
        have hok : v.ok := this.2 v (List.mem_of_getElem? hx)
        have hp := val (.v v) hok
        have hr : (Instr.extract (a.eval t) i).run P w = .ok (v.den γ) w := by simp [e, Instr.extract, hx]
        exact runOk_v hr hp
    · cases h
  · -- convert
    rename_i src dst' x heq
    simp only at heq
    subst heq
    split at h
    · rename_i k0 k k1 n hs hd hx
      simp only [pureE, Option.some.injEq] at h
      subst h
      have e : a.eval x = .int k1 n := (I.eval hx).1
      have hr : (convert src dst' (a.eval x)).run P w = .ok (.int k (k.wrap n)) w := by
        rw [e]
        simp [convert, run_underlying (hT _ _ hs).1, run_underlying (hT _ _ hd).1, Conv.intToInt]
      exact runOk_v hr (val (int1 k (k.wrap n)) ⟨trivial, trivial⟩)
    · cases h
  · -- binOp
    rename_i op' t x y yt heq
    simp only at heq
    subst heq
    split at h
    · rename_i u v hx hy
      refine decB_run h hn fun eff' h' hn' => ?_
      have ex := I.eval hx
      have ey := I.eval hy
      obtain ⟨r, h1, h2, h3, h4⟩ := bin_run (P := P) (w := w) (γ := γ) hT ex.2 ey.2 h' hn' x y
      rw [← ex.1, ← ey.1] at h4
      obtain ⟨ev, ew, en⟩ := eff'
      simp only at h1 h2
      subst h1; subst h2
      exact runOk_v h4 ⟨γ, rfl, h3, I⟩
    · cases h
  · -- unOp
    rename_i op' t x heq
    simp only at heq
    subst heq
    cases hx : evalS σ x with
    | none => simp [hx] at h
    | some u =>
      simp only [hx, Option.bind_some] at h
      refine decB_run h hn fun eff' h' hn' => ?_
      have ex := I.eval hx
      obtain ⟨r, h1, h2, h3, h4⟩ := un_run (P := P) (w := w) (γ := γ) h'
      rw [← ex.1] at h4
      obtain ⟨ev, ew, en⟩ := eff'
      simp only at h1 h2
      subst h1; subst h2
      exact runOk_v h4 ⟨γ, rfl, h3, I⟩
  · -- index
    rename_i t x i heq
    simp only at heq
    subst heq
    split at h
    · rename_i n e k k' n' l kj j hd hx hi
      cases hc : (keq k k' && Nat.beq n n') with
      | false => simp [hc] at h
      | true =>
        simp only [hc, cond_true, needE, Option.some.injEq] at h
        subst h
        simp only [Bool.and_eq_true] at hc
        obtain rfl := keq_eq hc.1
        obtain rfl := Nat.eq_of_beq_eq_true hc.2
        obtain ⟨h0, h1⟩ : 0 ≤ j ∧ j < n := hn
        have ex := I.eval hx
        have hl : l.length = n := ex.2 (.arr k n l) (by simp)
        have e1 : a.eval x = .agg (l.map (Value.int k)).toArray := by rw [ex.1]; simp [SV.den, V1.den, cellsL, Leaf.cells]
        have e2 : a.eval i = .int kj j := (I.eval hi).1
        obtain ⟨t1, t2, t3, t4, t5⟩ := hT t _ hd
        have hr : (Instr.index t (a.eval x) (a.eval i)).run P w = .ok (.int k (l.getD j.toNat 0)) w := by
          rw [e1, e2]
          have : j.toNat < l.length := by omega
          simp [Instr.index, asIntOf, run_underlying t1, h0, h1, size_run t4, part, isAgg, run_underlying t2, List.getD, this]
        exact runOk_v hr ⟨γ, rfl, ⟨trivial, trivial⟩, I⟩
    · cases h
  · -- alloc
    rename_i t heq
    simp only at heq
    subst heq
    have go : ∀ (κ : Nat) (l : List Leaf), hint = .key κ → (∀ x ∈ l, x.ok) → (∀ x ∈ l, x.keys = []) → (∀ w, (zeroValue t).run P w = .ok (.agg (cellsL γ l).toArray) w ∨ ∃ v, (zeroValue t).run P w = .ok v w ∧ v.cells = (cellsL γ l).toArray) →
        RunOk P (execOp a.eval ⟨dst, .alloc t, ty, pos, after, guard⟩) w (Post B N w0 σ a ⟨some (.v (.one (.ptr κ 0))), [(κ, .blk t l)], []⟩) := by
      intro κ l hh hok hk hz
      subst hh
      have hz' : ∃ v, (zeroValue t).run P w = .ok v w ∧ v.cells = (cellsL γ l).toArray := by
        rcases hz w with h | h
        · exact ⟨_, h, rfl⟩
        · exact h
      obtain ⟨v, hz1, hz2⟩ := hz'
      have hr : (Instr.alloc t true (.tuple #[])).run P w = .ok (.pointer (some ⟨w.heap.size, 0, none⟩)) (w.alloc (.cells (cellsL γ l).toArray t)) := by
        simp [Instr.alloc, hz1, newVar, newRow, hz2]
      refine runOk_v hr ⟨_, ?_, ⟨trivial, trivial⟩, I.alloc hf hok fun x hx => by simp [hk x hx]⟩
      simp [SV.den, V1.den, Leaf.cells, bk]
    split at h
    · rename_i κ k hd
      simp only [Option.some.injEq] at h
      subst h
      exact go κ _ rfl (by simp [Leaf.ok]) (by simp [Leaf.keys]) fun w => .inr ⟨_, (info_run (hT t _ hd).2 w).2, rfl⟩
    · rename_i κ hd
      simp only [Option.some.injEq] at h
      subst h
      exact go κ _ rfl (by simp [Leaf.ok]) (by simp [Leaf.keys]) fun w => .inr ⟨_, (info_run (hT t _ hd).2 w).2, rfl⟩
    · rename_i κ n e k hd
      simp only [Option.some.injEq] at h
      subst h
      exact go κ _ rfl (by simp [Leaf.ok]) (by simp [Leaf.keys]) fun w => .inl (by rw [(info_run (hT t _ hd).2.2.1 w).2]; simp [cellsL, Leaf.cells])
    · rename_i κ n o z hd
      simp only [Option.some.injEq] at h
      subst h
      obtain ⟨fs, h1, h2, h3, h4, h5⟩ := hT t _ hd
      exact go κ _ rfl (fun x hx => (h5 x hx).1) (fun x hx => (h5 x hx).2) fun w => .inl (info_run (h3 γ) w).2
    · cases h
  · -- box
    rename_i t x heq
    simp only at heq
    subst heq
    have go : ∀ (κ : Nat) (l : List Leaf) (v : Value), hint = .key κ → a.eval x = v → v.cells = (cellsL γ l).toArray → (∀ x ∈ l, x.ok) → (∀ x ∈ l, κ ∉ x.keys) →
        RunOk P (execOp a.eval ⟨dst, .box t x, ty, pos, after, guard⟩) w (Post B N w0 σ a ⟨some (.v (.one (.ptr κ 0))), [(κ, .blk t l)], []⟩) := by
      intro κ l v hh hv hc hok hk
      subst hh
      have hr : (Instr.box t (a.eval x)).run P w = .ok (.pointer (some ⟨w.heap.size, 0, none⟩)) (w.alloc (.cells (cellsL γ l).toArray t)) := by
        simp [Instr.box, hv, newVar, newRow, hc]
      refine runOk_v hr ⟨_, ?_, ⟨trivial, trivial⟩, I.alloc hf hok hk⟩
      simp [SV.den, V1.den, Leaf.cells, bk]
    split at h
    · rename_i κ l hx
      simp only [Option.some.injEq] at h
      subst h
      have ex := I.eval hx
      refine go κ l _ rfl ex.1 rfl ex.2 fun y hy hy' => ?_
      have := evalS_keys hx hf
      simp only [SV.keys, V1.keys, List.mem_flatMap, not_exists, not_and, lk_eq] at this
      exact this y hy hy'
    · rename_i κ y hx
      simp only [Option.some.injEq] at h
      subst h
      have ex := I.eval hx
      have hyl : y.lone := ex.2.2
      refine go κ [y] _ rfl ex.1 ?_ (by simpa using ex.2.1) fun z hz hz' => ?_
      · rw [show (SV.v (V1.one y)).den γ = (y.cells γ).headD undef from rfl, cells_of_oneCell (lone_den I.cell1 hyl)]
        simp only [cellsL, List.flatMap_cons, List.flatMap_nil, List.append_nil]
        conv => rhs; rw [lone_cells hyl]
      · simp only [List.mem_singleton] at hz
        subst hz
        have := evalS_keys hx hf
        simp only [SV.keys, V1.keys, lk_eq] at this
        exact this hz'
    · cases h
  · -- build
    rename_i t ps heq
    simp only at heq
    subst heq
    split at h
    · rename_i n e k hd
      cases hall : ps.toList.all fun p => decide (p.1 < n) with
      | false => simp [hall] at h
      | true =>
      simp only [hall, cond_true] at h
      cases hfi : fillI k ps.toList (evalS σ) (List.replicate n 0) with
      | none => simp [hfi] at h
      | some l =>
        simp only [hfi, Option.bind_some, pureE, Option.some.injEq] at h
        subst h
        obtain ⟨t1, t2, t3, t4, t5⟩ := hT t _ hd
        obtain ⟨g1, g2⟩ := fillI_run I n ps.toList (List.replicate n 0) l (by simp) (by
          intro p hp
          simp only [List.all_eq_true, decide_eq_true_eq] at hall
          exact hall p hp) hfi
        have hb : P.built t (ps.map fun p => (p.1, a.eval p.2)).toList = some (l.map (Value.int k)).toArray := by
          cases hq : P.info? t with
          | none => simp [hq] at t3
          | some i =>
            cases hq2 : P.info? e with
            | none => simp [hq2] at t4
            | some ie =>
              simp only [hq, Option.map_some, Option.some.injEq, Prod.mk.injEq] at t3
              simp only [hq2, Option.map_some, Option.some.injEq] at t4
              simp only [Program.built, hq, t1, t3.2, hq2, t4, Value.cells]
              simpa using g1
        have hr := run_build (P := P) w t _ _ hb
        refine runOk_v (v := .agg (l.map (Value.int k)).toArray) hr ⟨γ, by simp [SV.den, V1.den, cellsL, Leaf.cells], by intro x hx; simp only [List.mem_singleton] at hx; subst hx; exact g2, I⟩
    · rename_i n offs z hd
      cases hfi : fillF ps.toList (evalS σ) offs z with
      | none => simp [hfi] at h
      | some l =>
        simp only [hfi, Option.bind_some, pureE, Option.some.injEq] at h
        subst h
        obtain ⟨fs, t1, t2, t3, t4, t5⟩ := hT t _ hd
        obtain ⟨g1, g2⟩ := fillF_run I offs ps.toList z l (fun x hx => (t5 x hx).1) hfi
        have hb : P.built t (ps.map fun p => (p.1, a.eval p.2)).toList = some (cellsL γ l).toArray := by
          have hi := t3 γ
          cases hq : P.info? t with
          | none => simp [hq] at hi
          | some i =>
            simp only [hq, Option.map_some, Option.some.injEq, Prod.mk.injEq] at hi
            simp only [Program.built, hq, t1, hi.2, t2, Value.cells]
            simpa using g1
        have hr := run_build (P := P) w t _ _ hb
        exact runOk_v hr ⟨γ, rfl, g2, I⟩
    · cases h
  · -- load
    rename_i t x heq
    simp only at heq
    subst heq
    cases hx : evalS σ x with
    | none => simp [hx] at h
    | some u =>
      simp only [hx, Option.bind_some] at h
      refine decB_run h hn fun eff' h' hn' => ?_
      have ex := I.eval hx
      obtain ⟨r, h1, h2, h3, h4⟩ := load_run hT I ex.2 h' hn'
      rw [← ex.1] at h4
      obtain ⟨ev, ew, en⟩ := eff'
      simp only at h1 h2
      subst h1; subst h2
      exact runOk_v h4 ⟨γ, rfl, h3, I⟩
  · -- store
    rename_i t x y heq
    simp only at heq
    subst heq
    split at h
    · rename_i u v hx hy
      have ex := I.eval hx
      have ey := I.eval hy
      obtain ⟨w', h1, h2, h3⟩ := store_run hT I ex.2 ey.2 h
      rw [← ex.1, ← ey.1] at h2
      obtain ⟨ev, ew, en⟩ := eff
      simp only at h1
      subst h1
      exact runOk_u h2 ⟨γ, rfl, by intro x hx; simp at hx, h3⟩
    · cases h
  · -- fieldAddr
    rename_i t x f heq
    simp only at heq
    subst heq
    split at h
    · rename_i n offs z κ off hd hx
      cases hof : offs[f]? with
      | none => simp [hof] at h
      | some o =>
        obtain ⟨oo, os⟩ := o
        simp only [hof, Option.bind_some] at h
        cases hs : Nat.ble 1 os with
        | false => simp [hs] at h
        | true =>
          simp only [hs, cond_true, pureE, Option.some.injEq] at h
          subst h
          obtain ⟨fs, t1, t2, _⟩ := hT t _ hd
          obtain ⟨fl, hfl, i, hi1, hi2, hi3⟩ := mapM_get t2 f hof
          have e1 : a.eval x = .pointer (some ⟨bk γ κ, off, none⟩) := (I.eval hx).1
          have hsz : i.size ≠ 0 := by have := Nat.le_of_ble_eq_true hs; omega
          have hr : (Instr.fieldAt t (a.eval x) f).run P w = .ok (.pointer (some ⟨bk γ κ, off + oo, none⟩)) w := by
            rw [e1]
            have hfl' : fs[f]? = some fl := by simpa using hfl
            simp [Instr.fieldAt, run_underlying t1, hfl', Instr.sureAddr, fieldPlace, size_run (P := P) (t := fl.type) (n := i.size) (by simp [hi1]), hsz, add_none, hi2]
          exact runOk_v hr ⟨γ, rfl, ⟨trivial, trivial⟩, I⟩
    · cases h
  · -- indexAddr
    rename_i t x i heq
    simp only at heq
    subst heq
    split at h
    · rename_i n e k κ off kj j hd hx hi
      simp only [needE, Option.some.injEq] at h
      subst h
      obtain ⟨h0, h1⟩ : 0 ≤ j ∧ j < n := hn
      have e1 : a.eval x = .pointer (some ⟨bk γ κ, off, none⟩) := (I.eval hx).1
      have e2 : a.eval i = .int kj j := (I.eval hi).1
      obtain ⟨t1, t2, t3, t4, t5⟩ := hT t _ hd
      have hr : (Instr.indexAt t (a.eval x) (a.eval i)).run P w = .ok (.pointer (some ⟨bk γ κ, off + j.toNat, none⟩)) w := by
        rw [e1, e2]
        simp [Instr.indexAt, asIntOf, run_underlying t1, Instr.sureAddr, h0, h1, size_run t4, add_none]
      exact runOk_v hr ⟨γ, rfl, ⟨⟨h0, h1⟩, trivial⟩, I⟩
    · rename_i e k κ kj j hd hx hi
      have go : ∀ (k : IntKind) (l : List Int), RdI w (γ κ) k l → 0 ≤ j → j < l.length → (Instr.indexAt t (a.eval x) (a.eval i)).run P w = .ok (elemV (γ κ) j.toNat) w := by
        intro k l hr h0 h1
        have e1 : a.eval x = γ κ := (I.eval hx).1
        have e2 : a.eval i = .int kj j := (I.eval hi).1
        obtain ⟨t1, t2, t3, t4⟩ := hT t _ hd
        rcases hr with ⟨_, rfl⟩ | ⟨ad, cap, hv, _⟩
        · simp at h1; omega
        · rw [e1, e2, hv]
          simp [Instr.indexAt, asIntOf, run_underlying t1, h0, h1, size_run t3, elemV]
      split at h
      · rename_i k l hk
        simp only [needE, Option.some.injEq] at h
        subst h
        exact runOk_v (go k l (I.key hk).2 hn.1 hn.2) ⟨γ, rfl, ⟨hn.1, trivial⟩, I⟩
      · rename_i e' k l hk
        simp only [needE, Option.some.injEq] at h
        subst h
        exact runOk_v (go k l (own_rd (I.key hk).2) hn.1 hn.2) ⟨γ, rfl, ⟨hn.1, trivial⟩, I⟩
      · cases h
    · cases h
  · -- slice
    rename_i t x lo hi heq
    simp only at heq
    subst heq
    split at h
    · rename_i n e k κ off l0 h0 hd hx hlo hhi
      split at h
      · rename_i l1 h1 hb1 hb2
        simp only [needE, Option.some.injEq] at h
        subst h
        obtain ⟨c1, c2, c3⟩ : 0 ≤ l1 ∧ l1 ≤ h1 ∧ h1 ≤ n := hn
        have e1 : a.eval x = .pointer (some ⟨bk γ κ, off, none⟩) := (I.eval hx).1
        obtain ⟨t1, t2, t3, t4, t5⟩ := hT t _ hd
        have elo : ∀ (o : Option Operand) (s : Option SV) (d m : Int), optS σ o = some s → sliceBd s d = some m → (o = none ∧ m = d) ∨ ∃ y kk, o = some y ∧ a.eval y = .int kk m := by
          intro o s d m g1 g2
          cases o with
          | none => simp only [optS, Option.some.injEq] at g1; subst g1; simp [sliceBd] at g2; exact .inl ⟨rfl, g2.symm⟩
          | some y =>
            simp only [optS, Option.map_eq_some_iff] at g1
            obtain ⟨u, g3, g4⟩ := g1
            subst g4
            unfold sliceBd at g2
            split at g2
            · rename_i hh; cases hh
            · rename_i kk m' hh
              simp only [Option.some.injEq] at g2 hh
              subst g2; subst hh
              exact .inr ⟨y, kk, rfl, (I.eval g3).1⟩
            · cases g2
        have hr : (Instr.sliceAt t (a.eval x) (lo.map a.eval) (hi.map a.eval) none).run P w =
            .ok (.slice (some ⟨bk γ κ, if n = l1.toNat then off else off + l1.toNat, none⟩) (h1.toNat - l1.toNat) (n - l1.toNat)) w := by
          rw [e1]
          have fin : (if n = l1.toNat then (⟨bk γ κ, off, none⟩ : Addr) else ⟨bk γ κ, off + l1.toNat, none⟩) = ⟨bk γ κ, if n = l1.toNat then off else off + l1.toNat, none⟩ := by split <;> rfl
          rcases elo lo l0 0 l1 hlo hb1 with ⟨r1, r2⟩ | ⟨y, kk, r1, r2⟩ <;> rcases elo hi h0 n h1 hhi hb2 with ⟨r3, r4⟩ | ⟨y', kk', r3, r4⟩
          · subst r1; subst r3; subst r2; subst r4
            simp [Instr.sliceAt, run_underlying t1, Instr.sureAddr, Instr.sliceBounds, size_run t4, add_none]
          · subst r1; subst r3; subst r2
            have q1 : 0 ≤ h1 := by omega
            simp [Instr.sliceAt, run_underlying t1, Instr.sureAddr, Instr.sliceBounds, r4, run_sliceBound_if, q1, c3, size_run t4, add_none]
          · subst r1; subst r3; subst r4
            simp [Instr.sliceAt, run_underlying t1, Instr.sureAddr, Instr.sliceBounds, r2, run_sliceBound_if, c1, c2, size_run t4, add_none, fin]
          · subst r1; subst r3
            have q1 : 0 ≤ h1 := by omega
            simp [Instr.sliceAt, run_underlying t1, Instr.sureAddr, Instr.sliceBounds, r2, r4, run_sliceBound_if, q1, c3, c1, c2, Int.max_eq_left q1, size_run t4, add_none, fin]
        exact runOk_v hr ⟨γ, rfl, ⟨⟨c1, c2, c3⟩, trivial⟩, I⟩
      · cases h
    · cases h
  · -- len
    rename_i args ats heq
    simp only at heq
    subst heq
    have hex : execOp a.eval ⟨dst, .call ⟨.builtin .len, args, ats⟩, ty, pos, after, guard⟩ = (do pure (.value (← Builtin.len_ ats ty (args.map a.eval)))) := rfl
    rw [hex]
    split at h
    · rename_i n e k _ ht hx
      simp only [pureE, Option.some.injEq] at h
      subst h
      cases ht0 : ats[0]? with
      | none => simp [ht0] at ht
      | some t =>
        simp only [ht0, Option.bind_some] at ht
        cases ha0 : args[0]? with
        | none => simp [ha0] at hx
        | some x =>
          have hr : (Builtin.len_ ats ty (args.map a.eval)).run P w = .ok (.int .i64 n) w := by
            simp [Builtin.len_, ht0, ha0, run_underlying (hT t _ ht).1, goInt]
          exact runOk_v hr (val (int1 .i64 n) ⟨trivial, trivial⟩)
    · rename_i e k κ ht hx
      cases ht0 : ats[0]? with
      | none => simp [ht0] at ht
      | some t =>
        simp only [ht0, Option.bind_some] at ht
        cases ha0 : args[0]? with
        | none => simp [ha0] at hx
        | some x =>
          simp only [ha0, Option.bind_some] at hx
          have e1 : a.eval x = γ κ := (I.eval hx).1
          have go : ∀ (k : IntKind) (l : List Int), RdI w (γ κ) k l → (Builtin.len_ ats ty (args.map a.eval)).run P w = .ok (.int .i64 l.length) w := by
            intro k l hr
            rcases hr with ⟨hv, rfl⟩ | ⟨ad, cap, hv, _⟩
            · simp [Builtin.len_, ht0, ha0, run_underlying (hT t _ ht).1, goInt, e1, hv]
            · simp [Builtin.len_, ht0, ha0, run_underlying (hT t _ ht).1, goInt, e1, hv]
          split at h
          · rename_i k l hk
            simp only [pureE, Option.some.injEq] at h
            subst h
            exact runOk_v (go k l (I.key hk).2) (val (int1 .i64 l.length) ⟨trivial, trivial⟩)
          · rename_i e' k l hk
            simp only [pureE, Option.some.injEq] at h
            subst h
            exact runOk_v (go k l (own_rd (I.key hk).2)) (val (int1 .i64 l.length) ⟨trivial, trivial⟩)
          · cases h
    · cases h
  · -- max
    rename_i args ats heq
    simp only at heq
    subst heq
    have hex : execOp a.eval ⟨dst, .call ⟨.builtin .max, args, ats⟩, ty, pos, after, guard⟩ = (do pure (.value (← Builtin.max_ ats ty (args.map a.eval)))) := rfl
    rw [hex]
    split at h
    · rename_i k x k' y hx hy
      cases hc : (keq k k' && Nat.beq args.size 2) with
      | false => simp [hc] at h
      | true =>
        simp only [hc, cond_true, pureE, Option.some.injEq] at h
        subst h
        simp only [Bool.and_eq_true] at hc
        have hsz := Nat.eq_of_beq_eq_true hc.2
        obtain ⟨u, v, rfl⟩ : ∃ u v, args = #[u, v] := by
          match args, hsz with
          | ⟨[u, v]⟩, _ => exact ⟨u, v, rfl⟩
        simp only [List.getElem?_toArray, List.getElem?_cons_zero, List.getElem?_cons_succ, Option.bind_some] at hx hy
        have e1 : a.eval u = .int k x := (I.eval hx).1
        have e2 : a.eval v = .int k' y := (I.eval hy).1
        have hr : (Builtin.max_ ats ty ((#[u, v] : Array Operand).map a.eval)).run P w = .ok (.int k (if y > x then y else x)) w := by
          simp [Builtin.max_, e1, e2, Builtin.max2]
        exact runOk_v hr (val (int1 k (if y > x then y else x)) ⟨trivial, trivial⟩)
    · cases h
  · -- min
    rename_i args ats heq
    simp only at heq
    subst heq
    have hex : execOp a.eval ⟨dst, .call ⟨.builtin .min, args, ats⟩, ty, pos, after, guard⟩ = (do pure (.value (← Builtin.min_ ats ty (args.map a.eval)))) := rfl
    rw [hex]
    split at h
    · rename_i k x k' y hx hy
      cases hc : (keq k k' && Nat.beq args.size 2) with
      | false => simp [hc] at h
      | true =>
        simp only [hc, cond_true, pureE, Option.some.injEq] at h
        subst h
        simp only [Bool.and_eq_true] at hc
        have hsz := Nat.eq_of_beq_eq_true hc.2
        obtain ⟨u, v, rfl⟩ : ∃ u v, args = #[u, v] := by
          match args, hsz with
          | ⟨[u, v]⟩, _ => exact ⟨u, v, rfl⟩
        simp only [List.getElem?_toArray, List.getElem?_cons_zero, List.getElem?_cons_succ, Option.bind_some] at hx hy
        have e1 : a.eval u = .int k x := (I.eval hx).1
        have e2 : a.eval v = .int k' y := (I.eval hy).1
        have hr : (Builtin.min_ ats ty ((#[u, v] : Array Operand).map a.eval)).run P w = .ok (.int k (if y < x then y else x)) w := by
          simp [Builtin.min_, e1, e2, Builtin.min2]
        exact runOk_v hr (val (int1 k (if y < x then y else x)) ⟨trivial, trivial⟩)
    · cases h
  · -- call
    rename_i c args ats heq
    simp only at heq
    subst heq
    split at h
    · rename_i res news f hc
      simp only [callS] at h
      split at h
      · rename_i l hl
        simp only [Option.some.injEq] at h
        subst h
        have ec : a.eval c = .func (.func f) #[] #[] := (I.eval hc).1
        obtain ⟨e1, e2⟩ := argsS_den I _ _ hl
        have e3 : args.map a.eval = (l.map (SV.den γ)).toArray := by rw [← e1, ← List.map_toArray, Array.toArray_toList]
        have := hn B γ w (preOf_at I _) e2 I.base I.cell1
        rw [← e3] at this
        have hex : execOp a.eval ⟨dst, .call ⟨.value c, args, ats⟩, ty, pos, after, guard⟩ = (do let d ← resolve a.eval ⟨.value c, args, ats⟩ ty; invoke d.target d.args) := rfl
        rw [hex]
        unfold RunOk at this ⊢
        simp only [resolve, ec, Deferred.ofValue, Sem.run_bind, Sem.run_pure, Result.andThen_ok, invoke, Array.empty_append, Array.append_empty]
        have fin : ∀ v w', (∃ γ' : Nat → Value, (∀ κ, (∀ p ∈ news, p.1 ≠ κ) → γ' κ = γ κ) ∧ (∀ κ, (γ' κ).oneCell' = true) ∧ v = res.den γ' ∧ res.ok ∧ Below w.heap.size w w' ∧
            (∀ p ∈ news, p.2.at w.heap.size γ' w' p.1 ∧ ∀ b, blkO (γ' p.1) = some b → w.heap.size ≤ b) ∧ (∀ p ∈ news, ∀ q ∈ news, p.1 ≠ q.1 → ∀ b, blkO (γ' p.1) = some b → blkO (γ' q.1) ≠ some b)) →
            Post B N w0 σ a ⟨some res, news, [CallOk P f l (preOf σ (l.flatMap SV.keys)) res news]⟩ v w' := by
          rintro v w' ⟨γ', g1, g2, g3, g4, g5, g6, g7⟩
          exact ⟨γ', g3, g4, I.news hf g1 g2 g5 g6 g7⟩
        generalize (callFunc f (args.map a.eval)).run P w = r at this ⊢
        cases r with
        | ok x w' =>
          cases x <;> first
            | exact fin _ _ this
            | exact Calls.mono this fun e w'' ⟨v, h1, h2⟩ => ⟨v, h1, fin _ _ h2⟩
            | exact this
        | halt x w' => exact this
      · cases h
    · cases h
  · cases h

end Go.Gw
