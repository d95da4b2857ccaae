/- The walk's engine, part 10: pieces of code, and whole functions. -/
import Derived.Test.YtdcdanfeepncmaaGw9
namespace Go.Gw
open Go.RowKit

/-- The frame and the world are as 'σ' says. -/
def At (B N : Nat) (w0 : World) (σ : SS) (a : Act) (w : World) : Prop := ∃ γ, Inv B N w0 γ (look σ) a w

abbrev Qt := Exit → Act → World → Prop

def Tr (P : Program) (B N : Nat) (w0 : World) (c : Code) (σ : SS) (Q : Qt) : Prop := ∀ a w, At B N w0 σ a w → c.wp P Q a w
def TrR (P : Program) (B N : Nat) (w0 : World) (n : Nat) (c : Code) (σ : SS) (Q : Qt) : Prop := ∀ a w, At B N w0 σ a w → Code.rounds P c Q n a w
def QT (B N : Nat) (w0 : World) (σ : SS) (Q : Qt) (e : Exit) : Prop := ∀ a w, At B N w0 σ a w → Q e a w

/-- Behind this piece another one. -/
def K (P : Program) (y : Code) (Q : Qt) : Qt := Exit.then (y.wp P Q) Q
def InB (id : Nat) (Q : Qt) : Qt := Exit.inBlock id Q
/-- Behind this round n more. -/
def KR (P : Program) (n : Nat) (c : Code) (Q : Qt) : Qt := Exit.then (Code.rounds P c Q n) Q

variable {P : Program} {T : TypeId → Option TD} {B N : Nat} {w0 : World} {σ σ' : SS} {Q : Qt} {x y : Code}

theorem tr_seq (h : Tr P B N w0 x σ (K P y Q)) : Tr P B N w0 (x.seq y) σ Q := fun a w ha => wp_seq (h a w ha)
theorem tr_reg (hT : TOk P T) {id : Nat} {ops : Array Oper} (hs : List (Nat × Hint)) (live : List Loc) (σ' : SS) (needs : List Prop)
    (h : runR P T N ops.toList hs live σ = some (σ', needs)) (hn : holdsL needs) (hQ : QT B N w0 σ' Q .normal) : Tr P B N w0 (.region id ops false) σ Q :=
  fun _ _ ⟨_, I⟩ => region_text hT h hn I fun γ' a' w' I' => hQ a' w' ⟨γ', I'⟩
theorem tr_regd (hT : TOk P T) (hm : P.follows .mixedOrders = true) {id : Nat} {ops : Array Oper} (hs : List (Nat × Hint)) (live : List Loc) (σ' : SS) (needs : List Prop)
    (h : runD P T N ops.toList hs live σ = some (σ', needs)) (hn : holdsL needs) (hQ : QT B N w0 σ' Q .normal) : Tr P B N w0 (.region id ops true) σ Q :=
  fun _ _ ⟨_, I⟩ => region_any hT hm h hn I fun γ' a' w' I' => hQ a' w' ⟨γ', I'⟩
theorem tr_skip (h : QT B N w0 σ Q .normal) : Tr P B N w0 .skip σ Q := fun a w ha => wp_skip (h a w ha)
theorem tr_label {l : Nat} (h : QT B N w0 σ Q .normal) : Tr P B N w0 (.label l) σ Q := fun a w ha => wp_label (h a w ha)
theorem tr_ret (h : QT B N w0 σ Q .ret) : Tr P B N w0 .ret σ Q := fun a w ha => wp_ret (h a w ha)
theorem tr_exit {id : Nat} (h : QT B N w0 σ Q (.exit id)) : Tr P B N w0 (.exit id) σ Q := fun a w ha => wp_exit (h a w ha)
theorem tr_block {id : Nat} (h : Tr P B N w0 x σ (InB id Q)) : Tr P B N w0 (.block id x) σ Q := fun a w ha => wp_block (h a w ha)
theorem tr_cond {c : Operand} (b : Bool) (hc : evalS (look σ) c = some (bool1 b)) (h : Tr P B N w0 (if b then x else y) σ Q) : Tr P B N w0 (.cond c x y) σ Q :=
  fun a w ha => by
    obtain ⟨γ, I⟩ := ha
    exact wp_cond (t := b) (I.eval hc).1 (h a w ⟨γ, I⟩)
theorem tr_cond_t {c : Operand} (b : Bool) (hc : evalS (look σ) c = some (bool1 b)) (hb : b = true) (h : Tr P B N w0 x σ Q) : Tr P B N w0 (.cond c x y) σ Q :=
  tr_cond b hc (by rw [if_pos hb]; exact h)
theorem tr_cond_f {c : Operand} (b : Bool) (hc : evalS (look σ) c = some (bool1 b)) (hb : b = false) (h : Tr P B N w0 y σ Q) : Tr P B N w0 (.cond c x y) σ Q :=
  tr_cond b hc (by rw [if_neg (by rw [hb]; exact Bool.false_ne_true)]; exact h)
theorem tr_loop (n : Nat) (h : TrR P B N w0 n x σ Q) : Tr P B N w0 (.loop x) σ Q := fun a w ha => wp_loop_rounds n (h a w ha)
theorem trR_succ {n : Nat} (h : Tr P B N w0 x σ (KR P n x Q)) : TrR P B N w0 (n + 1) x σ Q := fun a w ha => h a w ha

theorem q_k (h : Tr P B N w0 y σ Q) : QT B N w0 σ (K P y Q) .normal := h
theorem q_kr {n : Nat} (h : TrR P B N w0 n y σ Q) : QT B N w0 σ (KR P n y Q) .normal := h
theorem q_k_exit {id : Nat} (h : QT B N w0 σ Q (.exit id)) : QT B N w0 σ (K P y Q) (.exit id) := h
theorem q_k_ret (h : QT B N w0 σ Q .ret) : QT B N w0 σ (K P y Q) .ret := h
theorem q_kr_exit {n id : Nat} (h : QT B N w0 σ Q (.exit id)) : QT B N w0 σ (KR P n y Q) (.exit id) := h
theorem q_kr_ret {n : Nat} (h : QT B N w0 σ Q .ret) : QT B N w0 σ (KR P n y Q) .ret := h
theorem q_b (id : Nat) (h : QT B N w0 σ Q .normal) : QT B N w0 σ (InB id Q) .normal := h
theorem q_b_ret {id : Nat} (h : QT B N w0 σ Q .ret) : QT B N w0 σ (InB id Q) .ret := h
theorem q_b_this {id : Nat} (h : QT B N w0 σ Q .normal) : QT B N w0 σ (InB id Q) (.exit id) := fun a w ha => by
  show (if id = id then Q .normal a w else _)
  rw [if_pos rfl]
  exact h a w ha
theorem q_b_other {id id' : Nat} (hne : id' ≠ id) (h : QT B N w0 σ Q (.exit id')) : QT B N w0 σ (InB id Q) (.exit id') := fun a w ha => by
  show (if id' = id then Q .normal a w else _)
  rw [if_neg hne]
  exact h a w ha

theorem At.weaken {σ σ' : SS} {a : Act} {w : World} (hr : ∀ l c, look σ' l = some c → look σ l = some c) (h : At B N w0 σ a w) : At B N w0 σ' a w :=
  let ⟨γ, I⟩ := h
  ⟨γ, I.weaken hr⟩

/-- Fewer things are asked, in another order. -/
theorem At.restr {σ σ' : SS} {live : List Loc} (h : restr σ live = some σ') {a : Act} {w : World} (ha : At B N w0 σ a w) : At B N w0 σ' a w := ha.weaken (restr_look h)
theorem tr_less (live : List Loc) (σ' : SS) (h : restr σ live = some σ') (hx : Tr P B N w0 x σ' Q) : Tr P B N w0 x σ Q := fun a w ha => hx a w (ha.restr h)
theorem trR_less {n : Nat} (live : List Loc) (σ' : SS) (h : restr σ live = some σ') (hx : TrR P B N w0 n x σ' Q) : TrR P B N w0 n x σ Q := fun a w ha => hx a w (ha.restr h)
theorem q_less {e : Exit} (live : List Loc) (σ' : SS) (h : restr σ live = some σ') (hx : QT B N w0 σ' Q e) : QT B N w0 σ Q e := fun a w ha => hx a w (ha.restr h)

/-- What is behind a piece hangs on what is asked of it. -/
theorem tr_mono {Q' : Qt} (hq : ∀ e a w, Q e a w → Q' e a w) (h : Tr P B N w0 x σ Q) : Tr P B N w0 x σ Q' := fun a w ha => wp_mono (h a w ha) hq

/-! ### The results -/

def toV1 : SV → Option V1
  | .v x => some x
  | _ => none

def resOne (T : TypeId → Option TD) (σ : Stt) : ResultVar → Option SV
  | .tmp t => lookS σ t
  | .cell p ty => match lookS σ p with
    | some u => match loadS T (lookH σ) ty u with
      | some ⟨some v, [], []⟩ => some v
      | _ => none
    | none => none

def resAll (T : TypeId → Option TD) (σ : Stt) : List ResultVar → Option (List V1)
  | [] => some []
  | r :: l => match resOne T σ r, resAll T σ l with
    | some (.v x), some xs => some (x :: xs)
    | _, _ => none

def resS (T : TypeId → Option TD) (σ : Stt) : List ResultVar → Option SV
  | [r] => resOne T σ r
  | l => (resAll T σ l).map .tup

variable {γ : Nat → Value} {a : Act} {w : World} {τ : Stt}

def resRun (tmps : Array Value) : ResultVar → Sem Value
  | .tmp t => pure (tmps.getD t undef)
  | .cell a t => do loadVar t (← asAddr (tmps.getD a undef))

theorem resOne_run (hT : TOk P T) (I : Inv B N w0 γ τ a w) {r : ResultVar} {v : SV} (h : resOne T τ r = some v) : (resRun a.tmps r).run P w = .ok (v.den γ) w ∧ v.ok := by
  cases r with
  | tmp t =>
    have := I.look_slot (t := t) h
    simp only [Act.eval] at this
    simpa [resRun] using this
  | cell p ty =>
    simp only [resOne] at h
    split at h
    · rename_i u hu
      split at h
      · rename_i v' hl
        simp only [Option.some.injEq] at h
        subst h
        have hs := I.look_slot hu
        obtain ⟨r, h1, h2, h3, h4⟩ := load_run hT I hs.2 hl trivial
        simp only [Option.some.injEq] at h1
        subst h1
        refine ⟨?_, h3⟩
        have e : a.tmps.getD p undef = u.den γ := hs.1
        simp only [resRun, e]
        -- an address
        simp only [Instr.loadAt] at h4
        rw [Sem.run_bind] at h4 ⊢
        cases hd : u.den γ with
        | pointer ad =>
          cases ad with
          | none => rw [hd] at h4; simp [Instr.sureAddr] at h4
          | some ad => rw [hd] at h4; simpa [Instr.sureAddr, asAddr] using h4
        | _ => rw [hd] at h4; simp [Instr.sureAddr] at h4
      · cases h
    · cases h

theorem resAll_run (hT : TOk P T) (I : Inv B N w0 γ τ a w) : ∀ {l : List ResultVar} {xs : List V1}, resAll T τ l = some xs → (l.mapM (resRun a.tmps)).run P w = .ok (xs.map (V1.den γ)) w ∧ ∀ x ∈ xs, x.ok
  | [], xs, h => by simp only [resAll, Option.some.injEq] at h; subst h; simp
  | r :: l, xs, h => by
    simp only [resAll] at h
    split at h
    · rename_i x xs' h1 h2
      simp only [Option.some.injEq] at h
      subst h
      obtain ⟨e1, e2⟩ := resOne_run hT I h1
      obtain ⟨e3, e4⟩ := resAll_run hT I h2
      refine ⟨?_, fun y hy => ?_⟩
      · simp only [List.mapM_cons, Sem.run_bind, e1, e3, Result.andThen_ok, Sem.run_pure, List.map_cons]
        rfl
      · rcases List.mem_cons.1 hy with rfl | hy
        · exact e2
        · exact e4 y hy
    · cases h

theorem resS_run (hT : TOk P T) (I : Inv B N w0 γ τ a w) {fn : Func} {v : SV} (h : resS T τ fn.results.toList = some v) : (results fn a.tmps).run P w = .ok (v.den γ) w ∧ v.ok := by
  have e : results fn a.tmps = (do let vs ← fn.results.mapM (resRun a.tmps); pure (if h : vs.size = 1 then vs[0] else .tuple vs)) := by
    unfold results
    congr 1
  rw [e, Array.mapM_eq_mapM_toList]
  unfold resS at h
  split at h
  · rename_i r hr
    obtain ⟨e1, e2⟩ := resOne_run hT I h
    refine ⟨?_, e2⟩
    rw [hr]
    simp [e1]
  · rename_i hne
    simp only [Option.map_eq_some_iff] at h
    obtain ⟨xs, h1, rfl⟩ := h
    obtain ⟨e1, e2⟩ := resAll_run hT I h1
    refine ⟨?_, e2⟩
    have hlen : xs.length ≠ 1 := by
      intro hx
      have : ∀ {l : List ResultVar} {xs : List V1}, resAll T τ l = some xs → xs.length = l.length := by
        intro l
        induction l with
        | nil => intro xs h; simp only [resAll, Option.some.injEq] at h; subst h; rfl
        | cons r l ih =>
          intro xs h
          simp only [resAll] at h
          split at h
          · rename_i x xs' h1 h2
            simp only [Option.some.injEq] at h
            subst h
            simp [ih h2]
          · cases h
      have h3 := this h1
      rw [hx] at h3
      match hq : fn.results.toList, h3 with
      | [r], _ => exact hne r hq
    simp [e1, hlen, SV.den]

/-! ### A function -/

/-- What a function's body is asked: at its end the results are there, and nothing that was there has turned. -/
def RetQ (P : Program) (fn : Func) (R : Value → World → Prop) : Qt := bodyPost P fn fun e w' => ∃ v, e = .returned v ∧ R v w'

theorem q_ret (hT : TOk P T) {fn : Func} {R : Value → World → Prop} (v : SV) (h : resS T (look σ) fn.results.toList = some v)
    (hR : ∀ γ a w, Inv B N w0 γ (look σ) a w → v.ok → R (v.den γ) w) : QT B N w0 σ (RetQ P fn R) .ret := by
  rintro a w ⟨γ, I⟩
  obtain ⟨h1, h2⟩ := resS_run hT I h
  exact ⟨I.defers, _, h1, _, rfl, hR γ a w I h2⟩
theorem q_end (hT : TOk P T) {fn : Func} {R : Value → World → Prop} (v : SV) (h : resS T (look σ) fn.results.toList = some v)
    (hR : ∀ γ a w, Inv B N w0 γ (look σ) a w → v.ok → R (v.den γ) w) : QT B N w0 σ (RetQ P fn R) .normal := by
  rintro a w ⟨γ, I⟩
  obtain ⟨h1, h2⟩ := resS_run hT I h
  exact ⟨I.defers, _, h1, _, rfl, hR γ a w I h2⟩

/-- A function without keys among its arguments and results: the whole of its contract, out of its body. -/
def R0 (res : SV) (w : World) : Value → World → Prop := fun v w' => (∀ γ, v = res.den γ) ∧ res.ok ∧ Below w.heap.size w w'

theorem callFunc_enter {f : Nat} {fn : Func} {c : Code} (hf : P.funcs[f]? = some fn) (hnm : (fn.name == "runtime.NumGoroutine") = false) (hb : fn.body = some c) (args : Array Value) (w : World) :
    (callFunc f args).run P w = .ok (.enter f args) w := by
  have h1 : fn.name ≠ "runtime.NumGoroutine" := by simpa using hnm
  simp [callFunc, hf, h1, hb]

/-- The slots of the arguments. -/
def argSS : List SV → Nat → SS
  | [], _ => []
  | x :: r, i => (.s i, .v x) :: argSS r (i + 1)

theorem argSS_look : ∀ (l : List SV) (i : Nat) (loc : Loc) (c : Cont), look (argSS l i) loc = some c → ∃ j x, l[j]? = some x ∧ loc = .s (i + j) ∧ c = .v x
  | [], i, loc, c, h => by simp [argSS, look] at h
  | x :: r, i, loc, c, h => by
    simp only [argSS, look] at h
    cases hb : Loc.beq (.s i) loc with
    | true =>
      simp only [hb, cond_true, Option.some.injEq] at h
      exact ⟨0, x, rfl, (Loc.beq_iff.1 hb).symm, h.symm⟩
    | false =>
      simp only [hb, cond_false] at h
      obtain ⟨j, y, h1, h2, h3⟩ := argSS_look r (i + 1) loc c h
      exact ⟨j + 1, y, by simpa using h1, by rw [h2]; congr 1; omega, h3⟩

theorem argSS_at {l : List SV} (γ : Nat → Value) (w : World) (hok : ∀ x ∈ l, x.ok) (h1 : ∀ κ, (γ κ).oneCell' = true) {n : Nat} (hn : l.length ≤ n) :
    Inv w.heap.size n w γ (look (argSS l 0)) { tmps := (l.map (SV.den γ)).toArray ++ Array.replicate (n - l.length) undef, defers := [] } w := by
  refine ⟨by simp; omega, rfl, fun t x hx => ?_, fun κ e he => ?_, fun κ e κ' e' he => ?_, Below.refl _ _, Nat.le_refl _, h1⟩
  · obtain ⟨j, y, h1, h2, h3⟩ := argSS_look l 0 _ _ hx
    simp only [Nat.zero_add, Loc.s.injEq] at h2
    cases h3
    subst h2
    have hj : t < l.length := (List.getElem?_eq_some_iff.1 h1).1
    refine ⟨?_, hok _ (List.mem_of_getElem? h1)⟩
    have e : l[t] = x := by rw [List.getElem?_eq_getElem hj] at h1; simpa using h1
    simp [Array.getElem?_append, hj, e]
  · obtain ⟨j, y, h1, h2, h3⟩ := argSS_look l 0 _ _ he
    cases h3
  · obtain ⟨j, y, h1, h2, h3⟩ := argSS_look l 0 _ _ he
    cases h3

/-- **The contract of a function of plain values.** -/
theorem call0 {f : Nat} {fn : Func} {c : Code} {args : List SV} {res : SV} (hf : P.funcs[f]? = some fn) (hnm : (fn.name == "runtime.NumGoroutine") = false) (hb : fn.body = some c) (hN : fn.ntmps = N) (hlen : Nat.ble args.length N = true)
    (pre : List (Nat × Ent))
    (h : (∀ x ∈ args, x.ok) → ∀ w, Tr P w.heap.size N w c (argSS args 0) (RetQ P fn (R0 res w))) : CallOk P f args pre res [] := by
  intro B γ w _ hok _ h1
  have hle := Nat.le_of_ble_eq_true hlen
  unfold RunOk
  rw [callFunc_enter hf hnm hb]
  have I := argSS_at γ w hok h1 hle
  have := calls_of_wp (args := (args.map (SV.den γ)).toArray) hf hb (R := fun e w' => ∃ v, e = .returned v ∧ R0 res w v w') (by
    have := h hok w _ _ ⟨γ, I⟩
    unfold RetQ at this
    simpa [hN] using this)
  refine this.mono ?_
  rintro e w' ⟨v, rfl, h2, h3, h4⟩
  exact ⟨v, rfl, γ, fun _ _ => rfl, h1, h2 γ, h3, h4, by simp, by simp⟩

theorem q_end0 (hT : TOk P T) {fn : Func} (v : SV) (hk : v.keys = []) (h : resS T (look σ) fn.results.toList = some v) : QT w0.heap.size N w0 σ (RetQ P fn (R0 v w0)) .normal :=
  q_end hT v h fun γ _ _ I hv => ⟨fun γ' => SV.den_congr (by rw [hk]; simp), hv, I.below⟩
/-- At a return of plain values. -/
theorem q_ret0 (hT : TOk P T) {fn : Func} (v : SV) (hk : v.keys = []) (h : resS T (look σ) fn.results.toList = some v) : QT w0.heap.size N w0 σ (RetQ P fn (R0 v w0)) .ret :=
  q_ret hT v h fun γ _ _ I hv => ⟨fun γ' => SV.den_congr (by rw [hk]; simp), hv, I.below⟩

/-! ### Loops, by a bound on their rounds -/

theorem tr_loop_fuel {α β : Type} {id : Nat} (st : α → SS) (out : β → SS) (f : Nat → α → Option β) (r : β) (h0 : ∀ s, f 0 s = none) (n : Nat) (s0 : α) (h : f n s0 = some r)
    (hx : QT B N w0 (out r) Q (.exit id))
    (step : ∀ k, (∀ s', f k s' = some r → TrR P B N w0 k x (st s') Q) → QT B N w0 (out r) Q (.exit id) → ∀ s, f (k + 1) s = some r → Tr P B N w0 x (st s) (KR P k x Q)) :
    Tr P B N w0 (.loop x) (st s0) Q := by
  refine tr_loop n ?_
  have : ∀ k s, f k s = some r → TrR P B N w0 k x (st s) Q := by
    intro k
    induction k with
    | zero => intro s h; rw [h0] at h; cases h
    | succ k ih => intro s h; exact trR_succ (step k ih hx s h)
  exact this n s0 h

/-- A loop that may return: '.inr' of its result. -/
theorem tr_loop_ret {α β ρ : Type} {id : Nat} (st : α → SS) (out : β → SS) (okRet : ρ → SS → Prop) (f : Nat → α → Option (Sum β ρ)) (r : Sum β ρ) (h0 : ∀ s, f 0 s = none) (n : Nat) (s0 : α) (h : f n s0 = some r)
    (hx : ∀ y, r = .inl y → QT B N w0 (out y) Q (.exit id)) (hr : ∀ v σ, r = .inr v → okRet v σ → QT B N w0 σ Q .ret)
    (step : ∀ k, (∀ s', f k s' = some r → TrR P B N w0 k x (st s') Q) → (∀ y, r = .inl y → QT B N w0 (out y) Q (.exit id)) → (∀ v σ, r = .inr v → okRet v σ → QT B N w0 σ Q .ret) →
      ∀ s, f (k + 1) s = some r → Tr P B N w0 x (st s) (KR P k x Q)) :
    Tr P B N w0 (.loop x) (st s0) Q := by
  refine tr_loop n ?_
  have : ∀ k s, f k s = some r → TrR P B N w0 k x (st s) Q := by
    intro k
    induction k with
    | zero => intro s h; rw [h0] at h; cases h
    | succ k ih => intro s h; exact trR_succ (step k ih hx hr s h)
  exact this n s0 h

/-- Two ways meet again. -/
theorem tr_join {σ1 : SS} (hk : QT B N w0 σ1 Q .normal) (h : QT B N w0 σ1 Q .normal → Tr P B N w0 x σ Q) : Tr P B N w0 x σ Q := h hk

/-! ### Small words for what is printed -/

abbrev sI (t : Nat) (k : IntKind) (n : Int) : Loc × Cont := (.s t, .v (.v (.one (.int k n))))
abbrev sB (t : Nat) (b : Bool) : Loc × Cont := (.s t, .v (.v (.one (.bool b))))
abbrev sO (t : Nat) (x : Leaf) : Loc × Cont := (.s t, .v (.v (.one x)))
abbrev sG (t : Nat) (l : List Leaf) : Loc × Cont := (.s t, .v (.v (.agg l)))
abbrev sT (t : Nat) (l : List V1) : Loc × Cont := (.s t, .v (.tup l))
abbrev hB (κ : Nat) (ty : TypeId) (l : List Leaf) : Loc × Cont := (.h κ, .e (.blk ty l))
abbrev hR (κ : Nat) (k : IntKind) (l : List Int) : Loc × Cont := (.h κ, .e (.rd k l))
abbrev hO (κ : Nat) (e : TypeId) (k : IntKind) (l : List Int) : Loc × Cont := (.h κ, .e (.own e k l))

theorem ite_some {c : Prop} [Decidable c] {α : Type} {x : Option α} {r : α} (h : (if c then x else none) = some r) : c ∧ x = some r := by
  split at h
  · exact ⟨‹_›, h⟩
  · cases h
theorem ite_split {c : Bool} {α : Type} {x y : Option α} {r : α} (h : (if c = true then x else y) = some r) : (c = true ∧ x = some r) ∨ (c = false ∧ y = some r) := by
  cases c
  · exact .inr ⟨rfl, by simpa using h⟩
  · exact .inl ⟨rfl, by simpa using h⟩
theorem bind_some {α β : Type} {x : Option α} {f : α → Option β} {r : β} (h : x.bind f = some r) : ∃ y, x = some y ∧ f y = some r := by
  cases x with
  | none => cases h
  | some y => exact ⟨y, rfl, h⟩

theorem hone {p : Prop} (h : p) : holdsL [p] := h
theorem hcons {p q : Prop} {r : List Prop} (h : p) (hr : holdsL (q :: r)) : holdsL (p :: q :: r) := ⟨h, hr⟩

/-- A table of types. -/
def lookT : List (Nat × TD) → Nat → Option TD
  | [], _ => none
  | (t, d) :: r, x => bif Nat.beq t x then some d else lookT r x
theorem tOk_nil : TOk P (lookT []) := fun t d h => by cases h
theorem tOk_cons {t : Nat} {d : TD} {r : List (Nat × TD)} (h : d.ok P t) (hr : TOk P (lookT r)) : TOk P (lookT ((t, d) :: r)) := fun x e hx => by
  simp only [lookT] at hx
  cases hb : Nat.beq t x with
  | true =>
    simp only [hb, cond_true, Option.some.injEq] at hx
    obtain rfl := Nat.eq_of_beq_eq_true hb
    subst hx
    exact h
  | false => simp only [hb, cond_false] at hx; exact hr x e hx

end Go.Gw
