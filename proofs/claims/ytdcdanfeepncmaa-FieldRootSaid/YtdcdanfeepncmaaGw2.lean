/- The walk's engine, part 2: one operation. -/
import Derived.Test.YtdcdanfeepncmaaGw1
namespace Go.Gw
open Go.RowKit

/-- What is asked of the program's table for what the kernel is told of a type. -/
def TD.ok (P : Program) (t : TypeId) : TD → Prop
  | .int k => P.underlying t = some (.int k) ∧ (P.info? t).map (fun i => (i.size, i.zero)) = some (1, some (.int k 0))
  | .bool => P.underlying t = some .bool ∧ (P.info? t).map (fun i => (i.size, i.zero)) = some (1, some (.bool false))
  | .str => P.underlying t = some .string ∧ (P.info? t).map (fun i => (i.size, i.zero)) = some (1, some (.string ByteArray.empty))
  | .arr n e k => P.underlying t = some (.array n e) ∧ P.underlying e = some (.int k) ∧ (P.info? t).map (fun i => (i.size, i.zero)) = some (n, some (.agg ((List.replicate n (Value.int k 0)).toArray))) ∧
      (P.info? e).map (·.size) = some 1 ∧ P.eqGuardType P.depth t = false
  | .struct n offs z => ∃ fs, P.underlying t = some (.struct fs) ∧ fs.toList.mapM (fun f => (P.info? f.type).map fun i => (f.offset, i.size)) = some offs ∧
      (∀ γ, (P.info? t).map (fun i => (i.size, i.zero)) = some (n, some (.agg (cellsL γ z).toArray))) ∧ (z.map Leaf.size).sum = n ∧ ∀ x ∈ z, x.ok ∧ x.keys = []
  | .slice e k => P.underlying t = some (.slice e) ∧ P.underlying e = some (.int k) ∧ (P.info? e).map (·.size) = some 1 ∧ (P.info? t).map (fun i => (i.size, i.zero)) = some (1, some (.slice none 0 0))
  | .ptr => ∃ e, P.underlying t = some (.pointer e) ∧ (P.info? t).map (fun i => (i.size, i.zero)) = some (1, some (.pointer none))

def TOk (P : Program) (T : TypeId → Option TD) : Prop := ∀ t d, T t = some d → d.ok P t

def updC (σ : Stt) (l : Loc) (c : Cont) : Stt := fun x => bif l.beq x then some c else σ x
def updH (σ : Stt) : List (Nat × Ent) → Stt
  | [] => σ
  | (κ, e) :: r => updC (updH σ r) (.h κ) (.e e)

def NoKey (κ : Nat) (σ : Stt) : Prop := σ (.h κ) = none ∧ ∀ l c, σ l = some c → κ ∉ c.keys

theorem Loc.beq_iff {a b : Loc} : a.beq b = true ↔ a = b := by
  cases a <;> cases b <;> simp [Loc.beq]

theorem updC_same (σ : Stt) (l : Loc) (c : Cont) : updC σ l c l = some c := by simp [updC, Loc.beq_iff.2 rfl]
theorem updC_ne (σ : Stt) {l x : Loc} (c : Cont) (h : l ≠ x) : updC σ l c x = σ x := by
  unfold updC
  cases hb : l.beq x with
  | true => exact absurd (Loc.beq_iff.1 hb) h
  | false => rfl

theorem updH_slot (σ : Stt) (wr : List (Nat × Ent)) (t : Nat) : updH σ wr (.s t) = σ (.s t) := by
  induction wr with
  | nil => rfl
  | cons p r ih => obtain ⟨κ, e⟩ := p; simp only [updH]; rw [updC_ne _ _ (by simp), ih]

theorem updH_key (σ : Stt) (wr : List (Nat × Ent)) (κ : Nat) (c : Cont) (h : updH σ wr (.h κ) = some c) : (∃ e, (κ, e) ∈ wr ∧ c = .e e) ∨ ((∀ p ∈ wr, p.1 ≠ κ) ∧ σ (.h κ) = some c) := by
  induction wr with
  | nil => exact .inr ⟨by simp, h⟩
  | cons p r ih =>
    obtain ⟨κ', e⟩ := p
    simp only [updH] at h
    by_cases hk : κ' = κ
    · subst hk
      rw [updC_same] at h
      exact .inl ⟨e, by simp, by simpa using h.symm⟩
    · rw [updC_ne _ _ (by simp [hk])] at h
      rcases ih h with ⟨e', h1, h2⟩ | ⟨h1, h2⟩
      · exact .inl ⟨e', by simp [h1], h2⟩
      · exact .inr ⟨by simpa [hk] using h1, h2⟩

variable {P : Program} {T : TypeId → Option TD} {B N : Nat} {w0 : World} {γ : Nat → Value} {σ : Stt} {a : Act} {w : World}

theorem Inv.look_slot (I : Inv B N w0 γ σ a w) {t : Nat} {x : SV} (h : lookS σ t = some x) : a.eval (.tmp t) = x.den γ ∧ x.ok := by
  unfold lookS at h
  split at h
  · rename_i y hy
    simp only [Option.some.injEq] at h
    subst h
    exact I.slot t _ hy
  · cases h

theorem constS_den {v : Value} {x : SV} (h : constS v = some x) (γ : Nat → Value) : v = x.den γ ∧ x.ok := by
  unfold constS at h
  split at h <;> first | (simp only [Option.some.injEq] at h; subst h; exact ⟨rfl, trivial, trivial⟩) | cases h

theorem Inv.eval (I : Inv B N w0 γ σ a w) {o : Operand} {x : SV} (h : evalS σ o = some x) : a.eval o = x.den γ ∧ x.ok := by
  cases o with
  | tmp t => exact I.look_slot h
  | const v => exact constS_den h γ
  | func f => simp only [evalS, Option.some.injEq] at h; subst h; exact ⟨rfl, trivial, trivial⟩
  | global g => cases h

theorem Inv.key (I : Inv B N w0 γ σ a w) {κ : Nat} {e : Ent} (h : lookH σ κ = some e) : σ (.h κ) = some (.e e) ∧ e.at B γ w κ := by
  unfold lookH at h
  split at h
  · rename_i y hy
    simp only [Option.some.injEq] at h
    subst h
    exact ⟨hy, I.ent κ _ hy⟩
  · cases h

theorem evalS_keys {o : Operand} {x : SV} (h : evalS σ o = some x) {κ : Nat} (hn : NoKey κ σ) : κ ∉ x.keys := by
  cases o with
  | tmp t =>
    simp only [evalS, lookS] at h
    split at h
    · rename_i y hy
      simp only [Option.some.injEq] at h
      subst h
      exact hn.2 _ _ hy
    · cases h
  | const v =>
    simp only [evalS, constS] at h
    split at h <;> first | (simp only [Option.some.injEq] at h; subst h; simp [SV.keys, V1.keys, V1.keys.lk]) | cases h
  | func f => simp only [evalS, Option.some.injEq] at h; subst h; simp [SV.keys, V1.keys, V1.keys.lk]
  | global g => cases h

theorem holdsL_cons {p : Prop} {l : List Prop} : holdsL (p :: l) ↔ p ∧ holdsL l := by
  cases l <;> simp [holdsL]

theorem holdsL_append {l m : List Prop} : holdsL (l ++ m) ↔ holdsL l ∧ holdsL m := by
  induction l with
  | nil => simp [holdsL]
  | cons p r ih => rw [List.cons_append, holdsL_cons, holdsL_cons, ih, and_assoc]

/-- The post of one operation. -/
def Post (B N : Nat) (w0 : World) (σ : Stt) (a : Act) (eff : Eff) (v : Value) (w' : World) : Prop :=
  ∃ γ', v = (eff.val.getD (.tup [])).den γ' ∧ (eff.val.getD (.tup [])).ok ∧ Inv B N w0 γ' (updH σ eff.wr) a w'

theorem Post.pure (I : Inv B N w0 γ σ a w) {v : SV} {p : List Prop} (h : v.ok) : Post B N w0 σ a ⟨some v, [], p⟩ (v.den γ) w := ⟨γ, rfl, h, I⟩

theorem runOk_v {s : Sem Value} {v : Value} {w' : World} {post : Value → World → Prop} (h : s.run P w = .ok v w') (hp : post v w') :
    RunOk P (do pure (.value (← s))) w post := by
  unfold RunOk
  simp [h, hp]

theorem runOk_u {s : Sem Unit} {w' : World} {post : Value → World → Prop} (h : s.run P w = .ok () w') (hp : post undef w') :
    RunOk P (do s; pure .skip) w post := by
  unfold RunOk
  simp [h, hp]

/-- New memory under new names. -/
theorem Inv.news (I : Inv B N w0 γ σ a w) {γ' : Nat → Value} {news : List (Nat × Ent)} {w' : World} (hf : ∀ p ∈ news, NoKey p.1 σ) (hg : ∀ κ, (∀ p ∈ news, p.1 ≠ κ) → γ' κ = γ κ)
    (h1 : ∀ κ, (γ' κ).oneCell' = true) (hb : Below w.heap.size w w') (ha : ∀ p ∈ news, p.2.at w.heap.size γ' w' p.1 ∧ ∀ b, blkO (γ' p.1) = some b → w.heap.size ≤ b)
    (hd : ∀ p ∈ news, ∀ q ∈ news, p.1 ≠ q.1 → ∀ b, blkO (γ' p.1) = some b → blkO (γ' q.1) ≠ some b) : Inv B N w0 γ' (updH σ news) a w' := by
  have agree : ∀ l c, σ l = some c → ∀ κ ∈ c.keys, γ' κ = γ κ := fun l c hc κ hκ => hg κ fun p hp e => (hf p hp).2 l c hc (e ▸ hκ)
  have old : ∀ κ e, σ (.h κ) = some (.e e) → γ' κ = γ κ := fun κ e he => hg κ fun p hp e' => by
    have := (hf p hp).1
    rw [e', he] at this
    cases this
  refine ⟨I.size, I.defers, fun t x hx => ?_, fun κ e he => ?_, fun κ e κ' e' he he' hne hm hde b hb' => ?_, I.below.trans (hb.mono I.base), Nat.le_trans I.base hb.size, h1⟩
  · rw [updH_slot] at hx
    have := I.slot t x hx
    exact ⟨this.1.trans (SV.den_congr (fun κ hκ => agree _ _ hx κ hκ)).symm, this.2⟩
  · rcases updH_key σ news κ _ he with ⟨e1, h2, h3⟩ | ⟨h2, h3⟩
    · cases h3
      exact Ent.at_mono I.base (ha _ h2).1
    · have := I.ent κ e h3
      refine Ent.at_congr (old κ e h3) (fun κ' hκ' => agree _ _ h3 κ' hκ') ?_
      by_cases hde : e = .dead
      · subst hde; trivial
      · exact Ent.at_keep hb.size (fun b hb' => hb.block b (Ent.blk_lt hde this b hb')) this
  · rcases updH_key σ news κ _ he with ⟨e1, h2, h3⟩ | ⟨h2, h3⟩
    · cases h3
      rcases updH_key σ news κ' _ he' with ⟨e2, h4, h5⟩ | ⟨h4, h5⟩
      · cases h5
        exact hd _ h2 _ h4 hne b hb'
      · intro h6
        have hl := (ha _ h2).2 b hb'
        rw [old κ' e' h5] at h6
        have := Ent.blk_lt hde (I.ent κ' e' h5) b h6
        omega
    · rcases updH_key σ news κ' _ he' with ⟨e2, h4, h5⟩ | ⟨h4, h5⟩
      · cases h5
        intro h6
        have hl := (ha _ h4).2 b h6
        rw [old κ e h3] at hb'
        have := Ent.blk_lt (by intro h; subst h; cases hm) (I.ent κ e h3) b hb'
        omega
      · rw [old κ e h3] at hb'
        rw [old κ' e' h5]
        exact I.apart κ e κ' e' h3 h5 hne hm hde b hb'

/-- A new block under a new name. -/
theorem Inv.alloc (I : Inv B N w0 γ σ a w) {κ : Nat} {t : TypeId} {l : List Leaf} (hf : NoKey κ σ) (hl : ∀ x ∈ l, x.ok) (hk : ∀ x ∈ l, κ ∉ x.keys) :
    Inv B N w0 (fun x => if x = κ then .pointer (some ⟨w.heap.size, 0, none⟩) else γ x) (updH σ [(κ, .blk t l)]) a (w.alloc (.cells (cellsL γ l).toArray t)) := by
  refine I.news (by simpa using hf) (fun κ' h => ?_) (fun κ' => ?_) ((Below.refl _ _).alloc (Nat.le_refl _) _) ?_ ?_
  · have : κ' ≠ κ := fun e => h (κ, .blk t l) (by simp) e.symm
    simp [this]
  · split
    · rfl
    · exact I.cell1 κ'
  · intro p hp
    simp only [List.mem_singleton] at hp
    subst hp
    refine ⟨⟨w.heap.size, by simp, Nat.le_refl _, ?_, hl⟩, by simp [blkO]⟩
    have hc : cellsL (fun x => if x = κ then .pointer (some ⟨w.heap.size, 0, none⟩) else γ x) l = cellsL γ l := cellsL_congr fun x hx κ' hκ' => by
      have : κ' ≠ κ := fun e => hk x hx (e ▸ hκ')
      exact if_neg this
    rw [hc]
    exact heap_alloc_new w _
  · intro p hp q hq hne
    simp only [List.mem_singleton] at hp hq
    subst hp; subst hq
    exact absurd rfl hne

/-- A block's whole content turned. -/
theorem Inv.store (I : Inv B N w0 γ σ a w) {κ b : Nat} {t : TypeId} {l l' : List Leaf} (hk : σ (.h κ) = some (.e (.blk t l))) (hb : γ κ = .pointer (some ⟨b, 0, none⟩)) (hl : ∀ x ∈ l', x.ok) :
    Inv B N w0 γ (updH σ [(κ, .blk t l')]) a (w.setRow b (cellsL γ l').toArray) := by
  obtain ⟨b', h1, h2, h3, h4⟩ := I.ent κ _ hk
  have : b' = b := by rw [hb] at h1; simpa using h1.symm
  subst this
  have blt := (Array.getElem?_eq_some_iff.1 h3).1
  have other : ∀ κ' e', κ ≠ κ' → σ (.h κ') = some (.e e') → e'.at B γ (w.setRow b' (cellsL γ l').toArray) κ' := fun κ' e' hne he' => by
    by_cases hd : e' = .dead
    · subst hd; trivial
    refine Ent.at_keep (by simp) (fun c hc => setRow_other w b' c _ fun e => ?_) (I.ent κ' e' he')
    subst e
    exact I.apart κ _ κ' e' hk he' hne rfl hd c (by simp [hb, blkO]) hc
  refine ⟨I.size, I.defers, fun t x hx => I.slot t x (by rwa [updH_slot] at hx), fun κ' e he => ?_, fun κ1 e1 κ2 e2 he1 he2 hne hm hd => ?_, ?_, by simpa using I.base, I.cell1⟩
  · rcases updH_key σ _ κ' _ he with ⟨e1, h5, h6⟩ | ⟨h5, h6⟩
    · cases h6
      simp only [List.mem_singleton, Prod.mk.injEq] at h5
      obtain ⟨rfl, rfl⟩ := h5
      exact ⟨b', hb, h2, setRow_heap w b' _ _ t _ h3, hl⟩
    · exact other κ' e (h5 (κ, .blk t l') (by simp)) h6
  · have pick : ∀ κ1 e1, updH σ [(κ, .blk t l')] (.h κ1) = some (.e e1) → ∃ e, σ (.h κ1) = some (.e e) ∧ (e1.mut = true → e.mut = true) ∧ (e1 ≠ .dead → e ≠ .dead) := fun κ1 e1 he1 => by
      rcases updH_key σ _ κ1 _ he1 with ⟨e2, h5, h6⟩ | ⟨h5, h6⟩
      · cases h6
        simp only [List.mem_singleton, Prod.mk.injEq] at h5
        obtain ⟨rfl, rfl⟩ := h5
        exact ⟨_, hk, fun _ => rfl, fun _ => by simp⟩
      · exact ⟨e1, h6, id, id⟩
    obtain ⟨f1, g1, m1, _⟩ := pick κ1 e1 he1
    obtain ⟨f2, g2, _, d2⟩ := pick κ2 e2 he2
    exact I.apart κ1 f1 κ2 f2 g1 g2 hne (m1 hm) (d2 hd)
  · exact I.below.trans ⟨rfl, rfl, rfl, by simp, fun k hk' => setRow_other w b' k _ (by omega)⟩

/-- A slot written. -/
theorem Inv.put (I : Inv B N w0 γ σ a w) {d : Nat} (hd : d < N) {x : SV} (hx : x.ok) : Inv B N w0 γ (updC σ (.s d) (.v x)) (a.put (some d) (x.den γ)) w := by
  refine ⟨by simp [Act.put, I.size], I.defers, fun t y hy => ?_, fun κ e he => I.ent κ e (by rwa [updC_ne _ _ (by simp)] at he), fun κ1 e1 κ2 e2 he1 he2 => ?_, I.below, I.base, I.cell1⟩
  · by_cases ht : d = t
    · subst ht
      rw [updC_same] at hy
      simp only [Option.some.injEq, Cont.v.injEq] at hy
      subst hy
      have hlt : d < a.tmps.size := by rw [I.size]; exact hd
      exact ⟨by simp [Act.put, hlt], hx⟩
    · rw [updC_ne _ _ (by simp [ht])] at hy
      have := I.slot t y hy
      refine ⟨?_, this.2⟩
      rw [← this.1]
      simp [Act.put, Array.getElem?_setIfInBounds_ne ht]
  · rw [updC_ne _ _ (by simp)] at he1 he2
    exact I.apart κ1 e1 κ2 e2 he1 he2

end Go.Gw
