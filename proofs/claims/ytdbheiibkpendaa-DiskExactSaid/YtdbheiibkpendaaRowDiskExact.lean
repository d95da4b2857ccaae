/- The row of the law DiskExact, out of its walk and its plain statement. -/
import Derived.Test.YtdbheiibkpendaaRows
import Derived.Test.YtdbheiibkpendaaGwL
import Derived.Test.YtdbheiibkpendaaSdV8
import Derived.Test.YtdbheiibkpendaaMDkT
import Derived.Test.YtdbheiibkpendaaSdFx
namespace Go.Proofs.Ytdbheiibkpendaa.diskExact
open Go Go.Gw Go.ChangeShapes Go.WideShapes Go.ChangeAt Go.RowKit Go.Proofs.Sd Go.Proofs.Sd.D
set_option linter.unusedVariables false
theorem own : ownKnob Try.prog.godebug = none := by kernel_rfl
theorem laidOut : laidOutB Try.prog = true := by kernel_rfl
set_option maxRecDepth 100000 in
theorem walk (w : World) (a0 : Int) (a1 : List (List DL)) (wf0 : (Lit.int .i64 a0).wf = true) (v1 : Value) (rd1 : RdR w v1 (.gn 7 a1)) (one1 : v1.oneCell' = true) (wf1 : (∀ r ∈ a1, LKs [.int .i64, .int .i64, .int .i64, .bytes .u8 5, .bools 4, .int .i64, .int .i64] r)) :
    Calls Try.prog 12 #[.int .i64 a0, v1] w fun e w' => e = .returned (.bool true) ∧ Below w.heap.size w w' := by
  have h := Go.Dk.DiskExact a0 a1 wf0 wf1
  have h1 : ∀ κ, (handG [(9000, v1)] κ).oneCell' = true := handG_one (by
    intro p hp
    simp only [List.mem_cons, List.not_mem_nil, or_false] at hp
    subst hp
    exact one1
    )
  have hc := calls_of_ok1 (P := Try.prog) Try.func12 (by kernel_rfl) rfl (law14_DiskExact_ok a0 a1 true h) (by
    intro x hx
    simp only [List.mem_cons, List.not_mem_nil, or_false] at hx
    rcases hx with rfl | rfl
    · exact ⟨trivial, trivial⟩
    · exact ⟨trivial, trivial⟩
    ) (handG [(9000, v1)]) h1 w (by
    intro p hp
    simp only [List.mem_cons, List.not_mem_nil, or_false] at hp
    subst hp
    exact rd1
    ) (by
    intro p hp
    simp only [List.mem_cons, List.not_mem_nil, or_false] at hp
    subst hp
    rfl
    )
  exact hc
set_option maxRecDepth 100000 in
theorem lifted (os : Os) (started : os.Started) (H : Type) (enc : TypeId × Value → H) :
    ReturnsInHanded {} Try.checked os 12 .any (Rows.diskExactSpec.pre6 enc Try.prog Try.f12 Rows.diskExactRow.domain false) (Rows.diskExactSpec.post enc Try.prog Try.f12 false true false false) := by
  refine returnsInHanded_of_change_sized (C := Try.checked) own started (by kernel_rfl) Try.func12
    (ChangeSpec.witness6 (enc := enc) (C := Try.checked) false ⟨#[], #[.int .i64 0, .slice none 0 0], []⟩ 8 (by kernel_rfl) (by kernel_rfl) (by kernel_rfl) (by kernel_rfl)) ?_
  intro W base args ds gs before hval0 hW hcnd hsz0 _
  have hval : ∀ (j : Nat) t v, Try.f12.params[j]? = some t → args[j]? = some v → Value.okWide Try.prog W .any base t v := hval0
  have hW' := hW
  obtain ⟨p, q, hA0, hV, rfl, hfz, hnd⟩ := hW
  have hA : DataW.TrodAll enc Try.prog W 0 (fun _ => true) true Try.f12.params.toList args.toList ds p := hA0
  rw [Try.params12] at hA hval
  obtain ⟨v0, vs0, d0, ds0, p0, q0, hargs, rfl, rfl, h0, r0⟩ := trodAll_cons hA
  obtain ⟨v1, vs1, d1, ds1, p1, q1, rfl, rfl, rfl, h1, r1⟩ := trodAll_cons r0
  obtain ⟨rfl, rfl, rfl⟩ := trodAll_nil r1
  obtain rfl : args = #[v0, v1] := by cases args; simp_all
  obtain ⟨rfl, rfl⟩ := trodVars_none hV
  obtain ⟨a0, rfl, rfl, rfl, wf0⟩ := open_int Try.underlying3 (hval 0 3 v0 rfl rfl) h0
  have k1 := h1
  have lt1 : ∀ x ∈ p1, x.block < W.heap.size := by obtain ⟨m, hm⟩ := k1; exact DataW.trod_lt m _ _ _ hm
  obtain ⟨a1, rd1, one1, wf1⟩ := open_gn (ks := [.int .i64, .int .i64, .int .i64, .bytes .u8 5, .bools 4, .int .i64, .int .i64]) Try.underlying53 Try.underlying56 rfl (by kernel_rfl) (by
    intro i f k h1 h2
    match i with
    | 0 => obtain rfl := Option.some.inj (show some _ = some f from h1); obtain rfl := Option.some.inj (show some _ = some k from h2); exact ⟨rfl, by kernel_rfl, Try.underlying3⟩
    | 1 => obtain rfl := Option.some.inj (show some _ = some f from h1); obtain rfl := Option.some.inj (show some _ = some k from h2); exact ⟨rfl, by kernel_rfl, Try.underlying3⟩
    | 2 => obtain rfl := Option.some.inj (show some _ = some f from h1); obtain rfl := Option.some.inj (show some _ = some k from h2); exact ⟨rfl, by kernel_rfl, Try.underlying3⟩
    | 3 => obtain rfl := Option.some.inj (show some _ = some f from h1); obtain rfl := Option.some.inj (show some _ = some k from h2); exact ⟨rfl, by kernel_rfl, ⟨Try.underlying29, Try.underlying5, by kernel_rfl⟩⟩
    | 4 => obtain rfl := Option.some.inj (show some _ = some f from h1); obtain rfl := Option.some.inj (show some _ = some k from h2); exact ⟨rfl, by kernel_rfl, ⟨Try.underlying23, Try.underlying4, by kernel_rfl⟩⟩
    | 5 => obtain rfl := Option.some.inj (show some _ = some f from h1); obtain rfl := Option.some.inj (show some _ = some k from h2); exact ⟨rfl, by kernel_rfl, Try.underlying3⟩
    | 6 => obtain rfl := Option.some.inj (show some _ = some f from h1); obtain rfl := Option.some.inj (show some _ = some k from h2); exact ⟨rfl, by kernel_rfl, Try.underlying3⟩
    | n + 7 => cases h2) (hval 1 53 v1 rfl rfl) h1
  clear hA0 hval0 hsz0
  refine (walk W a0 a1 wf0 v1 rd1 one1 wf1).mono fun e W' ⟨he, bel⟩ => ?_
  subst he
  exact ⟨_, rfl, _, _, _, [], _, [], hW', trodAll_mk1 (shut_bool Try.underlying4 _), (trodAll_cons_mk (shut_int Try.underlying3 wf0) (trodAll_cons_mk (Below.trod laidOut (by kernel_rfl) (of_decide_eq_true (by kernel_rfl)) k1 bel lt1) trodAll_mk0)), rfl, bel.frame _, fun h => by cases h⟩
theorem cl : Try.prog.closure 12 = [12, 31, 13, 20, 14, 44, 16, 24, 51, 59, 50, 57, 60, 58, 62, 72, 73, 61, 63, 69, 79, 64, 74, 65, 75, 76, 66, 77, 78, 80, 67, 68, 70, 71, 48, 15, 45, 46, 47, 56, 17, 18, 49, 19, 25, 32, 53, 54, 36, 28, 33, 55, 29, 34, 30, 22, 35, 37, 26, 52, 38, 39, 40, 41, 23, 27, 42, 21, 43] := closure_eq Fx.adj_eq Fx.fuel_eq (by kernel_rfl)
theorem un : Try.prog.unfollowed 12 = true := (unfollowed_eq Fx.un_eq cl).trans (by kernel_rfl)
set_option maxRecDepth 100000 in
theorem facts : joinedFacts Try.prog 12 Try.f12 Rows.diskExactSpec Rows.diskExactRow = true := by
  delta joinedFacts
  repeat' (with_reducible refine bAnd ?_ ?_)
  · as_aux_lemma => kernel_rfl
  · as_aux_lemma => kernel_rfl
  · as_aux_lemma => kernel_rfl
  · as_aux_lemma => kernel_rfl
  · as_aux_lemma => kernel_rfl
  · as_aux_lemma => kernel_rfl
  · as_aux_lemma => kernel_rfl
  · as_aux_lemma => kernel_rfl
  · as_aux_lemma => kernel_rfl
  · exact beq_of (inPlace_eq Fx.inp_eq cl) (by kernel_rfl)
  · exact beq_of un (by kernel_rfl)
  · exact beq_of (recurses_un un) (by kernel_rfl)
  · exact beq_of (varsNamed_eq Fx.gl_eq Fx.er_eq cl) (by kernel_rfl)
  · as_aux_lemma => kernel_rfl
  · as_aux_lemma => kernel_rfl
  · as_aux_lemma => kernel_rfl
  · as_aux_lemma => kernel_rfl
  · as_aux_lemma => kernel_rfl
  · as_aux_lemma => kernel_rfl
  · as_aux_lemma => kernel_rfl
  · as_aux_lemma => kernel_rfl
  · as_aux_lemma => kernel_rfl
  · as_aux_lemma => kernel_rfl
  · as_aux_lemma => kernel_rfl
  · as_aux_lemma => kernel_rfl
  · exact Fx.mayEnter
  · exact beq_of Fx.lifts (by kernel_rfl)
  · rw [Fx.make]; kernel_rfl
  · as_aux_lemma => kernel_rfl
  · as_aux_lemma => kernel_rfl
  · as_aux_lemma => kernel_rfl
  · as_aux_lemma => kernel_rfl
theorem over : Rows.diskExactRow.holds Try.pinned (OpenSpec.ofChange Rows.diskExactSpec) :=
  OpenClaim.holds_of_wide 12 Try.f12 rfl rfl rfl rfl rfl rfl rfl ⟨rfl, rfl, rfl, rfl, rfl⟩ rfl rfl rfl rfl rfl (by kernel_rfl) Try.func12 facts
    (of_decide_eq_true (by kernel_rfl)) (by unfold Func.isWrapper; first | (rw [if_pos (by decide +kernel)]; kernel_rfl) | (rw [if_neg (by decide +kernel)]; exact ⟨rfl, rfl⟩))
    (fun os started H enc _ => lifted os started H enc)
end Go.Proofs.Ytdbheiibkpendaa.diskExact
namespace Go.Proofs.Ytdbheiibkpendaa
/-- The statement, as it is given. -/
theorem diskExact_holds : Rows.DiskExactSaid := diskExact.over
#print axioms diskExact_holds
end Go.Proofs.Ytdbheiibkpendaa
