/- The row of the law CurveEquation, out of its walk and its plain statement. -/
import Derived.Test.YtdcdanfeepncmaaRows
import Derived.Test.YtdcdanfeepncmaaGw12
import Derived.Test.YtdcdanfeepncmaaSbV8
import Derived.Test.YtdcdanfeepncmaaMCuI
import Derived.Test.YtdcdanfeepncmaaSbFx
namespace Go.Proofs.Ytdcdanfeepncmaa.curveEquation
open Go Go.Gw Go.ChangeShapes Go.WideShapes Go.ChangeAt Go.RowKit Go.Proofs.Sb Go.Proofs.Sb.D
set_option linter.unusedVariables false
theorem own : ownKnob Try.prog.godebug = none := by kernel_rfl
theorem laidOut : laidOutB Try.prog = true := by kernel_rfl
set_option maxRecDepth 100000 in
theorem walk (w : World) (a0 : List Int) (hlen0 : a0.length = 32) (wf0 : ∀ x ∈ a0, (Lit.int .u8 x).wf = true) :
    Calls Try.prog 20 #[.agg (a0.map (Value.int .u8)).toArray] w fun e w' => e = .returned (.bool true) ∧ Below w.heap.size w w' := by
  have h := Go.Cu.CurveEquation a0 hlen0 wf0
  have hc := calls_of_ok (P := Try.prog) Try.func20 (by kernel_rfl) rfl (law06_CurveEquation_ok a0 true h) (by
    intro x hx
    simp only [List.mem_cons, List.not_mem_nil, or_false] at hx
    subst hx
    exact (by intro y hy; simp only [List.mem_singleton] at hy; subst hy; exact hlen0)
    ) w
  simpa [SV.den, V1.den, cellsL, Leaf.cells] using hc
set_option maxRecDepth 100000 in
theorem lifted (os : Os) (started : os.Started) (H : Type) (enc : TypeId × Value → H) :
    ReturnsInHanded {} Try.checked os 20 .any (Rows.curveEquationSpec.pre6 enc Try.prog Try.f20 Rows.curveEquationRow.domain false) (Rows.curveEquationSpec.post enc Try.prog Try.f20 false true false false) := by
  refine returnsInHanded_of_change_sized (C := Try.checked) own started (by kernel_rfl) Try.func20
    (ChangeSpec.witness6 (enc := enc) (C := Try.checked) false ⟨#[], #[.agg (List.replicate 32 (Value.int .u8 0)).toArray], []⟩ 8 (by kernel_rfl) (by kernel_rfl) (by kernel_rfl) (by kernel_rfl)) ?_
  intro W base args ds gs before hval0 hW hcnd hsz0 _
  have hval : ∀ (j : Nat) t v, Try.f20.params[j]? = some t → args[j]? = some v → Value.okWide Try.prog W .any base t v := hval0
  have hW' := hW
  obtain ⟨p, q, hA0, hV, rfl, hfz, hnd⟩ := hW
  have hA : DataW.TrodAll enc Try.prog W 0 (fun _ => true) true Try.f20.params.toList args.toList ds p := hA0
  rw [Try.params20] at hA hval
  obtain ⟨v0, vs0, d0, ds0, p0, q0, hargs, rfl, rfl, h0, r0⟩ := trodAll_cons hA
  obtain ⟨rfl, rfl, rfl⟩ := trodAll_nil r0
  obtain rfl : args = #[v0] := by cases args; simp_all
  obtain ⟨rfl, rfl⟩ := trodVars_none hV
  have k0 := h0
  have lt0 : ∀ x ∈ p0, x.block < W.heap.size := by obtain ⟨m, hm⟩ := k0; exact DataW.trod_lt m _ _ _ hm
  obtain ⟨a0, rfl, hlen0, wf0⟩ := open_arr (n := 32) (k := .u8) Try.underlying22 Try.underlying5 (by kernel_rfl) (by kernel_rfl) (hval 0 22 v0 rfl rfl) h0
  clear hA0 hval0 hsz0
  refine (walk W a0 hlen0 wf0).mono fun e W' ⟨he, bel⟩ => ?_
  subst he
  exact ⟨_, rfl, _, _, _, [], _, [], hW', trodAll_mk1 (shut_bool Try.underlying4 _), (trodAll_cons_mk (Below.trod laidOut (by kernel_rfl) (of_decide_eq_true (by kernel_rfl)) k0 bel lt0) trodAll_mk0), rfl, bel.frame _, fun h => by cases h⟩
theorem cl : Try.prog.closure 20 = [20, 26, 41, 72, 80, 102, 73, 50, 83, 104, 103, 87, 74, 100, 78, 34, 40, 79, 52, 85, 105, 86, 58, 92, 107, 42, 33, 59, 56, 54, 90, 89, 106, 108, 91] := closure_eq Fx.adj_eq Fx.fuel_eq (by kernel_rfl)
theorem un : Try.prog.unfollowed 20 = true := (unfollowed_eq Fx.un_eq cl).trans (by kernel_rfl)
set_option maxRecDepth 100000 in
theorem facts : joinedFacts Try.prog 20 Try.f20 Rows.curveEquationSpec Rows.curveEquationRow = true := by
  delta joinedFacts
  repeat' (with_reducible refine bAnd ?_ ?_)
  · as_aux_lemma => kernel_rfl
  · as_aux_lemma => kernel_rfl
  · as_aux_lemma => kernel_rfl
  · as_aux_lemma => kernel_rfl
  · as_aux_lemma => kernel_rfl
  · as_aux_lemma => kernel_rfl
  · as_aux_lemma => kernel_rfl
  · as_aux_lemma => kernel_rfl
  · as_aux_lemma => kernel_rfl
  · exact beq_of (inPlace_eq Fx.inp_eq cl) (by kernel_rfl)
  · exact beq_of un (by kernel_rfl)
  · exact beq_of (recurses_un un) (by kernel_rfl)
  · exact beq_of (varsNamed_eq Fx.gl_eq Fx.er_eq cl) (by kernel_rfl)
  · as_aux_lemma => kernel_rfl
  · as_aux_lemma => kernel_rfl
  · as_aux_lemma => kernel_rfl
  · as_aux_lemma => kernel_rfl
  · as_aux_lemma => kernel_rfl
  · as_aux_lemma => kernel_rfl
  · as_aux_lemma => kernel_rfl
  · as_aux_lemma => kernel_rfl
  · as_aux_lemma => kernel_rfl
  · as_aux_lemma => kernel_rfl
  · as_aux_lemma => kernel_rfl
  · as_aux_lemma => kernel_rfl
  · exact Fx.mayEnter
  · exact beq_of Fx.lifts (by kernel_rfl)
  · rw [Fx.make]; kernel_rfl
  · as_aux_lemma => kernel_rfl
  · as_aux_lemma => kernel_rfl
  · as_aux_lemma => kernel_rfl
  · as_aux_lemma => kernel_rfl
theorem over : Rows.curveEquationRow.holds Try.pinned (OpenSpec.ofChange Rows.curveEquationSpec) :=
  OpenClaim.holds_of_wide 20 Try.f20 rfl rfl rfl rfl rfl rfl rfl ⟨rfl, rfl, rfl, rfl, rfl⟩ rfl rfl rfl rfl rfl (by kernel_rfl) Try.func20 facts
    (of_decide_eq_true (by kernel_rfl)) (by unfold Func.isWrapper; first | (rw [if_pos (by decide +kernel)]; kernel_rfl) | (rw [if_neg (by decide +kernel)]; exact ⟨rfl, rfl⟩))
    (fun os started H enc _ => lifted os started H enc)
end Go.Proofs.Ytdcdanfeepncmaa.curveEquation
namespace Go.Proofs.Ytdcdanfeepncmaa
/-- The statement, as it is given. -/
theorem curveEquation_holds : Rows.CurveEquationSaid := curveEquation.over
#print axioms curveEquation_holds
end Go.Proofs.Ytdcdanfeepncmaa
