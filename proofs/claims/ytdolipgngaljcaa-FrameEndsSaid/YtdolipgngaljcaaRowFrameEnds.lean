/- The row of the law FrameEnds, out of its walk and its plain statement. -/
import Derived.Test.YtdolipgngaljcaaRows
import Derived.Test.YtdolipgngaljcaaGw12
import Derived.Test.YtdolipgngaljcaaSaV4
import Derived.Test.YtdolipgngaljcaaFrC
import Derived.Test.YtdolipgngaljcaaSaFx
namespace Go.Proofs.Ytdolipgngaljcaa.frameEnds
open Go Go.Gw Go.ChangeShapes Go.WideShapes Go.ChangeAt Go.RowKit Go.Proofs.Sa Go.Proofs.Sa.D
set_option linter.unusedVariables false
theorem own : ownKnob Try.prog.godebug = none := by kernel_rfl
theorem laidOut : laidOutB Try.prog = true := by kernel_rfl
set_option maxRecDepth 100000 in
theorem walk (w : World) (a0 : Int) (a1 : Int) (wf0 : (Lit.int .i64 a0).wf = true) (wf1 : (Lit.int .i64 a1).wf = true) :
    Calls Try.prog 14 #[.int .i64 a0, .int .i64 a1] w fun e w' => e = .returned (.bool true) ∧ Below w.heap.size w w' := by
  have h := Go.Fr.FrameEnds a0 a1 wf0 wf1
  have hc := calls_of_ok (P := Try.prog) Try.func14 (by kernel_rfl) rfl (law15_FrameEnds_ok a0 a1 true h) (by
    intro x hx
    simp only [List.mem_cons, List.not_mem_nil, or_false] at hx
    rcases hx with rfl | rfl
    · exact ⟨trivial, trivial⟩
    · exact ⟨trivial, trivial⟩
    ) w
  simpa [SV.den, V1.den, cellsL, Leaf.cells] using hc
set_option maxRecDepth 100000 in
theorem lifted (os : Os) (started : os.Started) (H : Type) (enc : TypeId × Value → H) :
    ReturnsInHanded {} Try.checked os 14 .any (Rows.frameEndsSpec.pre6 enc Try.prog Try.f14 Rows.frameEndsRow.domain false) (Rows.frameEndsSpec.post enc Try.prog Try.f14 false true false false) := by
  refine returnsInHanded_of_change_sized (C := Try.checked) own started (by kernel_rfl) Try.func14
    (ChangeSpec.witness6 (enc := enc) (C := Try.checked) false ⟨#[], #[.int .i64 0, .int .i64 0], []⟩ 8 (by kernel_rfl) (by kernel_rfl) (by kernel_rfl) (by kernel_rfl)) ?_
  intro W base args ds gs before hval0 hW hcnd hsz0 _
  have hval : ∀ (j : Nat) t v, Try.f14.params[j]? = some t → args[j]? = some v → Value.okWide Try.prog W .any base t v := hval0
  have hW' := hW
  obtain ⟨p, q, hA0, hV, rfl, hfz, hnd⟩ := hW
  have hA : DataW.TrodAll enc Try.prog W 0 (fun _ => true) true Try.f14.params.toList args.toList ds p := hA0
  rw [Try.params14] at hA hval
  obtain ⟨v0, vs0, d0, ds0, p0, q0, hargs, rfl, rfl, h0, r0⟩ := trodAll_cons hA
  obtain ⟨v1, vs1, d1, ds1, p1, q1, rfl, rfl, rfl, h1, r1⟩ := trodAll_cons r0
  obtain ⟨rfl, rfl, rfl⟩ := trodAll_nil r1
  obtain rfl : args = #[v0, v1] := by cases args; simp_all
  obtain ⟨rfl, rfl⟩ := trodVars_none hV
  obtain ⟨a0, rfl, rfl, rfl, wf0⟩ := open_int Try.underlying3 (hval 0 3 v0 rfl rfl) h0
  obtain ⟨a1, rfl, rfl, rfl, wf1⟩ := open_int Try.underlying3 (hval 1 3 v1 rfl rfl) h1
  clear hA0 hval0 hsz0
  refine (walk W a0 a1 wf0 wf1).mono fun e W' ⟨he, bel⟩ => ?_
  subst he
  exact ⟨_, rfl, _, _, _, [], _, [], hW', trodAll_mk1 (shut_bool Try.underlying4 _), (trodAll_cons_mk (shut_int Try.underlying3 wf0) (trodAll_cons_mk (shut_int Try.underlying3 wf1) trodAll_mk0)), rfl, bel.frame _, fun h => by cases h⟩
theorem cl : Try.prog.closure 14 = [14, 32, 56, 57, 51, 66, 24, 49, 41, 36, 58, 59, 39] := closure_eq Fx.adj_eq Fx.fuel_eq (by kernel_rfl)
theorem un : Try.prog.unfollowed 14 = false := (unfollowed_eq Fx.un_eq cl).trans (by kernel_rfl)
set_option maxRecDepth 100000 in
theorem facts : joinedFacts Try.prog 14 Try.f14 Rows.frameEndsSpec Rows.frameEndsRow = true := by
  delta joinedFacts
  repeat' (with_reducible refine bAnd ?_ ?_)
  · as_aux_lemma => kernel_rfl
  · as_aux_lemma => kernel_rfl
  · as_aux_lemma => kernel_rfl
  · as_aux_lemma => kernel_rfl
  · as_aux_lemma => kernel_rfl
  · as_aux_lemma => kernel_rfl
  · as_aux_lemma => kernel_rfl
  · as_aux_lemma => kernel_rfl
  · as_aux_lemma => kernel_rfl
  · exact beq_of (inPlace_eq Fx.inp_eq cl) (by kernel_rfl)
  · exact beq_of un (by kernel_rfl)
  · exact beq_of (recurses_eq Fx.adj_eq Fx.rk_ok un) (by kernel_rfl)
  · exact beq_of (varsNamed_eq Fx.gl_eq Fx.er_eq cl) (by kernel_rfl)
  · as_aux_lemma => kernel_rfl
  · as_aux_lemma => kernel_rfl
  · as_aux_lemma => kernel_rfl
  · as_aux_lemma => kernel_rfl
  · as_aux_lemma => kernel_rfl
  · as_aux_lemma => kernel_rfl
  · as_aux_lemma => kernel_rfl
  · as_aux_lemma => kernel_rfl
  · as_aux_lemma => kernel_rfl
  · as_aux_lemma => kernel_rfl
  · as_aux_lemma => kernel_rfl
  · as_aux_lemma => kernel_rfl
  · exact Fx.mayEnter
  · exact beq_of Fx.lifts (by kernel_rfl)
  · rw [Fx.make]; kernel_rfl
  · as_aux_lemma => kernel_rfl
  · as_aux_lemma => kernel_rfl
  · as_aux_lemma => kernel_rfl
  · as_aux_lemma => kernel_rfl
theorem over : Rows.frameEndsRow.holds Try.pinned (OpenSpec.ofChange Rows.frameEndsSpec) :=
  OpenClaim.holds_of_wide 14 Try.f14 rfl rfl rfl rfl rfl rfl rfl ⟨rfl, rfl, rfl, rfl, rfl⟩ rfl rfl rfl rfl rfl (by kernel_rfl) Try.func14 facts
    (of_decide_eq_true (by kernel_rfl)) (by unfold Func.isWrapper; first | (rw [if_pos (by decide +kernel)]; kernel_rfl) | (rw [if_neg (by decide +kernel)]; exact ⟨rfl, rfl⟩))
    (fun os started H enc _ => lifted os started H enc)
end Go.Proofs.Ytdolipgngaljcaa.frameEnds
namespace Go.Proofs.Ytdolipgngaljcaa
/-- The statement, as it is given. -/
theorem frameEnds_holds : Rows.FrameEndsSaid := frameEnds.over
#print axioms frameEnds_holds
end Go.Proofs.Ytdolipgngaljcaa
