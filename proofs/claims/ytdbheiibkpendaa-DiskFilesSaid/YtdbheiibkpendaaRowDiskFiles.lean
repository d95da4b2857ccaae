/- The row of the law DiskFiles, out of its walk and its plain statement. -/
import Derived.Test.YtdbheiibkpendaaRows
import Derived.Test.YtdbheiibkpendaaGwL
import Derived.Test.YtdbheiibkpendaaSdV3
import Derived.Test.YtdbheiibkpendaaDkT
import Derived.Test.YtdbheiibkpendaaSdFx
namespace Go.Proofs.Ytdbheiibkpendaa.diskFiles
open Go Go.Gw Go.ChangeShapes Go.WideShapes Go.ChangeAt Go.RowKit Go.Proofs.Sd Go.Proofs.Sd.D
set_option linter.unusedVariables false
theorem own : ownKnob Try.prog.godebug = none := by kernel_rfl
theorem laidOut : laidOutB Try.prog = true := by kernel_rfl
set_option maxRecDepth 100000 in
theorem walk (w : World) (a0 : List Int) (a1 : List Bool) (v0 : Value) (rd0 : RdI w v0 .i64 a0) (one0 : v0.oneCell' = true) (wf0 : ∀ x ∈ a0, (Lit.int .i64 x).wf = true) (v1 : Value) (rd1 : RdB w v1 a1) (one1 : v1.oneCell' = true) :
    Calls Try.prog 5 #[v0, v1] w fun e w' => e = .returned (.bool true) ∧ Below w.heap.size w w' := by
  have h := Go.Dk.DiskFiles a0 a1 wf0
  have h1 : ∀ κ, (handG [(9000, v0), (9001, v1)] κ).oneCell' = true := handG_one (by
    intro p hp
    simp only [List.mem_cons, List.not_mem_nil, or_false] at hp
    rcases hp with rfl | rfl
    · exact one0
    · exact one1
    )
  have hc := calls_of_ok1 (P := Try.prog) Try.func5 (by kernel_rfl) rfl (law14_DiskFiles_ok a0 a1 true h) (by
    intro x hx
    simp only [List.mem_cons, List.not_mem_nil, or_false] at hx
    rcases hx with rfl | rfl
    · exact ⟨trivial, trivial⟩
    · exact ⟨trivial, trivial⟩
    ) (handG [(9000, v0), (9001, v1)]) h1 w (by
    intro p hp
    simp only [List.mem_cons, List.not_mem_nil, or_false] at hp
    rcases hp with rfl | rfl
    · exact rd0
    · exact rd1
    ) (by
    intro p hp
    simp only [List.mem_cons, List.not_mem_nil, or_false] at hp
    rcases hp with rfl | rfl <;> rfl
    )
  exact hc
set_option maxRecDepth 100000 in
theorem lifted (os : Os) (started : os.Started) (H : Type) (enc : TypeId × Value → H) :
    ReturnsInHanded {} Try.checked os 5 .any (Rows.diskFilesSpec.pre6 enc Try.prog Try.f5 Rows.diskFilesRow.domain false) (Rows.diskFilesSpec.post enc Try.prog Try.f5 false true false false) := by
  refine returnsInHanded_of_change_sized (C := Try.checked) own started (by kernel_rfl) Try.func5
    (ChangeSpec.witness6 (enc := enc) (C := Try.checked) false ⟨#[], #[.slice none 0 0, .slice none 0 0], []⟩ 8 (by kernel_rfl) (by kernel_rfl) (by kernel_rfl) (by kernel_rfl)) ?_
  intro W base args ds gs before hval0 hW hcnd hsz0 _
  have hval : ∀ (j : Nat) t v, Try.f5.params[j]? = some t → args[j]? = some v → Value.okWide Try.prog W .any base t v := hval0
  have hW' := hW
  obtain ⟨p, q, hA0, hV, rfl, hfz, hnd⟩ := hW
  have hA : DataW.TrodAll enc Try.prog W 0 (fun _ => true) true Try.f5.params.toList args.toList ds p := hA0
  rw [Try.params5] at hA hval
  obtain ⟨v0, vs0, d0, ds0, p0, q0, hargs, rfl, rfl, h0, r0⟩ := trodAll_cons hA
  obtain ⟨v1, vs1, d1, ds1, p1, q1, rfl, rfl, rfl, h1, r1⟩ := trodAll_cons r0
  obtain ⟨rfl, rfl, rfl⟩ := trodAll_nil r1
  obtain rfl : args = #[v0, v1] := by cases args; simp_all
  obtain ⟨rfl, rfl⟩ := trodVars_none hV
  have k0 := h0
  have lt0 : ∀ x ∈ p0, x.block < W.heap.size := by obtain ⟨m, hm⟩ := k0; exact DataW.trod_lt m _ _ _ hm
  obtain ⟨a0, rd0, one0, wf0⟩ := open_slc (k := .i64) Try.underlying22 Try.underlying3 (by kernel_rfl) (hval 0 22 v0 rfl rfl) h0
  have k1 := h1
  have lt1 : ∀ x ∈ p1, x.block < W.heap.size := by obtain ⟨m, hm⟩ := k1; exact DataW.trod_lt m _ _ _ hm
  obtain ⟨a1, rd1, one1⟩ := open_boolS Try.underlying23 Try.underlying4 (by kernel_rfl) (hval 1 23 v1 rfl rfl) h1
  clear hA0 hval0 hsz0
  refine (walk W a0 a1 v0 rd0 one0 wf0 v1 rd1 one1).mono fun e W' ⟨he, bel⟩ => ?_
  subst he
  exact ⟨_, rfl, _, _, _, [], _, [], hW', trodAll_mk1 (shut_bool Try.underlying4 _), (trodAll_cons_mk (Below.trod laidOut (by kernel_rfl) (of_decide_eq_true (by kernel_rfl)) k0 bel lt0) (trodAll_cons_mk (Below.trod laidOut (by kernel_rfl) (of_decide_eq_true (by kernel_rfl)) k1 bel lt1) trodAll_mk0)), rfl, bel.frame _, fun h => by cases h⟩
theorem cl : Try.prog.closure 5 = [5, 13, 22, 45, 44, 16, 24, 51, 59, 50, 57, 60, 58, 62, 72, 73, 61, 63, 69, 79, 64, 74, 65, 75, 76, 66, 77, 78, 80, 67, 68, 70, 71, 48, 14, 23, 20, 15, 46, 47, 56, 17, 18, 49, 19, 25] := closure_eq Fx.adj_eq Fx.fuel_eq (by kernel_rfl)
theorem un : Try.prog.unfollowed 5 = true := (unfollowed_eq Fx.un_eq cl).trans (by kernel_rfl)
set_option maxRecDepth 100000 in
theorem facts : joinedFacts Try.prog 5 Try.f5 Rows.diskFilesSpec Rows.diskFilesRow = true := by
  delta joinedFacts
  repeat' (with_reducible refine bAnd ?_ ?_)
  · as_aux_lemma => kernel_rfl
  · as_aux_lemma => kernel_rfl
  · as_aux_lemma => kernel_rfl
  · as_aux_lemma => kernel_rfl
  · as_aux_lemma => kernel_rfl
  · as_aux_lemma => kernel_rfl
  · as_aux_lemma => kernel_rfl
  · as_aux_lemma => kernel_rfl
  · as_aux_lemma => kernel_rfl
  · exact beq_of (inPlace_eq Fx.inp_eq cl) (by kernel_rfl)
  · exact beq_of un (by kernel_rfl)
  · exact beq_of (recurses_un un) (by kernel_rfl)
  · exact beq_of (varsNamed_eq Fx.gl_eq Fx.er_eq cl) (by kernel_rfl)
  · as_aux_lemma => kernel_rfl
  · as_aux_lemma => kernel_rfl
  · as_aux_lemma => kernel_rfl
  · as_aux_lemma => kernel_rfl
  · as_aux_lemma => kernel_rfl
  · as_aux_lemma => kernel_rfl
  · as_aux_lemma => kernel_rfl
  · as_aux_lemma => kernel_rfl
  · as_aux_lemma => kernel_rfl
  · as_aux_lemma => kernel_rfl
  · as_aux_lemma => kernel_rfl
  · as_aux_lemma => kernel_rfl
  · exact Fx.mayEnter
  · exact beq_of Fx.lifts (by kernel_rfl)
  · rw [Fx.make]; kernel_rfl
  · as_aux_lemma => kernel_rfl
  · as_aux_lemma => kernel_rfl
  · as_aux_lemma => kernel_rfl
  · as_aux_lemma => kernel_rfl
theorem over : Rows.diskFilesRow.holds Try.pinned (OpenSpec.ofChange Rows.diskFilesSpec) :=
  OpenClaim.holds_of_wide 5 Try.f5 rfl rfl rfl rfl rfl rfl rfl ⟨rfl, rfl, rfl, rfl, rfl⟩ rfl rfl rfl rfl rfl (by kernel_rfl) Try.func5 facts
    (of_decide_eq_true (by kernel_rfl)) (by unfold Func.isWrapper; first | (rw [if_pos (by decide +kernel)]; kernel_rfl) | (rw [if_neg (by decide +kernel)]; exact ⟨rfl, rfl⟩))
    (fun os started H enc _ => lifted os started H enc)
end Go.Proofs.Ytdbheiibkpendaa.diskFiles
namespace Go.Proofs.Ytdbheiibkpendaa
/-- The statement, as it is given. -/
theorem diskFiles_holds : Rows.DiskFilesSaid := diskFiles.over
#print axioms diskFiles_holds
end Go.Proofs.Ytdbheiibkpendaa
