/- The row of the law DiskCuts, out of its walk and its plain statement. -/
import Derived.Test.YtdbheiibkpendaaRows
import Derived.Test.YtdbheiibkpendaaGw12
import Derived.Test.YtdbheiibkpendaaSdV4
import Derived.Test.YtdbheiibkpendaaDkL
import Derived.Test.YtdbheiibkpendaaSdFx
namespace Go.Proofs.Ytdbheiibkpendaa.diskCuts
open Go Go.Gw Go.ChangeShapes Go.WideShapes Go.ChangeAt Go.RowKit Go.Proofs.Sd Go.Proofs.Sd.D
set_option linter.unusedVariables false
theorem own : ownKnob Try.prog.godebug = none := by kernel_rfl
theorem laidOut : laidOutB Try.prog = true := by kernel_rfl
set_option maxRecDepth 100000 in
theorem walk (w : World) (a0 : List Int) (a1 : List Int) (a2 : Int) (v0 : Value) (rd0 : RdI w v0 .u8 a0) (one0 : v0.oneCell' = true) (wf0 : ∀ x ∈ a0, (Lit.int .u8 x).wf = true) (v1 : Value) (rd1 : RdI w v1 .u8 a1) (one1 : v1.oneCell' = true) (wf1 : ∀ x ∈ a1, (Lit.int .u8 x).wf = true) (wf2 : (Lit.int .i64 a2).wf = true) :
    Calls Try.prog 8 #[v0, v1, .int .i64 a2] w fun e w' => e = .returned (.bool true) ∧ Below w.heap.size w w' := by
  have h := Go.Dk.DiskCuts a0 a1 a2 wf0 wf1 wf2
  have h1 : ∀ κ, (handG [(9000, v0), (9001, v1)] κ).oneCell' = true := handG_one (by
    intro p hp
    simp only [List.mem_cons, List.not_mem_nil, or_false] at hp
    rcases hp with rfl | rfl
    · exact one0
    · exact one1
    )
  have hc := calls_of_ok1 (P := Try.prog) Try.func8 (by kernel_rfl) rfl (law14_DiskCuts_ok a0 a1 a2 true h) (by
    intro x hx
    simp only [List.mem_cons, List.not_mem_nil, or_false] at hx
    rcases hx with rfl | rfl | rfl
    · exact ⟨trivial, trivial⟩
    · exact ⟨trivial, trivial⟩
    · exact ⟨trivial, trivial⟩
    ) (handG [(9000, v0), (9001, v1)]) h1 w (by
    intro p hp
    simp only [List.mem_cons, List.not_mem_nil, or_false] at hp
    rcases hp with rfl | rfl
    · exact rd0
    · exact rd1
    ) (by
    intro p hp
    simp only [List.mem_cons, List.not_mem_nil, or_false] at hp
    rcases hp with rfl | rfl <;> rfl
    )
  exact hc
set_option maxRecDepth 100000 in
theorem lifted (os : Os) (started : os.Started) (H : Type) (enc : TypeId × Value → H) :
    ReturnsInHanded {} Try.checked os 8 .any (Rows.diskCutsSpec.pre6 enc Try.prog Try.f8 Rows.diskCutsRow.domain false) (Rows.diskCutsSpec.post enc Try.prog Try.f8 false true false false) := by
  refine returnsInHanded_of_change_sized (C := Try.checked) own started (by kernel_rfl) Try.func8
    (ChangeSpec.witness6 (enc := enc) (C := Try.checked) false ⟨#[], #[.slice none 0 0, .slice none 0 0, .int .i64 0], []⟩ 8 (by kernel_rfl) (by kernel_rfl) (by kernel_rfl) (by kernel_rfl)) ?_
  intro W base args ds gs before hval0 hW hcnd hsz0 _
  have hval : ∀ (j : Nat) t v, Try.f8.params[j]? = some t → args[j]? = some v → Value.okWide Try.prog W .any base t v := hval0
  have hW' := hW
  obtain ⟨p, q, hA0, hV, rfl, hfz, hnd⟩ := hW
  have hA : DataW.TrodAll enc Try.prog W 0 (fun _ => true) true Try.f8.params.toList args.toList ds p := hA0
  rw [Try.params8] at hA hval
  obtain ⟨v0, vs0, d0, ds0, p0, q0, hargs, rfl, rfl, h0, r0⟩ := trodAll_cons hA
  obtain ⟨v1, vs1, d1, ds1, p1, q1, rfl, rfl, rfl, h1, r1⟩ := trodAll_cons r0
  obtain ⟨v2, vs2, d2, ds2, p2, q2, rfl, rfl, rfl, h2, r2⟩ := trodAll_cons r1
  obtain ⟨rfl, rfl, rfl⟩ := trodAll_nil r2
  obtain rfl : args = #[v0, v1, v2] := by cases args; simp_all
  obtain ⟨rfl, rfl⟩ := trodVars_none hV
  have k0 := h0
  have lt0 : ∀ x ∈ p0, x.block < W.heap.size := by obtain ⟨m, hm⟩ := k0; exact DataW.trod_lt m _ _ _ hm
  obtain ⟨a0, rd0, one0, wf0⟩ := open_slc (k := .u8) Try.underlying29 Try.underlying5 (by kernel_rfl) (hval 0 29 v0 rfl rfl) h0
  have k1 := h1
  have lt1 : ∀ x ∈ p1, x.block < W.heap.size := by obtain ⟨m, hm⟩ := k1; exact DataW.trod_lt m _ _ _ hm
  obtain ⟨a1, rd1, one1, wf1⟩ := open_slc (k := .u8) Try.underlying29 Try.underlying5 (by kernel_rfl) (hval 1 29 v1 rfl rfl) h1
  obtain ⟨a2, rfl, rfl, rfl, wf2⟩ := open_int Try.underlying3 (hval 2 3 v2 rfl rfl) h2
  clear hA0 hval0 hsz0
  refine (walk W a0 a1 a2 v0 rd0 one0 wf0 v1 rd1 one1 wf1 wf2).mono fun e W' ⟨he, bel⟩ => ?_
  subst he
  exact ⟨_, rfl, _, _, _, [], _, [], hW', trodAll_mk1 (shut_bool Try.underlying4 _), (trodAll_cons_mk (Below.trod laidOut (by kernel_rfl) (of_decide_eq_true (by kernel_rfl)) k0 bel lt0) (trodAll_cons_mk (Below.trod laidOut (by kernel_rfl) (of_decide_eq_true (by kernel_rfl)) k1 bel lt1) (trodAll_cons_mk (shut_int Try.underlying3 wf2) trodAll_mk0))), rfl, bel.frame _, fun h => by cases h⟩
theorem cl : Try.prog.closure 8 = [8, 13, 14, 44, 16, 24, 51, 59, 50, 57, 60, 58, 62, 72, 73, 61, 63, 69, 79, 64, 74, 65, 75, 76, 66, 77, 78, 80, 67, 68, 70, 71, 48, 15, 45, 46, 47, 56, 29, 49, 21, 18, 30, 19, 17, 22, 20, 25] := closure_eq Fx.adj_eq Fx.fuel_eq (by kernel_rfl)
theorem un : Try.prog.unfollowed 8 = true := (unfollowed_eq Fx.un_eq cl).trans (by kernel_rfl)
set_option maxRecDepth 100000 in
theorem facts : joinedFacts Try.prog 8 Try.f8 Rows.diskCutsSpec Rows.diskCutsRow = true := by
  delta joinedFacts
  repeat' (with_reducible refine bAnd ?_ ?_)
  · as_aux_lemma => kernel_rfl
  · as_aux_lemma => kernel_rfl
  · as_aux_lemma => kernel_rfl
  · as_aux_lemma => kernel_rfl
  · as_aux_lemma => kernel_rfl
  · as_aux_lemma => kernel_rfl
  · as_aux_lemma => kernel_rfl
  · as_aux_lemma => kernel_rfl
  · as_aux_lemma => kernel_rfl
  · exact beq_of (inPlace_eq Fx.inp_eq cl) (by kernel_rfl)
  · exact beq_of un (by kernel_rfl)
  · exact beq_of (recurses_un un) (by kernel_rfl)
  · exact beq_of (varsNamed_eq Fx.gl_eq Fx.er_eq cl) (by kernel_rfl)
  · as_aux_lemma => kernel_rfl
  · as_aux_lemma => kernel_rfl
  · as_aux_lemma => kernel_rfl
  · as_aux_lemma => kernel_rfl
  · as_aux_lemma => kernel_rfl
  · as_aux_lemma => kernel_rfl
  · as_aux_lemma => kernel_rfl
  · as_aux_lemma => kernel_rfl
  · as_aux_lemma => kernel_rfl
  · as_aux_lemma => kernel_rfl
  · as_aux_lemma => kernel_rfl
  · as_aux_lemma => kernel_rfl
  · exact Fx.mayEnter
  · exact beq_of Fx.lifts (by kernel_rfl)
  · rw [Fx.make]; kernel_rfl
  · as_aux_lemma => kernel_rfl
  · as_aux_lemma => kernel_rfl
  · as_aux_lemma => kernel_rfl
  · as_aux_lemma => kernel_rfl
theorem over : Rows.diskCutsRow.holds Try.pinned (OpenSpec.ofChange Rows.diskCutsSpec) :=
  OpenClaim.holds_of_wide 8 Try.f8 rfl rfl rfl rfl rfl rfl rfl ⟨rfl, rfl, rfl, rfl, rfl⟩ rfl rfl rfl rfl rfl (by kernel_rfl) Try.func8 facts
    (of_decide_eq_true (by kernel_rfl)) (by unfold Func.isWrapper; first | (rw [if_pos (by decide +kernel)]; kernel_rfl) | (rw [if_neg (by decide +kernel)]; exact ⟨rfl, rfl⟩))
    (fun os started H enc _ => lifted os started H enc)
end Go.Proofs.Ytdbheiibkpendaa.diskCuts
namespace Go.Proofs.Ytdbheiibkpendaa
/-- The statement, as it is given. -/
theorem diskCuts_holds : Rows.DiskCutsSaid := diskCuts.over
#print axioms diskCuts_holds
end Go.Proofs.Ytdbheiibkpendaa
