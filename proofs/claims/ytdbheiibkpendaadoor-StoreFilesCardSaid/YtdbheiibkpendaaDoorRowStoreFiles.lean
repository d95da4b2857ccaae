/- The row of the law StoreFiles, out of its walk and its plain statement. -/
import Derived.Test.YtdbheiibkpendaaDoorRows
import Derived.Test.YtdbheiibkpendaaDoorCards
import Derived.Test.YtdbheiibkpendaaDoorTie
import Derived.SevenTiedAt
import Derived.Test.YtdbheiibkpendaaDoorSeH
import Derived.Test.YtdbheiibkpendaaDoorGw12
import Derived.Test.YtdbheiibkpendaaDoorSeV3
import Derived.Test.YtdbheiibkpendaaDoorMStA
import Derived.Test.YtdbheiibkpendaaDoorSeFx
namespace Go.Proofs.YtdbheiibkpendaaDoor.storeFiles
open Go Go.Gw Go.ChangeShapes Go.WideShapes Go.ChangeAt Go.RowKit Go.Proofs.Se Go.Proofs.Se.D Go.Proofs.YtdbheiibkpendaaDoor
set_option linter.unusedVariables false
theorem own : ownKnob Tryd.prog.godebug = none := by kernel_rfl
theorem laidOut : laidOutB Tryd.prog = true := by kernel_rfl
set_option maxRecDepth 100000 in
theorem walk (w : World) (a0 : List Int) (v0 : Value) (rd0 : RdI w v0 .i64 a0) (one0 : v0.oneCell' = true) (wf0 : ∀ x ∈ a0, (Lit.int .i64 x).wf = true) (hg : w.cell? ⟨0, 0, none⟩ = some hv) :
    Calls Tryd.prog 3 #[v0] w fun e w' => e = .returned (.bool true) ∧ Below w.heap.size w w' := by
  have h := Go.St.StoreFiles a0 wf0
  have h1 : ∀ κ, (handG [(9000, v0), (9999, Value.nilIface)] κ).oneCell' = true := handG_one (by
    intro p hp
    simp only [List.mem_cons, List.not_mem_nil, or_false] at hp
    rcases hp with rfl | rfl
    · exact one0
    · exact rfl
    )
  have hc := calls_of_ok1 (P := Tryd.prog) Tryd.func3 (by kernel_rfl) rfl (law16_StoreFiles_ok a0 true h) (by
    intro x hx
    simp only [List.mem_cons, List.not_mem_nil, or_false] at hx
    subst hx
    exact ⟨trivial, trivial⟩
    ) (handG [(9000, v0), (9999, Value.nilIface)]) h1 w (by
    intro p hp
    simp only [List.mem_cons, List.not_mem_nil, or_false] at hp
    rcases hp with rfl | rfl
    · exact rd0
    · exact hg
    ) (by
    intro p hp
    simp only [List.mem_cons, List.not_mem_nil, or_false] at hp
    rcases hp with rfl | rfl <;> rfl
    )
  exact hc
set_option maxRecDepth 100000 in
theorem lifted (os : Os) (started : os.Started) (H : Type) (enc : TypeId × Value → H) :
    ReturnsInHanded {} Tryd.checked os 3 .any (fun w args => (Rows.storeFilesSpec.pre enc Tryd.prog Tryd.f3 Rows.storeFilesRow.domain false w args ∧ laidMetH Tryd.prog [("errors.errorType", Rows.laid_errors_errorType)] w) ∧ sizedMet enc Tryd.prog Tryd.f3 (OpenSpec.ofChange Rows.storeFilesSpec) false w args) (Rows.storeFilesSpec.post enc Tryd.prog Tryd.f3 false true false false) := by
  refine returnsInHanded_of_change_and (C := Tryd.checked) (X := fun w _ => laidMetH Tryd.prog [("errors.errorType", Rows.laid_errors_errorType)] w) (fun _ _ _ hh h => h.of_heap hh) own started (by kernel_rfl) Tryd.func3
    (ChangeSpec.witness_at (enc := enc) (C := Tryd.checked) (os := os) (X := fun w _ => laidMetH Tryd.prog [("errors.errorType", Rows.laid_errors_errorType)] w) false (laidWorld os) #[.slice none 0 0] 8 rfl (by kernel_rfl) (by kernel_rfl) (by kernel_rfl) (by kernel_rfl) (by kernel_rfl) (laidWorld_met os _)) ?_
  intro W base args ds gs before hval0 hW hcnd hsz0 hL _
  have hval : ∀ (j : Nat) t v, Tryd.f3.params[j]? = some t → args[j]? = some v → Value.okWide Tryd.prog W .any base t v := hval0
  have hW' := hW
  obtain ⟨p, q, hA0, hV, rfl, hfz, hnd⟩ := hW
  have hA : DataW.TrodAll enc Tryd.prog W 0 (fun _ => true) true Tryd.f3.params.toList args.toList ds p := hA0
  rw [Tryd.params3] at hA hval
  obtain ⟨v0, vs0, d0, ds0, p0, q0, hargs, rfl, rfl, h0, r0⟩ := trodAll_cons hA
  obtain ⟨rfl, rfl, rfl⟩ := trodAll_nil r0
  obtain rfl : args = #[v0] := by cases args; simp_all
  obtain ⟨rfl, rfl⟩ := trodVars_none hV
  have k0 := h0
  have lt0 : ∀ x ∈ p0, x.block < W.heap.size := by obtain ⟨m, hm⟩ := k0; exact DataW.trod_lt m _ _ _ hm
  obtain ⟨a0, rd0, one0, wf0⟩ := open_slc (k := .i64) Tryd.underlying22 Tryd.underlying3 (by kernel_rfl) (hval 0 22 v0 rfl rfl) h0
  have hg := handle_of_laid hL
  clear hA0 hval0 hsz0
  refine (walk W a0 v0 rd0 one0 wf0 hg).mono fun e W' ⟨he, bel⟩ => ?_
  subst he
  exact ⟨_, rfl, _, _, _, [], _, [], hW', trodAll_mk1 (shut_bool Tryd.underlying4 _), (trodAll_cons_mk (Below.trod laidOut (by kernel_rfl) (of_decide_eq_true (by kernel_rfl)) k0 bel lt0) trodAll_mk0), rfl, bel.frame _, fun h => by cases h⟩
theorem cl : Tryd.prog.closure 3 = [3, 8, 9, 26, 27, 13, 39, 40, 32, 46, 57, 58, 47, 50, 51, 44, 56, 67, 73, 59, 28, 48, 12, 38, 55, 37, 53, 68, 54, 70, 83, 84, 69, 74, 80, 90, 75, 85, 76, 86, 87, 77, 88, 89, 91, 78, 79, 81, 82, 60, 61, 45, 19, 42, 33, 62, 24, 41, 29, 49, 63, 64, 65, 66, 71, 72, 10, 30, 31, 23, 43, 34, 52, 11, 36, 35, 14, 15, 18, 22, 20] := closure_eq Fx.adj_eq Fx.fuel_eq (by kernel_rfl)
theorem un : Tryd.prog.unfollowed 3 = true := (unfollowed_eq Fx.un_eq cl).trans (by kernel_rfl)
set_option maxRecDepth 100000 in
theorem facts : joinedFacts Tryd.prog 3 Tryd.f3 Rows.storeFilesSpec Rows.storeFilesRow = true := by
  delta joinedFacts
  repeat' (with_reducible refine bAnd ?_ ?_)
  · as_aux_lemma => kernel_rfl
  · as_aux_lemma => kernel_rfl
  · as_aux_lemma => kernel_rfl
  · as_aux_lemma => kernel_rfl
  · as_aux_lemma => kernel_rfl
  · as_aux_lemma => kernel_rfl
  · as_aux_lemma => kernel_rfl
  · as_aux_lemma => kernel_rfl
  · as_aux_lemma => kernel_rfl
  · exact beq_of (inPlace_eq Fx.inp_eq cl) (by kernel_rfl)
  · exact beq_of un (by kernel_rfl)
  · exact beq_of (recurses_un un) (by kernel_rfl)
  · exact beq_of (varsNamed_eq Fx.gl_eq Fx.er_eq cl) (by kernel_rfl)
  · as_aux_lemma => kernel_rfl
  · as_aux_lemma => kernel_rfl
  · as_aux_lemma => kernel_rfl
  · as_aux_lemma => kernel_rfl
  · as_aux_lemma => kernel_rfl
  · as_aux_lemma => kernel_rfl
  · as_aux_lemma => kernel_rfl
  · as_aux_lemma => kernel_rfl
  · as_aux_lemma => kernel_rfl
  · as_aux_lemma => kernel_rfl
  · as_aux_lemma => kernel_rfl
  · as_aux_lemma => kernel_rfl
  · exact Fx.mayEnter
  · exact beq_of Fx.lifts (by kernel_rfl)
  · rw [Fx.make]; kernel_rfl
  · as_aux_lemma => kernel_rfl
  · as_aux_lemma => kernel_rfl
  · as_aux_lemma => kernel_rfl
  · as_aux_lemma => kernel_rfl
theorem over : Rows.storeFilesRow.holds Tryd.pinned (OpenSpec.ofChange Rows.storeFilesSpec) :=
  OpenClaim.holds_of_wide 3 Tryd.f3 rfl rfl rfl rfl rfl rfl rfl ⟨rfl, rfl, rfl, rfl, rfl⟩ rfl rfl rfl rfl rfl (by kernel_rfl) Tryd.func3 facts
    (of_decide_eq_true (by kernel_rfl)) (by unfold Func.isWrapper; first | (rw [if_pos (by decide +kernel)]; kernel_rfl) | (rw [if_neg (by decide +kernel)]; exact ⟨rfl, rfl⟩))
    (fun os started H enc _ => lifted os started H enc)
theorem tied : Rows.StoreFilesCardSaid :=
  Claim7.holds_tied_plain_at .later [] [.handle] true (true, "3f056b3fcca47b5bbead811d32a9d5103f039e02a98200fe07798123ae5c440c") true
    over (fun _ h => by cases h) (by kernel_rfl) (fun _ h => by cases h) storeFiles_row_tie rfl ⟨rfl, rfl⟩ (by kernel_rfl) rfl
    (fun f fn hf hfn => by
      obtain rfl : f = 3 := Option.some.inj ((show Tryd.prog.funcNamed "codicil/codicillaw16.StoreFiles" = some 3 by kernel_rfl).symm.trans hf) |>.symm
      obtain rfl : fn = Tryd.f3 := (Option.some.inj (Tryd.func3.symm.trans hfn)).symm
      refine ⟨by kernel_rfl, fun j t ht => ?_⟩
      rw [Tryd.params3] at ht
      match j with
      | 0 => obtain rfl := Option.some.inj (show some _ = some t from ht); exact (show Tryd.prog.wantsStandIn 22 = false by kernel_rfl)
      | j + 1 => simp at ht)
    (by kernel_rfl)
end Go.Proofs.YtdbheiibkpendaaDoor.storeFiles
namespace Go.Proofs.YtdbheiibkpendaaDoor
/-- The statement, as it is given. -/
theorem storeFiles_holds : Rows.StoreFilesCardSaid := storeFiles.tied
#print axioms storeFiles_holds
end Go.Proofs.YtdbheiibkpendaaDoor
