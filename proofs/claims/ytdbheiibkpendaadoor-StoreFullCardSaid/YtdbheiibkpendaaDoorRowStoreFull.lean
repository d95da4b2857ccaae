/- The row of the law StoreFull, out of its walk and its plain statement. -/
import Derived.Test.YtdbheiibkpendaaDoorRows
import Derived.Test.YtdbheiibkpendaaDoorCards
import Derived.Test.YtdbheiibkpendaaDoorTie
import Derived.SevenTiedAt
import Derived.Test.YtdbheiibkpendaaDoorSeH
import Derived.Test.YtdbheiibkpendaaDoorGw12
import Derived.Test.YtdbheiibkpendaaDoorSeV6
import Derived.Test.YtdbheiibkpendaaDoorStI
import Derived.Test.YtdbheiibkpendaaDoorSeFx
namespace Go.Proofs.YtdbheiibkpendaaDoor.storeFull
open Go Go.Gw Go.ChangeShapes Go.WideShapes Go.ChangeAt Go.RowKit Go.Proofs.Se Go.Proofs.Se.D Go.Proofs.YtdbheiibkpendaaDoor
set_option linter.unusedVariables false
theorem own : ownKnob Tryd.prog.godebug = none := by kernel_rfl
theorem Jks : laidOutB Tryd.prog = true := by kernel_rfl
set_option maxRecDepth 100000 in
theorem JmA (w : World) (a0 : Int) (a1 : List (Int × List Int)) (wf0 : (Lit.int .i64 a0).wf = true) (v1 : Value) (rd1 : RdR w v1 (.rc a1)) (one1 : v1.oneCell' = true) (wf1 : (∀ r ∈ a1, (Lit.int .i64 r.1).wf = true ∧ ∀ x ∈ r.2, (Lit.int .u8 x).wf = true)) (hg : w.cell? ⟨0, 0, none⟩ = some hv) :
    Calls Tryd.prog 7 #[.int .i64 a0, v1] w fun e w' => e = .returned (.bool true) ∧ Below w.heap.size w w' := by
  have h := Go.St.StoreFull a0 a1 wf0 wf1
  have h1 : ∀ κ, (Jhv [(9000, v1), (9999, Value.nilIface)] κ).oneCell' = true := Jhu (by
    intro p hp
    simp only [List.mem_cons, List.not_mem_nil, or_false] at hp
    rcases hp with rfl | rfl
    · exact one1
    · exact rfl
    )
  have hc := Jed (P := Tryd.prog) Tryd.func7 (by kernel_rfl) rfl (Jax a0 a1 true h) (by
    intro x hx
    simp only [List.mem_cons, List.not_mem_nil, or_false] at hx
    rcases hx with rfl | rfl
    · exact ⟨trivial, trivial⟩
    · exact ⟨trivial, trivial⟩
    ) (Jhv [(9000, v1), (9999, Value.nilIface)]) h1 w (by
    intro p hp
    simp only [List.mem_cons, List.not_mem_nil, or_false] at hp
    rcases hp with rfl | rfl
    · exact rd1
    · exact hg
    ) (by
    intro p hp
    simp only [List.mem_cons, List.not_mem_nil, or_false] at hp
    rcases hp with rfl | rfl <;> rfl
    )
  exact hc
set_option maxRecDepth 100000 in
theorem JlC (os : Os) (started : os.Started) (H : Type) (enc : TypeId × Value → H) :
    ReturnsInHanded {} Tryd.checked os 7 .any (fun w args => (Rows.storeFullSpec.pre enc Tryd.prog Tryd.f7 Rows.storeFullRow.domain false w args ∧ laidMetH Tryd.prog [("errors.errorType", Rows.laid_errors_errorType)] w) ∧ sizedMet enc Tryd.prog Tryd.f7 (OpenSpec.ofChange Rows.storeFullSpec) false w args) (Rows.storeFullSpec.post enc Tryd.prog Tryd.f7 false true false false) := by
  refine returnsInHanded_of_change_and (C := Tryd.checked) (X := fun w _ => laidMetH Tryd.prog [("errors.errorType", Rows.laid_errors_errorType)] w) (fun _ _ _ hh h => h.of_heap hh) own started (by kernel_rfl) Tryd.func7
    (ChangeSpec.witness_at (enc := enc) (C := Tryd.checked) (os := os) (X := fun w _ => laidMetH Tryd.prog [("errors.errorType", Rows.laid_errors_errorType)] w) false (Jdx os) #[.int .i64 0, .slice none 0 0] 8 rfl (by kernel_rfl) (by kernel_rfl) (by kernel_rfl) (by kernel_rfl) (by kernel_rfl) (Jdf os _)) ?_
  intro W base args ds gs before hval0 hW hcnd hsz0 hL _
  have hval : ∀ (j : Nat) t v, Tryd.f7.params[j]? = some t → args[j]? = some v → Value.okWide Tryd.prog W .any base t v := hval0
  have hW' := hW
  obtain ⟨p, q, hA0, hV, rfl, hfz, hnd⟩ := hW
  have hA : DataW.TrodAll enc Tryd.prog W 0 (fun _ => true) true Tryd.f7.params.toList args.toList ds p := hA0
  rw [Tryd.params7] at hA hval
  obtain ⟨v0, vs0, d0, ds0, p0, q0, hargs, rfl, rfl, h0, r0⟩ := trodAll_cons hA
  obtain ⟨v1, vs1, d1, ds1, p1, q1, rfl, rfl, rfl, h1, r1⟩ := trodAll_cons r0
  obtain ⟨rfl, rfl, rfl⟩ := trodAll_nil r1
  obtain rfl : args = #[v0, v1] := by cases args; simp_all
  obtain ⟨rfl, rfl⟩ := trodVars_none hV
  obtain ⟨a0, rfl, rfl, rfl, wf0⟩ := open_int Tryd.underlying3 (hval 0 3 v0 rfl rfl) h0
  have k1 := h1
  have lt1 : ∀ x ∈ p1, x.block < W.heap.size := by obtain ⟨m, hm⟩ := k1; exact DataW.trod_lt m _ _ _ hm
  obtain ⟨a1, rd1, one1, wf1⟩ := Jia Tryd.underlying28 Tryd.underlying34 Tryd.underlying3 Tryd.underlying31 Tryd.underlying5 (by kernel_rfl) (by kernel_rfl) rfl rfl (by kernel_rfl) (by kernel_rfl) (hval 1 28 v1 rfl rfl) h1
  have hg := Jcl hL
  clear hA0 hval0 hsz0
  refine (JmA W a0 a1 wf0 v1 rd1 one1 wf1 hg).mono fun e W' ⟨he, bel⟩ => ?_
  subst he
  exact ⟨_, rfl, _, _, _, [], _, [], hW', trodAll_mk1 (shut_bool Tryd.underlying4 _), (trodAll_cons_mk (shut_int Tryd.underlying3 wf0) (trodAll_cons_mk (Below.trod Jks (by kernel_rfl) (of_decide_eq_true (by kernel_rfl)) k1 bel lt1) trodAll_mk0)), rfl, bel.frame _, fun h => by cases h⟩
theorem cl : Tryd.prog.closure 7 = [7, 8, 9, 26, 27, 13, 39, 40, 32, 46, 57, 58, 47, 50, 51, 44, 56, 67, 73, 59, 28, 48, 12, 38, 55, 37, 53, 68, 54, 70, 83, 84, 69, 74, 80, 90, 75, 85, 76, 86, 87, 77, 88, 89, 91, 78, 79, 81, 82, 60, 61, 45, 19, 42, 33, 62, 24, 41, 29, 49, 63, 64, 65, 66, 71, 72, 16, 10, 30, 31, 23, 43, 34, 52, 22, 21, 14, 15, 18, 20] := JgB Fx.adj_eq Fx.fuel_eq (by kernel_rfl)
theorem un : Tryd.prog.unfollowed 7 = true := (Jc8 Fx.un_eq cl).trans (by kernel_rfl)
set_option maxRecDepth 100000 in
theorem Jmi : joinedFacts Tryd.prog 7 Tryd.f7 Rows.storeFullSpec Rows.storeFullRow = true := by
  delta joinedFacts
  repeat' (with_reducible refine JmH ?_ ?_)
  · as_aux_lemma => kernel_rfl
  · as_aux_lemma => kernel_rfl
  · as_aux_lemma => kernel_rfl
  · as_aux_lemma => kernel_rfl
  · as_aux_lemma => kernel_rfl
  · as_aux_lemma => kernel_rfl
  · as_aux_lemma => kernel_rfl
  · as_aux_lemma => kernel_rfl
  · as_aux_lemma => kernel_rfl
  · exact JdA (Jgh Fx.inp_eq cl) (by kernel_rfl)
  · exact JdA un (by kernel_rfl)
  · exact JdA (JeB un) (by kernel_rfl)
  · exact JdA (JdP Fx.gl_eq Fx.er_eq cl) (by kernel_rfl)
  · as_aux_lemma => kernel_rfl
  · as_aux_lemma => kernel_rfl
  · as_aux_lemma => kernel_rfl
  · as_aux_lemma => kernel_rfl
  · as_aux_lemma => kernel_rfl
  · as_aux_lemma => kernel_rfl
  · as_aux_lemma => kernel_rfl
  · as_aux_lemma => kernel_rfl
  · as_aux_lemma => kernel_rfl
  · as_aux_lemma => kernel_rfl
  · as_aux_lemma => kernel_rfl
  · as_aux_lemma => kernel_rfl
  · exact Fx.mayEnter
  · exact JdA Fx.lifts (by kernel_rfl)
  · rw [Fx.make]; kernel_rfl
  · as_aux_lemma => kernel_rfl
  · as_aux_lemma => kernel_rfl
  · as_aux_lemma => kernel_rfl
  · as_aux_lemma => kernel_rfl
theorem JmL : Rows.storeFullRow.holds Tryd.pinned (OpenSpec.ofChange Rows.storeFullSpec) :=
  OpenClaim.holds_of_wide 7 Tryd.f7 rfl rfl rfl rfl rfl rfl rfl ⟨rfl, rfl, rfl, rfl, rfl⟩ rfl rfl rfl rfl rfl (by kernel_rfl) Tryd.func7 Jmi
    (of_decide_eq_true (by kernel_rfl)) (by unfold Func.isWrapper; first | (rw [if_pos (by decide +kernel)]; kernel_rfl) | (rw [if_neg (by decide +kernel)]; exact ⟨rfl, rfl⟩))
    (fun os started H enc _ => JlC os started H enc)
theorem tied : Rows.StoreFullCardSaid :=
  Claim7.holds_tied_plain_at .later [] [.handle] true (true, "3f056b3fcca47b5bbead811d32a9d5103f039e02a98200fe07798123ae5c440c") true
    JmL (fun _ h => by cases h) (by kernel_rfl) (fun _ h => by cases h) storeFull_row_tie rfl ⟨rfl, rfl⟩ (by kernel_rfl) rfl
    (fun f fn hf hfn => by
      obtain rfl : f = 7 := Option.some.inj ((show Tryd.prog.funcNamed "codicil/codicillaw16.StoreFull" = some 7 by kernel_rfl).symm.trans hf) |>.symm
      obtain rfl : fn = Tryd.f7 := (Option.some.inj (Tryd.func7.symm.trans hfn)).symm
      refine ⟨by kernel_rfl, fun j t ht => ?_⟩
      rw [Tryd.params7] at ht
      match j with
      | 0 => obtain rfl := Option.some.inj (show some _ = some t from ht); exact (show Tryd.prog.wantsStandIn 3 = false by kernel_rfl)
      | 1 => obtain rfl := Option.some.inj (show some _ = some t from ht); exact (show Tryd.prog.wantsStandIn 28 = false by kernel_rfl)
      | j + 2 => simp at ht)
    (by kernel_rfl)
end Go.Proofs.YtdbheiibkpendaaDoor.storeFull
namespace Go.Proofs.YtdbheiibkpendaaDoor
/-- The statement, as it is given. -/
theorem storeFull_holds : Rows.StoreFullCardSaid := storeFull.tied
#print axioms storeFull_holds
end Go.Proofs.YtdbheiibkpendaaDoor
