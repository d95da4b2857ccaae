/- The row of the law StoreJunk, out of its walk and its plain statement. -/
import Derived.Test.YtdbheiibkpendaaDoorRows
import Derived.Test.YtdbheiibkpendaaDoorCards
import Derived.Test.YtdbheiibkpendaaDoorTie
import Derived.SevenTiedAt
import Derived.Test.YtdbheiibkpendaaDoorSeH
import Derived.Test.YtdbheiibkpendaaDoorGw12
import Derived.Test.YtdbheiibkpendaaDoorSeV5
import Derived.Test.YtdbheiibkpendaaDoorMStA
import Derived.Test.YtdbheiibkpendaaDoorSeFx
namespace Go.Proofs.YtdbheiibkpendaaDoor.storeJunk
open Go Go.Gw Go.ChangeShapes Go.WideShapes Go.ChangeAt Go.RowKit Go.Proofs.Se Go.Proofs.Se.D Go.Proofs.YtdbheiibkpendaaDoor
set_option linter.unusedVariables false
theorem own : ownKnob Tryd.prog.godebug = none := by kernel_rfl
theorem Jhy : laidOutB Tryd.prog = true := by kernel_rfl
set_option maxRecDepth 100000 in
theorem Jm6 (w : World) (a0 : List (Int × List Int)) (a1 : List Int) (a2 : Int) (v0 : Value) (rd0 : RdR w v0 (.rc a0)) (one0 : v0.oneCell' = true) (wf0 : (∀ r ∈ a0, (Lit.int .i64 r.1).wf = true ∧ ∀ x ∈ r.2, (Lit.int .u8 x).wf = true)) (v1 : Value) (rd1 : RdI w v1 .u8 a1) (one1 : v1.oneCell' = true) (wf1 : ∀ x ∈ a1, (Lit.int .u8 x).wf = true) (wf2 : (Lit.int .i64 a2).wf = true) (hg : w.cell? ⟨0, 0, none⟩ = some hv) :
    Calls Tryd.prog 6 #[v0, v1, .int .i64 a2] w fun e w' => e = .returned (.bool true) ∧ Below w.heap.size w w' := by
  have h := Go.St.StoreJunk a0 a1 a2 wf0 wf1 wf2
  have h1 : ∀ κ, (Jhq [(9000, v0), (9001, v1), (9999, Value.nilIface)] κ).oneCell' = true := Jib (by
    intro p hp
    simp only [List.mem_cons, List.not_mem_nil, or_false] at hp
    rcases hp with rfl | rfl | rfl
    · exact one0
    · exact one1
    · exact rfl
    )
  have hc := Jd0 (P := Tryd.prog) Tryd.func6 (by kernel_rfl) rfl (Jau a0 a1 a2 true h) (by
    intro x hx
    simp only [List.mem_cons, List.not_mem_nil, or_false] at hx
    rcases hx with rfl | rfl | rfl
    · exact ⟨trivial, trivial⟩
    · exact ⟨trivial, trivial⟩
    · exact ⟨trivial, trivial⟩
    ) (Jhq [(9000, v0), (9001, v1), (9999, Value.nilIface)]) h1 w (by
    intro p hp
    simp only [List.mem_cons, List.not_mem_nil, or_false] at hp
    rcases hp with rfl | rfl | rfl
    · exact rd0
    · exact rd1
    · exact hg
    ) (by
    intro p hp
    simp only [List.mem_cons, List.not_mem_nil, or_false] at hp
    rcases hp with rfl | rfl | rfl <;> rfl
    )
  exact hc
set_option maxRecDepth 100000 in
theorem JlM (os : Os) (started : os.Started) (H : Type) (enc : TypeId × Value → H) :
    ReturnsInHanded {} Tryd.checked os 6 .any (fun w args => (Rows.storeJunkSpec.pre enc Tryd.prog Tryd.f6 Rows.storeJunkRow.domain false w args ∧ laidMetH Tryd.prog [("errors.errorType", Rows.laid_errors_errorType)] w) ∧ sizedMet enc Tryd.prog Tryd.f6 (OpenSpec.ofChange Rows.storeJunkSpec) false w args) (Rows.storeJunkSpec.post enc Tryd.prog Tryd.f6 false true false false) := by
  refine returnsInHanded_of_change_and (C := Tryd.checked) (X := fun w _ => laidMetH Tryd.prog [("errors.errorType", Rows.laid_errors_errorType)] w) (fun _ _ _ hh h => h.of_heap hh) own started (by kernel_rfl) Tryd.func6
    (ChangeSpec.witness_at (enc := enc) (C := Tryd.checked) (os := os) (X := fun w _ => laidMetH Tryd.prog [("errors.errorType", Rows.laid_errors_errorType)] w) false (JdG os) #[.slice none 0 0, .slice none 0 0, .int .i64 0] 8 rfl (by kernel_rfl) (by kernel_rfl) (by kernel_rfl) (by kernel_rfl) (by kernel_rfl) (Jdu os _)) ?_
  intro W base args ds gs before hval0 hW hcnd hsz0 hL _
  have hval : ∀ (j : Nat) t v, Tryd.f6.params[j]? = some t → args[j]? = some v → Value.okWide Tryd.prog W .any base t v := hval0
  have hW' := hW
  obtain ⟨p, q, hA0, hV, rfl, hfz, hnd⟩ := hW
  have hA : DataW.TrodAll enc Tryd.prog W 0 (fun _ => true) true Tryd.f6.params.toList args.toList ds p := hA0
  rw [Tryd.params6] at hA hval
  obtain ⟨v0, vs0, d0, ds0, p0, q0, hargs, rfl, rfl, h0, r0⟩ := trodAll_cons hA
  obtain ⟨v1, vs1, d1, ds1, p1, q1, rfl, rfl, rfl, h1, r1⟩ := trodAll_cons r0
  obtain ⟨v2, vs2, d2, ds2, p2, q2, rfl, rfl, rfl, h2, r2⟩ := trodAll_cons r1
  obtain ⟨rfl, rfl, rfl⟩ := trodAll_nil r2
  obtain rfl : args = #[v0, v1, v2] := by cases args; simp_all
  obtain ⟨rfl, rfl⟩ := trodVars_none hV
  have k0 := h0
  have lt0 : ∀ x ∈ p0, x.block < W.heap.size := by obtain ⟨m, hm⟩ := k0; exact DataW.trod_lt m _ _ _ hm
  obtain ⟨a0, rd0, one0, wf0⟩ := Jhb Tryd.underlying28 Tryd.underlying34 Tryd.underlying3 Tryd.underlying31 Tryd.underlying5 (by kernel_rfl) (by kernel_rfl) rfl rfl (by kernel_rfl) (by kernel_rfl) (hval 0 28 v0 rfl rfl) h0
  have k1 := h1
  have lt1 : ∀ x ∈ p1, x.block < W.heap.size := by obtain ⟨m, hm⟩ := k1; exact DataW.trod_lt m _ _ _ hm
  obtain ⟨a1, rd1, one1, wf1⟩ := JiY (k := .u8) Tryd.underlying31 Tryd.underlying5 (by kernel_rfl) (hval 1 31 v1 rfl rfl) h1
  obtain ⟨a2, rfl, rfl, rfl, wf2⟩ := open_int Tryd.underlying3 (hval 2 3 v2 rfl rfl) h2
  have hg := Jcw hL
  clear hA0 hval0 hsz0
  refine (Jm6 W a0 a1 a2 v0 rd0 one0 wf0 v1 rd1 one1 wf1 wf2 hg).mono fun e W' ⟨he, bel⟩ => ?_
  subst he
  exact ⟨_, rfl, _, _, _, [], _, [], hW', trodAll_mk1 (shut_bool Tryd.underlying4 _), (trodAll_cons_mk (Below.trod Jhy (by kernel_rfl) (of_decide_eq_true (by kernel_rfl)) k0 bel lt0) (trodAll_cons_mk (Below.trod Jhy (by kernel_rfl) (of_decide_eq_true (by kernel_rfl)) k1 bel lt1) (trodAll_cons_mk (shut_int Tryd.underlying3 wf2) trodAll_mk0))), rfl, bel.frame _, fun h => by cases h⟩
theorem cl : Tryd.prog.closure 6 = [6, 16, 17, 8, 9, 26, 27, 13, 39, 40, 32, 46, 57, 58, 47, 50, 51, 44, 56, 67, 73, 59, 28, 48, 12, 38, 55, 37, 53, 68, 54, 70, 83, 84, 69, 74, 80, 90, 75, 85, 76, 86, 87, 77, 88, 89, 91, 78, 79, 81, 82, 60, 61, 45, 19, 42, 33, 62, 24, 41, 29, 49, 63, 64, 65, 66, 71, 72, 10, 30, 31, 23, 43, 34, 52, 21, 14, 25, 15, 18, 22, 20] := Jgh Fx.adj_eq Fx.fuel_eq (by kernel_rfl)
theorem un : Tryd.prog.unfollowed 6 = true := (Jdp Fx.un_eq cl).trans (by kernel_rfl)
set_option maxRecDepth 100000 in
theorem Jmm : joinedFacts Tryd.prog 6 Tryd.f6 Rows.storeJunkSpec Rows.storeJunkRow = true := by
  delta joinedFacts
  repeat' (with_reducible refine Jm0 ?_ ?_)
  · as_aux_lemma => kernel_rfl
  · as_aux_lemma => kernel_rfl
  · as_aux_lemma => kernel_rfl
  · as_aux_lemma => kernel_rfl
  · as_aux_lemma => kernel_rfl
  · as_aux_lemma => kernel_rfl
  · as_aux_lemma => kernel_rfl
  · as_aux_lemma => kernel_rfl
  · as_aux_lemma => kernel_rfl
  · exact Jem (Jgz Fx.inp_eq cl) (by kernel_rfl)
  · exact Jem un (by kernel_rfl)
  · exact Jem (Je2 un) (by kernel_rfl)
  · exact Jem (JdS Fx.gl_eq Fx.er_eq cl) (by kernel_rfl)
  · as_aux_lemma => kernel_rfl
  · as_aux_lemma => kernel_rfl
  · as_aux_lemma => kernel_rfl
  · as_aux_lemma => kernel_rfl
  · as_aux_lemma => kernel_rfl
  · as_aux_lemma => kernel_rfl
  · as_aux_lemma => kernel_rfl
  · as_aux_lemma => kernel_rfl
  · as_aux_lemma => kernel_rfl
  · as_aux_lemma => kernel_rfl
  · as_aux_lemma => kernel_rfl
  · as_aux_lemma => kernel_rfl
  · exact Fx.mayEnter
  · exact Jem Fx.lifts (by kernel_rfl)
  · rw [Fx.make]; kernel_rfl
  · as_aux_lemma => kernel_rfl
  · as_aux_lemma => kernel_rfl
  · as_aux_lemma => kernel_rfl
  · as_aux_lemma => kernel_rfl
theorem Jm2 : Rows.storeJunkRow.holds Tryd.pinned (OpenSpec.ofChange Rows.storeJunkSpec) :=
  OpenClaim.holds_of_wide 6 Tryd.f6 rfl rfl rfl rfl rfl rfl rfl ⟨rfl, rfl, rfl, rfl, rfl⟩ rfl rfl rfl rfl rfl (by kernel_rfl) Tryd.func6 Jmm
    (of_decide_eq_true (by kernel_rfl)) (by unfold Func.isWrapper; first | (rw [if_pos (by decide +kernel)]; kernel_rfl) | (rw [if_neg (by decide +kernel)]; exact ⟨rfl, rfl⟩))
    (fun os started H enc _ => JlM os started H enc)
theorem tied : Rows.StoreJunkCardSaid :=
  Claim7.holds_tied_plain_at .later [] [.handle] true (true, "3f056b3fcca47b5bbead811d32a9d5103f039e02a98200fe07798123ae5c440c") true
    Jm2 (fun _ h => by cases h) (by kernel_rfl) (fun _ h => by cases h) storeJunk_row_tie rfl ⟨rfl, rfl⟩ (by kernel_rfl) rfl
    (fun f fn hf hfn => by
      obtain rfl : f = 6 := Option.some.inj ((show Tryd.prog.funcNamed "codicil/codicillaw16.StoreJunk" = some 6 by kernel_rfl).symm.trans hf) |>.symm
      obtain rfl : fn = Tryd.f6 := (Option.some.inj (Tryd.func6.symm.trans hfn)).symm
      refine ⟨by kernel_rfl, fun j t ht => ?_⟩
      rw [Tryd.params6] at ht
      match j with
      | 0 => obtain rfl := Option.some.inj (show some _ = some t from ht); exact (show Tryd.prog.wantsStandIn 28 = false by kernel_rfl)
      | 1 => obtain rfl := Option.some.inj (show some _ = some t from ht); exact (show Tryd.prog.wantsStandIn 31 = false by kernel_rfl)
      | 2 => obtain rfl := Option.some.inj (show some _ = some t from ht); exact (show Tryd.prog.wantsStandIn 3 = false by kernel_rfl)
      | j + 3 => simp at ht)
    (by kernel_rfl)
end Go.Proofs.YtdbheiibkpendaaDoor.storeJunk
namespace Go.Proofs.YtdbheiibkpendaaDoor
/-- The statement, as it is given. -/
theorem storeJunk_holds : Rows.StoreJunkCardSaid := storeJunk.tied
#print axioms storeJunk_holds
end Go.Proofs.YtdbheiibkpendaaDoor
