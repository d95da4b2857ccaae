/- Walks, printed by a program of this session (gowalk.py): each Go function comes to its plain function's answer. -/
import Derived.Test.YtdcdanfeepncmaaSbA
import Derived.Test.YtdcdanfeepncmaaSbD
import Derived.Test.YtdcdanfeepncmaaSbI
import Derived.Test.YtdcdanfeepncmaaSbV0
import Derived.Test.YtdcdanfeepncmaaSbV1
import Derived.Test.YtdcdanfeepncmaaSbV2
import Derived.Test.YtdcdanfeepncmaaSbV3
import Derived.Test.YtdcdanfeepncmaaSbV4
import Derived.Test.YtdcdanfeepncmaaSbV5
import Derived.Test.YtdcdanfeepncmaaSbV6
import Derived.Test.YtdcdanfeepncmaaSbV7
namespace Go.Proofs.Sb
open Go Go.Gw D
set_option linter.unusedVariables false
set_option maxRecDepth 20000

theorem curve_Add_ok (a_0 : List Int) (b_1 : List Int) (r : List Int × Int) (h : curve_Add a_0 b_1 = some r) {pre : List (Nat × Ent)} : CallOk P 60 [.v (.agg [.arr .u8 32 a_0]), .v (.agg [.arr .u8 32 b_1])] pre (.tup [.agg [.arr .u8 32 r.1], .one (.int .i64 r.2)]) [] := by
  refine call0 (N := 31) Try.func60 (by kernel_rfl) rfl rfl rfl pre ?_
  intro _ w
  show Tr P (Ge w) 31 _ _ _ (RetQ P Try.f60 (R0 _ w))
  unfold curve_Add at h
  refine tr_seq ?_
  refine tr_reg hT [(0, .key 0), (1, .key 1), (2, .key 2)] [.s 2, .s 3, .s 4, .h 0, .h 1, .h 2] [sO 2 (.ptr 0 0), sO 3 (.ptr 1 0), sO 4 (.ptr 2 0), hB 0 22 [.arr .u8 32 a_0], hB 1 22 [.arr .u8 32 b_1], hB 2 22 [.arr .u8 32 (List.replicate 32 0)]] [] (by kernel_rfl) trivial ?_
  refine q_k ?_
  refine tr_seq ?_
  obtain ⟨⟨a1, a2, a3, a4, b5⟩, e6, h⟩ := bind_some h
  refine tr_reg hT [(1, .call [] (.tup [.agg [.arr .u64 5 a1, .arr .u64 5 a2, .arr .u64 5 a3, .arr .u64 5 a4], .one (.bool b5)]) []), (5, .key 3)] [.s 3, .s 4, .s 6, .s 7, .h 1, .h 2, .h 3] [sO 3 (.ptr 1 0), sO 4 (.ptr 2 0), sO 6 (.ptr 3 0), sB 7 b5, hB 1 22 [.arr .u8 32 b_1], hB 2 22 [.arr .u8 32 (List.replicate 32 0)], hB 3 87 [.arr .u64 5 a1, .arr .u64 5 a2, .arr .u64 5 a3, .arr .u64 5 a4]] [CallOk P 92 [.v (.agg [.arr .u8 32 a_0])] [] (.tup [.agg [.arr .u64 5 a1, .arr .u64 5 a2, .arr .u64 5 a3, .arr .u64 5 a4], .one (.bool b5)]) []] (by kernel_rfl) (hone (curve_unpacked_ok a_0 (a1, a2, a3, a4, b5) e6)) ?_
  refine q_k ?_
  refine tr_seq ?_
  obtain ⟨⟨a8, a9, a10, a11, b12⟩, e13, h⟩ := bind_some h
  refine tr_reg hT [(1, .call [] (.tup [.agg [.arr .u64 5 a8, .arr .u64 5 a9, .arr .u64 5 a10, .arr .u64 5 a11], .one (.bool b12)]) []), (5, .key 4)] [.s 4, .s 6, .s 7, .s 8, .s 9, .h 2, .h 3, .h 4] [sO 4 (.ptr 2 0), sO 6 (.ptr 3 0), sB 7 b5, sO 8 (.ptr 4 0), sB 9 b12, hB 2 22 [.arr .u8 32 (List.replicate 32 0)], hB 3 87 [.arr .u64 5 a1, .arr .u64 5 a2, .arr .u64 5 a3, .arr .u64 5 a4], hB 4 87 [.arr .u64 5 a8, .arr .u64 5 a9, .arr .u64 5 a10, .arr .u64 5 a11]] [CallOk P 92 [.v (.agg [.arr .u8 32 b_1])] [] (.tup [.agg [.arr .u64 5 a8, .arr .u64 5 a9, .arr .u64 5 a10, .arr .u64 5 a11], .one (.bool b12)]) []] (by kernel_rfl) (hone (curve_unpacked_ok b_1 (a8, a9, a10, a11, b12) e13)) ?_
  refine q_k ?_
  refine tr_seq ?_
  refine tr_seq ?_
  rcases ite_split h with ⟨hb15, h⟩ | ⟨hb16, h⟩
  · refine tr_reg hT [(2, .dec true)] [.s 4, .s 6, .s 8, .s 25, .h 2, .h 3, .h 4] [sO 4 (.ptr 2 0), sO 6 (.ptr 3 0), sO 8 (.ptr 4 0), sB 25 true, hB 2 22 [.arr .u8 32 (List.replicate 32 0)], hB 3 87 [.arr .u64 5 a1, .arr .u64 5 a2, .arr .u64 5 a3, .arr .u64 5 a4], hB 4 87 [.arr .u64 5 a8, .arr .u64 5 a9, .arr .u64 5 a10, .arr .u64 5 a11]] [(!b5) = true] (by kernel_rfl) (hone hb15) ?_
    refine q_k ?_
    refine tr_cond_t true (by kernel_rfl) rfl ?_
    refine tr_seq ?_
    refine tr_reg hT [] [.s 4, .s 5, .h 2] [sO 4 (.ptr 2 0), sI 5 .i64 (1 : Int), hB 2 22 [.arr .u8 32 (List.replicate 32 0)]] [] (by kernel_rfl) trivial ?_
    refine q_k ?_
    refine tr_ret ?_
    refine q_k_ret ?_
    have h := Option.some.inj h
    subst h
    exact q_ret0 hT (.tup [.agg [.arr .u8 32 (List.replicate 32 0)], .one (.int .i64 (1 : Int))]) rfl (by kernel_rfl)
  · refine tr_reg hT [(2, .dec false)] [.s 4, .s 6, .s 8, .s 25, .h 2, .h 3, .h 4] [sO 4 (.ptr 2 0), sO 6 (.ptr 3 0), sO 8 (.ptr 4 0), sB 25 (!b12), hB 2 22 [.arr .u8 32 (List.replicate 32 0)], hB 3 87 [.arr .u64 5 a1, .arr .u64 5 a2, .arr .u64 5 a3, .arr .u64 5 a4], hB 4 87 [.arr .u64 5 a8, .arr .u64 5 a9, .arr .u64 5 a10, .arr .u64 5 a11]] [(!b5) = false] (by kernel_rfl) (hone hb16) ?_
    refine q_k ?_
    rcases ite_split h with ⟨hc17, h⟩ | ⟨hc17, h⟩
    · refine tr_cond_t (!b12) (by kernel_rfl) hc17 ?_
      refine tr_seq ?_
      refine tr_reg hT [] [.s 4, .s 5, .h 2] [sO 4 (.ptr 2 0), sI 5 .i64 (1 : Int), hB 2 22 [.arr .u8 32 (List.replicate 32 0)]] [] (by kernel_rfl) trivial ?_
      refine q_k ?_
      refine tr_ret ?_
      refine q_k_ret ?_
      have h := Option.some.inj h
      subst h
      exact q_ret0 hT (.tup [.agg [.arr .u8 32 (List.replicate 32 0)], .one (.int .i64 (1 : Int))]) rfl (by kernel_rfl)
    · refine tr_cond_f (!b12) (by kernel_rfl) hc17 ?_
      refine tr_skip ?_
      refine q_k ?_
      refine tr_seq ?_
      obtain ⟨⟨a18, a19, a20, a21⟩, e22, h⟩ := bind_some h
      obtain ⟨a24, e25, h⟩ := bind_some h
      refine tr_reg hT [(2, .call [] (.v (.agg [.arr .u64 5 a18, .arr .u64 5 a19, .arr .u64 5 a20, .arr .u64 5 a21])) []), (3, .call [] (.v (.agg [.arr .u8 32 a24])) [])] [.s 4, .s 5, .h 2] [sO 4 (.ptr 2 0), sI 5 .i64 (0 : Int), hB 2 22 [.arr .u8 32 a24]] [CallOk P 96 [.v (.agg [.arr .u64 5 a1, .arr .u64 5 a2, .arr .u64 5 a3, .arr .u64 5 a4]), .v (.agg [.arr .u64 5 a8, .arr .u64 5 a9, .arr .u64 5 a10, .arr .u64 5 a11])] [] (.v (.agg [.arr .u64 5 a18, .arr .u64 5 a19, .arr .u64 5 a20, .arr .u64 5 a21])) [], CallOk P 91 [.v (.agg [.arr .u64 5 a18, .arr .u64 5 a19, .arr .u64 5 a20, .arr .u64 5 a21])] [] (.v (.agg [.arr .u8 32 a24])) []] (by kernel_rfl) (hcons (curve_sum_ok a1 a2 a3 a4 a8 a9 a10 a11 (a18, a19, a20, a21) e22) (hone (curve_point_packed_ok a18 a19 a20 a21 a24 e25))) ?_
      refine q_k ?_
      refine tr_ret ?_
      have h := Option.some.inj h
      subst h
      exact q_ret0 hT (.tup [.agg [.arr .u8 32 a24], .one (.int .i64 (0 : Int))]) rfl (by kernel_rfl)

theorem law06_CurveSmall_ok (n_0 : List Int) (k_1 : Int) (r : Bool) (h : law06_CurveSmall n_0 k_1 = some r) {pre : List (Nat × Ent)} : CallOk P 19 [.v (.agg [.arr .u8 32 n_0]), .v (.one (.int .i64 k_1))] pre (.v (.one (.bool r))) [] := by
  refine call0 (N := 50) Try.func19 (by kernel_rfl) rfl rfl rfl pre ?_
  intro _ w
  show Tr P (Ge w) 50 _ _ _ (RetQ P Try.f19 (R0 _ w))
  unfold law06_CurveSmall at h
  refine tr_seq ?_
  refine tr_reg hT [(0, .key 0)] [.s 1, .s 2, .h 0] [sI 1 .i64 k_1, sO 2 (.ptr 0 0), hB 0 22 [.arr .u8 32 n_0]] [] (by kernel_rfl) trivial ?_
  refine q_k ?_
  refine tr_seq ?_
  refine tr_reg hT [] [.s 1, .s 2, .h 0] [sI 1 .i64 (IntKind.i64.wrap ((IntKind.u64.wrap k_1).tmod (12 : Int))), sO 2 (.ptr 0 0), hB 0 22 [.arr .u8 32 n_0]] [(12 : Int) ≠ 0] (by kernel_rfl) (hone (by decide)) ?_
  refine q_k ?_
  refine tr_seq ?_
  obtain ⟨a1, e2, h⟩ := bind_some h
  refine tr_reg hT [(1, .call [] (.v (.agg [.arr .u8 32 a1])) []), (2, .key 1)] [.s 1, .s 5, .h 1] [sI 1 .i64 (IntKind.i64.wrap ((IntKind.u64.wrap k_1).tmod (12 : Int))), sO 5 (.ptr 1 0), hB 1 22 [.arr .u8 32 a1]] [CallOk P 54 [.v (.agg [.arr .u8 32 n_0])] [] (.v (.agg [.arr .u8 32 a1])) []] (by kernel_rfl) (hone (curve_Base_ok n_0 a1 e2)) ?_
  refine q_k ?_
  refine tr_seq ?_
  obtain ⟨a3, e4, h⟩ := bind_some h
  refine tr_reg hT [(0, .call [] (.v (.agg [.arr .u8 32 a3])) []), (1, .key 2)] [.s 1, .s 5, .s 6, .h 1, .h 2] [sI 1 .i64 (IntKind.i64.wrap ((IntKind.u64.wrap k_1).tmod (12 : Int))), sO 5 (.ptr 1 0), sO 6 (.ptr 2 0), hB 1 22 [.arr .u8 32 a1], hB 2 22 [.arr .u8 32 a3]] [CallOk P 56 [.v (.one (.int .i64 (1 : Int)))] [] (.v (.agg [.arr .u8 32 a3])) []] (by kernel_rfl) (hone (law06_num_ok (1 : Int) a3 e4)) ?_
  refine q_k ?_
  refine tr_seq ?_
  refine tr_seq ?_
  refine tr_reg hT [] [.s 1, .s 5, .s 6, .s 7, .h 1, .h 2] [sI 1 .i64 (IntKind.i64.wrap ((IntKind.u64.wrap k_1).tmod (12 : Int))), sO 5 (.ptr 1 0), sO 6 (.ptr 2 0), sI 7 .i64 (0 : Int), hB 1 22 [.arr .u8 32 a1], hB 2 22 [.arr .u8 32 a3]] [] (by kernel_rfl) trivial ?_
  refine q_k ?_
  refine tr_block ?_
  obtain ⟨rr0, e14, h⟩ := bind_some h
  refine tr_fit [] [sI 1 .i64 (IntKind.i64.wrap ((IntKind.u64.wrap k_1).tmod (12 : Int))), sO 5 (.ptr 1 0), sO 6 (.ptr 2 0), sI 7 .i64 (0 : Int), hB 1 22 [.arr .u8 32 a1], hB 2 22 [.arr .u8 32 a3]] [(1, .blk 22 [.arr .u8 32 a1]), (2, .blk 22 [.arr .u8 32 a3])] (by kernel_rfl) (by kernel_rfl) (by kernel_rfl) rfl ⟨.blk (by kernel_rfl) (by kernel_rfl), .blk (by kernel_rfl) (by kernel_rfl), trivial⟩ (by kernel_rfl) ?_
  refine tr_loop_ret (id := 0) (α := List Int × Int) (β := List Int) (ρ := Bool) (fun z => [sI 1 .i64 (IntKind.i64.wrap ((IntKind.u64.wrap k_1).tmod (12 : Int))), sO 5 (.ptr 1 0), sO 6 (.ptr 2 0), sI 7 .i64 z.2, hB 1 22 [.arr .u8 32 a1], hB 2 22 [.arr .u8 32 z.1]]) (fun z => [sI 1 .i64 (IntKind.i64.wrap ((IntKind.u64.wrap k_1).tmod (12 : Int))), sO 5 (.ptr 1 0), sO 6 (.ptr 2 0), hB 1 22 [.arr .u8 32 a1], hB 2 22 [.arr .u8 32 z]]) (fun v σ => resS T (Gw.look σ) Try.f19.results.toList = some (.v (.one (.bool v)))) (fun k z => law06_CurveSmall_l0 k_1 a1 k z.1 z.2) rr0 (fun _ => rfl) (((IntKind.i64.wrap ((IntKind.u64.wrap k_1).tmod (12 : Int))) - (0 : Int)).toNat + 1) (a3, (0 : Int)) e14 ?_ ?_ ?_
  · intro m7 hz
    subst hz
    replace h : ((law06_num (IntKind.i64.wrap ((IntKind.u64.wrap k_1).tmod (12 : Int)))).bind (fun a15 => (curve_Mul a15 a1).bind (fun (a17, r18) => if (r18 == (0 : Int)) = true then if (decide (a17 = m7)) = true then (law06_wakes).bind (fun b23 => some b23) else some false else some false))) = _ := h
    refine q_b_this ?_
    refine q_k ?_
    refine tr_seq ?_
    obtain ⟨a15, e16, h⟩ := bind_some h
    obtain ⟨⟨a17, r18⟩, e19, h⟩ := bind_some h
    refine tr_regd hT hM [(1, .call [] (.v (.agg [.arr .u8 32 a15])) []), (3, .call [] (.tup [.agg [.arr .u8 32 a17], .one (.int .i64 r18)]) []), (7, .key 4)] [.s 6, .s 10, .s 11, .h 2, .h 4] [sO 6 (.ptr 2 0), sO 10 (.ptr 4 0), sI 11 .i64 r18, hB 2 22 [.arr .u8 32 m7], hB 4 22 [.arr .u8 32 a17]] [CallOk P 56 [.v (.one (.int .i64 (IntKind.i64.wrap ((IntKind.u64.wrap k_1).tmod (12 : Int)))))] [] (.v (.agg [.arr .u8 32 a15])) [], CallOk P 55 [.v (.agg [.arr .u8 32 a15]), .v (.agg [.arr .u8 32 a1])] [] (.tup [.agg [.arr .u8 32 a17], .one (.int .i64 r18)]) []] (by kernel_rfl) (hcons (law06_num_ok (IntKind.i64.wrap ((IntKind.u64.wrap k_1).tmod (12 : Int))) a15 e16) (hone (curve_Mul_ok a15 a1 (a17, r18) e19))) ?_
    refine q_k ?_
    refine tr_seq ?_
    rcases ite_split h with ⟨hb21, h⟩ | ⟨hb26, h⟩
    · rcases ite_split h with ⟨hb22, h⟩ | ⟨hb25, h⟩
      · obtain ⟨b23, e24, h⟩ := bind_some h
        refine tr_reg hT [(2, .dec true), (7, .dec true), (8, .call [] (.v (.one (.bool b23))) [])] [.s 4] [sB 4 b23] [(r18 == (0 : Int)) = true, (decide (a17 = m7)) = true, CallOk P 59 [] [] (.v (.one (.bool b23))) []] (by kernel_rfl) (hcons hb21 (hcons hb22 (hone (law06_wakes_ok  b23 e24)))) ?_
        refine q_k ?_
        refine tr_ret ?_
        have h := Option.some.inj h
        subst h
        exact q_ret0 hT (.v (.one (.bool b23))) rfl (by kernel_rfl)
      · refine tr_reg hT [(2, .dec true), (7, .dec false)] [.s 4] [sB 4 false] [(r18 == (0 : Int)) = true, (decide (a17 = m7)) = false] (by kernel_rfl) (hcons hb21 (hone hb25)) ?_
        refine q_k ?_
        refine tr_ret ?_
        have h := Option.some.inj h
        subst h
        exact q_ret0 hT (.v (.one (.bool false))) rfl (by kernel_rfl)
    · refine tr_reg hT [(2, .dec false)] [.s 4] [sB 4 false] [(r18 == (0 : Int)) = false] (by kernel_rfl) (hone hb26) ?_
      refine q_k ?_
      refine tr_ret ?_
      have h := Option.some.inj h
      subst h
      exact q_ret0 hT (.v (.one (.bool false))) rfl (by kernel_rfl)
  · intro v σ hz hv
    subst hz
    have h := Option.some.inj h
    subst h
    refine q_b_ret ?_
    refine q_k_ret ?_
    exact q_ret0 hT _ rfl hv
  · clear h e14
    intro k ih0 hx0 hr0 z h
    rcases z with ⟨m5, i6⟩
    replace h : (if (decide (i6 < (IntKind.i64.wrap ((IntKind.u64.wrap k_1).tmod (12 : Int))))) = true then (curve_Add m5 a1).bind (fun (a9, r10) => if (r10 != (0 : Int)) = true then some (.inr false) else law06_CurveSmall_l0 k_1 a1 k a9 (IntKind.i64.wrap (i6 + (1 : Int)))) else some (.inl m5)) = _ := h
    refine tr_seq ?_
    refine tr_seq ?_
    refine tr_reg hT [] [.s 1, .s 5, .s 6, .s 7, .s 21, .h 1, .h 2] [sI 1 .i64 (IntKind.i64.wrap ((IntKind.u64.wrap k_1).tmod (12 : Int))), sO 5 (.ptr 1 0), sO 6 (.ptr 2 0), sI 7 .i64 i6, sB 21 (decide (i6 < (IntKind.i64.wrap ((IntKind.u64.wrap k_1).tmod (12 : Int))))), hB 1 22 [.arr .u8 32 a1], hB 2 22 [.arr .u8 32 m5]] [] (by kernel_rfl) trivial ?_
    refine q_k ?_
    rcases ite_split h with ⟨hc8, h⟩ | ⟨hc8, h⟩
    · refine tr_cond_t (decide (i6 < (IntKind.i64.wrap ((IntKind.u64.wrap k_1).tmod (12 : Int))))) (by kernel_rfl) hc8 ?_
      refine tr_skip ?_
      refine q_k ?_
      refine tr_seq ?_
      refine tr_block ?_
      refine tr_seq ?_
      obtain ⟨⟨a9, r10⟩, e11, h⟩ := bind_some h
      refine tr_reg hT [(2, .call [] (.tup [.agg [.arr .u8 32 a9], .one (.int .i64 r10)]) []), (6, .key 3)] [.s 1, .s 5, .s 6, .s 7, .s 8, .s 9, .h 1, .h 2, .h 3] [sI 1 .i64 (IntKind.i64.wrap ((IntKind.u64.wrap k_1).tmod (12 : Int))), sO 5 (.ptr 1 0), sO 6 (.ptr 2 0), sI 7 .i64 i6, sO 8 (.ptr 3 0), sI 9 .i64 r10, hB 1 22 [.arr .u8 32 a1], hB 2 22 [.arr .u8 32 m5], hB 3 22 [.arr .u8 32 a9]] [CallOk P 60 [.v (.agg [.arr .u8 32 m5]), .v (.agg [.arr .u8 32 a1])] [] (.tup [.agg [.arr .u8 32 a9], .one (.int .i64 r10)]) []] (by kernel_rfl) (hone (curve_Add_ok m5 a1 (a9, r10) e11)) ?_
      refine q_k ?_
      refine tr_seq ?_
      refine tr_seq ?_
      refine tr_reg hT [] [.s 1, .s 5, .s 6, .s 7, .s 8, .s 31, .h 1, .h 2, .h 3] [sI 1 .i64 (IntKind.i64.wrap ((IntKind.u64.wrap k_1).tmod (12 : Int))), sO 5 (.ptr 1 0), sO 6 (.ptr 2 0), sI 7 .i64 i6, sO 8 (.ptr 3 0), sB 31 (r10 != (0 : Int)), hB 1 22 [.arr .u8 32 a1], hB 2 22 [.arr .u8 32 m5], hB 3 22 [.arr .u8 32 a9]] [] (by kernel_rfl) trivial ?_
      refine q_k ?_
      rcases ite_split h with ⟨hc13, h⟩ | ⟨hc13, h⟩
      · refine tr_cond_t (r10 != (0 : Int)) (by kernel_rfl) hc13 ?_
        refine tr_seq ?_
        refine tr_reg hT [] [.s 4] [sB 4 false] [] (by kernel_rfl) trivial ?_
        refine q_k ?_
        refine tr_ret ?_
        refine q_k_ret ?_
        refine q_b_ret ?_
        refine q_k_ret ?_
        refine q_kr_ret ?_
        have h := Option.some.inj h
        subst h
        exact hr0 false _ rfl (by kernel_rfl)
      · refine tr_cond_f (r10 != (0 : Int)) (by kernel_rfl) hc13 ?_
        refine tr_skip ?_
        refine q_k ?_
        refine tr_reg hT [] [.s 1, .s 5, .s 6, .s 7, .h 1, .h 2] [sI 1 .i64 (IntKind.i64.wrap ((IntKind.u64.wrap k_1).tmod (12 : Int))), sO 5 (.ptr 1 0), sO 6 (.ptr 2 0), sI 7 .i64 i6, hB 1 22 [.arr .u8 32 a1], hB 2 22 [.arr .u8 32 a9]] [] (by kernel_rfl) trivial ?_
        refine q_b 1 ?_
        refine q_k ?_
        refine tr_reg hT [] [.s 1, .s 5, .s 6, .s 7, .h 1, .h 2] [sI 1 .i64 (IntKind.i64.wrap ((IntKind.u64.wrap k_1).tmod (12 : Int))), sO 5 (.ptr 1 0), sO 6 (.ptr 2 0), sI 7 .i64 (IntKind.i64.wrap (i6 + (1 : Int))), hB 1 22 [.arr .u8 32 a1], hB 2 22 [.arr .u8 32 a9]] [] (by kernel_rfl) trivial ?_
        refine q_kr ?_
        exact trR_less [.s 1, .s 5, .s 6, .s 7, .h 1, .h 2] [sI 1 .i64 (IntKind.i64.wrap ((IntKind.u64.wrap k_1).tmod (12 : Int))), sO 5 (.ptr 1 0), sO 6 (.ptr 2 0), sI 7 .i64 (IntKind.i64.wrap (i6 + (1 : Int))), hB 1 22 [.arr .u8 32 a1], hB 2 22 [.arr .u8 32 a9]] (by kernel_rfl) (ih0 (a9, (IntKind.i64.wrap (i6 + (1 : Int)))) h)
    · refine tr_cond_f (decide (i6 < (IntKind.i64.wrap ((IntKind.u64.wrap k_1).tmod (12 : Int))))) (by kernel_rfl) hc8 ?_
      refine tr_exit ?_
      refine q_k_exit ?_
      refine q_kr_exit ?_
      have h := Option.some.inj h
      subst h
      exact q_less [.s 1, .s 5, .s 6, .h 1, .h 2] [sI 1 .i64 (IntKind.i64.wrap ((IntKind.u64.wrap k_1).tmod (12 : Int))), sO 5 (.ptr 1 0), sO 6 (.ptr 2 0), hB 1 22 [.arr .u8 32 a1], hB 2 22 [.arr .u8 32 m5]] (by kernel_rfl) (hx0 m5 rfl)

theorem law06_CurveEquation_ok (a_0 : List Int) (r : Bool) (h : law06_CurveEquation a_0 = some r) {pre : List (Nat × Ent)} : CallOk P 20 [.v (.agg [.arr .u8 32 a_0])] pre (.v (.one (.bool r))) [] := by
  refine call0 (N := 67) Try.func20 (by kernel_rfl) rfl rfl rfl pre ?_
  intro _ w
  show Tr P (Ge w) 67 _ _ _ (RetQ P Try.f20 (R0 _ w))
  unfold law06_CurveEquation at h
  refine tr_seq ?_
  refine tr_reg hT [(0, .key 0)] [.s 1, .h 0] [sO 1 (.ptr 0 0), hB 0 22 [.arr .u8 32 a_0]] [] (by kernel_rfl) trivial ?_
  refine q_k ?_
  refine tr_seq ?_
  refine tr_reg hT [(1, .key 1)] [.s 1, .s 3, .h 0, .h 1] [sO 1 (.ptr 0 0), sO 3 (.ptr 1 0), hB 0 22 [.arr .u8 32 a_0], hB 1 22 [.arr .u8 32 a_0]] [] (by kernel_rfl) trivial ?_
  refine q_k ?_
  refine tr_seq ?_
  refine tr_reg hT [] [.s 1, .s 3, .h 0, .h 1] [sO 1 (.ptr 0 0), sO 3 (.ptr 1 0), hB 0 22 [.arr .u8 32 a_0], hB 1 22 [.arr .u8 32 (a_0.set 31 (band .u8 (a_0.getD 31 0) (127 : Int)))]] [0 ≤ (31 : Int) ∧ (31 : Int) < ((32 : Nat) : Int), 0 ≤ (31 : Int) ∧ (31 : Int) < ((32 : Nat) : Int)] (by kernel_rfl) (hcons (by decide) (hone (by decide))) ?_
  refine q_k ?_
  refine tr_seq ?_
  refine tr_reg hT [] [.s 1, .s 3, .s 4, .h 0, .h 1] [sO 1 (.ptr 0 0), sO 3 (.ptr 1 0), sB 4 (decide ((a_0.getD 31 0) ≥ (128 : Int))), hB 0 22 [.arr .u8 32 a_0], hB 1 22 [.arr .u8 32 (a_0.set 31 (band .u8 (a_0.getD 31 0) (127 : Int)))]] [0 ≤ (31 : Int) ∧ (31 : Int) < ((32 : Nat) : Int)] (by kernel_rfl) (hone (by decide)) ?_
  refine q_k ?_
  refine tr_seq ?_
  refine tr_reg hT [] [.s 1, .s 3, .s 4, .s 5, .h 0, .h 1] [sO 1 (.ptr 0 0), sO 3 (.ptr 1 0), sB 4 (decide ((a_0.getD 31 0) ≥ (128 : Int))), sO 5 (.fn 26), hB 0 22 [.arr .u8 32 a_0], hB 1 22 [.arr .u8 32 (a_0.set 31 (band .u8 (a_0.getD 31 0) (127 : Int)))]] [] (by kernel_rfl) trivial ?_
  refine q_k ?_
  refine tr_seq ?_
  obtain ⟨a1, e2, h⟩ := bind_some h
  obtain ⟨a3, e4, h⟩ := bind_some h
  obtain ⟨a5, e6, h⟩ := bind_some h
  obtain ⟨a7, e8, h⟩ := bind_some h
  obtain ⟨a9, e10, h⟩ := bind_some h
  obtain ⟨a11, e12, h⟩ := bind_some h
  refine tr_reg hT [(1, .call [] (.v (.agg [.arr .u8 32 a1])) []), (3, .call [] (.v (.agg [.arr .u8 32 a3])) []), (4, .call [] (.v (.agg [.arr .u8 32 a5])) []), (6, .call [] (.v (.agg [.arr .u8 32 a7])) []), (7, .call [] (.v (.agg [.arr .u8 32 a9])) []), (8, .call [] (.v (.agg [.arr .u8 32 a11])) []), (9, .key 2)] [.s 1, .s 3, .s 4, .s 5, .s 6, .h 0, .h 1, .h 2] [sO 1 (.ptr 0 0), sO 3 (.ptr 1 0), sB 4 (decide ((a_0.getD 31 0) ≥ (128 : Int))), sO 5 (.fn 26), sO 6 (.ptr 2 0), hB 0 22 [.arr .u8 32 a_0], hB 1 22 [.arr .u8 32 (a_0.set 31 (band .u8 (a_0.getD 31 0) (127 : Int)))], hB 2 22 [.arr .u8 32 a11]] [CallOk P 26 [.v (.one (.int .i64 (0 : Int)))] [] (.v (.agg [.arr .u8 32 a1])) [], CallOk P 26 [.v (.one (.int .i64 (121665 : Int)))] [] (.v (.agg [.arr .u8 32 a3])) [], CallOk P 41 [.v (.agg [.arr .u8 32 a1]), .v (.agg [.arr .u8 32 a3])] [] (.v (.agg [.arr .u8 32 a5])) [], CallOk P 26 [.v (.one (.int .i64 (121666 : Int)))] [] (.v (.agg [.arr .u8 32 a7])) [], CallOk P 50 [.v (.agg [.arr .u8 32 a7])] [] (.v (.agg [.arr .u8 32 a9])) [], CallOk P 34 [.v (.agg [.arr .u8 32 a5]), .v (.agg [.arr .u8 32 a9])] [] (.v (.agg [.arr .u8 32 a11])) []] (by kernel_rfl) (hcons (law04_Num_ok (0 : Int) a1 e2) (hcons (law04_Num_ok (121665 : Int) a3 e4) (hcons (field_Sub_ok a1 a3 a5 e6) (hcons (law04_Num_ok (121666 : Int) a7 e8) (hcons (field_Inv_ok a7 a9 e10) (hone (field_Mul_ok a5 a9 a11 e12))))))) ?_
  refine q_k ?_
  refine tr_seq ?_
  obtain ⟨a13, e14, h⟩ := bind_some h
  refine tr_reg hT [(2, .call [] (.v (.agg [.arr .u8 32 a13])) []), (3, .key 3)] [.s 1, .s 3, .s 4, .s 5, .s 6, .s 7, .h 0, .h 1, .h 2, .h 3] [sO 1 (.ptr 0 0), sO 3 (.ptr 1 0), sB 4 (decide ((a_0.getD 31 0) ≥ (128 : Int))), sO 5 (.fn 26), sO 6 (.ptr 2 0), sO 7 (.ptr 3 0), hB 0 22 [.arr .u8 32 a_0], hB 1 22 [.arr .u8 32 (a_0.set 31 (band .u8 (a_0.getD 31 0) (127 : Int)))], hB 2 22 [.arr .u8 32 a11], hB 3 22 [.arr .u8 32 a13]] [CallOk P 34 [.v (.agg [.arr .u8 32 (a_0.set 31 (band .u8 (a_0.getD 31 0) (127 : Int)))]), .v (.agg [.arr .u8 32 (a_0.set 31 (band .u8 (a_0.getD 31 0) (127 : Int)))])] [] (.v (.agg [.arr .u8 32 a13])) []] (by kernel_rfl) (hone (field_Mul_ok (a_0.set 31 (band .u8 (a_0.getD 31 0) (127 : Int))) (a_0.set 31 (band .u8 (a_0.getD 31 0) (127 : Int))) a13 e14)) ?_
  refine q_k ?_
  refine tr_seq ?_
  obtain ⟨a15, e16, h⟩ := bind_some h
  obtain ⟨a17, e18, h⟩ := bind_some h
  obtain ⟨a19, e20, h⟩ := bind_some h
  obtain ⟨a21, e22, h⟩ := bind_some h
  obtain ⟨a23, e24, h⟩ := bind_some h
  obtain ⟨a25, e26, h⟩ := bind_some h
  obtain ⟨a27, e28, h⟩ := bind_some h
  obtain ⟨⟨a29, b30⟩, e31, h⟩ := bind_some h
  refine tr_regd hT hM [(2, .call [] (.v (.agg [.arr .u8 32 a15])) []), (3, .call [] (.v (.agg [.arr .u8 32 a17])) []), (6, .call [] (.v (.agg [.arr .u8 32 a19])) []), (8, .call [] (.v (.agg [.arr .u8 32 a21])) []), (9, .call [] (.v (.agg [.arr .u8 32 a23])) []), (10, .call [] (.v (.agg [.arr .u8 32 a25])) []), (11, .call [] (.v (.agg [.arr .u8 32 a27])) []), (12, .call [] (.tup [.agg [.arr .u8 32 a29], .one (.bool b30)]) []), (16, .key 4)] [.s 1, .s 3, .s 4, .s 5, .s 8, .s 9, .h 0, .h 1, .h 4] [sO 1 (.ptr 0 0), sO 3 (.ptr 1 0), sB 4 (decide ((a_0.getD 31 0) ≥ (128 : Int))), sO 5 (.fn 26), sO 8 (.ptr 4 0), sB 9 b30, hB 0 22 [.arr .u8 32 a_0], hB 1 22 [.arr .u8 32 (a_0.set 31 (band .u8 (a_0.getD 31 0) (127 : Int)))], hB 4 22 [.arr .u8 32 a29]] [CallOk P 26 [.v (.one (.int .i64 (1 : Int)))] [] (.v (.agg [.arr .u8 32 a15])) [], CallOk P 41 [.v (.agg [.arr .u8 32 a13]), .v (.agg [.arr .u8 32 a15])] [] (.v (.agg [.arr .u8 32 a17])) [], CallOk P 34 [.v (.agg [.arr .u8 32 a11]), .v (.agg [.arr .u8 32 a13])] [] (.v (.agg [.arr .u8 32 a19])) [], CallOk P 26 [.v (.one (.int .i64 (1 : Int)))] [] (.v (.agg [.arr .u8 32 a21])) [], CallOk P 40 [.v (.agg [.arr .u8 32 a19]), .v (.agg [.arr .u8 32 a21])] [] (.v (.agg [.arr .u8 32 a23])) [], CallOk P 50 [.v (.agg [.arr .u8 32 a23])] [] (.v (.agg [.arr .u8 32 a25])) [], CallOk P 34 [.v (.agg [.arr .u8 32 a17]), .v (.agg [.arr .u8 32 a25])] [] (.v (.agg [.arr .u8 32 a27])) [], CallOk P 52 [.v (.agg [.arr .u8 32 a27])] [] (.tup [.agg [.arr .u8 32 a29], .one (.bool b30)]) []] (by kernel_rfl) (hcons (law04_Num_ok (1 : Int) a15 e16) (hcons (field_Sub_ok a13 a15 a17 e18) (hcons (field_Mul_ok a11 a13 a19 e20) (hcons (law04_Num_ok (1 : Int) a21 e22) (hcons (field_Add_ok a19 a21 a23 e24) (hcons (field_Inv_ok a23 a25 e26) (hcons (field_Mul_ok a17 a25 a27 e28) (hone (field_Root_ok a27 (a29, b30) e31))))))))) ?_
  refine q_k ?_
  refine tr_seq ?_
  obtain ⟨b33, e34, h⟩ := bind_some h
  obtain ⟨b35, e36, h⟩ := bind_some h
  rcases ite_split h with ⟨hb37, h⟩ | ⟨hb56, h⟩
  · rcases ite_split h with ⟨hb38, h⟩ | ⟨hb51, h⟩
    · obtain ⟨a39, e40, h⟩ := bind_some h
      rcases ite_split h with ⟨hb41, h⟩ | ⟨hb46, h⟩
      · rcases ite_split h with ⟨hb42, h⟩ | ⟨hb45, h⟩
        · obtain ⟨b43, e44, h⟩ := bind_some h
          refine tr_regd hT hM [(1, .call [] (.v (.one (.bool b33))) []), (3, .call [] (.v (.one (.bool b35))) []), (4, .dec true), (7, .dec true), (10, .call [] (.v (.agg [.arr .u8 32 a39])) []), (12, .dec true), (18, .dec true), (19, .call [] (.v (.one (.bool b43))) [])] [.s 2] [sB 2 b43] [CallOk P 58 [.v (.agg [.arr .u8 32 a_0])] [] (.v (.one (.bool b33))) [], CallOk P 42 [.v (.agg [.arr .u8 32 (a_0.set 31 (band .u8 (a_0.getD 31 0) (127 : Int)))])] [] (.v (.one (.bool b35))) [], b35 = true, b30 = true, CallOk P 26 [.v (.one (.int .i64 (0 : Int)))] [] (.v (.agg [.arr .u8 32 a39])) [], (decide (a29 = a39)) = true, (b33 == (!(decide ((a_0.getD 31 0) ≥ (128 : Int))))) = true, CallOk P 59 [] [] (.v (.one (.bool b43))) []] (by kernel_rfl) (hcons (curve_Check_ok a_0 b33 e34) (hcons (field_Check_ok (a_0.set 31 (band .u8 (a_0.getD 31 0) (127 : Int))) b35 e36) (hcons hb37 (hcons hb38 (hcons (law04_Num_ok (0 : Int) a39 e40) (hcons hb41 (hcons hb42 (hone (law06_wakes_ok  b43 e44))))))))) ?_
          refine q_k ?_
          refine tr_ret ?_
          have h := Option.some.inj h
          subst h
          exact q_ret0 hT (.v (.one (.bool b43))) rfl (by kernel_rfl)
        · refine tr_regd hT hM [(1, .call [] (.v (.one (.bool b33))) []), (3, .call [] (.v (.one (.bool b35))) []), (4, .dec true), (7, .dec true), (10, .call [] (.v (.agg [.arr .u8 32 a39])) []), (12, .dec true), (18, .dec false)] [.s 2] [sB 2 false] [CallOk P 58 [.v (.agg [.arr .u8 32 a_0])] [] (.v (.one (.bool b33))) [], CallOk P 42 [.v (.agg [.arr .u8 32 (a_0.set 31 (band .u8 (a_0.getD 31 0) (127 : Int)))])] [] (.v (.one (.bool b35))) [], b35 = true, b30 = true, CallOk P 26 [.v (.one (.int .i64 (0 : Int)))] [] (.v (.agg [.arr .u8 32 a39])) [], (decide (a29 = a39)) = true, (b33 == (!(decide ((a_0.getD 31 0) ≥ (128 : Int))))) = false] (by kernel_rfl) (hcons (curve_Check_ok a_0 b33 e34) (hcons (field_Check_ok (a_0.set 31 (band .u8 (a_0.getD 31 0) (127 : Int))) b35 e36) (hcons hb37 (hcons hb38 (hcons (law04_Num_ok (0 : Int) a39 e40) (hcons hb41 (hone hb45))))))) ?_
          refine q_k ?_
          refine tr_ret ?_
          have h := Option.some.inj h
          subst h
          exact q_ret0 hT (.v (.one (.bool false))) rfl (by kernel_rfl)
      · rcases ite_split h with ⟨hb47, h⟩ | ⟨hb50, h⟩
        · obtain ⟨b48, e49, h⟩ := bind_some h
          refine tr_regd hT hM [(1, .call [] (.v (.one (.bool b33))) []), (3, .call [] (.v (.one (.bool b35))) []), (4, .dec true), (7, .dec true), (10, .call [] (.v (.agg [.arr .u8 32 a39])) []), (12, .dec false), (18, .dec true), (19, .call [] (.v (.one (.bool b48))) [])] [.s 2] [sB 2 b48] [CallOk P 58 [.v (.agg [.arr .u8 32 a_0])] [] (.v (.one (.bool b33))) [], CallOk P 42 [.v (.agg [.arr .u8 32 (a_0.set 31 (band .u8 (a_0.getD 31 0) (127 : Int)))])] [] (.v (.one (.bool b35))) [], b35 = true, b30 = true, CallOk P 26 [.v (.one (.int .i64 (0 : Int)))] [] (.v (.agg [.arr .u8 32 a39])) [], (decide (a29 = a39)) = false, (b33 == true) = true, CallOk P 59 [] [] (.v (.one (.bool b48))) []] (by kernel_rfl) (hcons (curve_Check_ok a_0 b33 e34) (hcons (field_Check_ok (a_0.set 31 (band .u8 (a_0.getD 31 0) (127 : Int))) b35 e36) (hcons hb37 (hcons hb38 (hcons (law04_Num_ok (0 : Int) a39 e40) (hcons hb46 (hcons hb47 (hone (law06_wakes_ok  b48 e49))))))))) ?_
          refine q_k ?_
          refine tr_ret ?_
          have h := Option.some.inj h
          subst h
          exact q_ret0 hT (.v (.one (.bool b48))) rfl (by kernel_rfl)
        · refine tr_regd hT hM [(1, .call [] (.v (.one (.bool b33))) []), (3, .call [] (.v (.one (.bool b35))) []), (4, .dec true), (7, .dec true), (10, .call [] (.v (.agg [.arr .u8 32 a39])) []), (12, .dec false), (18, .dec false)] [.s 2] [sB 2 false] [CallOk P 58 [.v (.agg [.arr .u8 32 a_0])] [] (.v (.one (.bool b33))) [], CallOk P 42 [.v (.agg [.arr .u8 32 (a_0.set 31 (band .u8 (a_0.getD 31 0) (127 : Int)))])] [] (.v (.one (.bool b35))) [], b35 = true, b30 = true, CallOk P 26 [.v (.one (.int .i64 (0 : Int)))] [] (.v (.agg [.arr .u8 32 a39])) [], (decide (a29 = a39)) = false, (b33 == true) = false] (by kernel_rfl) (hcons (curve_Check_ok a_0 b33 e34) (hcons (field_Check_ok (a_0.set 31 (band .u8 (a_0.getD 31 0) (127 : Int))) b35 e36) (hcons hb37 (hcons hb38 (hcons (law04_Num_ok (0 : Int) a39 e40) (hcons hb46 (hone hb50))))))) ?_
          refine q_k ?_
          refine tr_ret ?_
          have h := Option.some.inj h
          subst h
          exact q_ret0 hT (.v (.one (.bool false))) rfl (by kernel_rfl)
    · rcases ite_split h with ⟨hb52, h⟩ | ⟨hb55, h⟩
      · obtain ⟨b53, e54, h⟩ := bind_some h
        refine tr_regd hT hM [(1, .call [] (.v (.one (.bool b33))) []), (3, .call [] (.v (.one (.bool b35))) []), (4, .dec true), (7, .dec false), (18, .dec true), (19, .call [] (.v (.one (.bool b53))) [])] [.s 2] [sB 2 b53] [CallOk P 58 [.v (.agg [.arr .u8 32 a_0])] [] (.v (.one (.bool b33))) [], CallOk P 42 [.v (.agg [.arr .u8 32 (a_0.set 31 (band .u8 (a_0.getD 31 0) (127 : Int)))])] [] (.v (.one (.bool b35))) [], b35 = true, b30 = false, (b33 == false) = true, CallOk P 59 [] [] (.v (.one (.bool b53))) []] (by kernel_rfl) (hcons (curve_Check_ok a_0 b33 e34) (hcons (field_Check_ok (a_0.set 31 (band .u8 (a_0.getD 31 0) (127 : Int))) b35 e36) (hcons hb37 (hcons hb51 (hcons hb52 (hone (law06_wakes_ok  b53 e54))))))) ?_
        refine q_k ?_
        refine tr_ret ?_
        have h := Option.some.inj h
        subst h
        exact q_ret0 hT (.v (.one (.bool b53))) rfl (by kernel_rfl)
      · refine tr_regd hT hM [(1, .call [] (.v (.one (.bool b33))) []), (3, .call [] (.v (.one (.bool b35))) []), (4, .dec true), (7, .dec false), (18, .dec false)] [.s 2] [sB 2 false] [CallOk P 58 [.v (.agg [.arr .u8 32 a_0])] [] (.v (.one (.bool b33))) [], CallOk P 42 [.v (.agg [.arr .u8 32 (a_0.set 31 (band .u8 (a_0.getD 31 0) (127 : Int)))])] [] (.v (.one (.bool b35))) [], b35 = true, b30 = false, (b33 == false) = false] (by kernel_rfl) (hcons (curve_Check_ok a_0 b33 e34) (hcons (field_Check_ok (a_0.set 31 (band .u8 (a_0.getD 31 0) (127 : Int))) b35 e36) (hcons hb37 (hcons hb51 (hone hb55))))) ?_
        refine q_k ?_
        refine tr_ret ?_
        have h := Option.some.inj h
        subst h
        exact q_ret0 hT (.v (.one (.bool false))) rfl (by kernel_rfl)
  · rcases ite_split h with ⟨hb57, h⟩ | ⟨hb60, h⟩
    · obtain ⟨b58, e59, h⟩ := bind_some h
      refine tr_regd hT hM [(1, .call [] (.v (.one (.bool b33))) []), (3, .call [] (.v (.one (.bool b35))) []), (4, .dec false), (18, .dec true), (19, .call [] (.v (.one (.bool b58))) [])] [.s 2] [sB 2 b58] [CallOk P 58 [.v (.agg [.arr .u8 32 a_0])] [] (.v (.one (.bool b33))) [], CallOk P 42 [.v (.agg [.arr .u8 32 (a_0.set 31 (band .u8 (a_0.getD 31 0) (127 : Int)))])] [] (.v (.one (.bool b35))) [], b35 = false, (b33 == false) = true, CallOk P 59 [] [] (.v (.one (.bool b58))) []] (by kernel_rfl) (hcons (curve_Check_ok a_0 b33 e34) (hcons (field_Check_ok (a_0.set 31 (band .u8 (a_0.getD 31 0) (127 : Int))) b35 e36) (hcons hb56 (hcons hb57 (hone (law06_wakes_ok  b58 e59)))))) ?_
      refine q_k ?_
      refine tr_ret ?_
      have h := Option.some.inj h
      subst h
      exact q_ret0 hT (.v (.one (.bool b58))) rfl (by kernel_rfl)
    · refine tr_regd hT hM [(1, .call [] (.v (.one (.bool b33))) []), (3, .call [] (.v (.one (.bool b35))) []), (4, .dec false), (18, .dec false)] [.s 2] [sB 2 false] [CallOk P 58 [.v (.agg [.arr .u8 32 a_0])] [] (.v (.one (.bool b33))) [], CallOk P 42 [.v (.agg [.arr .u8 32 (a_0.set 31 (band .u8 (a_0.getD 31 0) (127 : Int)))])] [] (.v (.one (.bool b35))) [], b35 = false, (b33 == false) = false] (by kernel_rfl) (hcons (curve_Check_ok a_0 b33 e34) (hcons (field_Check_ok (a_0.set 31 (band .u8 (a_0.getD 31 0) (127 : Int))) b35 e36) (hcons hb56 (hone hb60)))) ?_
      refine q_k ?_
      refine tr_ret ?_
      have h := Option.some.inj h
      subst h
      exact q_ret0 hT (.v (.one (.bool false))) rfl (by kernel_rfl)

theorem law06_CurveTorsion_ok (n_0 : List Int) (r : Bool) (h : law06_CurveTorsion n_0 = some r) {pre : List (Nat × Ent)} : CallOk P 21 [.v (.agg [.arr .u8 32 n_0])] pre (.v (.one (.bool r))) [] := by
  refine call0 (N := 106) Try.func21 (by kernel_rfl) rfl rfl rfl pre ?_
  intro _ w
  show Tr P (Ge w) 106 _ _ _ (RetQ P Try.f21 (R0 _ w))
  unfold law06_CurveTorsion at h
  refine tr_seq ?_
  refine tr_reg hT [(0, .key 0)] [.s 1, .h 0] [sO 1 (.ptr 0 0), hB 0 22 [.arr .u8 32 n_0]] [] (by kernel_rfl) trivial ?_
  refine q_k ?_
  refine tr_seq ?_
  obtain ⟨a1, e2, h⟩ := bind_some h
  refine tr_reg hT [(0, .call [] (.v (.agg [.arr .u64 4 a1])) []), (1, .key 1)] [.s 1, .s 3, .h 0, .h 1] [sO 1 (.ptr 0 0), sO 3 (.ptr 1 0), hB 0 22 [.arr .u8 32 n_0], hB 1 31 [.arr .u64 4 a1]] [CallOk P 43 [] [] (.v (.agg [.arr .u64 4 a1])) []] (by kernel_rfl) (hone (ref04_P_ok  a1 e2)) ?_
  refine q_k ?_
  refine tr_seq ?_
  obtain ⟨a3, e4, h⟩ := bind_some h
  refine tr_reg hT [(10, .call [] (.v (.agg [.arr .u8 32 a3])) []), (11, .key 2)] [.s 1, .s 4, .h 0, .h 2] [sO 1 (.ptr 0 0), sO 4 (.ptr 2 0), hB 0 22 [.arr .u8 32 n_0], hB 2 22 [.arr .u8 32 a3]] [0 ≤ (0 : Int) ∧ (0 : Int) < ((4 : Nat) : Int), 0 ≤ (1 : Int) ∧ (1 : Int) < ((4 : Nat) : Int), 0 ≤ (2 : Int) ∧ (2 : Int) < ((4 : Nat) : Int), 0 ≤ (3 : Int) ∧ (3 : Int) < ((4 : Nat) : Int), CallOk P 29 [.v (.agg [.arr .u64 4 [(IntKind.u64.wrap ((a1.getD 0 0) - (1 : Int))), (a1.getD 1 0), (a1.getD 2 0), (a1.getD 3 0)]])] [] (.v (.agg [.arr .u8 32 a3])) []] (by kernel_rfl) (hcons (by decide) (hcons (by decide) (hcons (by decide) (hcons (by decide) (hone (ref04_Bytes_ok [(IntKind.u64.wrap ((a1.getD 0 0) - (1 : Int))), (a1.getD 1 0), (a1.getD 2 0), (a1.getD 3 0)] a3 e4)))))) ?_
  refine q_k ?_
  refine tr_seq ?_
  obtain ⟨a5, e6, h⟩ := bind_some h
  refine tr_reg hT [(1, .call [] (.v (.agg [.arr .u8 32 a5])) []), (2, .key 3)] [.s 4, .s 5, .h 2, .h 3] [sO 4 (.ptr 2 0), sO 5 (.ptr 3 0), hB 2 22 [.arr .u8 32 a3], hB 3 22 [.arr .u8 32 a5]] [CallOk P 54 [.v (.agg [.arr .u8 32 n_0])] [] (.v (.agg [.arr .u8 32 a5])) []] (by kernel_rfl) (hone (curve_Base_ok n_0 a5 e6)) ?_
  refine q_k ?_
  refine tr_seq ?_
  obtain ⟨⟨a7, r8⟩, e9, h⟩ := bind_some h
  refine tr_reg hT [(2, .call [] (.tup [.agg [.arr .u8 32 a7], .one (.int .i64 r8)]) []), (6, .key 4)] [.s 4, .s 5, .s 6, .s 7, .h 2, .h 3, .h 4] [sO 4 (.ptr 2 0), sO 5 (.ptr 3 0), sO 6 (.ptr 4 0), sI 7 .i64 r8, hB 2 22 [.arr .u8 32 a3], hB 3 22 [.arr .u8 32 a5], hB 4 22 [.arr .u8 32 a7]] [CallOk P 60 [.v (.agg [.arr .u8 32 a5]), .v (.agg [.arr .u8 32 a3])] [] (.tup [.agg [.arr .u8 32 a7], .one (.int .i64 r8)]) []] (by kernel_rfl) (hone (curve_Add_ok a5 a3 (a7, r8) e9)) ?_
  refine q_k ?_
  refine tr_seq ?_
  obtain ⟨⟨a11, r12⟩, e13, h⟩ := bind_some h
  refine tr_reg hT [(2, .call [] (.tup [.agg [.arr .u8 32 a11], .one (.int .i64 r12)]) []), (6, .key 5)] [.s 4, .s 5, .s 6, .s 7, .s 8, .s 9, .h 2, .h 3, .h 4, .h 5] [sO 4 (.ptr 2 0), sO 5 (.ptr 3 0), sO 6 (.ptr 4 0), sI 7 .i64 r8, sO 8 (.ptr 5 0), sI 9 .i64 r12, hB 2 22 [.arr .u8 32 a3], hB 3 22 [.arr .u8 32 a5], hB 4 22 [.arr .u8 32 a7], hB 5 22 [.arr .u8 32 a11]] [CallOk P 60 [.v (.agg [.arr .u8 32 a3]), .v (.agg [.arr .u8 32 a3])] [] (.tup [.agg [.arr .u8 32 a11], .one (.int .i64 r12)]) []] (by kernel_rfl) (hone (curve_Add_ok a3 a3 (a11, r12) e13)) ?_
  refine q_k ?_
  refine tr_seq ?_
  obtain ⟨a15, e16, h⟩ := bind_some h
  obtain ⟨⟨a17, r18⟩, e19, h⟩ := bind_some h
  refine tr_regd hT hM [(0, .call [] (.v (.agg [.arr .u8 32 a15])) []), (2, .call [] (.tup [.agg [.arr .u8 32 a17], .one (.int .i64 r18)]) []), (6, .key 6)] [.s 4, .s 5, .s 6, .s 7, .s 8, .s 9, .s 10, .s 11, .h 2, .h 3, .h 4, .h 5, .h 6] [sO 4 (.ptr 2 0), sO 5 (.ptr 3 0), sO 6 (.ptr 4 0), sI 7 .i64 r8, sO 8 (.ptr 5 0), sI 9 .i64 r12, sO 10 (.ptr 6 0), sI 11 .i64 r18, hB 2 22 [.arr .u8 32 a3], hB 3 22 [.arr .u8 32 a5], hB 4 22 [.arr .u8 32 a7], hB 5 22 [.arr .u8 32 a11], hB 6 22 [.arr .u8 32 a17]] [CallOk P 56 [.v (.one (.int .i64 (8 : Int)))] [] (.v (.agg [.arr .u8 32 a15])) [], CallOk P 55 [.v (.agg [.arr .u8 32 a15]), .v (.agg [.arr .u8 32 a7])] [] (.tup [.agg [.arr .u8 32 a17], .one (.int .i64 r18)]) []] (by kernel_rfl) (hcons (law06_num_ok (8 : Int) a15 e16) (hone (curve_Mul_ok a15 a7 (a17, r18) e19))) ?_
  refine q_k ?_
  refine tr_seq ?_
  obtain ⟨a21, e22, h⟩ := bind_some h
  obtain ⟨⟨a23, r24⟩, e25, h⟩ := bind_some h
  refine tr_regd hT hM [(0, .call [] (.v (.agg [.arr .u8 32 a21])) []), (2, .call [] (.tup [.agg [.arr .u8 32 a23], .one (.int .i64 r24)]) []), (6, .key 7)] [.s 4, .s 5, .s 6, .s 7, .s 8, .s 9, .s 10, .s 11, .s 12, .s 13, .h 2, .h 3, .h 4, .h 5, .h 6, .h 7] [sO 4 (.ptr 2 0), sO 5 (.ptr 3 0), sO 6 (.ptr 4 0), sI 7 .i64 r8, sO 8 (.ptr 5 0), sI 9 .i64 r12, sO 10 (.ptr 6 0), sI 11 .i64 r18, sO 12 (.ptr 7 0), sI 13 .i64 r24, hB 2 22 [.arr .u8 32 a3], hB 3 22 [.arr .u8 32 a5], hB 4 22 [.arr .u8 32 a7], hB 5 22 [.arr .u8 32 a11], hB 6 22 [.arr .u8 32 a17], hB 7 22 [.arr .u8 32 a23]] [CallOk P 56 [.v (.one (.int .i64 (8 : Int)))] [] (.v (.agg [.arr .u8 32 a21])) [], CallOk P 55 [.v (.agg [.arr .u8 32 a21]), .v (.agg [.arr .u8 32 a5])] [] (.tup [.agg [.arr .u8 32 a23], .one (.int .i64 r24)]) []] (by kernel_rfl) (hcons (law06_num_ok (8 : Int) a21 e22) (hone (curve_Mul_ok a21 a5 (a23, r24) e25))) ?_
  refine q_k ?_
  refine tr_seq ?_
  obtain ⟨a27, e28, h⟩ := bind_some h
  obtain ⟨a29, e30, h⟩ := bind_some h
  obtain ⟨⟨a31, r32⟩, e33, h⟩ := bind_some h
  refine tr_regd hT hM [(0, .call [] (.v (.agg [.arr .u64 4 a27])) []), (1, .call [] (.v (.agg [.arr .u8 32 a29])) []), (3, .call [] (.tup [.agg [.arr .u8 32 a31], .one (.int .i64 r32)]) []), (7, .key 8)] [.s 4, .s 5, .s 6, .s 7, .s 8, .s 9, .s 10, .s 11, .s 12, .s 13, .s 14, .s 15, .h 2, .h 3, .h 4, .h 5, .h 6, .h 7, .h 8] [sO 4 (.ptr 2 0), sO 5 (.ptr 3 0), sO 6 (.ptr 4 0), sI 7 .i64 r8, sO 8 (.ptr 5 0), sI 9 .i64 r12, sO 10 (.ptr 6 0), sI 11 .i64 r18, sO 12 (.ptr 7 0), sI 13 .i64 r24, sO 14 (.ptr 8 0), sI 15 .i64 r32, hB 2 22 [.arr .u8 32 a3], hB 3 22 [.arr .u8 32 a5], hB 4 22 [.arr .u8 32 a7], hB 5 22 [.arr .u8 32 a11], hB 6 22 [.arr .u8 32 a17], hB 7 22 [.arr .u8 32 a23], hB 8 22 [.arr .u8 32 a31]] [CallOk P 30 [] [] (.v (.agg [.arr .u64 4 a27])) [], CallOk P 29 [.v (.agg [.arr .u64 4 a27])] [] (.v (.agg [.arr .u8 32 a29])) [], CallOk P 55 [.v (.agg [.arr .u8 32 a29]), .v (.agg [.arr .u8 32 a3])] [] (.tup [.agg [.arr .u8 32 a31], .one (.int .i64 r32)]) []] (by kernel_rfl) (hcons (ref04_L_ok  a27 e28) (hcons (ref04_Bytes_ok a27 a29 e30) (hone (curve_Mul_ok a29 a3 (a31, r32) e33)))) ?_
  refine q_k ?_
  refine tr_seq ?_
  obtain ⟨b35, e36, h⟩ := bind_some h
  rcases ite_split h with ⟨hb37, h⟩ | ⟨hb60, h⟩
  · rcases ite_split h with ⟨hb38, h⟩ | ⟨hb59, h⟩
    · rcases ite_split h with ⟨hb39, h⟩ | ⟨hb58, h⟩
      · rcases ite_split h with ⟨hb40, h⟩ | ⟨hb57, h⟩
        · rcases ite_split h with ⟨hb41, h⟩ | ⟨hb56, h⟩
          · rcases ite_split h with ⟨hb42, h⟩ | ⟨hb55, h⟩
            · obtain ⟨a43, e44, h⟩ := bind_some h
              rcases ite_split h with ⟨hb45, h⟩ | ⟨hb54, h⟩
              · rcases ite_split h with ⟨hb46, h⟩ | ⟨hb53, h⟩
                · rcases ite_split h with ⟨hb47, h⟩ | ⟨hb52, h⟩
                  · rcases ite_split h with ⟨hb48, h⟩ | ⟨hb51, h⟩
                    · obtain ⟨b49, e50, h⟩ := bind_some h
                      refine tr_regd hT hM [(1, .call [] (.v (.one (.bool b35))) []), (2, .dec true), (6, .dec true), (10, .dec true), (14, .dec true), (18, .dec true), (22, .dec true), (24, .call [] (.v (.agg [.arr .u8 32 a43])) []), (27, .dec true), (32, .dec true), (37, .dec true), (42, .dec true), (43, .call [] (.v (.one (.bool b49))) [])] [.s 2] [sB 2 b49] [CallOk P 58 [.v (.agg [.arr .u8 32 a3])] [] (.v (.one (.bool b35))) [], b35 = true, (r8 == (0 : Int)) = true, (r12 == (0 : Int)) = true, (r18 == (0 : Int)) = true, (r24 == (0 : Int)) = true, (r32 == (0 : Int)) = true, CallOk P 56 [.v (.one (.int .i64 (1 : Int)))] [] (.v (.agg [.arr .u8 32 a43])) [], (decide (a11 = a43)) = true, (decide (a17 = a23)) = true, (!(decide (a7 = a5))) = true, (decide (a31 = a3)) = true, CallOk P 59 [] [] (.v (.one (.bool b49))) []] (by kernel_rfl) (hcons (curve_Check_ok a3 b35 e36) (hcons hb37 (hcons hb38 (hcons hb39 (hcons hb40 (hcons hb41 (hcons hb42 (hcons (law06_num_ok (1 : Int) a43 e44) (hcons hb45 (hcons hb46 (hcons hb47 (hcons hb48 (hone (law06_wakes_ok  b49 e50)))))))))))))) ?_
                      refine q_k ?_
                      refine tr_ret ?_
                      have h := Option.some.inj h
                      subst h
                      exact q_ret0 hT (.v (.one (.bool b49))) rfl (by kernel_rfl)
                    · refine tr_regd hT hM [(1, .call [] (.v (.one (.bool b35))) []), (2, .dec true), (6, .dec true), (10, .dec true), (14, .dec true), (18, .dec true), (22, .dec true), (24, .call [] (.v (.agg [.arr .u8 32 a43])) []), (27, .dec true), (32, .dec true), (37, .dec true), (42, .dec false)] [.s 2] [sB 2 false] [CallOk P 58 [.v (.agg [.arr .u8 32 a3])] [] (.v (.one (.bool b35))) [], b35 = true, (r8 == (0 : Int)) = true, (r12 == (0 : Int)) = true, (r18 == (0 : Int)) = true, (r24 == (0 : Int)) = true, (r32 == (0 : Int)) = true, CallOk P 56 [.v (.one (.int .i64 (1 : Int)))] [] (.v (.agg [.arr .u8 32 a43])) [], (decide (a11 = a43)) = true, (decide (a17 = a23)) = true, (!(decide (a7 = a5))) = true, (decide (a31 = a3)) = false] (by kernel_rfl) (hcons (curve_Check_ok a3 b35 e36) (hcons hb37 (hcons hb38 (hcons hb39 (hcons hb40 (hcons hb41 (hcons hb42 (hcons (law06_num_ok (1 : Int) a43 e44) (hcons hb45 (hcons hb46 (hcons hb47 (hone hb51)))))))))))) ?_
                      refine q_k ?_
                      refine tr_ret ?_
                      have h := Option.some.inj h
                      subst h
                      exact q_ret0 hT (.v (.one (.bool false))) rfl (by kernel_rfl)
                  · refine tr_regd hT hM [(1, .call [] (.v (.one (.bool b35))) []), (2, .dec true), (6, .dec true), (10, .dec true), (14, .dec true), (18, .dec true), (22, .dec true), (24, .call [] (.v (.agg [.arr .u8 32 a43])) []), (27, .dec true), (32, .dec true), (37, .dec false)] [.s 2] [sB 2 false] [CallOk P 58 [.v (.agg [.arr .u8 32 a3])] [] (.v (.one (.bool b35))) [], b35 = true, (r8 == (0 : Int)) = true, (r12 == (0 : Int)) = true, (r18 == (0 : Int)) = true, (r24 == (0 : Int)) = true, (r32 == (0 : Int)) = true, CallOk P 56 [.v (.one (.int .i64 (1 : Int)))] [] (.v (.agg [.arr .u8 32 a43])) [], (decide (a11 = a43)) = true, (decide (a17 = a23)) = true, (!(decide (a7 = a5))) = false] (by kernel_rfl) (hcons (curve_Check_ok a3 b35 e36) (hcons hb37 (hcons hb38 (hcons hb39 (hcons hb40 (hcons hb41 (hcons hb42 (hcons (law06_num_ok (1 : Int) a43 e44) (hcons hb45 (hcons hb46 (hone hb52))))))))))) ?_
                    refine q_k ?_
                    refine tr_ret ?_
                    have h := Option.some.inj h
                    subst h
                    exact q_ret0 hT (.v (.one (.bool false))) rfl (by kernel_rfl)
                · refine tr_regd hT hM [(1, .call [] (.v (.one (.bool b35))) []), (2, .dec true), (6, .dec true), (10, .dec true), (14, .dec true), (18, .dec true), (22, .dec true), (24, .call [] (.v (.agg [.arr .u8 32 a43])) []), (27, .dec true), (32, .dec false)] [.s 2] [sB 2 false] [CallOk P 58 [.v (.agg [.arr .u8 32 a3])] [] (.v (.one (.bool b35))) [], b35 = true, (r8 == (0 : Int)) = true, (r12 == (0 : Int)) = true, (r18 == (0 : Int)) = true, (r24 == (0 : Int)) = true, (r32 == (0 : Int)) = true, CallOk P 56 [.v (.one (.int .i64 (1 : Int)))] [] (.v (.agg [.arr .u8 32 a43])) [], (decide (a11 = a43)) = true, (decide (a17 = a23)) = false] (by kernel_rfl) (hcons (curve_Check_ok a3 b35 e36) (hcons hb37 (hcons hb38 (hcons hb39 (hcons hb40 (hcons hb41 (hcons hb42 (hcons (law06_num_ok (1 : Int) a43 e44) (hcons hb45 (hone hb53)))))))))) ?_
                  refine q_k ?_
                  refine tr_ret ?_
                  have h := Option.some.inj h
                  subst h
                  exact q_ret0 hT (.v (.one (.bool false))) rfl (by kernel_rfl)
              · refine tr_regd hT hM [(1, .call [] (.v (.one (.bool b35))) []), (2, .dec true), (6, .dec true), (10, .dec true), (14, .dec true), (18, .dec true), (22, .dec true), (24, .call [] (.v (.agg [.arr .u8 32 a43])) []), (27, .dec false)] [.s 2] [sB 2 false] [CallOk P 58 [.v (.agg [.arr .u8 32 a3])] [] (.v (.one (.bool b35))) [], b35 = true, (r8 == (0 : Int)) = true, (r12 == (0 : Int)) = true, (r18 == (0 : Int)) = true, (r24 == (0 : Int)) = true, (r32 == (0 : Int)) = true, CallOk P 56 [.v (.one (.int .i64 (1 : Int)))] [] (.v (.agg [.arr .u8 32 a43])) [], (decide (a11 = a43)) = false] (by kernel_rfl) (hcons (curve_Check_ok a3 b35 e36) (hcons hb37 (hcons hb38 (hcons hb39 (hcons hb40 (hcons hb41 (hcons hb42 (hcons (law06_num_ok (1 : Int) a43 e44) (hone hb54))))))))) ?_
                refine q_k ?_
                refine tr_ret ?_
                have h := Option.some.inj h
                subst h
                exact q_ret0 hT (.v (.one (.bool false))) rfl (by kernel_rfl)
            · refine tr_regd hT hM [(1, .call [] (.v (.one (.bool b35))) []), (2, .dec true), (6, .dec true), (10, .dec true), (14, .dec true), (18, .dec true), (22, .dec false)] [.s 2] [sB 2 false] [CallOk P 58 [.v (.agg [.arr .u8 32 a3])] [] (.v (.one (.bool b35))) [], b35 = true, (r8 == (0 : Int)) = true, (r12 == (0 : Int)) = true, (r18 == (0 : Int)) = true, (r24 == (0 : Int)) = true, (r32 == (0 : Int)) = false] (by kernel_rfl) (hcons (curve_Check_ok a3 b35 e36) (hcons hb37 (hcons hb38 (hcons hb39 (hcons hb40 (hcons hb41 (hone hb55))))))) ?_
              refine q_k ?_
              refine tr_ret ?_
              have h := Option.some.inj h
              subst h
              exact q_ret0 hT (.v (.one (.bool false))) rfl (by kernel_rfl)
          · refine tr_regd hT hM [(1, .call [] (.v (.one (.bool b35))) []), (2, .dec true), (6, .dec true), (10, .dec true), (14, .dec true), (18, .dec false)] [.s 2] [sB 2 false] [CallOk P 58 [.v (.agg [.arr .u8 32 a3])] [] (.v (.one (.bool b35))) [], b35 = true, (r8 == (0 : Int)) = true, (r12 == (0 : Int)) = true, (r18 == (0 : Int)) = true, (r24 == (0 : Int)) = false] (by kernel_rfl) (hcons (curve_Check_ok a3 b35 e36) (hcons hb37 (hcons hb38 (hcons hb39 (hcons hb40 (hone hb56)))))) ?_
            refine q_k ?_
            refine tr_ret ?_
            have h := Option.some.inj h
            subst h
            exact q_ret0 hT (.v (.one (.bool false))) rfl (by kernel_rfl)
        · refine tr_regd hT hM [(1, .call [] (.v (.one (.bool b35))) []), (2, .dec true), (6, .dec true), (10, .dec true), (14, .dec false)] [.s 2] [sB 2 false] [CallOk P 58 [.v (.agg [.arr .u8 32 a3])] [] (.v (.one (.bool b35))) [], b35 = true, (r8 == (0 : Int)) = true, (r12 == (0 : Int)) = true, (r18 == (0 : Int)) = false] (by kernel_rfl) (hcons (curve_Check_ok a3 b35 e36) (hcons hb37 (hcons hb38 (hcons hb39 (hone hb57))))) ?_
          refine q_k ?_
          refine tr_ret ?_
          have h := Option.some.inj h
          subst h
          exact q_ret0 hT (.v (.one (.bool false))) rfl (by kernel_rfl)
      · refine tr_regd hT hM [(1, .call [] (.v (.one (.bool b35))) []), (2, .dec true), (6, .dec true), (10, .dec false)] [.s 2] [sB 2 false] [CallOk P 58 [.v (.agg [.arr .u8 32 a3])] [] (.v (.one (.bool b35))) [], b35 = true, (r8 == (0 : Int)) = true, (r12 == (0 : Int)) = false] (by kernel_rfl) (hcons (curve_Check_ok a3 b35 e36) (hcons hb37 (hcons hb38 (hone hb58)))) ?_
        refine q_k ?_
        refine tr_ret ?_
        have h := Option.some.inj h
        subst h
        exact q_ret0 hT (.v (.one (.bool false))) rfl (by kernel_rfl)
    · refine tr_regd hT hM [(1, .call [] (.v (.one (.bool b35))) []), (2, .dec true), (6, .dec false)] [.s 2] [sB 2 false] [CallOk P 58 [.v (.agg [.arr .u8 32 a3])] [] (.v (.one (.bool b35))) [], b35 = true, (r8 == (0 : Int)) = false] (by kernel_rfl) (hcons (curve_Check_ok a3 b35 e36) (hcons hb37 (hone hb59))) ?_
      refine q_k ?_
      refine tr_ret ?_
      have h := Option.some.inj h
      subst h
      exact q_ret0 hT (.v (.one (.bool false))) rfl (by kernel_rfl)
  · refine tr_regd hT hM [(1, .call [] (.v (.one (.bool b35))) []), (2, .dec false)] [.s 2] [sB 2 false] [CallOk P 58 [.v (.agg [.arr .u8 32 a3])] [] (.v (.one (.bool b35))) [], b35 = false] (by kernel_rfl) (hcons (curve_Check_ok a3 b35 e36) (hone hb60)) ?_
    refine q_k ?_
    refine tr_ret ?_
    have h := Option.some.inj h
    subst h
    exact q_ret0 hT (.v (.one (.bool false))) rfl (by kernel_rfl)

theorem curve_Neg_ok (a_0 : List Int) (r : List Int × Int) (h : curve_Neg a_0 = some r) {pre : List (Nat × Ent)} : CallOk P 61 [.v (.agg [.arr .u8 32 a_0])] pre (.tup [.agg [.arr .u8 32 r.1], .one (.int .i64 r.2)]) [] := by
  refine call0 (N := 26) Try.func61 (by kernel_rfl) rfl rfl rfl pre ?_
  intro _ w
  show Tr P (Ge w) 26 _ _ _ (RetQ P Try.f61 (R0 _ w))
  unfold curve_Neg at h
  refine tr_seq ?_
  refine tr_reg hT [(0, .key 0), (1, .key 1)] [.s 1, .s 2, .h 0, .h 1] [sO 1 (.ptr 0 0), sO 2 (.ptr 1 0), hB 0 22 [.arr .u8 32 a_0], hB 1 22 [.arr .u8 32 (List.replicate 32 0)]] [] (by kernel_rfl) trivial ?_
  refine q_k ?_
  refine tr_seq ?_
  obtain ⟨⟨a1, a2, a3, a4, b5⟩, e6, h⟩ := bind_some h
  refine tr_reg hT [(1, .call [] (.tup [.agg [.arr .u64 5 a1, .arr .u64 5 a2, .arr .u64 5 a3, .arr .u64 5 a4], .one (.bool b5)]) []), (5, .key 2)] [.s 2, .s 4, .s 5, .h 1, .h 2] [sO 2 (.ptr 1 0), sO 4 (.ptr 2 0), sB 5 b5, hB 1 22 [.arr .u8 32 (List.replicate 32 0)], hB 2 87 [.arr .u64 5 a1, .arr .u64 5 a2, .arr .u64 5 a3, .arr .u64 5 a4]] [CallOk P 92 [.v (.agg [.arr .u8 32 a_0])] [] (.tup [.agg [.arr .u64 5 a1, .arr .u64 5 a2, .arr .u64 5 a3, .arr .u64 5 a4], .one (.bool b5)]) []] (by kernel_rfl) (hone (curve_unpacked_ok a_0 (a1, a2, a3, a4, b5) e6)) ?_
  refine q_k ?_
  refine tr_seq ?_
  refine tr_seq ?_
  refine tr_reg hT [] [.s 2, .s 4, .s 12, .h 1, .h 2] [sO 2 (.ptr 1 0), sO 4 (.ptr 2 0), sB 12 (!b5), hB 1 22 [.arr .u8 32 (List.replicate 32 0)], hB 2 87 [.arr .u64 5 a1, .arr .u64 5 a2, .arr .u64 5 a3, .arr .u64 5 a4]] [] (by kernel_rfl) trivial ?_
  refine q_k ?_
  rcases ite_split h with ⟨hc8, h⟩ | ⟨hc8, h⟩
  · refine tr_cond_t (!b5) (by kernel_rfl) hc8 ?_
    refine tr_seq ?_
    refine tr_reg hT [] [.s 2, .s 3, .h 1] [sO 2 (.ptr 1 0), sI 3 .i64 (1 : Int), hB 1 22 [.arr .u8 32 (List.replicate 32 0)]] [] (by kernel_rfl) trivial ?_
    refine q_k ?_
    refine tr_ret ?_
    refine q_k_ret ?_
    have h := Option.some.inj h
    subst h
    exact q_ret0 hT (.tup [.agg [.arr .u8 32 (List.replicate 32 0)], .one (.int .i64 (1 : Int))]) rfl (by kernel_rfl)
  · refine tr_cond_f (!b5) (by kernel_rfl) hc8 ?_
    refine tr_skip ?_
    refine q_k ?_
    refine tr_seq ?_
    obtain ⟨a9, e10, h⟩ := bind_some h
    obtain ⟨a11, e12, h⟩ := bind_some h
    obtain ⟨a13, e14, h⟩ := bind_some h
    obtain ⟨a15, e16, h⟩ := bind_some h
    refine tr_regd hT hM [(0, .call [] (.v (.agg [.arr .u64 5 a9])) []), (3, .call [] (.v (.agg [.arr .u64 5 a11])) []), (4, .call [] (.v (.agg [.arr .u64 5 a13])) []), (7, .call [] (.v (.agg [.arr .u64 5 a15])) [])] [.s 2, .s 4, .h 1, .h 2] [sO 2 (.ptr 1 0), sO 4 (.ptr 2 0), hB 1 22 [.arr .u8 32 (List.replicate 32 0)], hB 2 87 [.arr .u64 5 a11, .arr .u64 5 a2, .arr .u64 5 a3, .arr .u64 5 a15]] [CallOk P 87 [.v (.one (.int .u64 (0 : Int)))] [] (.v (.agg [.arr .u64 5 a9])) [], CallOk P 80 [.v (.agg [.arr .u64 5 a9]), .v (.agg [.arr .u64 5 a1])] [] (.v (.agg [.arr .u64 5 a11])) [], CallOk P 87 [.v (.one (.int .u64 (0 : Int)))] [] (.v (.agg [.arr .u64 5 a13])) [], CallOk P 80 [.v (.agg [.arr .u64 5 a13]), .v (.agg [.arr .u64 5 a4])] [] (.v (.agg [.arr .u64 5 a15])) []] (by kernel_rfl) (hcons (limb_Small_ok (0 : Int) a9 e10) (hcons (limb_Sub_ok a9 a1 a11 e12) (hcons (limb_Small_ok (0 : Int) a13 e14) (hone (limb_Sub_ok a13 a4 a15 e16))))) ?_
    refine q_k ?_
    refine tr_seq ?_
    obtain ⟨a17, e18, h⟩ := bind_some h
    refine tr_reg hT [(1, .call [] (.v (.agg [.arr .u8 32 a17])) [])] [.s 2, .s 3, .h 1] [sO 2 (.ptr 1 0), sI 3 .i64 (0 : Int), hB 1 22 [.arr .u8 32 a17]] [CallOk P 91 [.v (.agg [.arr .u64 5 a11, .arr .u64 5 a2, .arr .u64 5 a3, .arr .u64 5 a15])] [] (.v (.agg [.arr .u8 32 a17])) []] (by kernel_rfl) (hone (curve_point_packed_ok a11 a2 a3 a15 a17 e18)) ?_
    refine q_k ?_
    refine tr_ret ?_
    have h := Option.some.inj h
    subst h
    exact q_ret0 hT (.tup [.agg [.arr .u8 32 a17], .one (.int .i64 (0 : Int))]) rfl (by kernel_rfl)

theorem law06_CurveSides_ok (n_0 : List Int) (m_1 : List Int) (r : Bool) (h : law06_CurveSides n_0 m_1 = some r) {pre : List (Nat × Ent)} : CallOk P 22 [.v (.agg [.arr .u8 32 n_0]), .v (.agg [.arr .u8 32 m_1])] pre (.v (.one (.bool r))) [] := by
  refine call0 (N := 117) Try.func22 (by kernel_rfl) rfl rfl rfl pre ?_
  intro _ w
  show Tr P (Ge w) 117 _ _ _ (RetQ P Try.f22 (R0 _ w))
  unfold law06_CurveSides at h
  refine tr_seq ?_
  refine tr_reg hT [(0, .key 0), (1, .key 1)] [.s 2, .s 3, .h 0, .h 1] [sO 2 (.ptr 0 0), sO 3 (.ptr 1 0), hB 0 22 [.arr .u8 32 n_0], hB 1 22 [.arr .u8 32 m_1]] [] (by kernel_rfl) trivial ?_
  refine q_k ?_
  refine tr_seq ?_
  obtain ⟨a1, e2, h⟩ := bind_some h
  obtain ⟨a3, e4, h⟩ := bind_some h
  refine tr_regd hT hM [(1, .call [] (.v (.agg [.arr .u8 32 a1])) []), (3, .call [] (.v (.agg [.arr .u8 32 a3])) []), (4, .key 2), (5, .key 3)] [.s 5, .s 6, .h 2, .h 3] [sO 5 (.ptr 2 0), sO 6 (.ptr 3 0), hB 2 22 [.arr .u8 32 a1], hB 3 22 [.arr .u8 32 a3]] [CallOk P 54 [.v (.agg [.arr .u8 32 n_0])] [] (.v (.agg [.arr .u8 32 a1])) [], CallOk P 54 [.v (.agg [.arr .u8 32 m_1])] [] (.v (.agg [.arr .u8 32 a3])) []] (by kernel_rfl) (hcons (curve_Base_ok n_0 a1 e2) (hone (curve_Base_ok m_1 a3 e4))) ?_
  refine q_k ?_
  refine tr_seq ?_
  obtain ⟨⟨a5, r6⟩, e7, h⟩ := bind_some h
  refine tr_reg hT [(1, .call [] (.tup [.agg [.arr .u8 32 a5], .one (.int .i64 r6)]) []), (5, .key 4)] [.s 5, .s 6, .s 7, .s 8, .h 2, .h 3, .h 4] [sO 5 (.ptr 2 0), sO 6 (.ptr 3 0), sO 7 (.ptr 4 0), sI 8 .i64 r6, hB 2 22 [.arr .u8 32 a1], hB 3 22 [.arr .u8 32 a3], hB 4 22 [.arr .u8 32 a5]] [CallOk P 61 [.v (.agg [.arr .u8 32 a1])] [] (.tup [.agg [.arr .u8 32 a5], .one (.int .i64 r6)]) []] (by kernel_rfl) (hone (curve_Neg_ok a1 (a5, r6) e7)) ?_
  refine q_k ?_
  refine tr_seq ?_
  obtain ⟨⟨a9, r10⟩, e11, h⟩ := bind_some h
  refine tr_reg hT [(1, .call [] (.tup [.agg [.arr .u8 32 a9], .one (.int .i64 r10)]) []), (5, .key 5)] [.s 5, .s 6, .s 7, .s 8, .s 9, .s 10, .h 2, .h 3, .h 4, .h 5] [sO 5 (.ptr 2 0), sO 6 (.ptr 3 0), sO 7 (.ptr 4 0), sI 8 .i64 r6, sO 9 (.ptr 5 0), sI 10 .i64 r10, hB 2 22 [.arr .u8 32 a1], hB 3 22 [.arr .u8 32 a3], hB 4 22 [.arr .u8 32 a5], hB 5 22 [.arr .u8 32 a9]] [CallOk P 61 [.v (.agg [.arr .u8 32 a5])] [] (.tup [.agg [.arr .u8 32 a9], .one (.int .i64 r10)]) []] (by kernel_rfl) (hone (curve_Neg_ok a5 (a9, r10) e11)) ?_
  refine q_k ?_
  refine tr_seq ?_
  obtain ⟨⟨a13, r14⟩, e15, h⟩ := bind_some h
  refine tr_reg hT [(2, .call [] (.tup [.agg [.arr .u8 32 a13], .one (.int .i64 r14)]) []), (6, .key 6)] [.s 5, .s 6, .s 7, .s 8, .s 9, .s 10, .s 11, .s 12, .h 2, .h 3, .h 4, .h 5, .h 6] [sO 5 (.ptr 2 0), sO 6 (.ptr 3 0), sO 7 (.ptr 4 0), sI 8 .i64 r6, sO 9 (.ptr 5 0), sI 10 .i64 r10, sO 11 (.ptr 6 0), sI 12 .i64 r14, hB 2 22 [.arr .u8 32 a1], hB 3 22 [.arr .u8 32 a3], hB 4 22 [.arr .u8 32 a5], hB 5 22 [.arr .u8 32 a9], hB 6 22 [.arr .u8 32 a13]] [CallOk P 60 [.v (.agg [.arr .u8 32 a1]), .v (.agg [.arr .u8 32 a3])] [] (.tup [.agg [.arr .u8 32 a13], .one (.int .i64 r14)]) []] (by kernel_rfl) (hone (curve_Add_ok a1 a3 (a13, r14) e15)) ?_
  refine q_k ?_
  refine tr_seq ?_
  obtain ⟨⟨a17, r18⟩, e19, h⟩ := bind_some h
  refine tr_reg hT [(1, .call [] (.tup [.agg [.arr .u8 32 a17], .one (.int .i64 r18)]) []), (5, .key 7)] [.s 5, .s 6, .s 7, .s 8, .s 9, .s 10, .s 12, .s 13, .s 14, .h 2, .h 3, .h 4, .h 5, .h 7] [sO 5 (.ptr 2 0), sO 6 (.ptr 3 0), sO 7 (.ptr 4 0), sI 8 .i64 r6, sO 9 (.ptr 5 0), sI 10 .i64 r10, sI 12 .i64 r14, sO 13 (.ptr 7 0), sI 14 .i64 r18, hB 2 22 [.arr .u8 32 a1], hB 3 22 [.arr .u8 32 a3], hB 4 22 [.arr .u8 32 a5], hB 5 22 [.arr .u8 32 a9], hB 7 22 [.arr .u8 32 a17]] [CallOk P 61 [.v (.agg [.arr .u8 32 a13])] [] (.tup [.agg [.arr .u8 32 a17], .one (.int .i64 r18)]) []] (by kernel_rfl) (hone (curve_Neg_ok a13 (a17, r18) e19)) ?_
  refine q_k ?_
  refine tr_seq ?_
  obtain ⟨⟨a21, r22⟩, e23, h⟩ := bind_some h
  refine tr_reg hT [(1, .call [] (.tup [.agg [.arr .u8 32 a21], .one (.int .i64 r22)]) []), (5, .key 8)] [.s 5, .s 7, .s 8, .s 9, .s 10, .s 12, .s 13, .s 14, .s 15, .s 16, .h 2, .h 4, .h 5, .h 7, .h 8] [sO 5 (.ptr 2 0), sO 7 (.ptr 4 0), sI 8 .i64 r6, sO 9 (.ptr 5 0), sI 10 .i64 r10, sI 12 .i64 r14, sO 13 (.ptr 7 0), sI 14 .i64 r18, sO 15 (.ptr 8 0), sI 16 .i64 r22, hB 2 22 [.arr .u8 32 a1], hB 4 22 [.arr .u8 32 a5], hB 5 22 [.arr .u8 32 a9], hB 7 22 [.arr .u8 32 a17], hB 8 22 [.arr .u8 32 a21]] [CallOk P 61 [.v (.agg [.arr .u8 32 a3])] [] (.tup [.agg [.arr .u8 32 a21], .one (.int .i64 r22)]) []] (by kernel_rfl) (hone (curve_Neg_ok a3 (a21, r22) e23)) ?_
  refine q_k ?_
  refine tr_seq ?_
  obtain ⟨⟨a25, r26⟩, e27, h⟩ := bind_some h
  refine tr_reg hT [(2, .call [] (.tup [.agg [.arr .u8 32 a25], .one (.int .i64 r26)]) []), (6, .key 9)] [.s 5, .s 7, .s 8, .s 9, .s 10, .s 12, .s 13, .s 14, .s 16, .s 17, .s 18, .h 2, .h 4, .h 5, .h 7, .h 9] [sO 5 (.ptr 2 0), sO 7 (.ptr 4 0), sI 8 .i64 r6, sO 9 (.ptr 5 0), sI 10 .i64 r10, sI 12 .i64 r14, sO 13 (.ptr 7 0), sI 14 .i64 r18, sI 16 .i64 r22, sO 17 (.ptr 9 0), sI 18 .i64 r26, hB 2 22 [.arr .u8 32 a1], hB 4 22 [.arr .u8 32 a5], hB 5 22 [.arr .u8 32 a9], hB 7 22 [.arr .u8 32 a17], hB 9 22 [.arr .u8 32 a25]] [CallOk P 60 [.v (.agg [.arr .u8 32 a5]), .v (.agg [.arr .u8 32 a21])] [] (.tup [.agg [.arr .u8 32 a25], .one (.int .i64 r26)]) []] (by kernel_rfl) (hone (curve_Add_ok a5 a21 (a25, r26) e27)) ?_
  refine q_k ?_
  refine tr_seq ?_
  refine tr_seq ?_
  rcases ite_split h with ⟨hb29, h⟩ | ⟨hb30, h⟩
  · refine tr_reg hT [(2, .dec true)] [.s 5, .s 7, .s 87, .h 2, .h 4] [sO 5 (.ptr 2 0), sO 7 (.ptr 4 0), sB 87 true, hB 2 22 [.arr .u8 32 a1], hB 4 22 [.arr .u8 32 a5]] [(r6 != (0 : Int)) = true] (by kernel_rfl) (hone hb29) ?_
    refine q_k ?_
    refine tr_cond_t true (by kernel_rfl) rfl ?_
    refine tr_seq ?_
    refine tr_reg hT [] [.s 4] [sB 4 false] [] (by kernel_rfl) trivial ?_
    refine q_k ?_
    refine tr_ret ?_
    refine q_k_ret ?_
    have h := Option.some.inj h
    subst h
    exact q_ret0 hT (.v (.one (.bool false))) rfl (by kernel_rfl)
  · rcases ite_split h with ⟨hb31, h⟩ | ⟨hb32, h⟩
    · refine tr_reg hT [(2, .dec false), (6, .dec true)] [.s 5, .s 7, .s 87, .h 2, .h 4] [sO 5 (.ptr 2 0), sO 7 (.ptr 4 0), sB 87 true, hB 2 22 [.arr .u8 32 a1], hB 4 22 [.arr .u8 32 a5]] [(r6 != (0 : Int)) = false, (r10 != (0 : Int)) = true] (by kernel_rfl) (hcons hb30 (hone hb31)) ?_
      refine q_k ?_
      refine tr_cond_t true (by kernel_rfl) rfl ?_
      refine tr_seq ?_
      refine tr_reg hT [] [.s 4] [sB 4 false] [] (by kernel_rfl) trivial ?_
      refine q_k ?_
      refine tr_ret ?_
      refine q_k_ret ?_
      have h := Option.some.inj h
      subst h
      exact q_ret0 hT (.v (.one (.bool false))) rfl (by kernel_rfl)
    · rcases ite_split h with ⟨hb33, h⟩ | ⟨hb34, h⟩
      · refine tr_reg hT [(2, .dec false), (6, .dec false), (10, .dec true)] [.s 5, .s 7, .s 87, .h 2, .h 4] [sO 5 (.ptr 2 0), sO 7 (.ptr 4 0), sB 87 true, hB 2 22 [.arr .u8 32 a1], hB 4 22 [.arr .u8 32 a5]] [(r6 != (0 : Int)) = false, (r10 != (0 : Int)) = false, (r14 != (0 : Int)) = true] (by kernel_rfl) (hcons hb30 (hcons hb32 (hone hb33))) ?_
        refine q_k ?_
        refine tr_cond_t true (by kernel_rfl) rfl ?_
        refine tr_seq ?_
        refine tr_reg hT [] [.s 4] [sB 4 false] [] (by kernel_rfl) trivial ?_
        refine q_k ?_
        refine tr_ret ?_
        refine q_k_ret ?_
        have h := Option.some.inj h
        subst h
        exact q_ret0 hT (.v (.one (.bool false))) rfl (by kernel_rfl)
      · rcases ite_split h with ⟨hb35, h⟩ | ⟨hb36, h⟩
        · refine tr_reg hT [(2, .dec false), (6, .dec false), (10, .dec false), (14, .dec true)] [.s 5, .s 7, .s 87, .h 2, .h 4] [sO 5 (.ptr 2 0), sO 7 (.ptr 4 0), sB 87 true, hB 2 22 [.arr .u8 32 a1], hB 4 22 [.arr .u8 32 a5]] [(r6 != (0 : Int)) = false, (r10 != (0 : Int)) = false, (r14 != (0 : Int)) = false, (r18 != (0 : Int)) = true] (by kernel_rfl) (hcons hb30 (hcons hb32 (hcons hb34 (hone hb35)))) ?_
          refine q_k ?_
          refine tr_cond_t true (by kernel_rfl) rfl ?_
          refine tr_seq ?_
          refine tr_reg hT [] [.s 4] [sB 4 false] [] (by kernel_rfl) trivial ?_
          refine q_k ?_
          refine tr_ret ?_
          refine q_k_ret ?_
          have h := Option.some.inj h
          subst h
          exact q_ret0 hT (.v (.one (.bool false))) rfl (by kernel_rfl)
        · rcases ite_split h with ⟨hb37, h⟩ | ⟨hb38, h⟩
          · refine tr_reg hT [(2, .dec false), (6, .dec false), (10, .dec false), (14, .dec false), (18, .dec true)] [.s 5, .s 7, .s 87, .h 2, .h 4] [sO 5 (.ptr 2 0), sO 7 (.ptr 4 0), sB 87 true, hB 2 22 [.arr .u8 32 a1], hB 4 22 [.arr .u8 32 a5]] [(r6 != (0 : Int)) = false, (r10 != (0 : Int)) = false, (r14 != (0 : Int)) = false, (r18 != (0 : Int)) = false, (r22 != (0 : Int)) = true] (by kernel_rfl) (hcons hb30 (hcons hb32 (hcons hb34 (hcons hb36 (hone hb37))))) ?_
            refine q_k ?_
            refine tr_cond_t true (by kernel_rfl) rfl ?_
            refine tr_seq ?_
            refine tr_reg hT [] [.s 4] [sB 4 false] [] (by kernel_rfl) trivial ?_
            refine q_k ?_
            refine tr_ret ?_
            refine q_k_ret ?_
            have h := Option.some.inj h
            subst h
            exact q_ret0 hT (.v (.one (.bool false))) rfl (by kernel_rfl)
          · rcases ite_split h with ⟨hb39, h⟩ | ⟨hb40, h⟩
            · refine tr_reg hT [(2, .dec false), (6, .dec false), (10, .dec false), (14, .dec false), (18, .dec false), (22, .dec true)] [.s 5, .s 7, .s 87, .h 2, .h 4] [sO 5 (.ptr 2 0), sO 7 (.ptr 4 0), sB 87 true, hB 2 22 [.arr .u8 32 a1], hB 4 22 [.arr .u8 32 a5]] [(r6 != (0 : Int)) = false, (r10 != (0 : Int)) = false, (r14 != (0 : Int)) = false, (r18 != (0 : Int)) = false, (r22 != (0 : Int)) = false, (r26 != (0 : Int)) = true] (by kernel_rfl) (hcons hb30 (hcons hb32 (hcons hb34 (hcons hb36 (hcons hb38 (hone hb39)))))) ?_
              refine q_k ?_
              refine tr_cond_t true (by kernel_rfl) rfl ?_
              refine tr_seq ?_
              refine tr_reg hT [] [.s 4] [sB 4 false] [] (by kernel_rfl) trivial ?_
              refine q_k ?_
              refine tr_ret ?_
              refine q_k_ret ?_
              have h := Option.some.inj h
              subst h
              exact q_ret0 hT (.v (.one (.bool false))) rfl (by kernel_rfl)
            · rcases ite_split h with ⟨hb41, h⟩ | ⟨hb42, h⟩
              · refine tr_reg hT [(2, .dec false), (6, .dec false), (10, .dec false), (14, .dec false), (18, .dec false), (22, .dec false), (27, .dec true)] [.s 5, .s 7, .s 87, .h 2, .h 4] [sO 5 (.ptr 2 0), sO 7 (.ptr 4 0), sB 87 true, hB 2 22 [.arr .u8 32 a1], hB 4 22 [.arr .u8 32 a5]] [(r6 != (0 : Int)) = false, (r10 != (0 : Int)) = false, (r14 != (0 : Int)) = false, (r18 != (0 : Int)) = false, (r22 != (0 : Int)) = false, (r26 != (0 : Int)) = false, (!(decide (a9 = a1))) = true] (by kernel_rfl) (hcons hb30 (hcons hb32 (hcons hb34 (hcons hb36 (hcons hb38 (hcons hb40 (hone hb41))))))) ?_
                refine q_k ?_
                refine tr_cond_t true (by kernel_rfl) rfl ?_
                refine tr_seq ?_
                refine tr_reg hT [] [.s 4] [sB 4 false] [] (by kernel_rfl) trivial ?_
                refine q_k ?_
                refine tr_ret ?_
                refine q_k_ret ?_
                have h := Option.some.inj h
                subst h
                exact q_ret0 hT (.v (.one (.bool false))) rfl (by kernel_rfl)
              · refine tr_reg hT [(2, .dec false), (6, .dec false), (10, .dec false), (14, .dec false), (18, .dec false), (22, .dec false), (27, .dec false)] [.s 5, .s 7, .s 87, .h 2, .h 4] [sO 5 (.ptr 2 0), sO 7 (.ptr 4 0), sB 87 (!(decide (a17 = a25))), hB 2 22 [.arr .u8 32 a1], hB 4 22 [.arr .u8 32 a5]] [(r6 != (0 : Int)) = false, (r10 != (0 : Int)) = false, (r14 != (0 : Int)) = false, (r18 != (0 : Int)) = false, (r22 != (0 : Int)) = false, (r26 != (0 : Int)) = false, (!(decide (a9 = a1))) = false] (by kernel_rfl) (hcons hb30 (hcons hb32 (hcons hb34 (hcons hb36 (hcons hb38 (hcons hb40 (hone hb42))))))) ?_
                refine q_k ?_
                rcases ite_split h with ⟨hc43, h⟩ | ⟨hc43, h⟩
                · refine tr_cond_t (!(decide (a17 = a25))) (by kernel_rfl) hc43 ?_
                  refine tr_seq ?_
                  refine tr_reg hT [] [.s 4] [sB 4 false] [] (by kernel_rfl) trivial ?_
                  refine q_k ?_
                  refine tr_ret ?_
                  refine q_k_ret ?_
                  have h := Option.some.inj h
                  subst h
                  exact q_ret0 hT (.v (.one (.bool false))) rfl (by kernel_rfl)
                · refine tr_cond_f (!(decide (a17 = a25))) (by kernel_rfl) hc43 ?_
                  refine tr_skip ?_
                  refine q_k ?_
                  refine tr_seq ?_
                  refine tr_reg hT [(1, .key 10)] [.s 5, .s 7, .s 19, .h 2, .h 4, .h 10] [sO 5 (.ptr 2 0), sO 7 (.ptr 4 0), sO 19 (.ptr 10 0), hB 2 22 [.arr .u8 32 a1], hB 4 22 [.arr .u8 32 a5], hB 10 22 [.arr .u8 32 a1]] [] (by kernel_rfl) trivial ?_
                  refine q_k ?_
                  refine tr_seq ?_
                  refine tr_reg hT [] [.s 5, .s 7, .s 19, .h 2, .h 4, .h 10] [sO 5 (.ptr 2 0), sO 7 (.ptr 4 0), sO 19 (.ptr 10 0), hB 2 22 [.arr .u8 32 a1], hB 4 22 [.arr .u8 32 a5], hB 10 22 [.arr .u8 32 (a1.set 31 (bxor .u8 (a1.getD 31 0) (128 : Int)))]] [0 ≤ (31 : Int) ∧ (31 : Int) < ((32 : Nat) : Int), 0 ≤ (31 : Int) ∧ (31 : Int) < ((32 : Nat) : Int)] (by kernel_rfl) (hcons (by decide) (hone (by decide))) ?_
                  refine q_k ?_
                  refine tr_seq ?_
                  refine tr_seq ?_
                  obtain ⟨a44, e45, h⟩ := bind_some h
                  refine tr_regd hT hM [(1, .call [] (.v (.agg [.arr .u8 32 a44])) [])] [.s 5, .s 7, .s 19, .s 95, .h 2, .h 4, .h 10] [sO 5 (.ptr 2 0), sO 7 (.ptr 4 0), sO 19 (.ptr 10 0), sB 95 (decide (a1 = a44)), hB 2 22 [.arr .u8 32 a1], hB 4 22 [.arr .u8 32 a5], hB 10 22 [.arr .u8 32 (a1.set 31 (bxor .u8 (a1.getD 31 0) (128 : Int)))]] [CallOk P 56 [.v (.one (.int .i64 (1 : Int)))] [] (.v (.agg [.arr .u8 32 a44])) []] (by kernel_rfl) (hone (law06_num_ok (1 : Int) a44 e45)) ?_
                  refine q_k ?_
                  rcases ite_split h with ⟨hc46, h⟩ | ⟨hc46, h⟩
                  · refine tr_cond_t (decide (a1 = a44)) (by kernel_rfl) hc46 ?_
                    refine tr_seq ?_
                    rcases ite_split h with ⟨hb47, h⟩ | ⟨hb54, h⟩
                    · obtain ⟨b48, e49, h⟩ := bind_some h
                      rcases ite_split h with ⟨hb50, h⟩ | ⟨hb53, h⟩
                      · obtain ⟨b51, e52, h⟩ := bind_some h
                        refine tr_reg hT [(3, .dec true), (5, .call [] (.v (.one (.bool b48))) []), (8, .dec true), (9, .call [] (.v (.one (.bool b51))) [])] [.s 4] [sB 4 b51] [(decide (a5 = a1)) = true, CallOk P 58 [.v (.agg [.arr .u8 32 (a1.set 31 (bxor .u8 (a1.getD 31 0) (128 : Int)))])] [] (.v (.one (.bool b48))) [], (!b48) = true, CallOk P 59 [] [] (.v (.one (.bool b51))) []] (by kernel_rfl) (hcons hb47 (hcons (curve_Check_ok (a1.set 31 (bxor .u8 (a1.getD 31 0) (128 : Int))) b48 e49) (hcons hb50 (hone (law06_wakes_ok  b51 e52))))) ?_
                        refine q_k ?_
                        refine tr_ret ?_
                        refine q_k_ret ?_
                        have h := Option.some.inj h
                        subst h
                        exact q_ret0 hT (.v (.one (.bool b51))) rfl (by kernel_rfl)
                      · refine tr_reg hT [(3, .dec true), (5, .call [] (.v (.one (.bool b48))) []), (8, .dec false)] [.s 4] [sB 4 false] [(decide (a5 = a1)) = true, CallOk P 58 [.v (.agg [.arr .u8 32 (a1.set 31 (bxor .u8 (a1.getD 31 0) (128 : Int)))])] [] (.v (.one (.bool b48))) [], (!b48) = false] (by kernel_rfl) (hcons hb47 (hcons (curve_Check_ok (a1.set 31 (bxor .u8 (a1.getD 31 0) (128 : Int))) b48 e49) (hone hb53))) ?_
                        refine q_k ?_
                        refine tr_ret ?_
                        refine q_k_ret ?_
                        have h := Option.some.inj h
                        subst h
                        exact q_ret0 hT (.v (.one (.bool false))) rfl (by kernel_rfl)
                    · refine tr_reg hT [(3, .dec false)] [.s 4] [sB 4 false] [(decide (a5 = a1)) = false] (by kernel_rfl) (hone hb54) ?_
                      refine q_k ?_
                      refine tr_ret ?_
                      refine q_k_ret ?_
                      have h := Option.some.inj h
                      subst h
                      exact q_ret0 hT (.v (.one (.bool false))) rfl (by kernel_rfl)
                  · refine tr_cond_f (decide (a1 = a44)) (by kernel_rfl) hc46 ?_
                    refine tr_skip ?_
                    refine q_k ?_
                    refine tr_seq ?_
                    rcases ite_split h with ⟨hb55, h⟩ | ⟨hb62, h⟩
                    · obtain ⟨b56, e57, h⟩ := bind_some h
                      rcases ite_split h with ⟨hb58, h⟩ | ⟨hb61, h⟩
                      · obtain ⟨b59, e60, h⟩ := bind_some h
                        refine tr_reg hT [(3, .dec true), (5, .call [] (.v (.one (.bool b56))) []), (7, .dec true), (8, .call [] (.v (.one (.bool b59))) [])] [.s 4] [sB 4 b59] [(decide (a5 = (a1.set 31 (bxor .u8 (a1.getD 31 0) (128 : Int))))) = true, CallOk P 58 [.v (.agg [.arr .u8 32 (a1.set 31 (bxor .u8 (a1.getD 31 0) (128 : Int)))])] [] (.v (.one (.bool b56))) [], b56 = true, CallOk P 59 [] [] (.v (.one (.bool b59))) []] (by kernel_rfl) (hcons hb55 (hcons (curve_Check_ok (a1.set 31 (bxor .u8 (a1.getD 31 0) (128 : Int))) b56 e57) (hcons hb58 (hone (law06_wakes_ok  b59 e60))))) ?_
                        refine q_k ?_
                        refine tr_ret ?_
                        have h := Option.some.inj h
                        subst h
                        exact q_ret0 hT (.v (.one (.bool b59))) rfl (by kernel_rfl)
                      · refine tr_reg hT [(3, .dec true), (5, .call [] (.v (.one (.bool b56))) []), (7, .dec false)] [.s 4] [sB 4 false] [(decide (a5 = (a1.set 31 (bxor .u8 (a1.getD 31 0) (128 : Int))))) = true, CallOk P 58 [.v (.agg [.arr .u8 32 (a1.set 31 (bxor .u8 (a1.getD 31 0) (128 : Int)))])] [] (.v (.one (.bool b56))) [], b56 = false] (by kernel_rfl) (hcons hb55 (hcons (curve_Check_ok (a1.set 31 (bxor .u8 (a1.getD 31 0) (128 : Int))) b56 e57) (hone hb61))) ?_
                        refine q_k ?_
                        refine tr_ret ?_
                        have h := Option.some.inj h
                        subst h
                        exact q_ret0 hT (.v (.one (.bool false))) rfl (by kernel_rfl)
                    · refine tr_reg hT [(3, .dec false)] [.s 4] [sB 4 false] [(decide (a5 = (a1.set 31 (bxor .u8 (a1.getD 31 0) (128 : Int))))) = false] (by kernel_rfl) (hone hb62) ?_
                      refine q_k ?_
                      refine tr_ret ?_
                      have h := Option.some.inj h
                      subst h
                      exact q_ret0 hT (.v (.one (.bool false))) rfl (by kernel_rfl)

theorem law06_CurveTimes_ok (n_0 : List Int) (m_1 : List Int) (k_2 : List Int) (r : Bool) (h : law06_CurveTimes n_0 m_1 k_2 = some r) {pre : List (Nat × Ent)} : CallOk P 23 [.v (.agg [.arr .u8 32 n_0]), .v (.agg [.arr .u8 32 m_1]), .v (.agg [.arr .u8 32 k_2])] pre (.v (.one (.bool r))) [] := by
  refine call0 (N := 101) Try.func23 (by kernel_rfl) rfl rfl rfl pre ?_
  intro _ w
  show Tr P (Ge w) 101 _ _ _ (RetQ P Try.f23 (R0 _ w))
  unfold law06_CurveTimes at h
  refine tr_seq ?_
  refine tr_reg hT [(0, .key 0), (1, .key 1), (2, .key 2)] [.s 3, .s 4, .s 5, .h 0, .h 1, .h 2] [sO 3 (.ptr 0 0), sO 4 (.ptr 1 0), sO 5 (.ptr 2 0), hB 0 22 [.arr .u8 32 n_0], hB 1 22 [.arr .u8 32 m_1], hB 2 22 [.arr .u8 32 k_2]] [] (by kernel_rfl) trivial ?_
  refine q_k ?_
  refine tr_seq ?_
  obtain ⟨a1, e2, h⟩ := bind_some h
  refine tr_reg hT [(1, .call [] (.v (.agg [.arr .u8 32 a1])) []), (2, .key 3)] [.s 4, .s 5, .s 7, .h 1, .h 2, .h 3] [sO 4 (.ptr 1 0), sO 5 (.ptr 2 0), sO 7 (.ptr 3 0), hB 1 22 [.arr .u8 32 m_1], hB 2 22 [.arr .u8 32 k_2], hB 3 22 [.arr .u8 32 a1]] [CallOk P 54 [.v (.agg [.arr .u8 32 n_0])] [] (.v (.agg [.arr .u8 32 a1])) []] (by kernel_rfl) (hone (curve_Base_ok n_0 a1 e2)) ?_
  refine q_k ?_
  refine tr_seq ?_
  obtain ⟨⟨a3, r4⟩, e5, h⟩ := bind_some h
  refine tr_reg hT [(2, .call [] (.tup [.agg [.arr .u8 32 a3], .one (.int .i64 r4)]) []), (6, .key 4)] [.s 4, .s 5, .s 7, .s 8, .s 9, .h 1, .h 2, .h 3, .h 4] [sO 4 (.ptr 1 0), sO 5 (.ptr 2 0), sO 7 (.ptr 3 0), sO 8 (.ptr 4 0), sI 9 .i64 r4, hB 1 22 [.arr .u8 32 m_1], hB 2 22 [.arr .u8 32 k_2], hB 3 22 [.arr .u8 32 a1], hB 4 22 [.arr .u8 32 a3]] [CallOk P 55 [.v (.agg [.arr .u8 32 m_1]), .v (.agg [.arr .u8 32 a1])] [] (.tup [.agg [.arr .u8 32 a3], .one (.int .i64 r4)]) []] (by kernel_rfl) (hone (curve_Mul_ok m_1 a1 (a3, r4) e5)) ?_
  refine q_k ?_
  refine tr_seq ?_
  obtain ⟨⟨a7, r8⟩, e9, h⟩ := bind_some h
  refine tr_reg hT [(2, .call [] (.tup [.agg [.arr .u8 32 a7], .one (.int .i64 r8)]) []), (6, .key 5)] [.s 4, .s 5, .s 7, .s 9, .s 10, .s 11, .h 1, .h 2, .h 3, .h 5] [sO 4 (.ptr 1 0), sO 5 (.ptr 2 0), sO 7 (.ptr 3 0), sI 9 .i64 r4, sO 10 (.ptr 5 0), sI 11 .i64 r8, hB 1 22 [.arr .u8 32 m_1], hB 2 22 [.arr .u8 32 k_2], hB 3 22 [.arr .u8 32 a1], hB 5 22 [.arr .u8 32 a7]] [CallOk P 55 [.v (.agg [.arr .u8 32 k_2]), .v (.agg [.arr .u8 32 a3])] [] (.tup [.agg [.arr .u8 32 a7], .one (.int .i64 r8)]) []] (by kernel_rfl) (hone (curve_Mul_ok k_2 a3 (a7, r8) e9)) ?_
  refine q_k ?_
  refine tr_seq ?_
  obtain ⟨a11, e12, h⟩ := bind_some h
  obtain ⟨⟨a13, r14⟩, e15, h⟩ := bind_some h
  refine tr_regd hT hM [(3, .call [] (.v (.agg [.arr .u8 32 a11])) []), (5, .call [] (.tup [.agg [.arr .u8 32 a13], .one (.int .i64 r14)]) []), (9, .key 6)] [.s 5, .s 7, .s 9, .s 10, .s 11, .s 12, .s 13, .h 2, .h 3, .h 5, .h 6] [sO 5 (.ptr 2 0), sO 7 (.ptr 3 0), sI 9 .i64 r4, sO 10 (.ptr 5 0), sI 11 .i64 r8, sO 12 (.ptr 6 0), sI 13 .i64 r14, hB 2 22 [.arr .u8 32 k_2], hB 3 22 [.arr .u8 32 a1], hB 5 22 [.arr .u8 32 a7], hB 6 22 [.arr .u8 32 a13]] [CallOk P 39 [.v (.agg [.arr .u8 32 m_1]), .v (.agg [.arr .u8 32 k_2]), .v (.agg [.arr .u8 32 (List.replicate 32 0)])] [] (.v (.agg [.arr .u8 32 a11])) [], CallOk P 55 [.v (.agg [.arr .u8 32 a11]), .v (.agg [.arr .u8 32 a1])] [] (.tup [.agg [.arr .u8 32 a13], .one (.int .i64 r14)]) []] (by kernel_rfl) (hcons (ref04_MulAdd_ok m_1 k_2 (List.replicate 32 0) a11 e12) (hone (curve_Mul_ok a11 a1 (a13, r14) e15))) ?_
  refine q_k ?_
  refine tr_seq ?_
  obtain ⟨⟨a17, r18⟩, e19, h⟩ := bind_some h
  refine tr_reg hT [(2, .call [] (.tup [.agg [.arr .u8 32 a17], .one (.int .i64 r18)]) []), (6, .key 7)] [.s 5, .s 7, .s 9, .s 10, .s 11, .s 12, .s 13, .s 14, .s 15, .h 2, .h 3, .h 5, .h 6, .h 7] [sO 5 (.ptr 2 0), sO 7 (.ptr 3 0), sI 9 .i64 r4, sO 10 (.ptr 5 0), sI 11 .i64 r8, sO 12 (.ptr 6 0), sI 13 .i64 r14, sO 14 (.ptr 7 0), sI 15 .i64 r18, hB 2 22 [.arr .u8 32 k_2], hB 3 22 [.arr .u8 32 a1], hB 5 22 [.arr .u8 32 a7], hB 6 22 [.arr .u8 32 a13], hB 7 22 [.arr .u8 32 a17]] [CallOk P 60 [.v (.agg [.arr .u8 32 a1]), .v (.agg [.arr .u8 32 a1])] [] (.tup [.agg [.arr .u8 32 a17], .one (.int .i64 r18)]) []] (by kernel_rfl) (hone (curve_Add_ok a1 a1 (a17, r18) e19)) ?_
  refine q_k ?_
  refine tr_seq ?_
  obtain ⟨a21, e22, h⟩ := bind_some h
  obtain ⟨⟨a23, r24⟩, e25, h⟩ := bind_some h
  refine tr_regd hT hM [(0, .call [] (.v (.agg [.arr .u8 32 a21])) []), (2, .call [] (.tup [.agg [.arr .u8 32 a23], .one (.int .i64 r24)]) []), (6, .key 8)] [.s 5, .s 9, .s 10, .s 11, .s 12, .s 13, .s 14, .s 15, .s 16, .s 17, .h 2, .h 5, .h 6, .h 7, .h 8] [sO 5 (.ptr 2 0), sI 9 .i64 r4, sO 10 (.ptr 5 0), sI 11 .i64 r8, sO 12 (.ptr 6 0), sI 13 .i64 r14, sO 14 (.ptr 7 0), sI 15 .i64 r18, sO 16 (.ptr 8 0), sI 17 .i64 r24, hB 2 22 [.arr .u8 32 k_2], hB 5 22 [.arr .u8 32 a7], hB 6 22 [.arr .u8 32 a13], hB 7 22 [.arr .u8 32 a17], hB 8 22 [.arr .u8 32 a23]] [CallOk P 56 [.v (.one (.int .i64 (2 : Int)))] [] (.v (.agg [.arr .u8 32 a21])) [], CallOk P 55 [.v (.agg [.arr .u8 32 a21]), .v (.agg [.arr .u8 32 a1])] [] (.tup [.agg [.arr .u8 32 a23], .one (.int .i64 r24)]) []] (by kernel_rfl) (hcons (law06_num_ok (2 : Int) a21 e22) (hone (curve_Mul_ok a21 a1 (a23, r24) e25))) ?_
  refine q_k ?_
  refine tr_seq ?_
  obtain ⟨a27, e28, h⟩ := bind_some h
  obtain ⟨⟨a29, r30⟩, e31, h⟩ := bind_some h
  refine tr_regd hT hM [(1, .call [] (.v (.agg [.arr .u8 32 a27])) []), (2, .call [] (.tup [.agg [.arr .u8 32 a29], .one (.int .i64 r30)]) []), (6, .key 9)] [.s 9, .s 10, .s 11, .s 12, .s 13, .s 14, .s 15, .s 16, .s 17, .s 18, .s 19, .h 5, .h 6, .h 7, .h 8, .h 9] [sI 9 .i64 r4, sO 10 (.ptr 5 0), sI 11 .i64 r8, sO 12 (.ptr 6 0), sI 13 .i64 r14, sO 14 (.ptr 7 0), sI 15 .i64 r18, sO 16 (.ptr 8 0), sI 17 .i64 r24, sO 18 (.ptr 9 0), sI 19 .i64 r30, hB 5 22 [.arr .u8 32 a7], hB 6 22 [.arr .u8 32 a13], hB 7 22 [.arr .u8 32 a17], hB 8 22 [.arr .u8 32 a23], hB 9 22 [.arr .u8 32 a29]] [CallOk P 56 [.v (.one (.int .i64 (1 : Int)))] [] (.v (.agg [.arr .u8 32 a27])) [], CallOk P 55 [.v (.agg [.arr .u8 32 k_2]), .v (.agg [.arr .u8 32 a27])] [] (.tup [.agg [.arr .u8 32 a29], .one (.int .i64 r30)]) []] (by kernel_rfl) (hcons (law06_num_ok (1 : Int) a27 e28) (hone (curve_Mul_ok k_2 a27 (a29, r30) e31))) ?_
  refine q_k ?_
  refine tr_seq ?_
  rcases ite_split h with ⟨hb33, h⟩ | ⟨hb54, h⟩
  · rcases ite_split h with ⟨hb34, h⟩ | ⟨hb53, h⟩
    · rcases ite_split h with ⟨hb35, h⟩ | ⟨hb52, h⟩
      · rcases ite_split h with ⟨hb36, h⟩ | ⟨hb51, h⟩
        · rcases ite_split h with ⟨hb37, h⟩ | ⟨hb50, h⟩
          · rcases ite_split h with ⟨hb38, h⟩ | ⟨hb49, h⟩
            · rcases ite_split h with ⟨hb39, h⟩ | ⟨hb48, h⟩
              · rcases ite_split h with ⟨hb40, h⟩ | ⟨hb47, h⟩
                · obtain ⟨a41, e42, h⟩ := bind_some h
                  rcases ite_split h with ⟨hb43, h⟩ | ⟨hb46, h⟩
                  · obtain ⟨b44, e45, h⟩ := bind_some h
                    refine tr_regd hT hM [(2, .dec true), (6, .dec true), (10, .dec true), (14, .dec true), (18, .dec true), (22, .dec true), (27, .dec true), (32, .dec true), (34, .call [] (.v (.agg [.arr .u8 32 a41])) []), (37, .dec true), (38, .call [] (.v (.one (.bool b44))) [])] [.s 6] [sB 6 b44] [(r4 == (0 : Int)) = true, (r8 == (0 : Int)) = true, (r14 == (0 : Int)) = true, (r18 == (0 : Int)) = true, (r24 == (0 : Int)) = true, (r30 == (0 : Int)) = true, (decide (a7 = a13)) = true, (decide (a17 = a23)) = true, CallOk P 56 [.v (.one (.int .i64 (1 : Int)))] [] (.v (.agg [.arr .u8 32 a41])) [], (decide (a29 = a41)) = true, CallOk P 59 [] [] (.v (.one (.bool b44))) []] (by kernel_rfl) (hcons hb33 (hcons hb34 (hcons hb35 (hcons hb36 (hcons hb37 (hcons hb38 (hcons hb39 (hcons hb40 (hcons (law06_num_ok (1 : Int) a41 e42) (hcons hb43 (hone (law06_wakes_ok  b44 e45)))))))))))) ?_
                    refine q_k ?_
                    refine tr_ret ?_
                    have h := Option.some.inj h
                    subst h
                    exact q_ret0 hT (.v (.one (.bool b44))) rfl (by kernel_rfl)
                  · refine tr_regd hT hM [(2, .dec true), (6, .dec true), (10, .dec true), (14, .dec true), (18, .dec true), (22, .dec true), (27, .dec true), (32, .dec true), (34, .call [] (.v (.agg [.arr .u8 32 a41])) []), (37, .dec false)] [.s 6] [sB 6 false] [(r4 == (0 : Int)) = true, (r8 == (0 : Int)) = true, (r14 == (0 : Int)) = true, (r18 == (0 : Int)) = true, (r24 == (0 : Int)) = true, (r30 == (0 : Int)) = true, (decide (a7 = a13)) = true, (decide (a17 = a23)) = true, CallOk P 56 [.v (.one (.int .i64 (1 : Int)))] [] (.v (.agg [.arr .u8 32 a41])) [], (decide (a29 = a41)) = false] (by kernel_rfl) (hcons hb33 (hcons hb34 (hcons hb35 (hcons hb36 (hcons hb37 (hcons hb38 (hcons hb39 (hcons hb40 (hcons (law06_num_ok (1 : Int) a41 e42) (hone hb46)))))))))) ?_
                    refine q_k ?_
                    refine tr_ret ?_
                    have h := Option.some.inj h
                    subst h
                    exact q_ret0 hT (.v (.one (.bool false))) rfl (by kernel_rfl)
                · refine tr_regd hT hM [(2, .dec true), (6, .dec true), (10, .dec true), (14, .dec true), (18, .dec true), (22, .dec true), (27, .dec true), (32, .dec false)] [.s 6] [sB 6 false] [(r4 == (0 : Int)) = true, (r8 == (0 : Int)) = true, (r14 == (0 : Int)) = true, (r18 == (0 : Int)) = true, (r24 == (0 : Int)) = true, (r30 == (0 : Int)) = true, (decide (a7 = a13)) = true, (decide (a17 = a23)) = false] (by kernel_rfl) (hcons hb33 (hcons hb34 (hcons hb35 (hcons hb36 (hcons hb37 (hcons hb38 (hcons hb39 (hone hb47)))))))) ?_
                  refine q_k ?_
                  refine tr_ret ?_
                  have h := Option.some.inj h
                  subst h
                  exact q_ret0 hT (.v (.one (.bool false))) rfl (by kernel_rfl)
              · refine tr_regd hT hM [(2, .dec true), (6, .dec true), (10, .dec true), (14, .dec true), (18, .dec true), (22, .dec true), (27, .dec false)] [.s 6] [sB 6 false] [(r4 == (0 : Int)) = true, (r8 == (0 : Int)) = true, (r14 == (0 : Int)) = true, (r18 == (0 : Int)) = true, (r24 == (0 : Int)) = true, (r30 == (0 : Int)) = true, (decide (a7 = a13)) = false] (by kernel_rfl) (hcons hb33 (hcons hb34 (hcons hb35 (hcons hb36 (hcons hb37 (hcons hb38 (hone hb48))))))) ?_
                refine q_k ?_
                refine tr_ret ?_
                have h := Option.some.inj h
                subst h
                exact q_ret0 hT (.v (.one (.bool false))) rfl (by kernel_rfl)
            · refine tr_regd hT hM [(2, .dec true), (6, .dec true), (10, .dec true), (14, .dec true), (18, .dec true), (22, .dec false)] [.s 6] [sB 6 false] [(r4 == (0 : Int)) = true, (r8 == (0 : Int)) = true, (r14 == (0 : Int)) = true, (r18 == (0 : Int)) = true, (r24 == (0 : Int)) = true, (r30 == (0 : Int)) = false] (by kernel_rfl) (hcons hb33 (hcons hb34 (hcons hb35 (hcons hb36 (hcons hb37 (hone hb49)))))) ?_
              refine q_k ?_
              refine tr_ret ?_
              have h := Option.some.inj h
              subst h
              exact q_ret0 hT (.v (.one (.bool false))) rfl (by kernel_rfl)
          · refine tr_regd hT hM [(2, .dec true), (6, .dec true), (10, .dec true), (14, .dec true), (18, .dec false)] [.s 6] [sB 6 false] [(r4 == (0 : Int)) = true, (r8 == (0 : Int)) = true, (r14 == (0 : Int)) = true, (r18 == (0 : Int)) = true, (r24 == (0 : Int)) = false] (by kernel_rfl) (hcons hb33 (hcons hb34 (hcons hb35 (hcons hb36 (hone hb50))))) ?_
            refine q_k ?_
            refine tr_ret ?_
            have h := Option.some.inj h
            subst h
            exact q_ret0 hT (.v (.one (.bool false))) rfl (by kernel_rfl)
        · refine tr_regd hT hM [(2, .dec true), (6, .dec true), (10, .dec true), (14, .dec false)] [.s 6] [sB 6 false] [(r4 == (0 : Int)) = true, (r8 == (0 : Int)) = true, (r14 == (0 : Int)) = true, (r18 == (0 : Int)) = false] (by kernel_rfl) (hcons hb33 (hcons hb34 (hcons hb35 (hone hb51)))) ?_
          refine q_k ?_
          refine tr_ret ?_
          have h := Option.some.inj h
          subst h
          exact q_ret0 hT (.v (.one (.bool false))) rfl (by kernel_rfl)
      · refine tr_regd hT hM [(2, .dec true), (6, .dec true), (10, .dec false)] [.s 6] [sB 6 false] [(r4 == (0 : Int)) = true, (r8 == (0 : Int)) = true, (r14 == (0 : Int)) = false] (by kernel_rfl) (hcons hb33 (hcons hb34 (hone hb52))) ?_
        refine q_k ?_
        refine tr_ret ?_
        have h := Option.some.inj h
        subst h
        exact q_ret0 hT (.v (.one (.bool false))) rfl (by kernel_rfl)
    · refine tr_regd hT hM [(2, .dec true), (6, .dec false)] [.s 6] [sB 6 false] [(r4 == (0 : Int)) = true, (r8 == (0 : Int)) = false] (by kernel_rfl) (hcons hb33 (hone hb53)) ?_
      refine q_k ?_
      refine tr_ret ?_
      have h := Option.some.inj h
      subst h
      exact q_ret0 hT (.v (.one (.bool false))) rfl (by kernel_rfl)
  · refine tr_regd hT hM [(2, .dec false)] [.s 6] [sB 6 false] [(r4 == (0 : Int)) = false] (by kernel_rfl) (hone hb54) ?_
    refine q_k ?_
    refine tr_ret ?_
    have h := Option.some.inj h
    subst h
    exact q_ret0 hT (.v (.one (.bool false))) rfl (by kernel_rfl)

theorem law06_CurveGroup_ok (n_0 : List Int) (m_1 : List Int) (k_2 : List Int) (r : Bool) (h : law06_CurveGroup n_0 m_1 k_2 = some r) {pre : List (Nat × Ent)} : CallOk P 24 [.v (.agg [.arr .u8 32 n_0]), .v (.agg [.arr .u8 32 m_1]), .v (.agg [.arr .u8 32 k_2])] pre (.v (.one (.bool r))) [] := by
  refine call0 (N := 141) Try.func24 (by kernel_rfl) rfl rfl rfl pre ?_
  intro _ w
  show Tr P (Ge w) 141 _ _ _ (RetQ P Try.f24 (R0 _ w))
  unfold law06_CurveGroup at h
  refine tr_seq ?_
  refine tr_reg hT [(0, .key 0), (1, .key 1), (2, .key 2)] [.s 3, .s 4, .s 5, .h 0, .h 1, .h 2] [sO 3 (.ptr 0 0), sO 4 (.ptr 1 0), sO 5 (.ptr 2 0), hB 0 22 [.arr .u8 32 n_0], hB 1 22 [.arr .u8 32 m_1], hB 2 22 [.arr .u8 32 k_2]] [] (by kernel_rfl) trivial ?_
  refine q_k ?_
  refine tr_seq ?_
  obtain ⟨a1, e2, h⟩ := bind_some h
  obtain ⟨a3, e4, h⟩ := bind_some h
  obtain ⟨a5, e6, h⟩ := bind_some h
  refine tr_regd hT hM [(1, .call [] (.v (.agg [.arr .u8 32 a1])) []), (3, .call [] (.v (.agg [.arr .u8 32 a3])) []), (5, .call [] (.v (.agg [.arr .u8 32 a5])) []), (6, .key 3), (7, .key 4), (8, .key 5)] [.s 3, .s 4, .s 7, .s 8, .s 9, .h 0, .h 1, .h 3, .h 4, .h 5] [sO 3 (.ptr 0 0), sO 4 (.ptr 1 0), sO 7 (.ptr 3 0), sO 8 (.ptr 4 0), sO 9 (.ptr 5 0), hB 0 22 [.arr .u8 32 n_0], hB 1 22 [.arr .u8 32 m_1], hB 3 22 [.arr .u8 32 a1], hB 4 22 [.arr .u8 32 a3], hB 5 22 [.arr .u8 32 a5]] [CallOk P 54 [.v (.agg [.arr .u8 32 n_0])] [] (.v (.agg [.arr .u8 32 a1])) [], CallOk P 54 [.v (.agg [.arr .u8 32 m_1])] [] (.v (.agg [.arr .u8 32 a3])) [], CallOk P 54 [.v (.agg [.arr .u8 32 k_2])] [] (.v (.agg [.arr .u8 32 a5])) []] (by kernel_rfl) (hcons (curve_Base_ok n_0 a1 e2) (hcons (curve_Base_ok m_1 a3 e4) (hone (curve_Base_ok k_2 a5 e6)))) ?_
  refine q_k ?_
  refine tr_seq ?_
  obtain ⟨⟨a7, r8⟩, e9, h⟩ := bind_some h
  refine tr_reg hT [(2, .call [] (.tup [.agg [.arr .u8 32 a7], .one (.int .i64 r8)]) []), (6, .key 6)] [.s 3, .s 4, .s 7, .s 8, .s 9, .s 10, .s 11, .h 0, .h 1, .h 3, .h 4, .h 5, .h 6] [sO 3 (.ptr 0 0), sO 4 (.ptr 1 0), sO 7 (.ptr 3 0), sO 8 (.ptr 4 0), sO 9 (.ptr 5 0), sO 10 (.ptr 6 0), sI 11 .i64 r8, hB 0 22 [.arr .u8 32 n_0], hB 1 22 [.arr .u8 32 m_1], hB 3 22 [.arr .u8 32 a1], hB 4 22 [.arr .u8 32 a3], hB 5 22 [.arr .u8 32 a5], hB 6 22 [.arr .u8 32 a7]] [CallOk P 60 [.v (.agg [.arr .u8 32 a1]), .v (.agg [.arr .u8 32 a3])] [] (.tup [.agg [.arr .u8 32 a7], .one (.int .i64 r8)]) []] (by kernel_rfl) (hone (curve_Add_ok a1 a3 (a7, r8) e9)) ?_
  refine q_k ?_
  refine tr_seq ?_
  obtain ⟨⟨a11, r12⟩, e13, h⟩ := bind_some h
  refine tr_reg hT [(2, .call [] (.tup [.agg [.arr .u8 32 a11], .one (.int .i64 r12)]) []), (6, .key 7)] [.s 3, .s 4, .s 7, .s 8, .s 9, .s 10, .s 11, .s 12, .s 13, .h 0, .h 1, .h 3, .h 4, .h 5, .h 6, .h 7] [sO 3 (.ptr 0 0), sO 4 (.ptr 1 0), sO 7 (.ptr 3 0), sO 8 (.ptr 4 0), sO 9 (.ptr 5 0), sO 10 (.ptr 6 0), sI 11 .i64 r8, sO 12 (.ptr 7 0), sI 13 .i64 r12, hB 0 22 [.arr .u8 32 n_0], hB 1 22 [.arr .u8 32 m_1], hB 3 22 [.arr .u8 32 a1], hB 4 22 [.arr .u8 32 a3], hB 5 22 [.arr .u8 32 a5], hB 6 22 [.arr .u8 32 a7], hB 7 22 [.arr .u8 32 a11]] [CallOk P 60 [.v (.agg [.arr .u8 32 a3]), .v (.agg [.arr .u8 32 a1])] [] (.tup [.agg [.arr .u8 32 a11], .one (.int .i64 r12)]) []] (by kernel_rfl) (hone (curve_Add_ok a3 a1 (a11, r12) e13)) ?_
  refine q_k ?_
  refine tr_seq ?_
  obtain ⟨⟨a15, r16⟩, e17, h⟩ := bind_some h
  refine tr_reg hT [(2, .call [] (.tup [.agg [.arr .u8 32 a15], .one (.int .i64 r16)]) []), (6, .key 8)] [.s 3, .s 4, .s 7, .s 8, .s 9, .s 10, .s 11, .s 12, .s 13, .s 14, .s 15, .h 0, .h 1, .h 3, .h 4, .h 5, .h 6, .h 7, .h 8] [sO 3 (.ptr 0 0), sO 4 (.ptr 1 0), sO 7 (.ptr 3 0), sO 8 (.ptr 4 0), sO 9 (.ptr 5 0), sO 10 (.ptr 6 0), sI 11 .i64 r8, sO 12 (.ptr 7 0), sI 13 .i64 r12, sO 14 (.ptr 8 0), sI 15 .i64 r16, hB 0 22 [.arr .u8 32 n_0], hB 1 22 [.arr .u8 32 m_1], hB 3 22 [.arr .u8 32 a1], hB 4 22 [.arr .u8 32 a3], hB 5 22 [.arr .u8 32 a5], hB 6 22 [.arr .u8 32 a7], hB 7 22 [.arr .u8 32 a11], hB 8 22 [.arr .u8 32 a15]] [CallOk P 60 [.v (.agg [.arr .u8 32 a7]), .v (.agg [.arr .u8 32 a5])] [] (.tup [.agg [.arr .u8 32 a15], .one (.int .i64 r16)]) []] (by kernel_rfl) (hone (curve_Add_ok a7 a5 (a15, r16) e17)) ?_
  refine q_k ?_
  refine tr_seq ?_
  obtain ⟨⟨a19, r20⟩, e21, h⟩ := bind_some h
  refine tr_reg hT [(2, .call [] (.tup [.agg [.arr .u8 32 a19], .one (.int .i64 r20)]) []), (6, .key 9)] [.s 3, .s 4, .s 7, .s 10, .s 11, .s 12, .s 13, .s 14, .s 15, .s 16, .s 17, .h 0, .h 1, .h 3, .h 6, .h 7, .h 8, .h 9] [sO 3 (.ptr 0 0), sO 4 (.ptr 1 0), sO 7 (.ptr 3 0), sO 10 (.ptr 6 0), sI 11 .i64 r8, sO 12 (.ptr 7 0), sI 13 .i64 r12, sO 14 (.ptr 8 0), sI 15 .i64 r16, sO 16 (.ptr 9 0), sI 17 .i64 r20, hB 0 22 [.arr .u8 32 n_0], hB 1 22 [.arr .u8 32 m_1], hB 3 22 [.arr .u8 32 a1], hB 6 22 [.arr .u8 32 a7], hB 7 22 [.arr .u8 32 a11], hB 8 22 [.arr .u8 32 a15], hB 9 22 [.arr .u8 32 a19]] [CallOk P 60 [.v (.agg [.arr .u8 32 a3]), .v (.agg [.arr .u8 32 a5])] [] (.tup [.agg [.arr .u8 32 a19], .one (.int .i64 r20)]) []] (by kernel_rfl) (hone (curve_Add_ok a3 a5 (a19, r20) e21)) ?_
  refine q_k ?_
  refine tr_seq ?_
  obtain ⟨⟨a23, r24⟩, e25, h⟩ := bind_some h
  refine tr_reg hT [(2, .call [] (.tup [.agg [.arr .u8 32 a23], .one (.int .i64 r24)]) []), (6, .key 10)] [.s 3, .s 4, .s 7, .s 10, .s 11, .s 12, .s 13, .s 14, .s 15, .s 17, .s 18, .s 19, .h 0, .h 1, .h 3, .h 6, .h 7, .h 8, .h 10] [sO 3 (.ptr 0 0), sO 4 (.ptr 1 0), sO 7 (.ptr 3 0), sO 10 (.ptr 6 0), sI 11 .i64 r8, sO 12 (.ptr 7 0), sI 13 .i64 r12, sO 14 (.ptr 8 0), sI 15 .i64 r16, sI 17 .i64 r20, sO 18 (.ptr 10 0), sI 19 .i64 r24, hB 0 22 [.arr .u8 32 n_0], hB 1 22 [.arr .u8 32 m_1], hB 3 22 [.arr .u8 32 a1], hB 6 22 [.arr .u8 32 a7], hB 7 22 [.arr .u8 32 a11], hB 8 22 [.arr .u8 32 a15], hB 10 22 [.arr .u8 32 a23]] [CallOk P 60 [.v (.agg [.arr .u8 32 a1]), .v (.agg [.arr .u8 32 a19])] [] (.tup [.agg [.arr .u8 32 a23], .one (.int .i64 r24)]) []] (by kernel_rfl) (hone (curve_Add_ok a1 a19 (a23, r24) e25)) ?_
  refine q_k ?_
  refine tr_seq ?_
  obtain ⟨⟨a27, r28⟩, e29, h⟩ := bind_some h
  refine tr_reg hT [(1, .call [] (.tup [.agg [.arr .u8 32 a27], .one (.int .i64 r28)]) []), (5, .key 11)] [.s 3, .s 4, .s 7, .s 10, .s 11, .s 12, .s 13, .s 14, .s 15, .s 17, .s 18, .s 19, .s 20, .s 21, .h 0, .h 1, .h 3, .h 6, .h 7, .h 8, .h 10, .h 11] [sO 3 (.ptr 0 0), sO 4 (.ptr 1 0), sO 7 (.ptr 3 0), sO 10 (.ptr 6 0), sI 11 .i64 r8, sO 12 (.ptr 7 0), sI 13 .i64 r12, sO 14 (.ptr 8 0), sI 15 .i64 r16, sI 17 .i64 r20, sO 18 (.ptr 10 0), sI 19 .i64 r24, sO 20 (.ptr 11 0), sI 21 .i64 r28, hB 0 22 [.arr .u8 32 n_0], hB 1 22 [.arr .u8 32 m_1], hB 3 22 [.arr .u8 32 a1], hB 6 22 [.arr .u8 32 a7], hB 7 22 [.arr .u8 32 a11], hB 8 22 [.arr .u8 32 a15], hB 10 22 [.arr .u8 32 a23], hB 11 22 [.arr .u8 32 a27]] [CallOk P 61 [.v (.agg [.arr .u8 32 a1])] [] (.tup [.agg [.arr .u8 32 a27], .one (.int .i64 r28)]) []] (by kernel_rfl) (hone (curve_Neg_ok a1 (a27, r28) e29)) ?_
  refine q_k ?_
  refine tr_seq ?_
  obtain ⟨⟨a31, r32⟩, e33, h⟩ := bind_some h
  refine tr_reg hT [(2, .call [] (.tup [.agg [.arr .u8 32 a31], .one (.int .i64 r32)]) []), (6, .key 12)] [.s 3, .s 4, .s 7, .s 10, .s 11, .s 12, .s 13, .s 14, .s 15, .s 17, .s 18, .s 19, .s 21, .s 22, .s 23, .h 0, .h 1, .h 3, .h 6, .h 7, .h 8, .h 10, .h 12] [sO 3 (.ptr 0 0), sO 4 (.ptr 1 0), sO 7 (.ptr 3 0), sO 10 (.ptr 6 0), sI 11 .i64 r8, sO 12 (.ptr 7 0), sI 13 .i64 r12, sO 14 (.ptr 8 0), sI 15 .i64 r16, sI 17 .i64 r20, sO 18 (.ptr 10 0), sI 19 .i64 r24, sI 21 .i64 r28, sO 22 (.ptr 12 0), sI 23 .i64 r32, hB 0 22 [.arr .u8 32 n_0], hB 1 22 [.arr .u8 32 m_1], hB 3 22 [.arr .u8 32 a1], hB 6 22 [.arr .u8 32 a7], hB 7 22 [.arr .u8 32 a11], hB 8 22 [.arr .u8 32 a15], hB 10 22 [.arr .u8 32 a23], hB 12 22 [.arr .u8 32 a31]] [CallOk P 60 [.v (.agg [.arr .u8 32 a1]), .v (.agg [.arr .u8 32 a27])] [] (.tup [.agg [.arr .u8 32 a31], .one (.int .i64 r32)]) []] (by kernel_rfl) (hone (curve_Add_ok a1 a27 (a31, r32) e33)) ?_
  refine q_k ?_
  refine tr_seq ?_
  obtain ⟨a35, e36, h⟩ := bind_some h
  obtain ⟨⟨a37, r38⟩, e39, h⟩ := bind_some h
  refine tr_regd hT hM [(1, .call [] (.v (.agg [.arr .u8 32 a35])) []), (2, .call [] (.tup [.agg [.arr .u8 32 a37], .one (.int .i64 r38)]) []), (6, .key 13)] [.s 3, .s 4, .s 7, .s 10, .s 11, .s 12, .s 13, .s 14, .s 15, .s 17, .s 18, .s 19, .s 21, .s 22, .s 23, .s 24, .s 25, .h 0, .h 1, .h 3, .h 6, .h 7, .h 8, .h 10, .h 12, .h 13] [sO 3 (.ptr 0 0), sO 4 (.ptr 1 0), sO 7 (.ptr 3 0), sO 10 (.ptr 6 0), sI 11 .i64 r8, sO 12 (.ptr 7 0), sI 13 .i64 r12, sO 14 (.ptr 8 0), sI 15 .i64 r16, sI 17 .i64 r20, sO 18 (.ptr 10 0), sI 19 .i64 r24, sI 21 .i64 r28, sO 22 (.ptr 12 0), sI 23 .i64 r32, sO 24 (.ptr 13 0), sI 25 .i64 r38, hB 0 22 [.arr .u8 32 n_0], hB 1 22 [.arr .u8 32 m_1], hB 3 22 [.arr .u8 32 a1], hB 6 22 [.arr .u8 32 a7], hB 7 22 [.arr .u8 32 a11], hB 8 22 [.arr .u8 32 a15], hB 10 22 [.arr .u8 32 a23], hB 12 22 [.arr .u8 32 a31], hB 13 22 [.arr .u8 32 a37]] [CallOk P 56 [.v (.one (.int .i64 (1 : Int)))] [] (.v (.agg [.arr .u8 32 a35])) [], CallOk P 60 [.v (.agg [.arr .u8 32 a1]), .v (.agg [.arr .u8 32 a35])] [] (.tup [.agg [.arr .u8 32 a37], .one (.int .i64 r38)]) []] (by kernel_rfl) (hcons (law06_num_ok (1 : Int) a35 e36) (hone (curve_Add_ok a1 a35 (a37, r38) e39))) ?_
  refine q_k ?_
  refine tr_seq ?_
  rcases ite_split h with ⟨hb41, h⟩ | ⟨hb76, h⟩
  · rcases ite_split h with ⟨hb42, h⟩ | ⟨hb75, h⟩
    · rcases ite_split h with ⟨hb43, h⟩ | ⟨hb74, h⟩
      · rcases ite_split h with ⟨hb44, h⟩ | ⟨hb73, h⟩
        · rcases ite_split h with ⟨hb45, h⟩ | ⟨hb72, h⟩
          · rcases ite_split h with ⟨hb46, h⟩ | ⟨hb71, h⟩
            · rcases ite_split h with ⟨hb47, h⟩ | ⟨hb70, h⟩
              · rcases ite_split h with ⟨hb48, h⟩ | ⟨hb69, h⟩
                · rcases ite_split h with ⟨hb49, h⟩ | ⟨hb68, h⟩
                  · rcases ite_split h with ⟨hb50, h⟩ | ⟨hb67, h⟩
                    · obtain ⟨a51, e52, h⟩ := bind_some h
                      rcases ite_split h with ⟨hb53, h⟩ | ⟨hb66, h⟩
                      · rcases ite_split h with ⟨hb54, h⟩ | ⟨hb65, h⟩
                        · obtain ⟨a55, e56, h⟩ := bind_some h
                          obtain ⟨a57, e58, h⟩ := bind_some h
                          obtain ⟨a59, e60, h⟩ := bind_some h
                          rcases ite_split h with ⟨hb61, h⟩ | ⟨hb64, h⟩
                          · obtain ⟨b62, e63, h⟩ := bind_some h
                            refine tr_regd hT hM [(2, .dec true), (6, .dec true), (10, .dec true), (14, .dec true), (18, .dec true), (22, .dec true), (26, .dec true), (30, .dec true), (35, .dec true), (40, .dec true), (42, .call [] (.v (.agg [.arr .u8 32 a51])) []), (45, .dec true), (50, .dec true), (52, .call [] (.v (.agg [.arr .u8 32 a55])) []), (54, .call [] (.v (.agg [.arr .u8 32 a57])) []), (55, .call [] (.v (.agg [.arr .u8 32 a59])) []), (59, .dec true), (60, .call [] (.v (.one (.bool b62))) [])] [.s 6] [sB 6 b62] [(r8 == (0 : Int)) = true, (r12 == (0 : Int)) = true, (r16 == (0 : Int)) = true, (r20 == (0 : Int)) = true, (r24 == (0 : Int)) = true, (r28 == (0 : Int)) = true, (r32 == (0 : Int)) = true, (r38 == (0 : Int)) = true, (decide (a7 = a11)) = true, (decide (a15 = a23)) = true, CallOk P 56 [.v (.one (.int .i64 (1 : Int)))] [] (.v (.agg [.arr .u8 32 a51])) [], (decide (a31 = a51)) = true, (decide (a37 = a1)) = true, CallOk P 56 [.v (.one (.int .i64 (1 : Int)))] [] (.v (.agg [.arr .u8 32 a55])) [], CallOk P 39 [.v (.agg [.arr .u8 32 n_0]), .v (.agg [.arr .u8 32 a55]), .v (.agg [.arr .u8 32 m_1])] [] (.v (.agg [.arr .u8 32 a57])) [], CallOk P 54 [.v (.agg [.arr .u8 32 a57])] [] (.v (.agg [.arr .u8 32 a59])) [], (decide (a59 = a7)) = true, CallOk P 59 [] [] (.v (.one (.bool b62))) []] (by kernel_rfl) (hcons hb41 (hcons hb42 (hcons hb43 (hcons hb44 (hcons hb45 (hcons hb46 (hcons hb47 (hcons hb48 (hcons hb49 (hcons hb50 (hcons (law06_num_ok (1 : Int) a51 e52) (hcons hb53 (hcons hb54 (hcons (law06_num_ok (1 : Int) a55 e56) (hcons (ref04_MulAdd_ok n_0 a55 m_1 a57 e58) (hcons (curve_Base_ok a57 a59 e60) (hcons hb61 (hone (law06_wakes_ok  b62 e63))))))))))))))))))) ?_
                            refine q_k ?_
                            refine tr_ret ?_
                            have h := Option.some.inj h
                            subst h
                            exact q_ret0 hT (.v (.one (.bool b62))) rfl (by kernel_rfl)
                          · refine tr_regd hT hM [(2, .dec true), (6, .dec true), (10, .dec true), (14, .dec true), (18, .dec true), (22, .dec true), (26, .dec true), (30, .dec true), (35, .dec true), (40, .dec true), (42, .call [] (.v (.agg [.arr .u8 32 a51])) []), (45, .dec true), (50, .dec true), (52, .call [] (.v (.agg [.arr .u8 32 a55])) []), (54, .call [] (.v (.agg [.arr .u8 32 a57])) []), (55, .call [] (.v (.agg [.arr .u8 32 a59])) []), (59, .dec false)] [.s 6] [sB 6 false] [(r8 == (0 : Int)) = true, (r12 == (0 : Int)) = true, (r16 == (0 : Int)) = true, (r20 == (0 : Int)) = true, (r24 == (0 : Int)) = true, (r28 == (0 : Int)) = true, (r32 == (0 : Int)) = true, (r38 == (0 : Int)) = true, (decide (a7 = a11)) = true, (decide (a15 = a23)) = true, CallOk P 56 [.v (.one (.int .i64 (1 : Int)))] [] (.v (.agg [.arr .u8 32 a51])) [], (decide (a31 = a51)) = true, (decide (a37 = a1)) = true, CallOk P 56 [.v (.one (.int .i64 (1 : Int)))] [] (.v (.agg [.arr .u8 32 a55])) [], CallOk P 39 [.v (.agg [.arr .u8 32 n_0]), .v (.agg [.arr .u8 32 a55]), .v (.agg [.arr .u8 32 m_1])] [] (.v (.agg [.arr .u8 32 a57])) [], CallOk P 54 [.v (.agg [.arr .u8 32 a57])] [] (.v (.agg [.arr .u8 32 a59])) [], (decide (a59 = a7)) = false] (by kernel_rfl) (hcons hb41 (hcons hb42 (hcons hb43 (hcons hb44 (hcons hb45 (hcons hb46 (hcons hb47 (hcons hb48 (hcons hb49 (hcons hb50 (hcons (law06_num_ok (1 : Int) a51 e52) (hcons hb53 (hcons hb54 (hcons (law06_num_ok (1 : Int) a55 e56) (hcons (ref04_MulAdd_ok n_0 a55 m_1 a57 e58) (hcons (curve_Base_ok a57 a59 e60) (hone hb64))))))))))))))))) ?_
                            refine q_k ?_
                            refine tr_ret ?_
                            have h := Option.some.inj h
                            subst h
                            exact q_ret0 hT (.v (.one (.bool false))) rfl (by kernel_rfl)
                        · refine tr_regd hT hM [(2, .dec true), (6, .dec true), (10, .dec true), (14, .dec true), (18, .dec true), (22, .dec true), (26, .dec true), (30, .dec true), (35, .dec true), (40, .dec true), (42, .call [] (.v (.agg [.arr .u8 32 a51])) []), (45, .dec true), (50, .dec false)] [.s 6] [sB 6 false] [(r8 == (0 : Int)) = true, (r12 == (0 : Int)) = true, (r16 == (0 : Int)) = true, (r20 == (0 : Int)) = true, (r24 == (0 : Int)) = true, (r28 == (0 : Int)) = true, (r32 == (0 : Int)) = true, (r38 == (0 : Int)) = true, (decide (a7 = a11)) = true, (decide (a15 = a23)) = true, CallOk P 56 [.v (.one (.int .i64 (1 : Int)))] [] (.v (.agg [.arr .u8 32 a51])) [], (decide (a31 = a51)) = true, (decide (a37 = a1)) = false] (by kernel_rfl) (hcons hb41 (hcons hb42 (hcons hb43 (hcons hb44 (hcons hb45 (hcons hb46 (hcons hb47 (hcons hb48 (hcons hb49 (hcons hb50 (hcons (law06_num_ok (1 : Int) a51 e52) (hcons hb53 (hone hb65))))))))))))) ?_
                          refine q_k ?_
                          refine tr_ret ?_
                          have h := Option.some.inj h
                          subst h
                          exact q_ret0 hT (.v (.one (.bool false))) rfl (by kernel_rfl)
                      · refine tr_regd hT hM [(2, .dec true), (6, .dec true), (10, .dec true), (14, .dec true), (18, .dec true), (22, .dec true), (26, .dec true), (30, .dec true), (35, .dec true), (40, .dec true), (42, .call [] (.v (.agg [.arr .u8 32 a51])) []), (45, .dec false)] [.s 6] [sB 6 false] [(r8 == (0 : Int)) = true, (r12 == (0 : Int)) = true, (r16 == (0 : Int)) = true, (r20 == (0 : Int)) = true, (r24 == (0 : Int)) = true, (r28 == (0 : Int)) = true, (r32 == (0 : Int)) = true, (r38 == (0 : Int)) = true, (decide (a7 = a11)) = true, (decide (a15 = a23)) = true, CallOk P 56 [.v (.one (.int .i64 (1 : Int)))] [] (.v (.agg [.arr .u8 32 a51])) [], (decide (a31 = a51)) = false] (by kernel_rfl) (hcons hb41 (hcons hb42 (hcons hb43 (hcons hb44 (hcons hb45 (hcons hb46 (hcons hb47 (hcons hb48 (hcons hb49 (hcons hb50 (hcons (law06_num_ok (1 : Int) a51 e52) (hone hb66)))))))))))) ?_
                        refine q_k ?_
                        refine tr_ret ?_
                        have h := Option.some.inj h
                        subst h
                        exact q_ret0 hT (.v (.one (.bool false))) rfl (by kernel_rfl)
                    · refine tr_regd hT hM [(2, .dec true), (6, .dec true), (10, .dec true), (14, .dec true), (18, .dec true), (22, .dec true), (26, .dec true), (30, .dec true), (35, .dec true), (40, .dec false)] [.s 6] [sB 6 false] [(r8 == (0 : Int)) = true, (r12 == (0 : Int)) = true, (r16 == (0 : Int)) = true, (r20 == (0 : Int)) = true, (r24 == (0 : Int)) = true, (r28 == (0 : Int)) = true, (r32 == (0 : Int)) = true, (r38 == (0 : Int)) = true, (decide (a7 = a11)) = true, (decide (a15 = a23)) = false] (by kernel_rfl) (hcons hb41 (hcons hb42 (hcons hb43 (hcons hb44 (hcons hb45 (hcons hb46 (hcons hb47 (hcons hb48 (hcons hb49 (hone hb67)))))))))) ?_
                      refine q_k ?_
                      refine tr_ret ?_
                      have h := Option.some.inj h
                      subst h
                      exact q_ret0 hT (.v (.one (.bool false))) rfl (by kernel_rfl)
                  · refine tr_regd hT hM [(2, .dec true), (6, .dec true), (10, .dec true), (14, .dec true), (18, .dec true), (22, .dec true), (26, .dec true), (30, .dec true), (35, .dec false)] [.s 6] [sB 6 false] [(r8 == (0 : Int)) = true, (r12 == (0 : Int)) = true, (r16 == (0 : Int)) = true, (r20 == (0 : Int)) = true, (r24 == (0 : Int)) = true, (r28 == (0 : Int)) = true, (r32 == (0 : Int)) = true, (r38 == (0 : Int)) = true, (decide (a7 = a11)) = false] (by kernel_rfl) (hcons hb41 (hcons hb42 (hcons hb43 (hcons hb44 (hcons hb45 (hcons hb46 (hcons hb47 (hcons hb48 (hone hb68))))))))) ?_
                    refine q_k ?_
                    refine tr_ret ?_
                    have h := Option.some.inj h
                    subst h
                    exact q_ret0 hT (.v (.one (.bool false))) rfl (by kernel_rfl)
                · refine tr_regd hT hM [(2, .dec true), (6, .dec true), (10, .dec true), (14, .dec true), (18, .dec true), (22, .dec true), (26, .dec true), (30, .dec false)] [.s 6] [sB 6 false] [(r8 == (0 : Int)) = true, (r12 == (0 : Int)) = true, (r16 == (0 : Int)) = true, (r20 == (0 : Int)) = true, (r24 == (0 : Int)) = true, (r28 == (0 : Int)) = true, (r32 == (0 : Int)) = true, (r38 == (0 : Int)) = false] (by kernel_rfl) (hcons hb41 (hcons hb42 (hcons hb43 (hcons hb44 (hcons hb45 (hcons hb46 (hcons hb47 (hone hb69)))))))) ?_
                  refine q_k ?_
                  refine tr_ret ?_
                  have h := Option.some.inj h
                  subst h
                  exact q_ret0 hT (.v (.one (.bool false))) rfl (by kernel_rfl)
              · refine tr_regd hT hM [(2, .dec true), (6, .dec true), (10, .dec true), (14, .dec true), (18, .dec true), (22, .dec true), (26, .dec false)] [.s 6] [sB 6 false] [(r8 == (0 : Int)) = true, (r12 == (0 : Int)) = true, (r16 == (0 : Int)) = true, (r20 == (0 : Int)) = true, (r24 == (0 : Int)) = true, (r28 == (0 : Int)) = true, (r32 == (0 : Int)) = false] (by kernel_rfl) (hcons hb41 (hcons hb42 (hcons hb43 (hcons hb44 (hcons hb45 (hcons hb46 (hone hb70))))))) ?_
                refine q_k ?_
                refine tr_ret ?_
                have h := Option.some.inj h
                subst h
                exact q_ret0 hT (.v (.one (.bool false))) rfl (by kernel_rfl)
            · refine tr_regd hT hM [(2, .dec true), (6, .dec true), (10, .dec true), (14, .dec true), (18, .dec true), (22, .dec false)] [.s 6] [sB 6 false] [(r8 == (0 : Int)) = true, (r12 == (0 : Int)) = true, (r16 == (0 : Int)) = true, (r20 == (0 : Int)) = true, (r24 == (0 : Int)) = true, (r28 == (0 : Int)) = false] (by kernel_rfl) (hcons hb41 (hcons hb42 (hcons hb43 (hcons hb44 (hcons hb45 (hone hb71)))))) ?_
              refine q_k ?_
              refine tr_ret ?_
              have h := Option.some.inj h
              subst h
              exact q_ret0 hT (.v (.one (.bool false))) rfl (by kernel_rfl)
          · refine tr_regd hT hM [(2, .dec true), (6, .dec true), (10, .dec true), (14, .dec true), (18, .dec false)] [.s 6] [sB 6 false] [(r8 == (0 : Int)) = true, (r12 == (0 : Int)) = true, (r16 == (0 : Int)) = true, (r20 == (0 : Int)) = true, (r24 == (0 : Int)) = false] (by kernel_rfl) (hcons hb41 (hcons hb42 (hcons hb43 (hcons hb44 (hone hb72))))) ?_
            refine q_k ?_
            refine tr_ret ?_
            have h := Option.some.inj h
            subst h
            exact q_ret0 hT (.v (.one (.bool false))) rfl (by kernel_rfl)
        · refine tr_regd hT hM [(2, .dec true), (6, .dec true), (10, .dec true), (14, .dec false)] [.s 6] [sB 6 false] [(r8 == (0 : Int)) = true, (r12 == (0 : Int)) = true, (r16 == (0 : Int)) = true, (r20 == (0 : Int)) = false] (by kernel_rfl) (hcons hb41 (hcons hb42 (hcons hb43 (hone hb73)))) ?_
          refine q_k ?_
          refine tr_ret ?_
          have h := Option.some.inj h
          subst h
          exact q_ret0 hT (.v (.one (.bool false))) rfl (by kernel_rfl)
      · refine tr_regd hT hM [(2, .dec true), (6, .dec true), (10, .dec false)] [.s 6] [sB 6 false] [(r8 == (0 : Int)) = true, (r12 == (0 : Int)) = true, (r16 == (0 : Int)) = false] (by kernel_rfl) (hcons hb41 (hcons hb42 (hone hb74))) ?_
        refine q_k ?_
        refine tr_ret ?_
        have h := Option.some.inj h
        subst h
        exact q_ret0 hT (.v (.one (.bool false))) rfl (by kernel_rfl)
    · refine tr_regd hT hM [(2, .dec true), (6, .dec false)] [.s 6] [sB 6 false] [(r8 == (0 : Int)) = true, (r12 == (0 : Int)) = false] (by kernel_rfl) (hcons hb41 (hone hb75)) ?_
      refine q_k ?_
      refine tr_ret ?_
      have h := Option.some.inj h
      subst h
      exact q_ret0 hT (.v (.one (.bool false))) rfl (by kernel_rfl)
  · refine tr_regd hT hM [(2, .dec false)] [.s 6] [sB 6 false] [(r8 == (0 : Int)) = false] (by kernel_rfl) (hone hb76) ?_
    refine q_k ?_
    refine tr_ret ?_
    have h := Option.some.inj h
    subst h
    exact q_ret0 hT (.v (.one (.bool false))) rfl (by kernel_rfl)

theorem ref04_Sum_ok (p_0 : List Int) (q_1 : List Int) (r : List Int × Bool) (h : ref04_Sum p_0 q_1 = some r) {pre : List (Nat × Ent)} : CallOk P 63 [.v (.agg [.arr .u8 32 p_0]), .v (.agg [.arr .u8 32 q_1])] pre (.tup [.agg [.arr .u8 32 r.1], .one (.bool r.2)]) [] := by
  refine call0 (N := 32) Try.func63 (by kernel_rfl) rfl rfl rfl pre ?_
  intro _ w
  show Tr P (Ge w) 32 _ _ _ (RetQ P Try.f63 (R0 _ w))
  unfold ref04_Sum at h
  refine tr_seq ?_
  refine tr_reg hT [(0, .key 0), (1, .key 1), (2, .key 2)] [.s 2, .s 3, .s 4, .h 0, .h 1, .h 2] [sO 2 (.ptr 0 0), sO 3 (.ptr 1 0), sO 4 (.ptr 2 0), hB 0 22 [.arr .u8 32 p_0], hB 1 22 [.arr .u8 32 q_1], hB 2 22 [.arr .u8 32 (List.replicate 32 0)]] [] (by kernel_rfl) trivial ?_
  refine q_k ?_
  refine tr_seq ?_
  obtain ⟨⟨a1, a2, a3, a4, b5⟩, e6, h⟩ := bind_some h
  refine tr_reg hT [(1, .call [] (.tup [.agg [.arr .u64 4 a1, .arr .u64 4 a2, .arr .u64 4 a3, .arr .u64 4 a4], .one (.bool b5)]) []), (5, .key 3)] [.s 3, .s 4, .s 6, .s 7, .h 1, .h 2, .h 3] [sO 3 (.ptr 1 0), sO 4 (.ptr 2 0), sO 6 (.ptr 3 0), sB 7 b5, hB 1 22 [.arr .u8 32 q_1], hB 2 22 [.arr .u8 32 (List.replicate 32 0)], hB 3 59 [.arr .u64 4 a1, .arr .u64 4 a2, .arr .u64 4 a3, .arr .u64 4 a4]] [CallOk P 62 [.v (.agg [.arr .u8 32 p_0])] [] (.tup [.agg [.arr .u64 4 a1, .arr .u64 4 a2, .arr .u64 4 a3, .arr .u64 4 a4], .one (.bool b5)]) []] (by kernel_rfl) (hone (ref04_Decode_ok p_0 (a1, a2, a3, a4, b5) e6)) ?_
  refine q_k ?_
  refine tr_seq ?_
  obtain ⟨⟨a8, a9, a10, a11, b12⟩, e13, h⟩ := bind_some h
  refine tr_reg hT [(1, .call [] (.tup [.agg [.arr .u64 4 a8, .arr .u64 4 a9, .arr .u64 4 a10, .arr .u64 4 a11], .one (.bool b12)]) []), (5, .key 4)] [.s 4, .s 6, .s 7, .s 8, .s 9, .h 2, .h 3, .h 4] [sO 4 (.ptr 2 0), sO 6 (.ptr 3 0), sB 7 b5, sO 8 (.ptr 4 0), sB 9 b12, hB 2 22 [.arr .u8 32 (List.replicate 32 0)], hB 3 59 [.arr .u64 4 a1, .arr .u64 4 a2, .arr .u64 4 a3, .arr .u64 4 a4], hB 4 59 [.arr .u64 4 a8, .arr .u64 4 a9, .arr .u64 4 a10, .arr .u64 4 a11]] [CallOk P 62 [.v (.agg [.arr .u8 32 q_1])] [] (.tup [.agg [.arr .u64 4 a8, .arr .u64 4 a9, .arr .u64 4 a10, .arr .u64 4 a11], .one (.bool b12)]) []] (by kernel_rfl) (hone (ref04_Decode_ok q_1 (a8, a9, a10, a11, b12) e13)) ?_
  refine q_k ?_
  refine tr_seq ?_
  refine tr_seq ?_
  rcases ite_split h with ⟨hb15, h⟩ | ⟨hb16, h⟩
  · refine tr_reg hT [(2, .dec true)] [.s 4, .s 6, .s 8, .s 25, .h 2, .h 3, .h 4] [sO 4 (.ptr 2 0), sO 6 (.ptr 3 0), sO 8 (.ptr 4 0), sB 25 true, hB 2 22 [.arr .u8 32 (List.replicate 32 0)], hB 3 59 [.arr .u64 4 a1, .arr .u64 4 a2, .arr .u64 4 a3, .arr .u64 4 a4], hB 4 59 [.arr .u64 4 a8, .arr .u64 4 a9, .arr .u64 4 a10, .arr .u64 4 a11]] [(!b5) = true] (by kernel_rfl) (hone hb15) ?_
    refine q_k ?_
    refine tr_cond_t true (by kernel_rfl) rfl ?_
    refine tr_seq ?_
    refine tr_reg hT [] [.s 4, .s 5, .h 2] [sO 4 (.ptr 2 0), sB 5 false, hB 2 22 [.arr .u8 32 (List.replicate 32 0)]] [] (by kernel_rfl) trivial ?_
    refine q_k ?_
    refine tr_ret ?_
    refine q_k_ret ?_
    have h := Option.some.inj h
    subst h
    exact q_ret0 hT (.tup [.agg [.arr .u8 32 (List.replicate 32 0)], .one (.bool false)]) rfl (by kernel_rfl)
  · refine tr_reg hT [(2, .dec false)] [.s 4, .s 6, .s 8, .s 25, .h 2, .h 3, .h 4] [sO 4 (.ptr 2 0), sO 6 (.ptr 3 0), sO 8 (.ptr 4 0), sB 25 (!b12), hB 2 22 [.arr .u8 32 (List.replicate 32 0)], hB 3 59 [.arr .u64 4 a1, .arr .u64 4 a2, .arr .u64 4 a3, .arr .u64 4 a4], hB 4 59 [.arr .u64 4 a8, .arr .u64 4 a9, .arr .u64 4 a10, .arr .u64 4 a11]] [(!b5) = false] (by kernel_rfl) (hone hb16) ?_
    refine q_k ?_
    rcases ite_split h with ⟨hc17, h⟩ | ⟨hc17, h⟩
    · refine tr_cond_t (!b12) (by kernel_rfl) hc17 ?_
      refine tr_seq ?_
      refine tr_reg hT [] [.s 4, .s 5, .h 2] [sO 4 (.ptr 2 0), sB 5 false, hB 2 22 [.arr .u8 32 (List.replicate 32 0)]] [] (by kernel_rfl) trivial ?_
      refine q_k ?_
      refine tr_ret ?_
      refine q_k_ret ?_
      have h := Option.some.inj h
      subst h
      exact q_ret0 hT (.tup [.agg [.arr .u8 32 (List.replicate 32 0)], .one (.bool false)]) rfl (by kernel_rfl)
    · refine tr_cond_f (!b12) (by kernel_rfl) hc17 ?_
      refine tr_skip ?_
      refine q_k ?_
      refine tr_seq ?_
      obtain ⟨a18, e19, h⟩ := bind_some h
      obtain ⟨⟨a20, a21, a22, a23⟩, e24, h⟩ := bind_some h
      obtain ⟨a26, e27, h⟩ := bind_some h
      refine tr_regd hT hM [(2, .call [] (.v (.agg [.arr .u64 4 a18])) []), (3, .call [] (.v (.agg [.arr .u64 4 a20, .arr .u64 4 a21, .arr .u64 4 a22, .arr .u64 4 a23])) []), (4, .call [] (.v (.agg [.arr .u8 32 a26])) [])] [.s 4, .s 5, .h 2] [sO 4 (.ptr 2 0), sB 5 true, hB 2 22 [.arr .u8 32 a26]] [CallOk P 97 [] [] (.v (.agg [.arr .u64 4 a18])) [], CallOk P 98 [.v (.agg [.arr .u64 4 a1, .arr .u64 4 a2, .arr .u64 4 a3, .arr .u64 4 a4]), .v (.agg [.arr .u64 4 a8, .arr .u64 4 a9, .arr .u64 4 a10, .arr .u64 4 a11]), .v (.agg [.arr .u64 4 a18])] [] (.v (.agg [.arr .u64 4 a20, .arr .u64 4 a21, .arr .u64 4 a22, .arr .u64 4 a23])) [], CallOk P 93 [.v (.agg [.arr .u64 4 a20, .arr .u64 4 a21, .arr .u64 4 a22, .arr .u64 4 a23])] [] (.v (.agg [.arr .u8 32 a26])) []] (by kernel_rfl) (hcons (ref04_d_ok  a18 e19) (hcons (ref04_plus_ok a1 a2 a3 a4 a8 a9 a10 a11 a18 (a20, a21, a22, a23) e24) (hone (ref04_Encode_ok a20 a21 a22 a23 a26 e27)))) ?_
      refine q_k ?_
      refine tr_ret ?_
      have h := Option.some.inj h
      subst h
      exact q_ret0 hT (.tup [.agg [.arr .u8 32 a26], .one (.bool true)]) rfl (by kernel_rfl)

theorem ref04_Negate_ok (a_0 : List Int) (r : List Int × Bool) (h : ref04_Negate a_0 = some r) {pre : List (Nat × Ent)} : CallOk P 64 [.v (.agg [.arr .u8 32 a_0])] pre (.tup [.agg [.arr .u8 32 r.1], .one (.bool r.2)]) [] := by
  refine call0 (N := 28) Try.func64 (by kernel_rfl) rfl rfl rfl pre ?_
  intro _ w
  show Tr P (Ge w) 28 _ _ _ (RetQ P Try.f64 (R0 _ w))
  unfold ref04_Negate at h
  refine tr_seq ?_
  refine tr_reg hT [(0, .key 0), (1, .key 1)] [.s 1, .s 2, .h 0, .h 1] [sO 1 (.ptr 0 0), sO 2 (.ptr 1 0), hB 0 22 [.arr .u8 32 a_0], hB 1 22 [.arr .u8 32 (List.replicate 32 0)]] [] (by kernel_rfl) trivial ?_
  refine q_k ?_
  refine tr_seq ?_
  obtain ⟨⟨a1, a2, a3, a4, b5⟩, e6, h⟩ := bind_some h
  refine tr_reg hT [(1, .call [] (.tup [.agg [.arr .u64 4 a1, .arr .u64 4 a2, .arr .u64 4 a3, .arr .u64 4 a4], .one (.bool b5)]) []), (5, .key 2)] [.s 2, .s 4, .s 5, .h 1, .h 2] [sO 2 (.ptr 1 0), sO 4 (.ptr 2 0), sB 5 b5, hB 1 22 [.arr .u8 32 (List.replicate 32 0)], hB 2 59 [.arr .u64 4 a1, .arr .u64 4 a2, .arr .u64 4 a3, .arr .u64 4 a4]] [CallOk P 62 [.v (.agg [.arr .u8 32 a_0])] [] (.tup [.agg [.arr .u64 4 a1, .arr .u64 4 a2, .arr .u64 4 a3, .arr .u64 4 a4], .one (.bool b5)]) []] (by kernel_rfl) (hone (ref04_Decode_ok a_0 (a1, a2, a3, a4, b5) e6)) ?_
  refine q_k ?_
  refine tr_seq ?_
  refine tr_seq ?_
  refine tr_reg hT [] [.s 2, .s 4, .s 12, .h 1, .h 2] [sO 2 (.ptr 1 0), sO 4 (.ptr 2 0), sB 12 (!b5), hB 1 22 [.arr .u8 32 (List.replicate 32 0)], hB 2 59 [.arr .u64 4 a1, .arr .u64 4 a2, .arr .u64 4 a3, .arr .u64 4 a4]] [] (by kernel_rfl) trivial ?_
  refine q_k ?_
  rcases ite_split h with ⟨hc8, h⟩ | ⟨hc8, h⟩
  · refine tr_cond_t (!b5) (by kernel_rfl) hc8 ?_
    refine tr_seq ?_
    refine tr_reg hT [] [.s 2, .s 3, .h 1] [sO 2 (.ptr 1 0), sB 3 false, hB 1 22 [.arr .u8 32 (List.replicate 32 0)]] [] (by kernel_rfl) trivial ?_
    refine q_k ?_
    refine tr_ret ?_
    refine q_k_ret ?_
    have h := Option.some.inj h
    subst h
    exact q_ret0 hT (.tup [.agg [.arr .u8 32 (List.replicate 32 0)], .one (.bool false)]) rfl (by kernel_rfl)
  · refine tr_cond_f (!b5) (by kernel_rfl) hc8 ?_
    refine tr_skip ?_
    refine q_k ?_
    refine tr_seq ?_
    obtain ⟨a9, e10, h⟩ := bind_some h
    obtain ⟨a11, e12, h⟩ := bind_some h
    obtain ⟨a13, e14, h⟩ := bind_some h
    refine tr_regd hT hM [(3, .call [] (.v (.agg [.arr .u64 4 a9])) []), (11, .call [] (.v (.agg [.arr .u64 4 a11])) []), (13, .call [] (.v (.agg [.arr .u8 32 a13])) [])] [.s 2, .s 3, .h 1] [sO 2 (.ptr 1 0), sB 3 true, hB 1 22 [.arr .u8 32 a13]] [CallOk P 48 [.v (.agg [.arr .u64 4 (List.replicate 4 0)]), .v (.agg [.arr .u64 4 a1])] [] (.v (.agg [.arr .u64 4 a9])) [], CallOk P 48 [.v (.agg [.arr .u64 4 (List.replicate 4 0)]), .v (.agg [.arr .u64 4 a4])] [] (.v (.agg [.arr .u64 4 a11])) [], CallOk P 93 [.v (.agg [.arr .u64 4 a9, .arr .u64 4 a2, .arr .u64 4 a3, .arr .u64 4 a11])] [] (.v (.agg [.arr .u8 32 a13])) []] (by kernel_rfl) (hcons (ref04_Sub_ok (List.replicate 4 0) a1 a9 e10) (hcons (ref04_Sub_ok (List.replicate 4 0) a4 a11 e12) (hone (ref04_Encode_ok a9 a2 a3 a11 a13 e14)))) ?_
    refine q_k ?_
    refine tr_ret ?_
    have h := Option.some.inj h
    subst h
    exact q_ret0 hT (.tup [.agg [.arr .u8 32 a13], .one (.bool true)]) rfl (by kernel_rfl)

theorem ref04_Times_ok (n_0 : List Int) (p_1 : List Int) (r : List Int × Bool) (h : ref04_Times n_0 p_1 = some r) {pre : List (Nat × Ent)} : CallOk P 65 [.v (.agg [.arr .u8 32 n_0]), .v (.agg [.arr .u8 32 p_1])] pre (.tup [.agg [.arr .u8 32 r.1], .one (.bool r.2)]) [] := by
  refine call0 (N := 21) Try.func65 (by kernel_rfl) rfl rfl rfl pre ?_
  intro _ w
  show Tr P (Ge w) 21 _ _ _ (RetQ P Try.f65 (R0 _ w))
  unfold ref04_Times at h
  refine tr_seq ?_
  refine tr_reg hT [(0, .key 0), (1, .key 1), (2, .key 2)] [.s 2, .s 3, .s 4, .h 0, .h 1, .h 2] [sO 2 (.ptr 0 0), sO 3 (.ptr 1 0), sO 4 (.ptr 2 0), hB 0 22 [.arr .u8 32 n_0], hB 1 22 [.arr .u8 32 p_1], hB 2 22 [.arr .u8 32 (List.replicate 32 0)]] [] (by kernel_rfl) trivial ?_
  refine q_k ?_
  refine tr_seq ?_
  obtain ⟨⟨a1, a2, a3, a4, b5⟩, e6, h⟩ := bind_some h
  refine tr_reg hT [(1, .call [] (.tup [.agg [.arr .u64 4 a1, .arr .u64 4 a2, .arr .u64 4 a3, .arr .u64 4 a4], .one (.bool b5)]) []), (5, .key 3)] [.s 2, .s 4, .s 6, .s 7, .h 0, .h 2, .h 3] [sO 2 (.ptr 0 0), sO 4 (.ptr 2 0), sO 6 (.ptr 3 0), sB 7 b5, hB 0 22 [.arr .u8 32 n_0], hB 2 22 [.arr .u8 32 (List.replicate 32 0)], hB 3 59 [.arr .u64 4 a1, .arr .u64 4 a2, .arr .u64 4 a3, .arr .u64 4 a4]] [CallOk P 62 [.v (.agg [.arr .u8 32 p_1])] [] (.tup [.agg [.arr .u64 4 a1, .arr .u64 4 a2, .arr .u64 4 a3, .arr .u64 4 a4], .one (.bool b5)]) []] (by kernel_rfl) (hone (ref04_Decode_ok p_1 (a1, a2, a3, a4, b5) e6)) ?_
  refine q_k ?_
  refine tr_seq ?_
  refine tr_seq ?_
  refine tr_reg hT [] [.s 2, .s 4, .s 6, .s 14, .h 0, .h 2, .h 3] [sO 2 (.ptr 0 0), sO 4 (.ptr 2 0), sO 6 (.ptr 3 0), sB 14 (!b5), hB 0 22 [.arr .u8 32 n_0], hB 2 22 [.arr .u8 32 (List.replicate 32 0)], hB 3 59 [.arr .u64 4 a1, .arr .u64 4 a2, .arr .u64 4 a3, .arr .u64 4 a4]] [] (by kernel_rfl) trivial ?_
  refine q_k ?_
  rcases ite_split h with ⟨hc8, h⟩ | ⟨hc8, h⟩
  · refine tr_cond_t (!b5) (by kernel_rfl) hc8 ?_
    refine tr_seq ?_
    refine tr_reg hT [] [.s 4, .s 5, .h 2] [sO 4 (.ptr 2 0), sB 5 false, hB 2 22 [.arr .u8 32 (List.replicate 32 0)]] [] (by kernel_rfl) trivial ?_
    refine q_k ?_
    refine tr_ret ?_
    refine q_k_ret ?_
    have h := Option.some.inj h
    subst h
    exact q_ret0 hT (.tup [.agg [.arr .u8 32 (List.replicate 32 0)], .one (.bool false)]) rfl (by kernel_rfl)
  · refine tr_cond_f (!b5) (by kernel_rfl) hc8 ?_
    refine tr_skip ?_
    refine q_k ?_
    refine tr_seq ?_
    obtain ⟨a9, e10, h⟩ := bind_some h
    obtain ⟨⟨a11, a12, a13, a14⟩, e15, h⟩ := bind_some h
    obtain ⟨a17, e18, h⟩ := bind_some h
    refine tr_regd hT hM [(1, .call [] (.v (.agg [.arr .u64 4 a9])) []), (3, .call [] (.v (.agg [.arr .u64 4 a11, .arr .u64 4 a12, .arr .u64 4 a13, .arr .u64 4 a14])) []), (4, .call [] (.v (.agg [.arr .u8 32 a17])) [])] [.s 4, .s 5, .h 2] [sO 4 (.ptr 2 0), sB 5 true, hB 2 22 [.arr .u8 32 a17]] [CallOk P 44 [.v (.agg [.arr .u8 32 n_0])] [] (.v (.agg [.arr .u64 4 a9])) [], CallOk P 94 [.v (.agg [.arr .u64 4 a9]), .v (.agg [.arr .u64 4 a1, .arr .u64 4 a2, .arr .u64 4 a3, .arr .u64 4 a4])] [] (.v (.agg [.arr .u64 4 a11, .arr .u64 4 a12, .arr .u64 4 a13, .arr .u64 4 a14])) [], CallOk P 93 [.v (.agg [.arr .u64 4 a11, .arr .u64 4 a12, .arr .u64 4 a13, .arr .u64 4 a14])] [] (.v (.agg [.arr .u8 32 a17])) []] (by kernel_rfl) (hcons (ref04_Of_ok n_0 a9 e10) (hcons (ref04_multiple_ok a9 a1 a2 a3 a4 (a11, a12, a13, a14) e15) (hone (ref04_Encode_ok a11 a12 a13 a14 a17 e18)))) ?_
    refine q_k ?_
    refine tr_ret ?_
    have h := Option.some.inj h
    subst h
    exact q_ret0 hT (.tup [.agg [.arr .u8 32 a17], .one (.bool true)]) rfl (by kernel_rfl)

end Go.Proofs.Sb
