/- Walks, printed by a program of this session (gowalk.py): each Go function comes to its plain function's answer. -/
import Derived.Test.YtdcdanfeepncmaaSbA
import Derived.Test.YtdcdanfeepncmaaSbD
import Derived.Test.YtdcdanfeepncmaaSbI
import Derived.Test.YtdcdanfeepncmaaSbV0
import Derived.Test.YtdcdanfeepncmaaSbV1
import Derived.Test.YtdcdanfeepncmaaSbV2
import Derived.Test.YtdcdanfeepncmaaSbV3
namespace Go.Proofs.Sb
open Go Go.Gw D
set_option linter.unusedVariables false
set_option maxRecDepth 20000

theorem ref04_Pow_ok (a_0 : List Int) (e_1 : List Int) (r : List Int) (h : ref04_Pow a_0 e_1 = some r) {pre : List (Nat × Ent)} : CallOk P 84 [.v (.agg [.arr .u64 4 a_0]), .v (.agg [.arr .u64 4 e_1])] pre (.v (.agg [.arr .u64 4 r])) [] := by
  refine call0 (N := 29) Try.func84 (by kernel_rfl) rfl rfl rfl pre ?_
  intro _ w
  show Tr P w.heap.size 29 w _ _ (RetQ P Try.f84 (R0 _ w))
  unfold ref04_Pow at h
  refine tr_seq ?_
  refine tr_reg hT [(0, .key 0), (1, .key 1), (2, .key 2)] [.s 2, .s 3, .s 4, .h 0, .h 1, .h 2] [sO 2 (.ptr 0 0), sO 3 (.ptr 1 0), sO 4 (.ptr 2 0), hB 0 31 [.arr .u64 4 a_0], hB 1 31 [.arr .u64 4 e_1], hB 2 31 [.arr .u64 4 (List.replicate 4 0)]] [] (by kernel_rfl) trivial ?_
  refine q_k ?_
  refine tr_seq ?_
  refine tr_reg hT [(1, .key 3)] [.s 2, .s 3, .s 4, .s 5, .h 0, .h 1, .h 2, .h 3] [sO 2 (.ptr 0 0), sO 3 (.ptr 1 0), sO 4 (.ptr 2 0), sO 5 (.ptr 3 0), hB 0 31 [.arr .u64 4 a_0], hB 1 31 [.arr .u64 4 e_1], hB 2 31 [.arr .u64 4 (List.replicate 4 0)], hB 3 31 [.arr .u64 4 [(1 : Int), (0 : Int), (0 : Int), (0 : Int)]]] [] (by kernel_rfl) trivial ?_
  refine q_k ?_
  refine tr_seq ?_
  refine tr_seq ?_
  refine tr_reg hT [] [.s 2, .s 3, .s 4, .s 5, .s 6, .h 0, .h 1, .h 2, .h 3] [sO 2 (.ptr 0 0), sO 3 (.ptr 1 0), sO 4 (.ptr 2 0), sO 5 (.ptr 3 0), sI 6 .i64 (255 : Int), hB 0 31 [.arr .u64 4 a_0], hB 1 31 [.arr .u64 4 e_1], hB 2 31 [.arr .u64 4 (List.replicate 4 0)], hB 3 31 [.arr .u64 4 [(1 : Int), (0 : Int), (0 : Int), (0 : Int)]]] [] (by kernel_rfl) trivial ?_
  refine q_k ?_
  refine tr_block ?_
  obtain ⟨m11, e12, h⟩ := bind_some h
  refine tr_less [.s 2, .s 3, .s 4, .s 5, .s 6, .h 0, .h 1, .h 2, .h 3] [sO 2 (.ptr 0 0), sO 3 (.ptr 1 0), sO 4 (.ptr 2 0), sO 5 (.ptr 3 0), sI 6 .i64 (255 : Int), hB 0 31 [.arr .u64 4 a_0], hB 1 31 [.arr .u64 4 e_1], hB 2 31 [.arr .u64 4 (List.replicate 4 0)], hB 3 31 [.arr .u64 4 [(1 : Int), (0 : Int), (0 : Int), (0 : Int)]]] (by kernel_rfl) ?_
  refine tr_loop_fuel (id := 0) (α := List Int × Int) (β := List Int) (fun z => [sO 2 (.ptr 0 0), sO 3 (.ptr 1 0), sO 4 (.ptr 2 0), sO 5 (.ptr 3 0), sI 6 .i64 z.2, hB 0 31 [.arr .u64 4 a_0], hB 1 31 [.arr .u64 4 e_1], hB 2 31 [.arr .u64 4 (List.replicate 4 0)], hB 3 31 [.arr .u64 4 z.1]]) (fun z => [sO 4 (.ptr 2 0), sO 5 (.ptr 3 0), hB 2 31 [.arr .u64 4 (List.replicate 4 0)], hB 3 31 [.arr .u64 4 z]]) (fun k z => ref04_Pow_l0 a_0 e_1 k z.1 z.2) m11 (fun _ => rfl) (((255 : Int) - (0 : Int) + 1).toNat + 1) ([(1 : Int), (0 : Int), (0 : Int), (0 : Int)], (255 : Int)) e12 ?_ ?_
  · skip
    replace h : (some m11) = _ := h
    refine q_b_this ?_
    refine q_k ?_
    refine tr_seq ?_
    refine tr_reg hT [] [.s 4, .h 2] [sO 4 (.ptr 2 0), hB 2 31 [.arr .u64 4 m11]] [] (by kernel_rfl) trivial ?_
    refine q_k ?_
    refine tr_ret ?_
    have h := Option.some.inj h
    subst h
    exact q_ret0 hT (.v (.agg [.arr .u64 4 m11])) rfl (by kernel_rfl)
  · clear h e12
    intro k ih0 hx0 z h
    obtain ⟨m1, i2⟩ := z
    replace h : (if (decide (i2 ≥ (0 : Int))) = true then (ref04_Mul m1 m1).bind (fun a4 => if 0 ≤ (IntKind.i64.wrap (i2.tdiv (64 : Int))) ∧ (IntKind.i64.wrap (i2.tdiv (64 : Int))) < ((4 : Nat) : Int) then if 0 ≤ (IntKind.u64.wrap (i2.tmod (64 : Int))) then if ((band .u64 (shr .u64 (e_1.getD (IntKind.i64.wrap (i2.tdiv (64 : Int))).toNat 0) (IntKind.u64.wrap (i2.tmod (64 : Int)))) (1 : Int)) == (1 : Int)) = true then (ref04_Mul a4 a_0).bind (fun a9 => ref04_Pow_l0 a_0 e_1 k a9 (IntKind.i64.wrap (i2 - (1 : Int)))) else ref04_Pow_l0 a_0 e_1 k a4 (IntKind.i64.wrap (i2 - (1 : Int))) else none else none) else some m1) = _ := h
    refine tr_seq ?_
    refine tr_seq ?_
    refine tr_reg hT [] [.s 2, .s 3, .s 4, .s 5, .s 6, .s 9, .h 0, .h 1, .h 2, .h 3] [sO 2 (.ptr 0 0), sO 3 (.ptr 1 0), sO 4 (.ptr 2 0), sO 5 (.ptr 3 0), sI 6 .i64 i2, sB 9 (decide (i2 ≥ (0 : Int))), hB 0 31 [.arr .u64 4 a_0], hB 1 31 [.arr .u64 4 e_1], hB 2 31 [.arr .u64 4 (List.replicate 4 0)], hB 3 31 [.arr .u64 4 m1]] [] (by kernel_rfl) trivial ?_
    refine q_k ?_
    rcases ite_split h with ⟨hc3, h⟩ | ⟨hc3, h⟩
    · refine tr_cond_t (decide (i2 ≥ (0 : Int))) (by kernel_rfl) hc3 ?_
      refine tr_skip ?_
      refine q_k ?_
      refine tr_seq ?_
      refine tr_block ?_
      refine tr_seq ?_
      obtain ⟨a4, e5, h⟩ := bind_some h
      refine tr_reg hT [(2, .call (.v (.agg [.arr .u64 4 a4])) [])] [.s 2, .s 3, .s 4, .s 5, .s 6, .h 0, .h 1, .h 2, .h 3] [sO 2 (.ptr 0 0), sO 3 (.ptr 1 0), sO 4 (.ptr 2 0), sO 5 (.ptr 3 0), sI 6 .i64 i2, hB 0 31 [.arr .u64 4 a_0], hB 1 31 [.arr .u64 4 e_1], hB 2 31 [.arr .u64 4 (List.replicate 4 0)], hB 3 31 [.arr .u64 4 a4]] [CallOk P 49 [.v (.agg [.arr .u64 4 m1]), .v (.agg [.arr .u64 4 m1])] [] (.v (.agg [.arr .u64 4 a4])) []] (by kernel_rfl) (hone (ref04_Mul_ok m1 m1 a4 e5)) ?_
      refine q_k ?_
      refine tr_seq ?_
      obtain ⟨hn6, h⟩ := ite_some h
      obtain ⟨hn7, h⟩ := ite_some h
      refine tr_reg hT [] [.s 2, .s 3, .s 4, .s 5, .s 6, .s 24, .h 0, .h 1, .h 2, .h 3] [sO 2 (.ptr 0 0), sO 3 (.ptr 1 0), sO 4 (.ptr 2 0), sO 5 (.ptr 3 0), sI 6 .i64 i2, sB 24 ((band .u64 (shr .u64 (e_1.getD (IntKind.i64.wrap (i2.tdiv (64 : Int))).toNat 0) (IntKind.u64.wrap (i2.tmod (64 : Int)))) (1 : Int)) == (1 : Int)), hB 0 31 [.arr .u64 4 a_0], hB 1 31 [.arr .u64 4 e_1], hB 2 31 [.arr .u64 4 (List.replicate 4 0)], hB 3 31 [.arr .u64 4 a4]] [(64 : Int) ≠ 0, 0 ≤ (IntKind.i64.wrap (i2.tdiv (64 : Int))) ∧ (IntKind.i64.wrap (i2.tdiv (64 : Int))) < ((4 : Nat) : Int), (64 : Int) ≠ 0, 0 ≤ (IntKind.u64.wrap (i2.tmod (64 : Int)))] (by kernel_rfl) (hcons (by decide) (hcons hn6 (hcons (by decide) (hone hn7)))) ?_
      refine q_k ?_
      rcases ite_split h with ⟨hc8, h⟩ | ⟨hc8, h⟩
      · refine tr_cond_t ((band .u64 (shr .u64 (e_1.getD (IntKind.i64.wrap (i2.tdiv (64 : Int))).toNat 0) (IntKind.u64.wrap (i2.tmod (64 : Int)))) (1 : Int)) == (1 : Int)) (by kernel_rfl) hc8 ?_
        obtain ⟨a9, e10, h⟩ := bind_some h
        refine tr_reg hT [(2, .call (.v (.agg [.arr .u64 4 a9])) [])] [.s 2, .s 3, .s 4, .s 5, .s 6, .h 0, .h 1, .h 2, .h 3] [sO 2 (.ptr 0 0), sO 3 (.ptr 1 0), sO 4 (.ptr 2 0), sO 5 (.ptr 3 0), sI 6 .i64 i2, hB 0 31 [.arr .u64 4 a_0], hB 1 31 [.arr .u64 4 e_1], hB 2 31 [.arr .u64 4 (List.replicate 4 0)], hB 3 31 [.arr .u64 4 a9]] [CallOk P 49 [.v (.agg [.arr .u64 4 a4]), .v (.agg [.arr .u64 4 a_0])] [] (.v (.agg [.arr .u64 4 a9])) []] (by kernel_rfl) (hone (ref04_Mul_ok a4 a_0 a9 e10)) ?_
        refine q_b 1 ?_
        refine q_k ?_
        refine tr_reg hT [] [.s 2, .s 3, .s 4, .s 5, .s 6, .h 0, .h 1, .h 2, .h 3] [sO 2 (.ptr 0 0), sO 3 (.ptr 1 0), sO 4 (.ptr 2 0), sO 5 (.ptr 3 0), sI 6 .i64 (IntKind.i64.wrap (i2 - (1 : Int))), hB 0 31 [.arr .u64 4 a_0], hB 1 31 [.arr .u64 4 e_1], hB 2 31 [.arr .u64 4 (List.replicate 4 0)], hB 3 31 [.arr .u64 4 a9]] [] (by kernel_rfl) trivial ?_
        refine q_kr ?_
        exact trR_less [.s 2, .s 3, .s 4, .s 5, .s 6, .h 0, .h 1, .h 2, .h 3] [sO 2 (.ptr 0 0), sO 3 (.ptr 1 0), sO 4 (.ptr 2 0), sO 5 (.ptr 3 0), sI 6 .i64 (IntKind.i64.wrap (i2 - (1 : Int))), hB 0 31 [.arr .u64 4 a_0], hB 1 31 [.arr .u64 4 e_1], hB 2 31 [.arr .u64 4 (List.replicate 4 0)], hB 3 31 [.arr .u64 4 a9]] (by kernel_rfl) (ih0 (a9, (IntKind.i64.wrap (i2 - (1 : Int)))) h)
      · refine tr_cond_f ((band .u64 (shr .u64 (e_1.getD (IntKind.i64.wrap (i2.tdiv (64 : Int))).toNat 0) (IntKind.u64.wrap (i2.tmod (64 : Int)))) (1 : Int)) == (1 : Int)) (by kernel_rfl) hc8 ?_
        refine tr_skip ?_
        refine q_b 1 ?_
        refine q_k ?_
        refine tr_reg hT [] [.s 2, .s 3, .s 4, .s 5, .s 6, .h 0, .h 1, .h 2, .h 3] [sO 2 (.ptr 0 0), sO 3 (.ptr 1 0), sO 4 (.ptr 2 0), sO 5 (.ptr 3 0), sI 6 .i64 (IntKind.i64.wrap (i2 - (1 : Int))), hB 0 31 [.arr .u64 4 a_0], hB 1 31 [.arr .u64 4 e_1], hB 2 31 [.arr .u64 4 (List.replicate 4 0)], hB 3 31 [.arr .u64 4 a4]] [] (by kernel_rfl) trivial ?_
        refine q_kr ?_
        exact trR_less [.s 2, .s 3, .s 4, .s 5, .s 6, .h 0, .h 1, .h 2, .h 3] [sO 2 (.ptr 0 0), sO 3 (.ptr 1 0), sO 4 (.ptr 2 0), sO 5 (.ptr 3 0), sI 6 .i64 (IntKind.i64.wrap (i2 - (1 : Int))), hB 0 31 [.arr .u64 4 a_0], hB 1 31 [.arr .u64 4 e_1], hB 2 31 [.arr .u64 4 (List.replicate 4 0)], hB 3 31 [.arr .u64 4 a4]] (by kernel_rfl) (ih0 (a4, (IntKind.i64.wrap (i2 - (1 : Int)))) h)
    · refine tr_cond_f (decide (i2 ≥ (0 : Int))) (by kernel_rfl) hc3 ?_
      refine tr_exit ?_
      refine q_k_exit ?_
      refine q_kr_exit ?_
      have h := Option.some.inj h
      subst h
      exact q_less [.s 4, .s 5, .h 2, .h 3] [sO 4 (.ptr 2 0), sO 5 (.ptr 3 0), hB 2 31 [.arr .u64 4 (List.replicate 4 0)], hB 3 31 [.arr .u64 4 m1]] (by kernel_rfl) hx0

theorem ref04_Inv_ok (a_0 : List Int) (r : List Int) (h : ref04_Inv a_0 = some r) {pre : List (Nat × Ent)} : CallOk P 51 [.v (.agg [.arr .u64 4 a_0])] pre (.v (.agg [.arr .u64 4 r])) [] := by
  refine call0 (N := 14) Try.func51 (by kernel_rfl) rfl rfl rfl pre ?_
  intro _ w
  show Tr P w.heap.size 14 w _ _ (RetQ P Try.f51 (R0 _ w))
  unfold ref04_Inv at h
  refine tr_seq ?_
  refine tr_reg hT [(0, .key 0), (1, .key 1)] [.s 1, .s 2, .h 0, .h 1] [sO 1 (.ptr 0 0), sO 2 (.ptr 1 0), hB 0 31 [.arr .u64 4 a_0], hB 1 31 [.arr .u64 4 (List.replicate 4 0)]] [] (by kernel_rfl) trivial ?_
  refine q_k ?_
  refine tr_seq ?_
  obtain ⟨a1, e2, h⟩ := bind_some h
  obtain ⟨⟨a3, r4⟩, e5, h⟩ := bind_some h
  refine tr_reg hT [(0, .call (.v (.agg [.arr .u64 4 a1])) []), (2, .call (.tup [.agg [.arr .u64 4 a3], .one (.int .u64 r4)]) []), (6, .key 2)] [.s 1, .s 2, .s 3, .h 0, .h 1, .h 2] [sO 1 (.ptr 0 0), sO 2 (.ptr 1 0), sO 3 (.ptr 2 0), hB 0 31 [.arr .u64 4 a_0], hB 1 31 [.arr .u64 4 (List.replicate 4 0)], hB 2 31 [.arr .u64 4 a3]] [CallOk P 43 [] [] (.v (.agg [.arr .u64 4 a1])) [], CallOk P 81 [.v (.agg [.arr .u64 4 a1]), .v (.agg [.arr .u64 4 [(2 : Int), (0 : Int), (0 : Int), (0 : Int)]])] [] (.tup [.agg [.arr .u64 4 a3], .one (.int .u64 r4)]) []] (by kernel_rfl) (hcons (ref04_P_ok  a1 e2) (hone (ref04_sub_ok a1 [(2 : Int), (0 : Int), (0 : Int), (0 : Int)] (a3, r4) e5))) ?_
  refine q_k ?_
  refine tr_seq ?_
  obtain ⟨a7, e8, h⟩ := bind_some h
  refine tr_reg hT [(2, .call (.v (.agg [.arr .u64 4 a7])) [])] [.s 2, .h 1] [sO 2 (.ptr 1 0), hB 1 31 [.arr .u64 4 a7]] [CallOk P 84 [.v (.agg [.arr .u64 4 a_0]), .v (.agg [.arr .u64 4 a3])] [] (.v (.agg [.arr .u64 4 a7])) []] (by kernel_rfl) (hone (ref04_Pow_ok a_0 a3 a7 e8)) ?_
  refine q_k ?_
  refine tr_ret ?_
  have h := Option.some.inj h
  subst h
  exact q_ret0 hT (.v (.agg [.arr .u64 4 a7])) rfl (by kernel_rfl)

theorem law04_FieldInverse_ok (a_0 : List Int) (r : Bool) (h : law04_FieldInverse a_0 = some r) {pre : List (Nat × Ent)} : CallOk P 15 [.v (.agg [.arr .u8 32 a_0])] pre (.v (.one (.bool r))) [] := by
  refine call0 (N := 38) Try.func15 (by kernel_rfl) rfl rfl rfl pre ?_
  intro _ w
  show Tr P w.heap.size 38 w _ _ (RetQ P Try.f15 (R0 _ w))
  unfold law04_FieldInverse at h
  refine tr_seq ?_
  refine tr_reg hT [(0, .key 0)] [.s 1, .h 0] [sO 1 (.ptr 0 0), hB 0 22 [.arr .u8 32 a_0]] [] (by kernel_rfl) trivial ?_
  refine q_k ?_
  refine tr_seq ?_
  obtain ⟨a1, e2, h⟩ := bind_some h
  refine tr_reg hT [(1, .call (.v (.agg [.arr .u8 32 a1])) []), (2, .key 1)] [.s 1, .s 3, .h 0, .h 1] [sO 1 (.ptr 0 0), sO 3 (.ptr 1 0), hB 0 22 [.arr .u8 32 a_0], hB 1 22 [.arr .u8 32 a1]] [CallOk P 50 [.v (.agg [.arr .u8 32 a_0])] [] (.v (.agg [.arr .u8 32 a1])) []] (by kernel_rfl) (hone (field_Inv_ok a_0 a1 e2)) ?_
  refine q_k ?_
  refine tr_seq ?_
  refine tr_seq ?_
  obtain ⟨a3, e4, h⟩ := bind_some h
  obtain ⟨a5, e6, h⟩ := bind_some h
  obtain ⟨a7, e8, h⟩ := bind_some h
  obtain ⟨a9, e10, h⟩ := bind_some h
  rcases ite_split h with ⟨hb11, h⟩ | ⟨hb12, h⟩
  · refine tr_regd hT hM [(2, .call (.v (.agg [.arr .u64 4 a3])) []), (3, .call (.v (.agg [.arr .u64 4 a5])) []), (4, .call (.v (.agg [.arr .u64 4 a7])) []), (5, .call (.v (.agg [.arr .u8 32 a9])) []), (7, .dec true)] [.s 1, .s 3, .s 19, .h 0, .h 1] [sO 1 (.ptr 0 0), sO 3 (.ptr 1 0), sB 19 true, hB 0 22 [.arr .u8 32 a_0], hB 1 22 [.arr .u8 32 a1]] [CallOk P 44 [.v (.agg [.arr .u8 32 a_0])] [] (.v (.agg [.arr .u64 4 a3])) [], CallOk P 46 [.v (.agg [.arr .u64 4 a3])] [] (.v (.agg [.arr .u64 4 a5])) [], CallOk P 51 [.v (.agg [.arr .u64 4 a5])] [] (.v (.agg [.arr .u64 4 a7])) [], CallOk P 29 [.v (.agg [.arr .u64 4 a7])] [] (.v (.agg [.arr .u8 32 a9])) [], (!(decide (a1 = a9))) = true] (by kernel_rfl) (hcons (ref04_Of_ok a_0 a3 e4) (hcons (ref04_Mod_ok a3 a5 e6) (hcons (ref04_Inv_ok a5 a7 e8) (hcons (ref04_Bytes_ok a7 a9 e10) (hone hb11))))) ?_
    refine q_k ?_
    refine tr_cond_t true (by kernel_rfl) rfl ?_
    refine tr_seq ?_
    refine tr_reg hT [] [.s 2] [sB 2 false] [] (by kernel_rfl) trivial ?_
    refine q_k ?_
    refine tr_ret ?_
    refine q_k_ret ?_
    have h := Option.some.inj h
    subst h
    exact q_ret0 hT (.v (.one (.bool false))) rfl (by kernel_rfl)
  · obtain ⟨a13, e14, h⟩ := bind_some h
    obtain ⟨a15, e16, h⟩ := bind_some h
    refine tr_regd hT hM [(2, .call (.v (.agg [.arr .u64 4 a3])) []), (3, .call (.v (.agg [.arr .u64 4 a5])) []), (4, .call (.v (.agg [.arr .u64 4 a7])) []), (5, .call (.v (.agg [.arr .u8 32 a9])) []), (7, .dec false), (9, .call (.v (.agg [.arr .u8 32 a13])) []), (11, .call (.v (.agg [.arr .u8 32 a15])) [])] [.s 1, .s 3, .s 19, .h 0, .h 1] [sO 1 (.ptr 0 0), sO 3 (.ptr 1 0), sB 19 (!(decide (a13 = a15))), hB 0 22 [.arr .u8 32 a_0], hB 1 22 [.arr .u8 32 a1]] [CallOk P 44 [.v (.agg [.arr .u8 32 a_0])] [] (.v (.agg [.arr .u64 4 a3])) [], CallOk P 46 [.v (.agg [.arr .u64 4 a3])] [] (.v (.agg [.arr .u64 4 a5])) [], CallOk P 51 [.v (.agg [.arr .u64 4 a5])] [] (.v (.agg [.arr .u64 4 a7])) [], CallOk P 29 [.v (.agg [.arr .u64 4 a7])] [] (.v (.agg [.arr .u8 32 a9])) [], (!(decide (a1 = a9))) = false, CallOk P 50 [.v (.agg [.arr .u8 32 a1])] [] (.v (.agg [.arr .u8 32 a13])) [], CallOk P 33 [.v (.agg [.arr .u8 32 a_0])] [] (.v (.agg [.arr .u8 32 a15])) []] (by kernel_rfl) (hcons (ref04_Of_ok a_0 a3 e4) (hcons (ref04_Mod_ok a3 a5 e6) (hcons (ref04_Inv_ok a5 a7 e8) (hcons (ref04_Bytes_ok a7 a9 e10) (hcons hb12 (hcons (field_Inv_ok a1 a13 e14) (hone (field_Mod_ok a_0 a15 e16)))))))) ?_
    refine q_k ?_
    rcases ite_split h with ⟨hc17, h⟩ | ⟨hc17, h⟩
    · refine tr_cond_t (!(decide (a13 = a15))) (by kernel_rfl) hc17 ?_
      refine tr_seq ?_
      refine tr_reg hT [] [.s 2] [sB 2 false] [] (by kernel_rfl) trivial ?_
      refine q_k ?_
      refine tr_ret ?_
      refine q_k_ret ?_
      have h := Option.some.inj h
      subst h
      exact q_ret0 hT (.v (.one (.bool false))) rfl (by kernel_rfl)
    · refine tr_cond_f (!(decide (a13 = a15))) (by kernel_rfl) hc17 ?_
      refine tr_skip ?_
      refine q_k ?_
      refine tr_seq ?_
      refine tr_seq ?_
      obtain ⟨a18, e19, h⟩ := bind_some h
      obtain ⟨a20, e21, h⟩ := bind_some h
      refine tr_reg hT [(1, .call (.v (.agg [.arr .u8 32 a18])) []), (2, .call (.v (.agg [.arr .u8 32 a20])) [])] [.s 1, .s 3, .s 23, .h 0, .h 1] [sO 1 (.ptr 0 0), sO 3 (.ptr 1 0), sB 23 (decide (a18 = a20)), hB 0 22 [.arr .u8 32 a_0], hB 1 22 [.arr .u8 32 a1]] [CallOk P 33 [.v (.agg [.arr .u8 32 a_0])] [] (.v (.agg [.arr .u8 32 a18])) [], CallOk P 26 [.v (.one (.int .i64 (0 : Int)))] [] (.v (.agg [.arr .u8 32 a20])) []] (by kernel_rfl) (hcons (field_Mod_ok a_0 a18 e19) (hone (law04_Num_ok (0 : Int) a20 e21))) ?_
      refine q_k ?_
      rcases ite_split h with ⟨hc22, h⟩ | ⟨hc22, h⟩
      · refine tr_cond_t (decide (a18 = a20)) (by kernel_rfl) hc22 ?_
        refine tr_seq ?_
        obtain ⟨a23, e24, h⟩ := bind_some h
        rcases ite_split h with ⟨hb25, h⟩ | ⟨hb28, h⟩
        · obtain ⟨b26, e27, h⟩ := bind_some h
          refine tr_regd hT hM [(1, .call (.v (.agg [.arr .u8 32 a23])) []), (3, .dec true), (4, .call (.v (.one (.bool b26))) [])] [.s 2] [sB 2 b26] [CallOk P 26 [.v (.one (.int .i64 (0 : Int)))] [] (.v (.agg [.arr .u8 32 a23])) [], (decide (a1 = a23)) = true, CallOk P 35 [] [] (.v (.one (.bool b26))) []] (by kernel_rfl) (hcons (law04_Num_ok (0 : Int) a23 e24) (hcons hb25 (hone (law04_wakes_ok  b26 e27)))) ?_
          refine q_k ?_
          refine tr_ret ?_
          refine q_k_ret ?_
          have h := Option.some.inj h
          subst h
          exact q_ret0 hT (.v (.one (.bool b26))) rfl (by kernel_rfl)
        · refine tr_regd hT hM [(1, .call (.v (.agg [.arr .u8 32 a23])) []), (3, .dec false)] [.s 2] [sB 2 false] [CallOk P 26 [.v (.one (.int .i64 (0 : Int)))] [] (.v (.agg [.arr .u8 32 a23])) [], (decide (a1 = a23)) = false] (by kernel_rfl) (hcons (law04_Num_ok (0 : Int) a23 e24) (hone hb28)) ?_
          refine q_k ?_
          refine tr_ret ?_
          refine q_k_ret ?_
          have h := Option.some.inj h
          subst h
          exact q_ret0 hT (.v (.one (.bool false))) rfl (by kernel_rfl)
      · refine tr_cond_f (decide (a18 = a20)) (by kernel_rfl) hc22 ?_
        refine tr_skip ?_
        refine q_k ?_
        refine tr_seq ?_
        obtain ⟨a29, e30, h⟩ := bind_some h
        obtain ⟨a31, e32, h⟩ := bind_some h
        rcases ite_split h with ⟨hb33, h⟩ | ⟨hb36, h⟩
        · obtain ⟨b34, e35, h⟩ := bind_some h
          refine tr_reg hT [(2, .call (.v (.agg [.arr .u8 32 a29])) []), (3, .call (.v (.agg [.arr .u8 32 a31])) []), (5, .dec true), (6, .call (.v (.one (.bool b34))) [])] [.s 2] [sB 2 b34] [CallOk P 34 [.v (.agg [.arr .u8 32 a_0]), .v (.agg [.arr .u8 32 a1])] [] (.v (.agg [.arr .u8 32 a29])) [], CallOk P 26 [.v (.one (.int .i64 (1 : Int)))] [] (.v (.agg [.arr .u8 32 a31])) [], (decide (a29 = a31)) = true, CallOk P 35 [] [] (.v (.one (.bool b34))) []] (by kernel_rfl) (hcons (field_Mul_ok a_0 a1 a29 e30) (hcons (law04_Num_ok (1 : Int) a31 e32) (hcons hb33 (hone (law04_wakes_ok  b34 e35))))) ?_
          refine q_k ?_
          refine tr_ret ?_
          have h := Option.some.inj h
          subst h
          exact q_ret0 hT (.v (.one (.bool b34))) rfl (by kernel_rfl)
        · refine tr_reg hT [(2, .call (.v (.agg [.arr .u8 32 a29])) []), (3, .call (.v (.agg [.arr .u8 32 a31])) []), (5, .dec false)] [.s 2] [sB 2 false] [CallOk P 34 [.v (.agg [.arr .u8 32 a_0]), .v (.agg [.arr .u8 32 a1])] [] (.v (.agg [.arr .u8 32 a29])) [], CallOk P 26 [.v (.one (.int .i64 (1 : Int)))] [] (.v (.agg [.arr .u8 32 a31])) [], (decide (a29 = a31)) = false] (by kernel_rfl) (hcons (field_Mul_ok a_0 a1 a29 e30) (hcons (law04_Num_ok (1 : Int) a31 e32) (hone hb36))) ?_
          refine q_k ?_
          refine tr_ret ?_
          have h := Option.some.inj h
          subst h
          exact q_ret0 hT (.v (.one (.bool false))) rfl (by kernel_rfl)

theorem law04_FieldSquares_ok (a_0 : List Int) (b_1 : List Int) (r : Bool) (h : law04_FieldSquares a_0 b_1 = some r) {pre : List (Nat × Ent)} : CallOk P 16 [.v (.agg [.arr .u8 32 a_0]), .v (.agg [.arr .u8 32 b_1])] pre (.v (.one (.bool r))) [] := by
  refine call0 (N := 63) Try.func16 (by kernel_rfl) rfl rfl rfl pre ?_
  intro _ w
  show Tr P w.heap.size 63 w _ _ (RetQ P Try.f16 (R0 _ w))
  unfold law04_FieldSquares at h
  refine tr_seq ?_
  refine tr_reg hT [(0, .key 0), (1, .key 1)] [.s 2, .s 3, .h 0, .h 1] [sO 2 (.ptr 0 0), sO 3 (.ptr 1 0), hB 0 22 [.arr .u8 32 a_0], hB 1 22 [.arr .u8 32 b_1]] [] (by kernel_rfl) trivial ?_
  refine q_k ?_
  refine tr_seq ?_
  obtain ⟨a1, e2, h⟩ := bind_some h
  obtain ⟨a3, e4, h⟩ := bind_some h
  refine tr_regd hT hM [(0, .call (.v (.agg [.arr .u8 32 a1])) []), (2, .call (.v (.agg [.arr .u8 32 a3])) []), (3, .key 2)] [.s 2, .s 3, .s 5, .h 0, .h 1, .h 2] [sO 2 (.ptr 0 0), sO 3 (.ptr 1 0), sO 5 (.ptr 2 0), hB 0 22 [.arr .u8 32 a_0], hB 1 22 [.arr .u8 32 b_1], hB 2 22 [.arr .u8 32 a3]] [CallOk P 26 [.v (.one (.int .i64 (0 : Int)))] [] (.v (.agg [.arr .u8 32 a1])) [], CallOk P 41 [.v (.agg [.arr .u8 32 a1]), .v (.agg [.arr .u8 32 a_0])] [] (.v (.agg [.arr .u8 32 a3])) []] (by kernel_rfl) (hcons (law04_Num_ok (0 : Int) a1 e2) (hone (field_Sub_ok a1 a_0 a3 e4))) ?_
  refine q_k ?_
  refine tr_seq ?_
  obtain ⟨a5, e6, h⟩ := bind_some h
  obtain ⟨a7, e8, h⟩ := bind_some h
  obtain ⟨a9, e10, h⟩ := bind_some h
  obtain ⟨a11, e12, h⟩ := bind_some h
  obtain ⟨a13, e14, h⟩ := bind_some h
  obtain ⟨a15, e16, h⟩ := bind_some h
  rcases ite_split h with ⟨hb17, h⟩ | ⟨hb52, h⟩
  · obtain ⟨a18, e19, h⟩ := bind_some h
    obtain ⟨a20, e21, h⟩ := bind_some h
    rcases ite_split h with ⟨hb22, h⟩ | ⟨hb51, h⟩
    · obtain ⟨a23, e24, h⟩ := bind_some h
      obtain ⟨a25, e26, h⟩ := bind_some h
      rcases ite_split h with ⟨hb27, h⟩ | ⟨hb50, h⟩
      · obtain ⟨a28, e29, h⟩ := bind_some h
        obtain ⟨a30, e31, h⟩ := bind_some h
        obtain ⟨a32, e33, h⟩ := bind_some h
        rcases ite_split h with ⟨hb34, h⟩ | ⟨hb49, h⟩
        · obtain ⟨a35, e36, h⟩ := bind_some h
          obtain ⟨a37, e38, h⟩ := bind_some h
          obtain ⟨a39, e40, h⟩ := bind_some h
          obtain ⟨a41, e42, h⟩ := bind_some h
          obtain ⟨a43, e44, h⟩ := bind_some h
          rcases ite_split h with ⟨hb45, h⟩ | ⟨hb48, h⟩
          · obtain ⟨b46, e47, h⟩ := bind_some h
            refine tr_regd hT hM [(2, .call (.v (.agg [.arr .u8 32 a5])) []), (5, .call (.v (.agg [.arr .u8 32 a7])) []), (6, .call (.v (.agg [.arr .u8 32 a9])) []), (9, .call (.v (.agg [.arr .u8 32 a11])) []), (12, .call (.v (.agg [.arr .u8 32 a13])) []), (13, .call (.v (.agg [.arr .u8 32 a15])) []), (15, .dec true), (18, .call (.v (.agg [.arr .u8 32 a18])) []), (21, .call (.v (.agg [.arr .u8 32 a20])) []), (24, .dec true), (27, .call (.v (.agg [.arr .u8 32 a23])) []), (28, .call (.v (.agg [.arr .u8 32 a25])) []), (31, .dec true), (32, .call (.v (.agg [.arr .u8 32 a28])) []), (34, .call (.v (.agg [.arr .u8 32 a30])) []), (36, .call (.v (.agg [.arr .u8 32 a32])) []), (39, .dec true), (42, .call (.v (.agg [.arr .u8 32 a35])) []), (43, .call (.v (.agg [.arr .u8 32 a37])) []), (45, .call (.v (.agg [.arr .u8 32 a39])) []), (47, .call (.v (.agg [.arr .u8 32 a41])) []), (48, .call (.v (.agg [.arr .u8 32 a43])) []), (51, .dec true), (52, .call (.v (.one (.bool b46))) [])] [.s 4] [sB 4 b46] [CallOk P 34 [.v (.agg [.arr .u8 32 a_0]), .v (.agg [.arr .u8 32 a_0])] [] (.v (.agg [.arr .u8 32 a5])) [], CallOk P 34 [.v (.agg [.arr .u8 32 b_1]), .v (.agg [.arr .u8 32 b_1])] [] (.v (.agg [.arr .u8 32 a7])) [], CallOk P 41 [.v (.agg [.arr .u8 32 a5]), .v (.agg [.arr .u8 32 a7])] [] (.v (.agg [.arr .u8 32 a9])) [], CallOk P 41 [.v (.agg [.arr .u8 32 a_0]), .v (.agg [.arr .u8 32 b_1])] [] (.v (.agg [.arr .u8 32 a11])) [], CallOk P 40 [.v (.agg [.arr .u8 32 a_0]), .v (.agg [.arr .u8 32 b_1])] [] (.v (.agg [.arr .u8 32 a13])) [], CallOk P 34 [.v (.agg [.arr .u8 32 a11]), .v (.agg [.arr .u8 32 a13])] [] (.v (.agg [.arr .u8 32 a15])) [], (decide (a9 = a15)) = true, CallOk P 34 [.v (.agg [.arr .u8 32 a3]), .v (.agg [.arr .u8 32 a3])] [] (.v (.agg [.arr .u8 32 a18])) [], CallOk P 34 [.v (.agg [.arr .u8 32 a_0]), .v (.agg [.arr .u8 32 a_0])] [] (.v (.agg [.arr .u8 32 a20])) [], (decide (a18 = a20)) = true, CallOk P 40 [.v (.agg [.arr .u8 32 a_0]), .v (.agg [.arr .u8 32 a3])] [] (.v (.agg [.arr .u8 32 a23])) [], CallOk P 26 [.v (.one (.int .i64 (0 : Int)))] [] (.v (.agg [.arr .u8 32 a25])) [], (decide (a23 = a25)) = true, CallOk P 26 [.v (.one (.int .i64 (0 : Int)))] [] (.v (.agg [.arr .u8 32 a28])) [], CallOk P 41 [.v (.agg [.arr .u8 32 a28]), .v (.agg [.arr .u8 32 a3])] [] (.v (.agg [.arr .u8 32 a30])) [], CallOk P 33 [.v (.agg [.arr .u8 32 a_0])] [] (.v (.agg [.arr .u8 32 a32])) [], (decide (a30 = a32)) = true, CallOk P 34 [.v (.agg [.arr .u8 32 a_0]), .v (.agg [.arr .u8 32 b_1])] [] (.v (.agg [.arr .u8 32 a35])) [], CallOk P 50 [.v (.agg [.arr .u8 32 a35])] [] (.v (.agg [.arr .u8 32 a37])) [], CallOk P 50 [.v (.agg [.arr .u8 32 a_0])] [] (.v (.agg [.arr .u8 32 a39])) [], CallOk P 50 [.v (.agg [.arr .u8 32 b_1])] [] (.v (.agg [.arr .u8 32 a41])) [], CallOk P 34 [.v (.agg [.arr .u8 32 a39]), .v (.agg [.arr .u8 32 a41])] [] (.v (.agg [.arr .u8 32 a43])) [], (decide (a37 = a43)) = true, CallOk P 35 [] [] (.v (.one (.bool b46))) []] (by kernel_rfl) (hcons (field_Mul_ok a_0 a_0 a5 e6) (hcons (field_Mul_ok b_1 b_1 a7 e8) (hcons (field_Sub_ok a5 a7 a9 e10) (hcons (field_Sub_ok a_0 b_1 a11 e12) (hcons (field_Add_ok a_0 b_1 a13 e14) (hcons (field_Mul_ok a11 a13 a15 e16) (hcons hb17 (hcons (field_Mul_ok a3 a3 a18 e19) (hcons (field_Mul_ok a_0 a_0 a20 e21) (hcons hb22 (hcons (field_Add_ok a_0 a3 a23 e24) (hcons (law04_Num_ok (0 : Int) a25 e26) (hcons hb27 (hcons (law04_Num_ok (0 : Int) a28 e29) (hcons (field_Sub_ok a28 a3 a30 e31) (hcons (field_Mod_ok a_0 a32 e33) (hcons hb34 (hcons (field_Mul_ok a_0 b_1 a35 e36) (hcons (field_Inv_ok a35 a37 e38) (hcons (field_Inv_ok a_0 a39 e40) (hcons (field_Inv_ok b_1 a41 e42) (hcons (field_Mul_ok a39 a41 a43 e44) (hcons hb45 (hone (law04_wakes_ok  b46 e47))))))))))))))))))))))))) ?_
            refine q_k ?_
            refine tr_ret ?_
            have h := Option.some.inj h
            subst h
            exact q_ret0 hT (.v (.one (.bool b46))) rfl (by kernel_rfl)
          · refine tr_regd hT hM [(2, .call (.v (.agg [.arr .u8 32 a5])) []), (5, .call (.v (.agg [.arr .u8 32 a7])) []), (6, .call (.v (.agg [.arr .u8 32 a9])) []), (9, .call (.v (.agg [.arr .u8 32 a11])) []), (12, .call (.v (.agg [.arr .u8 32 a13])) []), (13, .call (.v (.agg [.arr .u8 32 a15])) []), (15, .dec true), (18, .call (.v (.agg [.arr .u8 32 a18])) []), (21, .call (.v (.agg [.arr .u8 32 a20])) []), (24, .dec true), (27, .call (.v (.agg [.arr .u8 32 a23])) []), (28, .call (.v (.agg [.arr .u8 32 a25])) []), (31, .dec true), (32, .call (.v (.agg [.arr .u8 32 a28])) []), (34, .call (.v (.agg [.arr .u8 32 a30])) []), (36, .call (.v (.agg [.arr .u8 32 a32])) []), (39, .dec true), (42, .call (.v (.agg [.arr .u8 32 a35])) []), (43, .call (.v (.agg [.arr .u8 32 a37])) []), (45, .call (.v (.agg [.arr .u8 32 a39])) []), (47, .call (.v (.agg [.arr .u8 32 a41])) []), (48, .call (.v (.agg [.arr .u8 32 a43])) []), (51, .dec false)] [.s 4] [sB 4 false] [CallOk P 34 [.v (.agg [.arr .u8 32 a_0]), .v (.agg [.arr .u8 32 a_0])] [] (.v (.agg [.arr .u8 32 a5])) [], CallOk P 34 [.v (.agg [.arr .u8 32 b_1]), .v (.agg [.arr .u8 32 b_1])] [] (.v (.agg [.arr .u8 32 a7])) [], CallOk P 41 [.v (.agg [.arr .u8 32 a5]), .v (.agg [.arr .u8 32 a7])] [] (.v (.agg [.arr .u8 32 a9])) [], CallOk P 41 [.v (.agg [.arr .u8 32 a_0]), .v (.agg [.arr .u8 32 b_1])] [] (.v (.agg [.arr .u8 32 a11])) [], CallOk P 40 [.v (.agg [.arr .u8 32 a_0]), .v (.agg [.arr .u8 32 b_1])] [] (.v (.agg [.arr .u8 32 a13])) [], CallOk P 34 [.v (.agg [.arr .u8 32 a11]), .v (.agg [.arr .u8 32 a13])] [] (.v (.agg [.arr .u8 32 a15])) [], (decide (a9 = a15)) = true, CallOk P 34 [.v (.agg [.arr .u8 32 a3]), .v (.agg [.arr .u8 32 a3])] [] (.v (.agg [.arr .u8 32 a18])) [], CallOk P 34 [.v (.agg [.arr .u8 32 a_0]), .v (.agg [.arr .u8 32 a_0])] [] (.v (.agg [.arr .u8 32 a20])) [], (decide (a18 = a20)) = true, CallOk P 40 [.v (.agg [.arr .u8 32 a_0]), .v (.agg [.arr .u8 32 a3])] [] (.v (.agg [.arr .u8 32 a23])) [], CallOk P 26 [.v (.one (.int .i64 (0 : Int)))] [] (.v (.agg [.arr .u8 32 a25])) [], (decide (a23 = a25)) = true, CallOk P 26 [.v (.one (.int .i64 (0 : Int)))] [] (.v (.agg [.arr .u8 32 a28])) [], CallOk P 41 [.v (.agg [.arr .u8 32 a28]), .v (.agg [.arr .u8 32 a3])] [] (.v (.agg [.arr .u8 32 a30])) [], CallOk P 33 [.v (.agg [.arr .u8 32 a_0])] [] (.v (.agg [.arr .u8 32 a32])) [], (decide (a30 = a32)) = true, CallOk P 34 [.v (.agg [.arr .u8 32 a_0]), .v (.agg [.arr .u8 32 b_1])] [] (.v (.agg [.arr .u8 32 a35])) [], CallOk P 50 [.v (.agg [.arr .u8 32 a35])] [] (.v (.agg [.arr .u8 32 a37])) [], CallOk P 50 [.v (.agg [.arr .u8 32 a_0])] [] (.v (.agg [.arr .u8 32 a39])) [], CallOk P 50 [.v (.agg [.arr .u8 32 b_1])] [] (.v (.agg [.arr .u8 32 a41])) [], CallOk P 34 [.v (.agg [.arr .u8 32 a39]), .v (.agg [.arr .u8 32 a41])] [] (.v (.agg [.arr .u8 32 a43])) [], (decide (a37 = a43)) = false] (by kernel_rfl) (hcons (field_Mul_ok a_0 a_0 a5 e6) (hcons (field_Mul_ok b_1 b_1 a7 e8) (hcons (field_Sub_ok a5 a7 a9 e10) (hcons (field_Sub_ok a_0 b_1 a11 e12) (hcons (field_Add_ok a_0 b_1 a13 e14) (hcons (field_Mul_ok a11 a13 a15 e16) (hcons hb17 (hcons (field_Mul_ok a3 a3 a18 e19) (hcons (field_Mul_ok a_0 a_0 a20 e21) (hcons hb22 (hcons (field_Add_ok a_0 a3 a23 e24) (hcons (law04_Num_ok (0 : Int) a25 e26) (hcons hb27 (hcons (law04_Num_ok (0 : Int) a28 e29) (hcons (field_Sub_ok a28 a3 a30 e31) (hcons (field_Mod_ok a_0 a32 e33) (hcons hb34 (hcons (field_Mul_ok a_0 b_1 a35 e36) (hcons (field_Inv_ok a35 a37 e38) (hcons (field_Inv_ok a_0 a39 e40) (hcons (field_Inv_ok b_1 a41 e42) (hcons (field_Mul_ok a39 a41 a43 e44) (hone hb48))))))))))))))))))))))) ?_
            refine q_k ?_
            refine tr_ret ?_
            have h := Option.some.inj h
            subst h
            exact q_ret0 hT (.v (.one (.bool false))) rfl (by kernel_rfl)
        · refine tr_regd hT hM [(2, .call (.v (.agg [.arr .u8 32 a5])) []), (5, .call (.v (.agg [.arr .u8 32 a7])) []), (6, .call (.v (.agg [.arr .u8 32 a9])) []), (9, .call (.v (.agg [.arr .u8 32 a11])) []), (12, .call (.v (.agg [.arr .u8 32 a13])) []), (13, .call (.v (.agg [.arr .u8 32 a15])) []), (15, .dec true), (18, .call (.v (.agg [.arr .u8 32 a18])) []), (21, .call (.v (.agg [.arr .u8 32 a20])) []), (24, .dec true), (27, .call (.v (.agg [.arr .u8 32 a23])) []), (28, .call (.v (.agg [.arr .u8 32 a25])) []), (31, .dec true), (32, .call (.v (.agg [.arr .u8 32 a28])) []), (34, .call (.v (.agg [.arr .u8 32 a30])) []), (36, .call (.v (.agg [.arr .u8 32 a32])) []), (39, .dec false)] [.s 4] [sB 4 false] [CallOk P 34 [.v (.agg [.arr .u8 32 a_0]), .v (.agg [.arr .u8 32 a_0])] [] (.v (.agg [.arr .u8 32 a5])) [], CallOk P 34 [.v (.agg [.arr .u8 32 b_1]), .v (.agg [.arr .u8 32 b_1])] [] (.v (.agg [.arr .u8 32 a7])) [], CallOk P 41 [.v (.agg [.arr .u8 32 a5]), .v (.agg [.arr .u8 32 a7])] [] (.v (.agg [.arr .u8 32 a9])) [], CallOk P 41 [.v (.agg [.arr .u8 32 a_0]), .v (.agg [.arr .u8 32 b_1])] [] (.v (.agg [.arr .u8 32 a11])) [], CallOk P 40 [.v (.agg [.arr .u8 32 a_0]), .v (.agg [.arr .u8 32 b_1])] [] (.v (.agg [.arr .u8 32 a13])) [], CallOk P 34 [.v (.agg [.arr .u8 32 a11]), .v (.agg [.arr .u8 32 a13])] [] (.v (.agg [.arr .u8 32 a15])) [], (decide (a9 = a15)) = true, CallOk P 34 [.v (.agg [.arr .u8 32 a3]), .v (.agg [.arr .u8 32 a3])] [] (.v (.agg [.arr .u8 32 a18])) [], CallOk P 34 [.v (.agg [.arr .u8 32 a_0]), .v (.agg [.arr .u8 32 a_0])] [] (.v (.agg [.arr .u8 32 a20])) [], (decide (a18 = a20)) = true, CallOk P 40 [.v (.agg [.arr .u8 32 a_0]), .v (.agg [.arr .u8 32 a3])] [] (.v (.agg [.arr .u8 32 a23])) [], CallOk P 26 [.v (.one (.int .i64 (0 : Int)))] [] (.v (.agg [.arr .u8 32 a25])) [], (decide (a23 = a25)) = true, CallOk P 26 [.v (.one (.int .i64 (0 : Int)))] [] (.v (.agg [.arr .u8 32 a28])) [], CallOk P 41 [.v (.agg [.arr .u8 32 a28]), .v (.agg [.arr .u8 32 a3])] [] (.v (.agg [.arr .u8 32 a30])) [], CallOk P 33 [.v (.agg [.arr .u8 32 a_0])] [] (.v (.agg [.arr .u8 32 a32])) [], (decide (a30 = a32)) = false] (by kernel_rfl) (hcons (field_Mul_ok a_0 a_0 a5 e6) (hcons (field_Mul_ok b_1 b_1 a7 e8) (hcons (field_Sub_ok a5 a7 a9 e10) (hcons (field_Sub_ok a_0 b_1 a11 e12) (hcons (field_Add_ok a_0 b_1 a13 e14) (hcons (field_Mul_ok a11 a13 a15 e16) (hcons hb17 (hcons (field_Mul_ok a3 a3 a18 e19) (hcons (field_Mul_ok a_0 a_0 a20 e21) (hcons hb22 (hcons (field_Add_ok a_0 a3 a23 e24) (hcons (law04_Num_ok (0 : Int) a25 e26) (hcons hb27 (hcons (law04_Num_ok (0 : Int) a28 e29) (hcons (field_Sub_ok a28 a3 a30 e31) (hcons (field_Mod_ok a_0 a32 e33) (hone hb49))))))))))))))))) ?_
          refine q_k ?_
          refine tr_ret ?_
          have h := Option.some.inj h
          subst h
          exact q_ret0 hT (.v (.one (.bool false))) rfl (by kernel_rfl)
      · refine tr_regd hT hM [(2, .call (.v (.agg [.arr .u8 32 a5])) []), (5, .call (.v (.agg [.arr .u8 32 a7])) []), (6, .call (.v (.agg [.arr .u8 32 a9])) []), (9, .call (.v (.agg [.arr .u8 32 a11])) []), (12, .call (.v (.agg [.arr .u8 32 a13])) []), (13, .call (.v (.agg [.arr .u8 32 a15])) []), (15, .dec true), (18, .call (.v (.agg [.arr .u8 32 a18])) []), (21, .call (.v (.agg [.arr .u8 32 a20])) []), (24, .dec true), (27, .call (.v (.agg [.arr .u8 32 a23])) []), (28, .call (.v (.agg [.arr .u8 32 a25])) []), (31, .dec false)] [.s 4] [sB 4 false] [CallOk P 34 [.v (.agg [.arr .u8 32 a_0]), .v (.agg [.arr .u8 32 a_0])] [] (.v (.agg [.arr .u8 32 a5])) [], CallOk P 34 [.v (.agg [.arr .u8 32 b_1]), .v (.agg [.arr .u8 32 b_1])] [] (.v (.agg [.arr .u8 32 a7])) [], CallOk P 41 [.v (.agg [.arr .u8 32 a5]), .v (.agg [.arr .u8 32 a7])] [] (.v (.agg [.arr .u8 32 a9])) [], CallOk P 41 [.v (.agg [.arr .u8 32 a_0]), .v (.agg [.arr .u8 32 b_1])] [] (.v (.agg [.arr .u8 32 a11])) [], CallOk P 40 [.v (.agg [.arr .u8 32 a_0]), .v (.agg [.arr .u8 32 b_1])] [] (.v (.agg [.arr .u8 32 a13])) [], CallOk P 34 [.v (.agg [.arr .u8 32 a11]), .v (.agg [.arr .u8 32 a13])] [] (.v (.agg [.arr .u8 32 a15])) [], (decide (a9 = a15)) = true, CallOk P 34 [.v (.agg [.arr .u8 32 a3]), .v (.agg [.arr .u8 32 a3])] [] (.v (.agg [.arr .u8 32 a18])) [], CallOk P 34 [.v (.agg [.arr .u8 32 a_0]), .v (.agg [.arr .u8 32 a_0])] [] (.v (.agg [.arr .u8 32 a20])) [], (decide (a18 = a20)) = true, CallOk P 40 [.v (.agg [.arr .u8 32 a_0]), .v (.agg [.arr .u8 32 a3])] [] (.v (.agg [.arr .u8 32 a23])) [], CallOk P 26 [.v (.one (.int .i64 (0 : Int)))] [] (.v (.agg [.arr .u8 32 a25])) [], (decide (a23 = a25)) = false] (by kernel_rfl) (hcons (field_Mul_ok a_0 a_0 a5 e6) (hcons (field_Mul_ok b_1 b_1 a7 e8) (hcons (field_Sub_ok a5 a7 a9 e10) (hcons (field_Sub_ok a_0 b_1 a11 e12) (hcons (field_Add_ok a_0 b_1 a13 e14) (hcons (field_Mul_ok a11 a13 a15 e16) (hcons hb17 (hcons (field_Mul_ok a3 a3 a18 e19) (hcons (field_Mul_ok a_0 a_0 a20 e21) (hcons hb22 (hcons (field_Add_ok a_0 a3 a23 e24) (hcons (law04_Num_ok (0 : Int) a25 e26) (hone hb50))))))))))))) ?_
        refine q_k ?_
        refine tr_ret ?_
        have h := Option.some.inj h
        subst h
        exact q_ret0 hT (.v (.one (.bool false))) rfl (by kernel_rfl)
    · refine tr_regd hT hM [(2, .call (.v (.agg [.arr .u8 32 a5])) []), (5, .call (.v (.agg [.arr .u8 32 a7])) []), (6, .call (.v (.agg [.arr .u8 32 a9])) []), (9, .call (.v (.agg [.arr .u8 32 a11])) []), (12, .call (.v (.agg [.arr .u8 32 a13])) []), (13, .call (.v (.agg [.arr .u8 32 a15])) []), (15, .dec true), (18, .call (.v (.agg [.arr .u8 32 a18])) []), (21, .call (.v (.agg [.arr .u8 32 a20])) []), (24, .dec false)] [.s 4] [sB 4 false] [CallOk P 34 [.v (.agg [.arr .u8 32 a_0]), .v (.agg [.arr .u8 32 a_0])] [] (.v (.agg [.arr .u8 32 a5])) [], CallOk P 34 [.v (.agg [.arr .u8 32 b_1]), .v (.agg [.arr .u8 32 b_1])] [] (.v (.agg [.arr .u8 32 a7])) [], CallOk P 41 [.v (.agg [.arr .u8 32 a5]), .v (.agg [.arr .u8 32 a7])] [] (.v (.agg [.arr .u8 32 a9])) [], CallOk P 41 [.v (.agg [.arr .u8 32 a_0]), .v (.agg [.arr .u8 32 b_1])] [] (.v (.agg [.arr .u8 32 a11])) [], CallOk P 40 [.v (.agg [.arr .u8 32 a_0]), .v (.agg [.arr .u8 32 b_1])] [] (.v (.agg [.arr .u8 32 a13])) [], CallOk P 34 [.v (.agg [.arr .u8 32 a11]), .v (.agg [.arr .u8 32 a13])] [] (.v (.agg [.arr .u8 32 a15])) [], (decide (a9 = a15)) = true, CallOk P 34 [.v (.agg [.arr .u8 32 a3]), .v (.agg [.arr .u8 32 a3])] [] (.v (.agg [.arr .u8 32 a18])) [], CallOk P 34 [.v (.agg [.arr .u8 32 a_0]), .v (.agg [.arr .u8 32 a_0])] [] (.v (.agg [.arr .u8 32 a20])) [], (decide (a18 = a20)) = false] (by kernel_rfl) (hcons (field_Mul_ok a_0 a_0 a5 e6) (hcons (field_Mul_ok b_1 b_1 a7 e8) (hcons (field_Sub_ok a5 a7 a9 e10) (hcons (field_Sub_ok a_0 b_1 a11 e12) (hcons (field_Add_ok a_0 b_1 a13 e14) (hcons (field_Mul_ok a11 a13 a15 e16) (hcons hb17 (hcons (field_Mul_ok a3 a3 a18 e19) (hcons (field_Mul_ok a_0 a_0 a20 e21) (hone hb51)))))))))) ?_
      refine q_k ?_
      refine tr_ret ?_
      have h := Option.some.inj h
      subst h
      exact q_ret0 hT (.v (.one (.bool false))) rfl (by kernel_rfl)
  · refine tr_regd hT hM [(2, .call (.v (.agg [.arr .u8 32 a5])) []), (5, .call (.v (.agg [.arr .u8 32 a7])) []), (6, .call (.v (.agg [.arr .u8 32 a9])) []), (9, .call (.v (.agg [.arr .u8 32 a11])) []), (12, .call (.v (.agg [.arr .u8 32 a13])) []), (13, .call (.v (.agg [.arr .u8 32 a15])) []), (15, .dec false)] [.s 4] [sB 4 false] [CallOk P 34 [.v (.agg [.arr .u8 32 a_0]), .v (.agg [.arr .u8 32 a_0])] [] (.v (.agg [.arr .u8 32 a5])) [], CallOk P 34 [.v (.agg [.arr .u8 32 b_1]), .v (.agg [.arr .u8 32 b_1])] [] (.v (.agg [.arr .u8 32 a7])) [], CallOk P 41 [.v (.agg [.arr .u8 32 a5]), .v (.agg [.arr .u8 32 a7])] [] (.v (.agg [.arr .u8 32 a9])) [], CallOk P 41 [.v (.agg [.arr .u8 32 a_0]), .v (.agg [.arr .u8 32 b_1])] [] (.v (.agg [.arr .u8 32 a11])) [], CallOk P 40 [.v (.agg [.arr .u8 32 a_0]), .v (.agg [.arr .u8 32 b_1])] [] (.v (.agg [.arr .u8 32 a13])) [], CallOk P 34 [.v (.agg [.arr .u8 32 a11]), .v (.agg [.arr .u8 32 a13])] [] (.v (.agg [.arr .u8 32 a15])) [], (decide (a9 = a15)) = false] (by kernel_rfl) (hcons (field_Mul_ok a_0 a_0 a5 e6) (hcons (field_Mul_ok b_1 b_1 a7 e8) (hcons (field_Sub_ok a5 a7 a9 e10) (hcons (field_Sub_ok a_0 b_1 a11 e12) (hcons (field_Add_ok a_0 b_1 a13 e14) (hcons (field_Mul_ok a11 a13 a15 e16) (hone hb52))))))) ?_
    refine q_k ?_
    refine tr_ret ?_
    have h := Option.some.inj h
    subst h
    exact q_ret0 hT (.v (.one (.bool false))) rfl (by kernel_rfl)

theorem limb_Same_ok (a_0 : List Int) (b_1 : List Int) (r : Bool) (h : limb_Same a_0 b_1 = some r) {pre : List (Nat × Ent)} : CallOk P 105 [.v (.agg [.arr .u64 5 a_0]), .v (.agg [.arr .u64 5 b_1])] pre (.v (.one (.bool r))) [] := by
  refine call0 (N := 10) Try.func105 (by kernel_rfl) rfl rfl rfl pre ?_
  intro _ w
  show Tr P w.heap.size 10 w _ _ (RetQ P Try.f105 (R0 _ w))
  unfold limb_Same at h
  refine tr_seq ?_
  refine tr_reg hT [(0, .key 0), (1, .key 1)] [.s 2, .s 3, .h 0, .h 1] [sO 2 (.ptr 0 0), sO 3 (.ptr 1 0), hB 0 71 [.arr .u64 5 a_0], hB 1 71 [.arr .u64 5 b_1]] [] (by kernel_rfl) trivial ?_
  refine q_k ?_
  refine tr_seq ?_
  obtain ⟨a1, e2, h⟩ := bind_some h
  obtain ⟨a3, e4, h⟩ := bind_some h
  refine tr_regd hT hM [(1, .call (.v (.agg [.arr .u8 32 a1])) []), (3, .call (.v (.agg [.arr .u8 32 a3])) [])] [.s 4] [sB 4 (decide (a1 = a3))] [CallOk P 73 [.v (.agg [.arr .u64 5 a_0])] [] (.v (.agg [.arr .u8 32 a1])) [], CallOk P 73 [.v (.agg [.arr .u64 5 b_1])] [] (.v (.agg [.arr .u8 32 a3])) []] (by kernel_rfl) (hcons (limb_N_Bytes_ok a_0 a1 e2) (hone (limb_N_Bytes_ok b_1 a3 e4))) ?_
  refine q_k ?_
  refine tr_ret ?_
  have h := Option.some.inj h
  subst h
  exact q_ret0 hT (.v (.one (.bool (decide (a1 = a3))))) rfl (by kernel_rfl)

theorem limb_Root_ok (a_0 : List Int) (r : List Int × Bool) (h : limb_Root a_0 = some r) {pre : List (Nat × Ent)} : CallOk P 85 [.v (.agg [.arr .u64 5 a_0])] pre (.tup [.agg [.arr .u64 5 r.1], .one (.bool r.2)]) [] := by
  refine call0 (N := 25) Try.func85 (by kernel_rfl) rfl rfl rfl pre ?_
  intro _ w
  show Tr P w.heap.size 25 w _ _ (RetQ P Try.f85 (R0 _ w))
  unfold limb_Root at h
  refine tr_seq ?_
  refine tr_reg hT [(0, .key 0), (1, .key 1)] [.s 1, .s 2, .h 0, .h 1] [sO 1 (.ptr 0 0), sO 2 (.ptr 1 0), hB 0 71 [.arr .u64 5 a_0], hB 1 71 [.arr .u64 5 (List.replicate 5 0)]] [] (by kernel_rfl) trivial ?_
  refine q_k ?_
  refine tr_seq ?_
  obtain ⟨a1, e2, h⟩ := bind_some h
  obtain ⟨a3, e4, h⟩ := bind_some h
  refine tr_regd hT hM [(1, .call (.v (.agg [.arr .u8 32 a1])) []), (2, .call (.v (.agg [.arr .u64 5 a3])) []), (3, .key 2)] [.s 1, .s 2, .s 4, .h 0, .h 1, .h 2] [sO 1 (.ptr 0 0), sO 2 (.ptr 1 0), sO 4 (.ptr 2 0), hB 0 71 [.arr .u64 5 a_0], hB 1 71 [.arr .u64 5 (List.replicate 5 0)], hB 2 71 [.arr .u64 5 a3]] [CallOk P 104 [.v (.one (.int .i64 (252 : Int))), .v (.one (.int .u8 (2 : Int)))] [] (.v (.agg [.arr .u8 32 a1])) [], CallOk P 103 [.v (.agg [.arr .u64 5 a_0]), .v (.agg [.arr .u8 32 a1])] [] (.v (.agg [.arr .u64 5 a3])) []] (by kernel_rfl) (hcons (limb_Below_ok (252 : Int) (2 : Int) a1 e2) (hone (limb_Pow_ok a_0 a1 a3 e4))) ?_
  refine q_k ?_
  refine tr_seq ?_
  refine tr_seq ?_
  obtain ⟨a5, e6, h⟩ := bind_some h
  obtain ⟨b7, e8, h⟩ := bind_some h
  refine tr_regd hT hM [(2, .call (.v (.agg [.arr .u64 5 a5])) []), (4, .call (.v (.one (.bool b7))) [])] [.s 1, .s 2, .s 4, .s 13, .h 0, .h 1, .h 2] [sO 1 (.ptr 0 0), sO 2 (.ptr 1 0), sO 4 (.ptr 2 0), sB 13 (!b7), hB 0 71 [.arr .u64 5 a_0], hB 1 71 [.arr .u64 5 (List.replicate 5 0)], hB 2 71 [.arr .u64 5 a3]] [CallOk P 74 [.v (.agg [.arr .u64 5 a3]), .v (.agg [.arr .u64 5 a3])] [] (.v (.agg [.arr .u64 5 a5])) [], CallOk P 105 [.v (.agg [.arr .u64 5 a5]), .v (.agg [.arr .u64 5 a_0])] [] (.v (.one (.bool b7))) []] (by kernel_rfl) (hcons (limb_Mul_ok a3 a3 a5 e6) (hone (limb_Same_ok a5 a_0 b7 e8))) ?_
  refine q_k ?_
  obtain ⟨m18, e23, h⟩ := bind_some h
  refine tr_join (σ1 := [sO 1 (.ptr 0 0), sO 2 (.ptr 1 0), sO 4 (.ptr 2 0), hB 0 71 [.arr .u64 5 a_0], hB 1 71 [.arr .u64 5 (List.replicate 5 0)], hB 2 71 [.arr .u64 5 m18]]) ?_ ?_
  · skip
    replace h : ((limb_Mul m18 m18).bind (fun a19 => (limb_Same a19 a_0).bind (fun b21 => some (m18, b21)))) = _ := h
    refine q_k ?_
    refine tr_seq ?_
    obtain ⟨a19, e20, h⟩ := bind_some h
    obtain ⟨b21, e22, h⟩ := bind_some h
    refine tr_regd hT hM [(3, .call (.v (.agg [.arr .u64 5 a19])) []), (5, .call (.v (.one (.bool b21))) [])] [.s 2, .s 3, .h 1] [sO 2 (.ptr 1 0), sB 3 b21, hB 1 71 [.arr .u64 5 m18]] [CallOk P 74 [.v (.agg [.arr .u64 5 m18]), .v (.agg [.arr .u64 5 m18])] [] (.v (.agg [.arr .u64 5 a19])) [], CallOk P 105 [.v (.agg [.arr .u64 5 a19]), .v (.agg [.arr .u64 5 a_0])] [] (.v (.one (.bool b21))) []] (by kernel_rfl) (hcons (limb_Mul_ok m18 m18 a19 e20) (hone (limb_Same_ok a19 a_0 b21 e22))) ?_
    refine q_k ?_
    refine tr_ret ?_
    have h := Option.some.inj h
    subst h
    exact q_ret0 hT (.tup [.agg [.arr .u64 5 m18], .one (.bool b21)]) rfl (by kernel_rfl)
  · intro hj0
    clear h
    have h := e23
    clear e23
    rcases ite_split h with ⟨hc9, h⟩ | ⟨hc9, h⟩
    · refine tr_cond_t (!b7) (by kernel_rfl) hc9 ?_
      obtain ⟨a10, e11, h⟩ := bind_some h
      obtain ⟨a12, e13, h⟩ := bind_some h
      obtain ⟨a14, e15, h⟩ := bind_some h
      obtain ⟨a16, e17, h⟩ := bind_some h
      refine tr_regd hT hM [(1, .call (.v (.agg [.arr .u64 5 a10])) []), (2, .call (.v (.agg [.arr .u8 32 a12])) []), (3, .call (.v (.agg [.arr .u64 5 a14])) []), (4, .call (.v (.agg [.arr .u64 5 a16])) [])] [.s 1, .s 2, .s 4, .h 0, .h 1, .h 2] [sO 1 (.ptr 0 0), sO 2 (.ptr 1 0), sO 4 (.ptr 2 0), hB 0 71 [.arr .u64 5 a_0], hB 1 71 [.arr .u64 5 (List.replicate 5 0)], hB 2 71 [.arr .u64 5 a16]] [CallOk P 87 [.v (.one (.int .u64 (2 : Int)))] [] (.v (.agg [.arr .u64 5 a10])) [], CallOk P 104 [.v (.one (.int .i64 (253 : Int))), .v (.one (.int .u8 (5 : Int)))] [] (.v (.agg [.arr .u8 32 a12])) [], CallOk P 103 [.v (.agg [.arr .u64 5 a10]), .v (.agg [.arr .u8 32 a12])] [] (.v (.agg [.arr .u64 5 a14])) [], CallOk P 74 [.v (.agg [.arr .u64 5 a3]), .v (.agg [.arr .u64 5 a14])] [] (.v (.agg [.arr .u64 5 a16])) []] (by kernel_rfl) (hcons (limb_Small_ok (2 : Int) a10 e11) (hcons (limb_Below_ok (253 : Int) (5 : Int) a12 e13) (hcons (limb_Pow_ok a10 a12 a14 e15) (hone (limb_Mul_ok a3 a14 a16 e17))))) ?_
      have h := Option.some.inj h
      subst h
      exact q_less [.s 1, .s 2, .s 4, .h 0, .h 1, .h 2] [sO 1 (.ptr 0 0), sO 2 (.ptr 1 0), sO 4 (.ptr 2 0), hB 0 71 [.arr .u64 5 a_0], hB 1 71 [.arr .u64 5 (List.replicate 5 0)], hB 2 71 [.arr .u64 5 a16]] (by kernel_rfl) hj0
    · refine tr_cond_f (!b7) (by kernel_rfl) hc9 ?_
      refine tr_skip ?_
      have h := Option.some.inj h
      subst h
      exact q_less [.s 1, .s 2, .s 4, .h 0, .h 1, .h 2] [sO 1 (.ptr 0 0), sO 2 (.ptr 1 0), sO 4 (.ptr 2 0), hB 0 71 [.arr .u64 5 a_0], hB 1 71 [.arr .u64 5 (List.replicate 5 0)], hB 2 71 [.arr .u64 5 a3]] (by kernel_rfl) hj0

theorem limb_N_Odd_ok (a_0 : List Int) (r : Bool) (h : limb_N_Odd a_0 = some r) {pre : List (Nat × Ent)} : CallOk P 86 [.v (.agg [.arr .u64 5 a_0])] pre (.v (.one (.bool r))) [] := by
  refine call0 (N := 8) Try.func86 (by kernel_rfl) rfl rfl rfl pre ?_
  intro _ w
  show Tr P w.heap.size 8 w _ _ (RetQ P Try.f86 (R0 _ w))
  unfold limb_N_Odd at h
  refine tr_seq ?_
  refine tr_reg hT [(0, .key 0)] [.s 1, .h 0] [sO 1 (.ptr 0 0), hB 0 71 [.arr .u64 5 a_0]] [] (by kernel_rfl) trivial ?_
  refine q_k ?_
  refine tr_seq ?_
  obtain ⟨a1, e2, h⟩ := bind_some h
  refine tr_reg hT [(1, .call (.v (.agg [.arr .u8 32 a1])) [])] [.s 2] [sB 2 ((band .u8 (a1.getD 0 0) (1 : Int)) == (1 : Int))] [CallOk P 73 [.v (.agg [.arr .u64 5 a_0])] [] (.v (.agg [.arr .u8 32 a1])) [], 0 ≤ (0 : Int) ∧ (0 : Int) < ((32 : Nat) : Int)] (by kernel_rfl) (hcons (limb_N_Bytes_ok a_0 a1 e2) (hone (by decide))) ?_
  refine q_k ?_
  refine tr_ret ?_
  have h := Option.some.inj h
  subst h
  exact q_ret0 hT (.v (.one (.bool ((band .u8 (a1.getD 0 0) (1 : Int)) == (1 : Int))))) rfl (by kernel_rfl)

theorem field_Root_ok (a_0 : List Int) (r : List Int × Bool) (h : field_Root a_0 = some r) {pre : List (Nat × Ent)} : CallOk P 52 [.v (.agg [.arr .u8 32 a_0])] pre (.tup [.agg [.arr .u8 32 r.1], .one (.bool r.2)]) [] := by
  refine call0 (N := 22) Try.func52 (by kernel_rfl) rfl rfl rfl pre ?_
  intro _ w
  show Tr P w.heap.size 22 w _ _ (RetQ P Try.f52 (R0 _ w))
  unfold field_Root at h
  refine tr_seq ?_
  refine tr_reg hT [(0, .key 0), (1, .key 1)] [.s 1, .s 2, .h 0, .h 1] [sO 1 (.ptr 0 0), sO 2 (.ptr 1 0), hB 0 22 [.arr .u8 32 a_0], hB 1 22 [.arr .u8 32 (List.replicate 32 0)]] [] (by kernel_rfl) trivial ?_
  refine q_k ?_
  refine tr_seq ?_
  obtain ⟨a1, e2, h⟩ := bind_some h
  obtain ⟨⟨a3, b4⟩, e5, h⟩ := bind_some h
  refine tr_reg hT [(1, .call (.v (.agg [.arr .u64 5 a1])) []), (2, .call (.tup [.agg [.arr .u64 5 a3], .one (.bool b4)]) []), (6, .key 2)] [.s 2, .s 4, .s 5, .h 1, .h 2] [sO 2 (.ptr 1 0), sO 4 (.ptr 2 0), sB 5 b4, hB 1 22 [.arr .u8 32 (List.replicate 32 0)], hB 2 71 [.arr .u64 5 a3]] [CallOk P 72 [.v (.agg [.arr .u8 32 a_0])] [] (.v (.agg [.arr .u64 5 a1])) [], CallOk P 85 [.v (.agg [.arr .u64 5 a1])] [] (.tup [.agg [.arr .u64 5 a3], .one (.bool b4)]) []] (by kernel_rfl) (hcons (limb_Of_ok a_0 a1 e2) (hone (limb_Root_ok a1 (a3, b4) e5))) ?_
  refine q_k ?_
  refine tr_seq ?_
  refine tr_seq ?_
  refine tr_reg hT [] [.s 2, .s 4, .s 13, .h 1, .h 2] [sO 2 (.ptr 1 0), sO 4 (.ptr 2 0), sB 13 (!b4), hB 1 22 [.arr .u8 32 (List.replicate 32 0)], hB 2 71 [.arr .u64 5 a3]] [] (by kernel_rfl) trivial ?_
  refine q_k ?_
  rcases ite_split h with ⟨hc7, h⟩ | ⟨hc7, h⟩
  · refine tr_cond_t (!b4) (by kernel_rfl) hc7 ?_
    refine tr_seq ?_
    refine tr_reg hT [] [.s 2, .s 3, .h 1] [sO 2 (.ptr 1 0), sB 3 false, hB 1 22 [.arr .u8 32 (List.replicate 32 0)]] [] (by kernel_rfl) trivial ?_
    refine q_k ?_
    refine tr_ret ?_
    refine q_k_ret ?_
    have h := Option.some.inj h
    subst h
    exact q_ret0 hT (.tup [.agg [.arr .u8 32 (List.replicate 32 0)], .one (.bool false)]) rfl (by kernel_rfl)
  · refine tr_cond_f (!b4) (by kernel_rfl) hc7 ?_
    refine tr_skip ?_
    refine q_k ?_
    refine tr_seq ?_
    refine tr_seq ?_
    obtain ⟨b8, e9, h⟩ := bind_some h
    refine tr_reg hT [(1, .call (.v (.one (.bool b8))) [])] [.s 2, .s 4, .s 16, .h 1, .h 2] [sO 2 (.ptr 1 0), sO 4 (.ptr 2 0), sB 16 b8, hB 1 22 [.arr .u8 32 (List.replicate 32 0)], hB 2 71 [.arr .u64 5 a3]] [CallOk P 86 [.v (.agg [.arr .u64 5 a3])] [] (.v (.one (.bool b8))) []] (by kernel_rfl) (hone (limb_N_Odd_ok a3 b8 e9)) ?_
    refine q_k ?_
    obtain ⟨m15, e18, h⟩ := bind_some h
    refine tr_join (σ1 := [sO 2 (.ptr 1 0), sO 4 (.ptr 2 0), hB 1 22 [.arr .u8 32 (List.replicate 32 0)], hB 2 71 [.arr .u64 5 m15]]) ?_ ?_
    · skip
      replace h : ((limb_N_Bytes m15).bind (fun a16 => some (a16, true))) = _ := h
      refine q_k ?_
      refine tr_seq ?_
      obtain ⟨a16, e17, h⟩ := bind_some h
      refine tr_reg hT [(1, .call (.v (.agg [.arr .u8 32 a16])) [])] [.s 2, .s 3, .h 1] [sO 2 (.ptr 1 0), sB 3 true, hB 1 22 [.arr .u8 32 a16]] [CallOk P 73 [.v (.agg [.arr .u64 5 m15])] [] (.v (.agg [.arr .u8 32 a16])) []] (by kernel_rfl) (hone (limb_N_Bytes_ok m15 a16 e17)) ?_
      refine q_k ?_
      refine tr_ret ?_
      have h := Option.some.inj h
      subst h
      exact q_ret0 hT (.tup [.agg [.arr .u8 32 a16], .one (.bool true)]) rfl (by kernel_rfl)
    · intro hj0
      clear h
      have h := e18
      clear e18
      rcases ite_split h with ⟨hc10, h⟩ | ⟨hc10, h⟩
      · refine tr_cond_t b8 (by kernel_rfl) hc10 ?_
        obtain ⟨a11, e12, h⟩ := bind_some h
        obtain ⟨a13, e14, h⟩ := bind_some h
        refine tr_regd hT hM [(0, .call (.v (.agg [.arr .u64 5 a11])) []), (2, .call (.v (.agg [.arr .u64 5 a13])) [])] [.s 2, .s 4, .h 1, .h 2] [sO 2 (.ptr 1 0), sO 4 (.ptr 2 0), hB 1 22 [.arr .u8 32 (List.replicate 32 0)], hB 2 71 [.arr .u64 5 a13]] [CallOk P 87 [.v (.one (.int .u64 (0 : Int)))] [] (.v (.agg [.arr .u64 5 a11])) [], CallOk P 80 [.v (.agg [.arr .u64 5 a11]), .v (.agg [.arr .u64 5 a3])] [] (.v (.agg [.arr .u64 5 a13])) []] (by kernel_rfl) (hcons (limb_Small_ok (0 : Int) a11 e12) (hone (limb_Sub_ok a11 a3 a13 e14))) ?_
        have h := Option.some.inj h
        subst h
        exact q_less [.s 2, .s 4, .h 1, .h 2] [sO 2 (.ptr 1 0), sO 4 (.ptr 2 0), hB 1 22 [.arr .u8 32 (List.replicate 32 0)], hB 2 71 [.arr .u64 5 a13]] (by kernel_rfl) hj0
      · refine tr_cond_f b8 (by kernel_rfl) hc10 ?_
        refine tr_skip ?_
        have h := Option.some.inj h
        subst h
        exact q_less [.s 2, .s 4, .h 1, .h 2] [sO 2 (.ptr 1 0), sO 4 (.ptr 2 0), hB 1 22 [.arr .u8 32 (List.replicate 32 0)], hB 2 71 [.arr .u64 5 a3]] (by kernel_rfl) hj0

theorem ref04_half_ok (a_0 : List Int) (r : List Int) (h : ref04_half a_0 = some r) {pre : List (Nat × Ent)} : CallOk P 88 [.v (.agg [.arr .u64 4 a_0])] pre (.v (.agg [.arr .u64 4 r])) [] := by
  refine call0 (N := 28) Try.func88 (by kernel_rfl) rfl rfl rfl pre ?_
  intro _ w
  show Tr P w.heap.size 28 w _ _ (RetQ P Try.f88 (R0 _ w))
  unfold ref04_half at h
  refine tr_seq ?_
  refine tr_reg hT [(0, .key 0), (1, .key 1)] [.s 1, .s 2, .h 0, .h 1] [sO 1 (.ptr 0 0), sO 2 (.ptr 1 0), hB 0 31 [.arr .u64 4 a_0], hB 1 31 [.arr .u64 4 (List.replicate 4 0)]] [] (by kernel_rfl) trivial ?_
  refine q_k ?_
  refine tr_seq ?_
  refine tr_reg hT [(0, .key 2)] [.s 1, .s 2, .s 3, .h 0, .h 1, .h 2] [sO 1 (.ptr 0 0), sO 2 (.ptr 1 0), sO 3 (.ptr 2 0), hB 0 31 [.arr .u64 4 a_0], hB 1 31 [.arr .u64 4 (List.replicate 4 0)], hB 2 31 [.arr .u64 4 (List.replicate 4 0)]] [] (by kernel_rfl) trivial ?_
  refine q_k ?_
  refine tr_seq ?_
  refine tr_seq ?_
  refine tr_reg hT [] [.s 1, .s 2, .s 3, .s 4, .h 0, .h 1, .h 2] [sO 1 (.ptr 0 0), sO 2 (.ptr 1 0), sO 3 (.ptr 2 0), sI 4 .i64 (0 : Int), hB 0 31 [.arr .u64 4 a_0], hB 1 31 [.arr .u64 4 (List.replicate 4 0)], hB 2 31 [.arr .u64 4 (List.replicate 4 0)]] [] (by kernel_rfl) trivial ?_
  refine q_k ?_
  refine tr_block ?_
  obtain ⟨m10, e11, h⟩ := bind_some h
  refine tr_less [.s 1, .s 2, .s 3, .s 4, .h 0, .h 1, .h 2] [sO 1 (.ptr 0 0), sO 2 (.ptr 1 0), sO 3 (.ptr 2 0), sI 4 .i64 (0 : Int), hB 0 31 [.arr .u64 4 a_0], hB 1 31 [.arr .u64 4 (List.replicate 4 0)], hB 2 31 [.arr .u64 4 (List.replicate 4 0)]] (by kernel_rfl) ?_
  refine tr_loop_fuel (id := 0) (α := List Int × Int) (β := List Int) (fun z => [sO 1 (.ptr 0 0), sO 2 (.ptr 1 0), sO 3 (.ptr 2 0), sI 4 .i64 z.2, hB 0 31 [.arr .u64 4 a_0], hB 1 31 [.arr .u64 4 (List.replicate 4 0)], hB 2 31 [.arr .u64 4 z.1]]) (fun z => [sO 2 (.ptr 1 0), sO 3 (.ptr 2 0), hB 1 31 [.arr .u64 4 (List.replicate 4 0)], hB 2 31 [.arr .u64 4 z]]) (fun k z => ref04_half_l0 a_0 k z.1 z.2) m10 (fun _ => rfl) (((4 : Int) - (0 : Int)).toNat + 1) ((List.replicate 4 0), (0 : Int)) e11 ?_ ?_
  · skip
    replace h : (some m10) = _ := h
    refine q_b_this ?_
    refine q_k ?_
    refine tr_seq ?_
    refine tr_reg hT [] [.s 2, .h 1] [sO 2 (.ptr 1 0), hB 1 31 [.arr .u64 4 m10]] [] (by kernel_rfl) trivial ?_
    refine q_k ?_
    refine tr_ret ?_
    have h := Option.some.inj h
    subst h
    exact q_ret0 hT (.v (.agg [.arr .u64 4 m10])) rfl (by kernel_rfl)
  · clear h e11
    intro k ih0 hx0 z h
    obtain ⟨m1, i2⟩ := z
    replace h : (if (decide (i2 < (4 : Int))) = true then if 0 ≤ i2 ∧ i2 < ((4 : Nat) : Int) then if 0 ≤ i2 ∧ i2 < ((4 : Nat) : Int) then if (decide (i2 < (3 : Int))) = true then if 0 ≤ i2 ∧ i2 < ((4 : Nat) : Int) then if 0 ≤ (IntKind.i64.wrap (i2 + (1 : Int))) ∧ (IntKind.i64.wrap (i2 + (1 : Int))) < ((4 : Nat) : Int) then if 0 ≤ i2 ∧ i2 < ((4 : Nat) : Int) then ref04_half_l0 a_0 k ((m1.set i2.toNat (shr .u64 (a_0.getD i2.toNat 0) (1 : Int))).set i2.toNat (bor .u64 ((m1.set i2.toNat (shr .u64 (a_0.getD i2.toNat 0) (1 : Int))).getD i2.toNat 0) (shl .u64 (a_0.getD (IntKind.i64.wrap (i2 + (1 : Int))).toNat 0) (63 : Int)))) (IntKind.i64.wrap (i2 + (1 : Int))) else none else none else none else ref04_half_l0 a_0 k (m1.set i2.toNat (shr .u64 (a_0.getD i2.toNat 0) (1 : Int))) (IntKind.i64.wrap (i2 + (1 : Int))) else none else none else some m1) = _ := h
    refine tr_seq ?_
    refine tr_seq ?_
    refine tr_reg hT [] [.s 1, .s 2, .s 3, .s 4, .s 6, .h 0, .h 1, .h 2] [sO 1 (.ptr 0 0), sO 2 (.ptr 1 0), sO 3 (.ptr 2 0), sI 4 .i64 i2, sB 6 (decide (i2 < (4 : Int))), hB 0 31 [.arr .u64 4 a_0], hB 1 31 [.arr .u64 4 (List.replicate 4 0)], hB 2 31 [.arr .u64 4 m1]] [] (by kernel_rfl) trivial ?_
    refine q_k ?_
    rcases ite_split h with ⟨hc3, h⟩ | ⟨hc3, h⟩
    · refine tr_cond_t (decide (i2 < (4 : Int))) (by kernel_rfl) hc3 ?_
      refine tr_skip ?_
      refine q_k ?_
      refine tr_seq ?_
      refine tr_block ?_
      refine tr_seq ?_
      obtain ⟨hn4, h⟩ := ite_some h
      obtain ⟨hn5, h⟩ := ite_some h
      refine tr_reg hT [] [.s 1, .s 2, .s 3, .s 4, .h 0, .h 1, .h 2] [sO 1 (.ptr 0 0), sO 2 (.ptr 1 0), sO 3 (.ptr 2 0), sI 4 .i64 i2, hB 0 31 [.arr .u64 4 a_0], hB 1 31 [.arr .u64 4 (List.replicate 4 0)], hB 2 31 [.arr .u64 4 (m1.set i2.toNat (shr .u64 (a_0.getD i2.toNat 0) (1 : Int)))]] [0 ≤ i2 ∧ i2 < ((4 : Nat) : Int), 0 ≤ (1 : Int), 0 ≤ i2 ∧ i2 < ((4 : Nat) : Int)] (by kernel_rfl) (hcons hn4 (hcons (by decide) (hone hn5))) ?_
      refine q_k ?_
      refine tr_seq ?_
      refine tr_reg hT [] [.s 1, .s 2, .s 3, .s 4, .s 16, .h 0, .h 1, .h 2] [sO 1 (.ptr 0 0), sO 2 (.ptr 1 0), sO 3 (.ptr 2 0), sI 4 .i64 i2, sB 16 (decide (i2 < (3 : Int))), hB 0 31 [.arr .u64 4 a_0], hB 1 31 [.arr .u64 4 (List.replicate 4 0)], hB 2 31 [.arr .u64 4 (m1.set i2.toNat (shr .u64 (a_0.getD i2.toNat 0) (1 : Int)))]] [] (by kernel_rfl) trivial ?_
      refine q_k ?_
      rcases ite_split h with ⟨hc6, h⟩ | ⟨hc6, h⟩
      · refine tr_cond_t (decide (i2 < (3 : Int))) (by kernel_rfl) hc6 ?_
        obtain ⟨hn7, h⟩ := ite_some h
        obtain ⟨hn8, h⟩ := ite_some h
        obtain ⟨hn9, h⟩ := ite_some h
        refine tr_regd hT hM [] [.s 1, .s 2, .s 3, .s 4, .h 0, .h 1, .h 2] [sO 1 (.ptr 0 0), sO 2 (.ptr 1 0), sO 3 (.ptr 2 0), sI 4 .i64 i2, hB 0 31 [.arr .u64 4 a_0], hB 1 31 [.arr .u64 4 (List.replicate 4 0)], hB 2 31 [.arr .u64 4 ((m1.set i2.toNat (shr .u64 (a_0.getD i2.toNat 0) (1 : Int))).set i2.toNat (bor .u64 ((m1.set i2.toNat (shr .u64 (a_0.getD i2.toNat 0) (1 : Int))).getD i2.toNat 0) (shl .u64 (a_0.getD (IntKind.i64.wrap (i2 + (1 : Int))).toNat 0) (63 : Int))))]] [0 ≤ i2 ∧ i2 < ((4 : Nat) : Int), 0 ≤ (IntKind.i64.wrap (i2 + (1 : Int))) ∧ (IntKind.i64.wrap (i2 + (1 : Int))) < ((4 : Nat) : Int), 0 ≤ (63 : Int), 0 ≤ i2 ∧ i2 < ((4 : Nat) : Int)] (by kernel_rfl) (hcons hn7 (hcons hn8 (hcons (by decide) (hone hn9)))) ?_
        refine q_b 1 ?_
        refine q_k ?_
        refine tr_reg hT [] [.s 1, .s 2, .s 3, .s 4, .h 0, .h 1, .h 2] [sO 1 (.ptr 0 0), sO 2 (.ptr 1 0), sO 3 (.ptr 2 0), sI 4 .i64 (IntKind.i64.wrap (i2 + (1 : Int))), hB 0 31 [.arr .u64 4 a_0], hB 1 31 [.arr .u64 4 (List.replicate 4 0)], hB 2 31 [.arr .u64 4 ((m1.set i2.toNat (shr .u64 (a_0.getD i2.toNat 0) (1 : Int))).set i2.toNat (bor .u64 ((m1.set i2.toNat (shr .u64 (a_0.getD i2.toNat 0) (1 : Int))).getD i2.toNat 0) (shl .u64 (a_0.getD (IntKind.i64.wrap (i2 + (1 : Int))).toNat 0) (63 : Int))))]] [] (by kernel_rfl) trivial ?_
        refine q_kr ?_
        exact trR_less [.s 1, .s 2, .s 3, .s 4, .h 0, .h 1, .h 2] [sO 1 (.ptr 0 0), sO 2 (.ptr 1 0), sO 3 (.ptr 2 0), sI 4 .i64 (IntKind.i64.wrap (i2 + (1 : Int))), hB 0 31 [.arr .u64 4 a_0], hB 1 31 [.arr .u64 4 (List.replicate 4 0)], hB 2 31 [.arr .u64 4 ((m1.set i2.toNat (shr .u64 (a_0.getD i2.toNat 0) (1 : Int))).set i2.toNat (bor .u64 ((m1.set i2.toNat (shr .u64 (a_0.getD i2.toNat 0) (1 : Int))).getD i2.toNat 0) (shl .u64 (a_0.getD (IntKind.i64.wrap (i2 + (1 : Int))).toNat 0) (63 : Int))))]] (by kernel_rfl) (ih0 (((m1.set i2.toNat (shr .u64 (a_0.getD i2.toNat 0) (1 : Int))).set i2.toNat (bor .u64 ((m1.set i2.toNat (shr .u64 (a_0.getD i2.toNat 0) (1 : Int))).getD i2.toNat 0) (shl .u64 (a_0.getD (IntKind.i64.wrap (i2 + (1 : Int))).toNat 0) (63 : Int)))), (IntKind.i64.wrap (i2 + (1 : Int)))) h)
      · refine tr_cond_f (decide (i2 < (3 : Int))) (by kernel_rfl) hc6 ?_
        refine tr_skip ?_
        refine q_b 1 ?_
        refine q_k ?_
        refine tr_reg hT [] [.s 1, .s 2, .s 3, .s 4, .h 0, .h 1, .h 2] [sO 1 (.ptr 0 0), sO 2 (.ptr 1 0), sO 3 (.ptr 2 0), sI 4 .i64 (IntKind.i64.wrap (i2 + (1 : Int))), hB 0 31 [.arr .u64 4 a_0], hB 1 31 [.arr .u64 4 (List.replicate 4 0)], hB 2 31 [.arr .u64 4 (m1.set i2.toNat (shr .u64 (a_0.getD i2.toNat 0) (1 : Int)))]] [] (by kernel_rfl) trivial ?_
        refine q_kr ?_
        exact trR_less [.s 1, .s 2, .s 3, .s 4, .h 0, .h 1, .h 2] [sO 1 (.ptr 0 0), sO 2 (.ptr 1 0), sO 3 (.ptr 2 0), sI 4 .i64 (IntKind.i64.wrap (i2 + (1 : Int))), hB 0 31 [.arr .u64 4 a_0], hB 1 31 [.arr .u64 4 (List.replicate 4 0)], hB 2 31 [.arr .u64 4 (m1.set i2.toNat (shr .u64 (a_0.getD i2.toNat 0) (1 : Int)))]] (by kernel_rfl) (ih0 ((m1.set i2.toNat (shr .u64 (a_0.getD i2.toNat 0) (1 : Int))), (IntKind.i64.wrap (i2 + (1 : Int)))) h)
    · refine tr_cond_f (decide (i2 < (4 : Int))) (by kernel_rfl) hc3 ?_
      refine tr_exit ?_
      refine q_k_exit ?_
      refine q_kr_exit ?_
      have h := Option.some.inj h
      subst h
      exact q_less [.s 2, .s 3, .h 1, .h 2] [sO 2 (.ptr 1 0), sO 3 (.ptr 2 0), hB 1 31 [.arr .u64 4 (List.replicate 4 0)], hB 2 31 [.arr .u64 4 m1]] (by kernel_rfl) hx0

theorem ref04_Root_ok (a_0 : List Int) (r : List Int × Bool) (h : ref04_Root a_0 = some r) {pre : List (Nat × Ent)} : CallOk P 53 [.v (.agg [.arr .u64 4 a_0])] pre (.tup [.agg [.arr .u64 4 r.1], .one (.bool r.2)]) [] := by
  refine call0 (N := 55) Try.func53 (by kernel_rfl) rfl rfl rfl pre ?_
  intro _ w
  show Tr P w.heap.size 55 w _ _ (RetQ P Try.f53 (R0 _ w))
  unfold ref04_Root at h
  refine tr_seq ?_
  refine tr_reg hT [(0, .key 0), (1, .key 1)] [.s 1, .s 2, .h 0, .h 1] [sO 1 (.ptr 0 0), sO 2 (.ptr 1 0), hB 0 31 [.arr .u64 4 a_0], hB 1 31 [.arr .u64 4 (List.replicate 4 0)]] [] (by kernel_rfl) trivial ?_
  refine q_k ?_
  refine tr_seq ?_
  obtain ⟨a1, e2, h⟩ := bind_some h
  refine tr_reg hT [(1, .call (.v (.agg [.arr .u64 4 a1])) [])] [.s 1, .s 2, .h 0, .h 1] [sO 1 (.ptr 0 0), sO 2 (.ptr 1 0), hB 0 31 [.arr .u64 4 a1], hB 1 31 [.arr .u64 4 (List.replicate 4 0)]] [CallOk P 46 [.v (.agg [.arr .u64 4 a_0])] [] (.v (.agg [.arr .u64 4 a1])) []] (by kernel_rfl) (hone (ref04_Mod_ok a_0 a1 e2)) ?_
  refine q_k ?_
  refine tr_seq ?_
  obtain ⟨a3, e4, h⟩ := bind_some h
  obtain ⟨⟨a5, r6⟩, e7, h⟩ := bind_some h
  refine tr_reg hT [(0, .call (.v (.agg [.arr .u64 4 a3])) []), (2, .call (.tup [.agg [.arr .u64 4 a5], .one (.int .u64 r6)]) []), (6, .key 2)] [.s 1, .s 2, .s 4, .h 0, .h 1, .h 2] [sO 1 (.ptr 0 0), sO 2 (.ptr 1 0), sO 4 (.ptr 2 0), hB 0 31 [.arr .u64 4 a1], hB 1 31 [.arr .u64 4 (List.replicate 4 0)], hB 2 31 [.arr .u64 4 a5]] [CallOk P 43 [] [] (.v (.agg [.arr .u64 4 a3])) [], CallOk P 82 [.v (.agg [.arr .u64 4 a3]), .v (.agg [.arr .u64 4 [(3 : Int), (0 : Int), (0 : Int), (0 : Int)]])] [] (.tup [.agg [.arr .u64 4 a5], .one (.int .u64 r6)]) []] (by kernel_rfl) (hcons (ref04_P_ok  a3 e4) (hone (ref04_add_ok a3 [(3 : Int), (0 : Int), (0 : Int), (0 : Int)] (a5, r6) e7))) ?_
  refine q_k ?_
  refine tr_seq ?_
  obtain ⟨a9, e10, h⟩ := bind_some h
  obtain ⟨a11, e12, h⟩ := bind_some h
  obtain ⟨a13, e14, h⟩ := bind_some h
  obtain ⟨a15, e16, h⟩ := bind_some h
  refine tr_regd hT hM [(2, .call (.v (.agg [.arr .u64 4 a9])) []), (3, .call (.v (.agg [.arr .u64 4 a11])) []), (4, .call (.v (.agg [.arr .u64 4 a13])) []), (5, .call (.v (.agg [.arr .u64 4 a15])) []), (6, .key 3)] [.s 1, .s 2, .s 6, .h 0, .h 1, .h 3] [sO 1 (.ptr 0 0), sO 2 (.ptr 1 0), sO 6 (.ptr 3 0), hB 0 31 [.arr .u64 4 a1], hB 1 31 [.arr .u64 4 (List.replicate 4 0)], hB 3 31 [.arr .u64 4 a15]] [CallOk P 88 [.v (.agg [.arr .u64 4 a5])] [] (.v (.agg [.arr .u64 4 a9])) [], CallOk P 88 [.v (.agg [.arr .u64 4 a9])] [] (.v (.agg [.arr .u64 4 a11])) [], CallOk P 88 [.v (.agg [.arr .u64 4 a11])] [] (.v (.agg [.arr .u64 4 a13])) [], CallOk P 84 [.v (.agg [.arr .u64 4 a1]), .v (.agg [.arr .u64 4 a13])] [] (.v (.agg [.arr .u64 4 a15])) []] (by kernel_rfl) (hcons (ref04_half_ok a5 a9 e10) (hcons (ref04_half_ok a9 a11 e12) (hcons (ref04_half_ok a11 a13 e14) (hone (ref04_Pow_ok a1 a13 a15 e16))))) ?_
  refine q_k ?_
  refine tr_seq ?_
  refine tr_seq ?_
  obtain ⟨a17, e18, h⟩ := bind_some h
  refine tr_regd hT hM [(2, .call (.v (.agg [.arr .u64 4 a17])) [])] [.s 1, .s 2, .s 6, .s 27, .h 0, .h 1, .h 3] [sO 1 (.ptr 0 0), sO 2 (.ptr 1 0), sO 6 (.ptr 3 0), sB 27 (!(decide (a17 = a1))), hB 0 31 [.arr .u64 4 a1], hB 1 31 [.arr .u64 4 (List.replicate 4 0)], hB 3 31 [.arr .u64 4 a15]] [CallOk P 49 [.v (.agg [.arr .u64 4 a15]), .v (.agg [.arr .u64 4 a15])] [] (.v (.agg [.arr .u64 4 a17])) []] (by kernel_rfl) (hone (ref04_Mul_ok a15 a15 a17 e18)) ?_
  refine q_k ?_
  obtain ⟨m34, e43, h⟩ := bind_some h
  refine tr_join (σ1 := [sO 1 (.ptr 0 0), sO 2 (.ptr 1 0), sO 6 (.ptr 3 0), hB 0 31 [.arr .u64 4 a1], hB 1 31 [.arr .u64 4 (List.replicate 4 0)], hB 3 31 [.arr .u64 4 m34]]) ?_ ?_
  · skip
    replace h : ((ref04_Mul m34 m34).bind (fun a35 => if (!(decide (a35 = a1))) = true then some ((List.replicate 4 0), false) else (show Option (List Int) from if ((band .u64 (m34.getD 0 0) (1 : Int)) == (1 : Int)) = true then (ref04_Sub (List.replicate 4 0) m34).bind (fun a39 => some a39) else some m34).bind (fun m41 => some (m41, true)))) = _ := h
    refine q_k ?_
    refine tr_seq ?_
    refine tr_seq ?_
    obtain ⟨a35, e36, h⟩ := bind_some h
    refine tr_regd hT hM [(2, .call (.v (.agg [.arr .u64 4 a35])) [])] [.s 2, .s 6, .s 45, .h 1, .h 3] [sO 2 (.ptr 1 0), sO 6 (.ptr 3 0), sB 45 (!(decide (a35 = a1))), hB 1 31 [.arr .u64 4 (List.replicate 4 0)], hB 3 31 [.arr .u64 4 m34]] [CallOk P 49 [.v (.agg [.arr .u64 4 m34]), .v (.agg [.arr .u64 4 m34])] [] (.v (.agg [.arr .u64 4 a35])) []] (by kernel_rfl) (hone (ref04_Mul_ok m34 m34 a35 e36)) ?_
    refine q_k ?_
    rcases ite_split h with ⟨hc37, h⟩ | ⟨hc37, h⟩
    · refine tr_cond_t (!(decide (a35 = a1))) (by kernel_rfl) hc37 ?_
      refine tr_seq ?_
      refine tr_reg hT [] [.s 2, .s 3, .h 1] [sO 2 (.ptr 1 0), sB 3 false, hB 1 31 [.arr .u64 4 (List.replicate 4 0)]] [] (by kernel_rfl) trivial ?_
      refine q_k ?_
      refine tr_ret ?_
      refine q_k_ret ?_
      have h := Option.some.inj h
      subst h
      exact q_ret0 hT (.tup [.agg [.arr .u64 4 (List.replicate 4 0)], .one (.bool false)]) rfl (by kernel_rfl)
    · refine tr_cond_f (!(decide (a35 = a1))) (by kernel_rfl) hc37 ?_
      refine tr_skip ?_
      refine q_k ?_
      refine tr_seq ?_
      refine tr_seq ?_
      refine tr_reg hT [] [.s 2, .s 6, .s 50, .h 1, .h 3] [sO 2 (.ptr 1 0), sO 6 (.ptr 3 0), sB 50 ((band .u64 (m34.getD 0 0) (1 : Int)) == (1 : Int)), hB 1 31 [.arr .u64 4 (List.replicate 4 0)], hB 3 31 [.arr .u64 4 m34]] [0 ≤ (0 : Int) ∧ (0 : Int) < ((4 : Nat) : Int)] (by kernel_rfl) (hone (by decide)) ?_
      refine q_k ?_
      obtain ⟨m41, e42, h⟩ := bind_some h
      refine tr_join (σ1 := [sO 2 (.ptr 1 0), sO 6 (.ptr 3 0), hB 1 31 [.arr .u64 4 (List.replicate 4 0)], hB 3 31 [.arr .u64 4 m41]]) ?_ ?_
      · skip
        replace h : (some (m41, true)) = _ := h
        refine q_k ?_
        refine tr_seq ?_
        refine tr_reg hT [] [.s 2, .s 3, .h 1] [sO 2 (.ptr 1 0), sB 3 true, hB 1 31 [.arr .u64 4 m41]] [] (by kernel_rfl) trivial ?_
        refine q_k ?_
        refine tr_ret ?_
        have h := Option.some.inj h
        subst h
        exact q_ret0 hT (.tup [.agg [.arr .u64 4 m41], .one (.bool true)]) rfl (by kernel_rfl)
      · intro hj1
        clear h
        have h := e42
        clear e42
        rcases ite_split h with ⟨hc38, h⟩ | ⟨hc38, h⟩
        · refine tr_cond_t ((band .u64 (m34.getD 0 0) (1 : Int)) == (1 : Int)) (by kernel_rfl) hc38 ?_
          obtain ⟨a39, e40, h⟩ := bind_some h
          refine tr_reg hT [(2, .call (.v (.agg [.arr .u64 4 a39])) [])] [.s 2, .s 6, .h 1, .h 3] [sO 2 (.ptr 1 0), sO 6 (.ptr 3 0), hB 1 31 [.arr .u64 4 (List.replicate 4 0)], hB 3 31 [.arr .u64 4 a39]] [CallOk P 48 [.v (.agg [.arr .u64 4 (List.replicate 4 0)]), .v (.agg [.arr .u64 4 m34])] [] (.v (.agg [.arr .u64 4 a39])) []] (by kernel_rfl) (hone (ref04_Sub_ok (List.replicate 4 0) m34 a39 e40)) ?_
          have h := Option.some.inj h
          subst h
          exact q_less [.s 2, .s 6, .h 1, .h 3] [sO 2 (.ptr 1 0), sO 6 (.ptr 3 0), hB 1 31 [.arr .u64 4 (List.replicate 4 0)], hB 3 31 [.arr .u64 4 a39]] (by kernel_rfl) hj1
        · refine tr_cond_f ((band .u64 (m34.getD 0 0) (1 : Int)) == (1 : Int)) (by kernel_rfl) hc38 ?_
          refine tr_skip ?_
          have h := Option.some.inj h
          subst h
          exact q_less [.s 2, .s 6, .h 1, .h 3] [sO 2 (.ptr 1 0), sO 6 (.ptr 3 0), hB 1 31 [.arr .u64 4 (List.replicate 4 0)], hB 3 31 [.arr .u64 4 m34]] (by kernel_rfl) hj1
  · intro hj0
    clear h
    have h := e43
    clear e43
    rcases ite_split h with ⟨hc19, h⟩ | ⟨hc19, h⟩
    · refine tr_cond_t (!(decide (a17 = a1))) (by kernel_rfl) hc19 ?_
      refine tr_seq ?_
      obtain ⟨a20, e21, h⟩ := bind_some h
      obtain ⟨⟨a22, r23⟩, e24, h⟩ := bind_some h
      refine tr_reg hT [(0, .call (.v (.agg [.arr .u64 4 a20])) []), (2, .call (.tup [.agg [.arr .u64 4 a22], .one (.int .u64 r23)]) []), (6, .key 4)] [.s 1, .s 2, .s 6, .s 7, .h 0, .h 1, .h 3, .h 4] [sO 1 (.ptr 0 0), sO 2 (.ptr 1 0), sO 6 (.ptr 3 0), sO 7 (.ptr 4 0), hB 0 31 [.arr .u64 4 a1], hB 1 31 [.arr .u64 4 (List.replicate 4 0)], hB 3 31 [.arr .u64 4 a15], hB 4 31 [.arr .u64 4 a22]] [CallOk P 43 [] [] (.v (.agg [.arr .u64 4 a20])) [], CallOk P 81 [.v (.agg [.arr .u64 4 a20]), .v (.agg [.arr .u64 4 [(1 : Int), (0 : Int), (0 : Int), (0 : Int)]])] [] (.tup [.agg [.arr .u64 4 a22], .one (.int .u64 r23)]) []] (by kernel_rfl) (hcons (ref04_P_ok  a20 e21) (hone (ref04_sub_ok a20 [(1 : Int), (0 : Int), (0 : Int), (0 : Int)] (a22, r23) e24))) ?_
      refine q_k ?_
      obtain ⟨a26, e27, h⟩ := bind_some h
      obtain ⟨a28, e29, h⟩ := bind_some h
      obtain ⟨a30, e31, h⟩ := bind_some h
      obtain ⟨a32, e33, h⟩ := bind_some h
      refine tr_regd hT hM [(3, .call (.v (.agg [.arr .u64 4 a26])) []), (4, .call (.v (.agg [.arr .u64 4 a28])) []), (5, .call (.v (.agg [.arr .u64 4 a30])) []), (6, .call (.v (.agg [.arr .u64 4 a32])) [])] [.s 1, .s 2, .s 6, .h 0, .h 1, .h 3] [sO 1 (.ptr 0 0), sO 2 (.ptr 1 0), sO 6 (.ptr 3 0), hB 0 31 [.arr .u64 4 a1], hB 1 31 [.arr .u64 4 (List.replicate 4 0)], hB 3 31 [.arr .u64 4 a32]] [CallOk P 88 [.v (.agg [.arr .u64 4 a22])] [] (.v (.agg [.arr .u64 4 a26])) [], CallOk P 88 [.v (.agg [.arr .u64 4 a26])] [] (.v (.agg [.arr .u64 4 a28])) [], CallOk P 84 [.v (.agg [.arr .u64 4 [(2 : Int), (0 : Int), (0 : Int), (0 : Int)]]), .v (.agg [.arr .u64 4 a28])] [] (.v (.agg [.arr .u64 4 a30])) [], CallOk P 49 [.v (.agg [.arr .u64 4 a15]), .v (.agg [.arr .u64 4 a30])] [] (.v (.agg [.arr .u64 4 a32])) []] (by kernel_rfl) (hcons (ref04_half_ok a22 a26 e27) (hcons (ref04_half_ok a26 a28 e29) (hcons (ref04_Pow_ok [(2 : Int), (0 : Int), (0 : Int), (0 : Int)] a28 a30 e31) (hone (ref04_Mul_ok a15 a30 a32 e33))))) ?_
      have h := Option.some.inj h
      subst h
      exact q_less [.s 1, .s 2, .s 6, .h 0, .h 1, .h 3] [sO 1 (.ptr 0 0), sO 2 (.ptr 1 0), sO 6 (.ptr 3 0), hB 0 31 [.arr .u64 4 a1], hB 1 31 [.arr .u64 4 (List.replicate 4 0)], hB 3 31 [.arr .u64 4 a32]] (by kernel_rfl) hj0
    · refine tr_cond_f (!(decide (a17 = a1))) (by kernel_rfl) hc19 ?_
      refine tr_skip ?_
      have h := Option.some.inj h
      subst h
      exact q_less [.s 1, .s 2, .s 6, .h 0, .h 1, .h 3] [sO 1 (.ptr 0 0), sO 2 (.ptr 1 0), sO 6 (.ptr 3 0), hB 0 31 [.arr .u64 4 a1], hB 1 31 [.arr .u64 4 (List.replicate 4 0)], hB 3 31 [.arr .u64 4 a15]] (by kernel_rfl) hj0

theorem law04_FieldRoot_ok (a_0 : List Int) (r : Bool) (h : law04_FieldRoot a_0 = some r) {pre : List (Nat × Ent)} : CallOk P 17 [.v (.agg [.arr .u8 32 a_0])] pre (.v (.one (.bool r))) [] := by
  refine call0 (N := 88) Try.func17 (by kernel_rfl) rfl rfl rfl pre ?_
  intro _ w
  show Tr P w.heap.size 88 w _ _ (RetQ P Try.f17 (R0 _ w))
  unfold law04_FieldRoot at h
  refine tr_seq ?_
  refine tr_reg hT [(0, .key 0)] [.s 1, .h 0] [sO 1 (.ptr 0 0), hB 0 22 [.arr .u8 32 a_0]] [] (by kernel_rfl) trivial ?_
  refine q_k ?_
  refine tr_seq ?_
  obtain ⟨⟨a1, b2⟩, e3, h⟩ := bind_some h
  refine tr_reg hT [(1, .call (.tup [.agg [.arr .u8 32 a1], .one (.bool b2)]) []), (5, .key 1)] [.s 1, .s 3, .s 4, .h 0, .h 1] [sO 1 (.ptr 0 0), sO 3 (.ptr 1 0), sB 4 b2, hB 0 22 [.arr .u8 32 a_0], hB 1 22 [.arr .u8 32 a1]] [CallOk P 52 [.v (.agg [.arr .u8 32 a_0])] [] (.tup [.agg [.arr .u8 32 a1], .one (.bool b2)]) []] (by kernel_rfl) (hone (field_Root_ok a_0 (a1, b2) e3)) ?_
  refine q_k ?_
  refine tr_seq ?_
  obtain ⟨a5, e6, h⟩ := bind_some h
  obtain ⟨⟨a7, b8⟩, e9, h⟩ := bind_some h
  refine tr_reg hT [(1, .call (.v (.agg [.arr .u64 4 a5])) []), (2, .call (.tup [.agg [.arr .u64 4 a7], .one (.bool b8)]) []), (6, .key 2)] [.s 1, .s 3, .s 4, .s 5, .s 6, .h 0, .h 1, .h 2] [sO 1 (.ptr 0 0), sO 3 (.ptr 1 0), sB 4 b2, sO 5 (.ptr 2 0), sB 6 b8, hB 0 22 [.arr .u8 32 a_0], hB 1 22 [.arr .u8 32 a1], hB 2 31 [.arr .u64 4 a7]] [CallOk P 44 [.v (.agg [.arr .u8 32 a_0])] [] (.v (.agg [.arr .u64 4 a5])) [], CallOk P 53 [.v (.agg [.arr .u64 4 a5])] [] (.tup [.agg [.arr .u64 4 a7], .one (.bool b8)]) []] (by kernel_rfl) (hcons (ref04_Of_ok a_0 a5 e6) (hone (ref04_Root_ok a5 (a7, b8) e9))) ?_
  refine q_k ?_
  refine tr_seq ?_
  refine tr_seq ?_
  rcases ite_split h with ⟨hb11, h⟩ | ⟨hb12, h⟩
  · refine tr_regd hT hM [(3, .dec true)] [.s 1, .s 3, .s 4, .s 41, .h 0, .h 1] [sO 1 (.ptr 0 0), sO 3 (.ptr 1 0), sB 4 b2, sB 41 true, hB 0 22 [.arr .u8 32 a_0], hB 1 22 [.arr .u8 32 a1]] [(!(b2 == b8)) = true] (by kernel_rfl) (hone hb11) ?_
    refine q_k ?_
    refine tr_cond_t true (by kernel_rfl) rfl ?_
    refine tr_seq ?_
    refine tr_reg hT [] [.s 2] [sB 2 false] [] (by kernel_rfl) trivial ?_
    refine q_k ?_
    refine tr_ret ?_
    refine q_k_ret ?_
    have h := Option.some.inj h
    subst h
    exact q_ret0 hT (.v (.one (.bool false))) rfl (by kernel_rfl)
  · rcases ite_split h with ⟨hb13, h⟩ | ⟨hb137, h⟩
    · obtain ⟨a14, e15, h⟩ := bind_some h
      rcases ite_split h with ⟨hb16, h⟩ | ⟨hb17, h⟩
      · refine tr_regd hT hM [(3, .dec false), (5, .dec true), (8, .call (.v (.agg [.arr .u8 32 a14])) []), (12, .dec true)] [.s 1, .s 3, .s 4, .s 41, .h 0, .h 1] [sO 1 (.ptr 0 0), sO 3 (.ptr 1 0), sB 4 b2, sB 41 true, hB 0 22 [.arr .u8 32 a_0], hB 1 22 [.arr .u8 32 a1]] [(!(b2 == b8)) = false, b2 = true, CallOk P 29 [.v (.agg [.arr .u64 4 a7])] [] (.v (.agg [.arr .u8 32 a14])) [], (!(decide (a1 = a14))) = true] (by kernel_rfl) (hcons hb12 (hcons hb13 (hcons (ref04_Bytes_ok a7 a14 e15) (hone hb16)))) ?_
        refine q_k ?_
        refine tr_cond_t true (by kernel_rfl) rfl ?_
        refine tr_seq ?_
        refine tr_reg hT [] [.s 2] [sB 2 false] [] (by kernel_rfl) trivial ?_
        refine q_k ?_
        refine tr_ret ?_
        refine q_k_ret ?_
        have h := Option.some.inj h
        subst h
        exact q_ret0 hT (.v (.one (.bool false))) rfl (by kernel_rfl)
      · rcases ite_split h with ⟨hb18, h⟩ | ⟨hb79, h⟩
        · obtain ⟨a19, e20, h⟩ := bind_some h
          refine tr_regd hT hM [(3, .dec false), (5, .dec true), (8, .call (.v (.agg [.arr .u8 32 a14])) []), (12, .dec false), (15, .dec true), (17, .call (.v (.agg [.arr .u8 32 a19])) [])] [.s 1, .s 3, .s 4, .s 41, .h 0, .h 1] [sO 1 (.ptr 0 0), sO 3 (.ptr 1 0), sB 4 b2, sB 41 (!(decide (a1 = a19))), hB 0 22 [.arr .u8 32 a_0], hB 1 22 [.arr .u8 32 a1]] [(!(b2 == b8)) = false, b2 = true, CallOk P 29 [.v (.agg [.arr .u64 4 a7])] [] (.v (.agg [.arr .u8 32 a14])) [], (!(decide (a1 = a14))) = false, (!b2) = true, CallOk P 26 [.v (.one (.int .i64 (0 : Int)))] [] (.v (.agg [.arr .u8 32 a19])) []] (by kernel_rfl) (hcons hb12 (hcons hb13 (hcons (ref04_Bytes_ok a7 a14 e15) (hcons hb17 (hcons hb18 (hone (law04_Num_ok (0 : Int) a19 e20))))))) ?_
          refine q_k ?_
          rcases ite_split h with ⟨hc21, h⟩ | ⟨hc21, h⟩
          · refine tr_cond_t (!(decide (a1 = a19))) (by kernel_rfl) hc21 ?_
            refine tr_seq ?_
            refine tr_reg hT [] [.s 2] [sB 2 false] [] (by kernel_rfl) trivial ?_
            refine q_k ?_
            refine tr_ret ?_
            refine q_k_ret ?_
            have h := Option.some.inj h
            subst h
            exact q_ret0 hT (.v (.one (.bool false))) rfl (by kernel_rfl)
          · refine tr_cond_f (!(decide (a1 = a19))) (by kernel_rfl) hc21 ?_
            refine tr_skip ?_
            refine q_k ?_
            refine tr_seq ?_
            refine tr_seq ?_
            rcases ite_split h with ⟨hb22, h⟩ | ⟨hb56, h⟩
            · obtain ⟨a23, e24, h⟩ := bind_some h
              obtain ⟨a25, e26, h⟩ := bind_some h
              rcases ite_split h with ⟨hb27, h⟩ | ⟨hb28, h⟩
              · refine tr_regd hT hM [(1, .dec true), (4, .call (.v (.agg [.arr .u8 32 a23])) []), (6, .call (.v (.agg [.arr .u8 32 a25])) []), (8, .dec true)] [.s 1, .s 61, .h 0] [sO 1 (.ptr 0 0), sB 61 true, hB 0 22 [.arr .u8 32 a_0]] [b2 = true, CallOk P 34 [.v (.agg [.arr .u8 32 a1]), .v (.agg [.arr .u8 32 a1])] [] (.v (.agg [.arr .u8 32 a23])) [], CallOk P 33 [.v (.agg [.arr .u8 32 a_0])] [] (.v (.agg [.arr .u8 32 a25])) [], (!(decide (a23 = a25))) = true] (by kernel_rfl) (hcons hb22 (hcons (field_Mul_ok a1 a1 a23 e24) (hcons (field_Mod_ok a_0 a25 e26) (hone hb27)))) ?_
                refine q_k ?_
                refine tr_cond_t true (by kernel_rfl) rfl ?_
                refine tr_seq ?_
                refine tr_reg hT [] [.s 2] [sB 2 false] [] (by kernel_rfl) trivial ?_
                refine q_k ?_
                refine tr_ret ?_
                refine q_k_ret ?_
                have h := Option.some.inj h
                subst h
                exact q_ret0 hT (.v (.one (.bool false))) rfl (by kernel_rfl)
              · rcases ite_split h with ⟨hb29, h⟩ | ⟨hb30, h⟩
                · refine tr_regd hT hM [(1, .dec true), (4, .call (.v (.agg [.arr .u8 32 a23])) []), (6, .call (.v (.agg [.arr .u8 32 a25])) []), (8, .dec false), (14, .dec true)] [.s 1, .s 61, .h 0] [sO 1 (.ptr 0 0), sB 61 true, hB 0 22 [.arr .u8 32 a_0]] [b2 = true, CallOk P 34 [.v (.agg [.arr .u8 32 a1]), .v (.agg [.arr .u8 32 a1])] [] (.v (.agg [.arr .u8 32 a23])) [], CallOk P 33 [.v (.agg [.arr .u8 32 a_0])] [] (.v (.agg [.arr .u8 32 a25])) [], (!(decide (a23 = a25))) = false, 0 ≤ (0 : Int) ∧ (0 : Int) < ((32 : Nat) : Int), ((band .u8 (a1.getD 0 0) (1 : Int)) != (0 : Int)) = true] (by kernel_rfl) (hcons hb22 (hcons (field_Mul_ok a1 a1 a23 e24) (hcons (field_Mod_ok a_0 a25 e26) (hcons hb28 (hcons (by decide) (hone hb29)))))) ?_
                  refine q_k ?_
                  refine tr_cond_t true (by kernel_rfl) rfl ?_
                  refine tr_seq ?_
                  refine tr_reg hT [] [.s 2] [sB 2 false] [] (by kernel_rfl) trivial ?_
                  refine q_k ?_
                  refine tr_ret ?_
                  refine q_k_ret ?_
                  have h := Option.some.inj h
                  subst h
                  exact q_ret0 hT (.v (.one (.bool false))) rfl (by kernel_rfl)
                · obtain ⟨b31, e32, h⟩ := bind_some h
                  refine tr_regd hT hM [(1, .dec true), (4, .call (.v (.agg [.arr .u8 32 a23])) []), (6, .call (.v (.agg [.arr .u8 32 a25])) []), (8, .dec false), (14, .dec false), (16, .call (.v (.one (.bool b31))) [])] [.s 1, .s 61, .h 0] [sO 1 (.ptr 0 0), sB 61 (!b31), hB 0 22 [.arr .u8 32 a_0]] [b2 = true, CallOk P 34 [.v (.agg [.arr .u8 32 a1]), .v (.agg [.arr .u8 32 a1])] [] (.v (.agg [.arr .u8 32 a23])) [], CallOk P 33 [.v (.agg [.arr .u8 32 a_0])] [] (.v (.agg [.arr .u8 32 a25])) [], (!(decide (a23 = a25))) = false, 0 ≤ (0 : Int) ∧ (0 : Int) < ((32 : Nat) : Int), ((band .u8 (a1.getD 0 0) (1 : Int)) != (0 : Int)) = false, CallOk P 42 [.v (.agg [.arr .u8 32 a1])] [] (.v (.one (.bool b31))) []] (by kernel_rfl) (hcons hb22 (hcons (field_Mul_ok a1 a1 a23 e24) (hcons (field_Mod_ok a_0 a25 e26) (hcons hb28 (hcons (by decide) (hcons hb30 (hone (field_Check_ok a1 b31 e32)))))))) ?_
                  refine q_k ?_
                  rcases ite_split h with ⟨hc33, h⟩ | ⟨hc33, h⟩
                  · refine tr_cond_t (!b31) (by kernel_rfl) hc33 ?_
                    refine tr_seq ?_
                    refine tr_reg hT [] [.s 2] [sB 2 false] [] (by kernel_rfl) trivial ?_
                    refine q_k ?_
                    refine tr_ret ?_
                    refine q_k_ret ?_
                    have h := Option.some.inj h
                    subst h
                    exact q_ret0 hT (.v (.one (.bool false))) rfl (by kernel_rfl)
                  · refine tr_cond_f (!b31) (by kernel_rfl) hc33 ?_
                    refine tr_skip ?_
                    refine q_k ?_
                    refine tr_seq ?_
                    obtain ⟨a34, e35, h⟩ := bind_some h
                    refine tr_reg hT [(2, .call (.v (.agg [.arr .u8 32 a34])) []), (3, .key 3)] [.s 1, .s 7, .h 0, .h 3] [sO 1 (.ptr 0 0), sO 7 (.ptr 3 0), hB 0 22 [.arr .u8 32 a_0], hB 3 22 [.arr .u8 32 a34]] [CallOk P 34 [.v (.agg [.arr .u8 32 a_0]), .v (.agg [.arr .u8 32 a_0])] [] (.v (.agg [.arr .u8 32 a34])) []] (by kernel_rfl) (hone (field_Mul_ok a_0 a_0 a34 e35)) ?_
                    refine q_k ?_
                    refine tr_seq ?_
                    obtain ⟨⟨a36, b37⟩, e38, h⟩ := bind_some h
                    refine tr_reg hT [(1, .call (.tup [.agg [.arr .u8 32 a36], .one (.bool b37)]) []), (5, .key 4)] [.s 1, .s 4, .s 8, .h 0, .h 4] [sO 1 (.ptr 0 0), sB 4 b37, sO 8 (.ptr 4 0), hB 0 22 [.arr .u8 32 a_0], hB 4 22 [.arr .u8 32 a36]] [CallOk P 52 [.v (.agg [.arr .u8 32 a34])] [] (.tup [.agg [.arr .u8 32 a36], .one (.bool b37)]) []] (by kernel_rfl) (hone (field_Root_ok a34 (a36, b37) e38)) ?_
                    refine q_k ?_
                    refine tr_seq ?_
                    obtain ⟨a40, e41, h⟩ := bind_some h
                    refine tr_reg hT [(1, .call (.v (.agg [.arr .u8 32 a40])) []), (2, .key 5)] [.s 4, .s 8, .s 9, .h 4, .h 5] [sB 4 b37, sO 8 (.ptr 4 0), sO 9 (.ptr 5 0), hB 4 22 [.arr .u8 32 a36], hB 5 22 [.arr .u8 32 a40]] [CallOk P 33 [.v (.agg [.arr .u8 32 a_0])] [] (.v (.agg [.arr .u8 32 a40])) []] (by kernel_rfl) (hone (field_Mod_ok a_0 a40 e41)) ?_
                    refine q_k ?_
                    refine tr_seq ?_
                    rcases ite_split h with ⟨hb42, h⟩ | ⟨hb55, h⟩
                    · rcases ite_split h with ⟨hb43, h⟩ | ⟨hb46, h⟩
                      · obtain ⟨b44, e45, h⟩ := bind_some h
                        refine tr_regd hT hM [(1, .dec true), (5, .dec true), (14, .call (.v (.one (.bool b44))) [])] [.s 2] [sB 2 b44] [b37 = true, (decide (a36 = a40)) = true, CallOk P 35 [] [] (.v (.one (.bool b44))) []] (by kernel_rfl) (hcons hb42 (hcons hb43 (hone (law04_wakes_ok  b44 e45)))) ?_
                        refine q_k ?_
                        refine tr_ret ?_
                        have h := Option.some.inj h
                        subst h
                        exact q_ret0 hT (.v (.one (.bool b44))) rfl (by kernel_rfl)
                      · obtain ⟨a47, e48, h⟩ := bind_some h
                        obtain ⟨a49, e50, h⟩ := bind_some h
                        rcases ite_split h with ⟨hb51, h⟩ | ⟨hb54, h⟩
                        · obtain ⟨b52, e53, h⟩ := bind_some h
                          refine tr_regd hT hM [(1, .dec true), (5, .dec false), (7, .call (.v (.agg [.arr .u8 32 a47])) []), (9, .call (.v (.agg [.arr .u8 32 a49])) []), (13, .dec true), (14, .call (.v (.one (.bool b52))) [])] [.s 2] [sB 2 b52] [b37 = true, (decide (a36 = a40)) = false, CallOk P 26 [.v (.one (.int .i64 (0 : Int)))] [] (.v (.agg [.arr .u8 32 a47])) [], CallOk P 41 [.v (.agg [.arr .u8 32 a47]), .v (.agg [.arr .u8 32 a40])] [] (.v (.agg [.arr .u8 32 a49])) [], (decide (a36 = a49)) = true, CallOk P 35 [] [] (.v (.one (.bool b52))) []] (by kernel_rfl) (hcons hb42 (hcons hb46 (hcons (law04_Num_ok (0 : Int) a47 e48) (hcons (field_Sub_ok a47 a40 a49 e50) (hcons hb51 (hone (law04_wakes_ok  b52 e53))))))) ?_
                          refine q_k ?_
                          refine tr_ret ?_
                          have h := Option.some.inj h
                          subst h
                          exact q_ret0 hT (.v (.one (.bool b52))) rfl (by kernel_rfl)
                        · refine tr_regd hT hM [(1, .dec true), (5, .dec false), (7, .call (.v (.agg [.arr .u8 32 a47])) []), (9, .call (.v (.agg [.arr .u8 32 a49])) []), (13, .dec false)] [.s 2] [sB 2 false] [b37 = true, (decide (a36 = a40)) = false, CallOk P 26 [.v (.one (.int .i64 (0 : Int)))] [] (.v (.agg [.arr .u8 32 a47])) [], CallOk P 41 [.v (.agg [.arr .u8 32 a47]), .v (.agg [.arr .u8 32 a40])] [] (.v (.agg [.arr .u8 32 a49])) [], (decide (a36 = a49)) = false] (by kernel_rfl) (hcons hb42 (hcons hb46 (hcons (law04_Num_ok (0 : Int) a47 e48) (hcons (field_Sub_ok a47 a40 a49 e50) (hone hb54))))) ?_
                          refine q_k ?_
                          refine tr_ret ?_
                          have h := Option.some.inj h
                          subst h
                          exact q_ret0 hT (.v (.one (.bool false))) rfl (by kernel_rfl)
                    · refine tr_regd hT hM [(1, .dec false)] [.s 2] [sB 2 false] [b37 = false] (by kernel_rfl) (hone hb55) ?_
                      refine q_k ?_
                      refine tr_ret ?_
                      have h := Option.some.inj h
                      subst h
                      exact q_ret0 hT (.v (.one (.bool false))) rfl (by kernel_rfl)
            · refine tr_regd hT hM [(1, .dec false)] [.s 1, .s 61, .h 0] [sO 1 (.ptr 0 0), sB 61 false, hB 0 22 [.arr .u8 32 a_0]] [b2 = false] (by kernel_rfl) (hone hb56) ?_
              refine q_k ?_
              refine tr_cond_f false (by kernel_rfl) rfl ?_
              refine tr_skip ?_
              refine q_k ?_
              refine tr_seq ?_
              obtain ⟨a57, e58, h⟩ := bind_some h
              refine tr_reg hT [(2, .call (.v (.agg [.arr .u8 32 a57])) []), (3, .key 6)] [.s 1, .s 7, .h 0, .h 6] [sO 1 (.ptr 0 0), sO 7 (.ptr 6 0), hB 0 22 [.arr .u8 32 a_0], hB 6 22 [.arr .u8 32 a57]] [CallOk P 34 [.v (.agg [.arr .u8 32 a_0]), .v (.agg [.arr .u8 32 a_0])] [] (.v (.agg [.arr .u8 32 a57])) []] (by kernel_rfl) (hone (field_Mul_ok a_0 a_0 a57 e58)) ?_
              refine q_k ?_
              refine tr_seq ?_
              obtain ⟨⟨a59, b60⟩, e61, h⟩ := bind_some h
              refine tr_reg hT [(1, .call (.tup [.agg [.arr .u8 32 a59], .one (.bool b60)]) []), (5, .key 7)] [.s 1, .s 4, .s 8, .h 0, .h 7] [sO 1 (.ptr 0 0), sB 4 b60, sO 8 (.ptr 7 0), hB 0 22 [.arr .u8 32 a_0], hB 7 22 [.arr .u8 32 a59]] [CallOk P 52 [.v (.agg [.arr .u8 32 a57])] [] (.tup [.agg [.arr .u8 32 a59], .one (.bool b60)]) []] (by kernel_rfl) (hone (field_Root_ok a57 (a59, b60) e61)) ?_
              refine q_k ?_
              refine tr_seq ?_
              obtain ⟨a63, e64, h⟩ := bind_some h
              refine tr_reg hT [(1, .call (.v (.agg [.arr .u8 32 a63])) []), (2, .key 8)] [.s 4, .s 8, .s 9, .h 7, .h 8] [sB 4 b60, sO 8 (.ptr 7 0), sO 9 (.ptr 8 0), hB 7 22 [.arr .u8 32 a59], hB 8 22 [.arr .u8 32 a63]] [CallOk P 33 [.v (.agg [.arr .u8 32 a_0])] [] (.v (.agg [.arr .u8 32 a63])) []] (by kernel_rfl) (hone (field_Mod_ok a_0 a63 e64)) ?_
              refine q_k ?_
              refine tr_seq ?_
              rcases ite_split h with ⟨hb65, h⟩ | ⟨hb78, h⟩
              · rcases ite_split h with ⟨hb66, h⟩ | ⟨hb69, h⟩
                · obtain ⟨b67, e68, h⟩ := bind_some h
                  refine tr_regd hT hM [(1, .dec true), (5, .dec true), (14, .call (.v (.one (.bool b67))) [])] [.s 2] [sB 2 b67] [b60 = true, (decide (a59 = a63)) = true, CallOk P 35 [] [] (.v (.one (.bool b67))) []] (by kernel_rfl) (hcons hb65 (hcons hb66 (hone (law04_wakes_ok  b67 e68)))) ?_
                  refine q_k ?_
                  refine tr_ret ?_
                  have h := Option.some.inj h
                  subst h
                  exact q_ret0 hT (.v (.one (.bool b67))) rfl (by kernel_rfl)
                · obtain ⟨a70, e71, h⟩ := bind_some h
                  obtain ⟨a72, e73, h⟩ := bind_some h
                  rcases ite_split h with ⟨hb74, h⟩ | ⟨hb77, h⟩
                  · obtain ⟨b75, e76, h⟩ := bind_some h
                    refine tr_regd hT hM [(1, .dec true), (5, .dec false), (7, .call (.v (.agg [.arr .u8 32 a70])) []), (9, .call (.v (.agg [.arr .u8 32 a72])) []), (13, .dec true), (14, .call (.v (.one (.bool b75))) [])] [.s 2] [sB 2 b75] [b60 = true, (decide (a59 = a63)) = false, CallOk P 26 [.v (.one (.int .i64 (0 : Int)))] [] (.v (.agg [.arr .u8 32 a70])) [], CallOk P 41 [.v (.agg [.arr .u8 32 a70]), .v (.agg [.arr .u8 32 a63])] [] (.v (.agg [.arr .u8 32 a72])) [], (decide (a59 = a72)) = true, CallOk P 35 [] [] (.v (.one (.bool b75))) []] (by kernel_rfl) (hcons hb65 (hcons hb69 (hcons (law04_Num_ok (0 : Int) a70 e71) (hcons (field_Sub_ok a70 a63 a72 e73) (hcons hb74 (hone (law04_wakes_ok  b75 e76))))))) ?_
                    refine q_k ?_
                    refine tr_ret ?_
                    have h := Option.some.inj h
                    subst h
                    exact q_ret0 hT (.v (.one (.bool b75))) rfl (by kernel_rfl)
                  · refine tr_regd hT hM [(1, .dec true), (5, .dec false), (7, .call (.v (.agg [.arr .u8 32 a70])) []), (9, .call (.v (.agg [.arr .u8 32 a72])) []), (13, .dec false)] [.s 2] [sB 2 false] [b60 = true, (decide (a59 = a63)) = false, CallOk P 26 [.v (.one (.int .i64 (0 : Int)))] [] (.v (.agg [.arr .u8 32 a70])) [], CallOk P 41 [.v (.agg [.arr .u8 32 a70]), .v (.agg [.arr .u8 32 a63])] [] (.v (.agg [.arr .u8 32 a72])) [], (decide (a59 = a72)) = false] (by kernel_rfl) (hcons hb65 (hcons hb69 (hcons (law04_Num_ok (0 : Int) a70 e71) (hcons (field_Sub_ok a70 a63 a72 e73) (hone hb77))))) ?_
                    refine q_k ?_
                    refine tr_ret ?_
                    have h := Option.some.inj h
                    subst h
                    exact q_ret0 hT (.v (.one (.bool false))) rfl (by kernel_rfl)
              · refine tr_regd hT hM [(1, .dec false)] [.s 2] [sB 2 false] [b60 = false] (by kernel_rfl) (hone hb78) ?_
                refine q_k ?_
                refine tr_ret ?_
                have h := Option.some.inj h
                subst h
                exact q_ret0 hT (.v (.one (.bool false))) rfl (by kernel_rfl)
        · refine tr_regd hT hM [(3, .dec false), (5, .dec true), (8, .call (.v (.agg [.arr .u8 32 a14])) []), (12, .dec false), (15, .dec false)] [.s 1, .s 3, .s 4, .s 41, .h 0, .h 1] [sO 1 (.ptr 0 0), sO 3 (.ptr 1 0), sB 4 b2, sB 41 false, hB 0 22 [.arr .u8 32 a_0], hB 1 22 [.arr .u8 32 a1]] [(!(b2 == b8)) = false, b2 = true, CallOk P 29 [.v (.agg [.arr .u64 4 a7])] [] (.v (.agg [.arr .u8 32 a14])) [], (!(decide (a1 = a14))) = false, (!b2) = false] (by kernel_rfl) (hcons hb12 (hcons hb13 (hcons (ref04_Bytes_ok a7 a14 e15) (hcons hb17 (hone hb79))))) ?_
          refine q_k ?_
          refine tr_cond_f false (by kernel_rfl) rfl ?_
          refine tr_skip ?_
          refine q_k ?_
          refine tr_seq ?_
          refine tr_seq ?_
          rcases ite_split h with ⟨hb80, h⟩ | ⟨hb114, h⟩
          · obtain ⟨a81, e82, h⟩ := bind_some h
            obtain ⟨a83, e84, h⟩ := bind_some h
            rcases ite_split h with ⟨hb85, h⟩ | ⟨hb86, h⟩
            · refine tr_regd hT hM [(1, .dec true), (4, .call (.v (.agg [.arr .u8 32 a81])) []), (6, .call (.v (.agg [.arr .u8 32 a83])) []), (8, .dec true)] [.s 1, .s 61, .h 0] [sO 1 (.ptr 0 0), sB 61 true, hB 0 22 [.arr .u8 32 a_0]] [b2 = true, CallOk P 34 [.v (.agg [.arr .u8 32 a1]), .v (.agg [.arr .u8 32 a1])] [] (.v (.agg [.arr .u8 32 a81])) [], CallOk P 33 [.v (.agg [.arr .u8 32 a_0])] [] (.v (.agg [.arr .u8 32 a83])) [], (!(decide (a81 = a83))) = true] (by kernel_rfl) (hcons hb80 (hcons (field_Mul_ok a1 a1 a81 e82) (hcons (field_Mod_ok a_0 a83 e84) (hone hb85)))) ?_
              refine q_k ?_
              refine tr_cond_t true (by kernel_rfl) rfl ?_
              refine tr_seq ?_
              refine tr_reg hT [] [.s 2] [sB 2 false] [] (by kernel_rfl) trivial ?_
              refine q_k ?_
              refine tr_ret ?_
              refine q_k_ret ?_
              have h := Option.some.inj h
              subst h
              exact q_ret0 hT (.v (.one (.bool false))) rfl (by kernel_rfl)
            · rcases ite_split h with ⟨hb87, h⟩ | ⟨hb88, h⟩
              · refine tr_regd hT hM [(1, .dec true), (4, .call (.v (.agg [.arr .u8 32 a81])) []), (6, .call (.v (.agg [.arr .u8 32 a83])) []), (8, .dec false), (14, .dec true)] [.s 1, .s 61, .h 0] [sO 1 (.ptr 0 0), sB 61 true, hB 0 22 [.arr .u8 32 a_0]] [b2 = true, CallOk P 34 [.v (.agg [.arr .u8 32 a1]), .v (.agg [.arr .u8 32 a1])] [] (.v (.agg [.arr .u8 32 a81])) [], CallOk P 33 [.v (.agg [.arr .u8 32 a_0])] [] (.v (.agg [.arr .u8 32 a83])) [], (!(decide (a81 = a83))) = false, 0 ≤ (0 : Int) ∧ (0 : Int) < ((32 : Nat) : Int), ((band .u8 (a1.getD 0 0) (1 : Int)) != (0 : Int)) = true] (by kernel_rfl) (hcons hb80 (hcons (field_Mul_ok a1 a1 a81 e82) (hcons (field_Mod_ok a_0 a83 e84) (hcons hb86 (hcons (by decide) (hone hb87)))))) ?_
                refine q_k ?_
                refine tr_cond_t true (by kernel_rfl) rfl ?_
                refine tr_seq ?_
                refine tr_reg hT [] [.s 2] [sB 2 false] [] (by kernel_rfl) trivial ?_
                refine q_k ?_
                refine tr_ret ?_
                refine q_k_ret ?_
                have h := Option.some.inj h
                subst h
                exact q_ret0 hT (.v (.one (.bool false))) rfl (by kernel_rfl)
              · obtain ⟨b89, e90, h⟩ := bind_some h
                refine tr_regd hT hM [(1, .dec true), (4, .call (.v (.agg [.arr .u8 32 a81])) []), (6, .call (.v (.agg [.arr .u8 32 a83])) []), (8, .dec false), (14, .dec false), (16, .call (.v (.one (.bool b89))) [])] [.s 1, .s 61, .h 0] [sO 1 (.ptr 0 0), sB 61 (!b89), hB 0 22 [.arr .u8 32 a_0]] [b2 = true, CallOk P 34 [.v (.agg [.arr .u8 32 a1]), .v (.agg [.arr .u8 32 a1])] [] (.v (.agg [.arr .u8 32 a81])) [], CallOk P 33 [.v (.agg [.arr .u8 32 a_0])] [] (.v (.agg [.arr .u8 32 a83])) [], (!(decide (a81 = a83))) = false, 0 ≤ (0 : Int) ∧ (0 : Int) < ((32 : Nat) : Int), ((band .u8 (a1.getD 0 0) (1 : Int)) != (0 : Int)) = false, CallOk P 42 [.v (.agg [.arr .u8 32 a1])] [] (.v (.one (.bool b89))) []] (by kernel_rfl) (hcons hb80 (hcons (field_Mul_ok a1 a1 a81 e82) (hcons (field_Mod_ok a_0 a83 e84) (hcons hb86 (hcons (by decide) (hcons hb88 (hone (field_Check_ok a1 b89 e90)))))))) ?_
                refine q_k ?_
                rcases ite_split h with ⟨hc91, h⟩ | ⟨hc91, h⟩
                · refine tr_cond_t (!b89) (by kernel_rfl) hc91 ?_
                  refine tr_seq ?_
                  refine tr_reg hT [] [.s 2] [sB 2 false] [] (by kernel_rfl) trivial ?_
                  refine q_k ?_
                  refine tr_ret ?_
                  refine q_k_ret ?_
                  have h := Option.some.inj h
                  subst h
                  exact q_ret0 hT (.v (.one (.bool false))) rfl (by kernel_rfl)
                · refine tr_cond_f (!b89) (by kernel_rfl) hc91 ?_
                  refine tr_skip ?_
                  refine q_k ?_
                  refine tr_seq ?_
                  obtain ⟨a92, e93, h⟩ := bind_some h
                  refine tr_reg hT [(2, .call (.v (.agg [.arr .u8 32 a92])) []), (3, .key 9)] [.s 1, .s 7, .h 0, .h 9] [sO 1 (.ptr 0 0), sO 7 (.ptr 9 0), hB 0 22 [.arr .u8 32 a_0], hB 9 22 [.arr .u8 32 a92]] [CallOk P 34 [.v (.agg [.arr .u8 32 a_0]), .v (.agg [.arr .u8 32 a_0])] [] (.v (.agg [.arr .u8 32 a92])) []] (by kernel_rfl) (hone (field_Mul_ok a_0 a_0 a92 e93)) ?_
                  refine q_k ?_
                  refine tr_seq ?_
                  obtain ⟨⟨a94, b95⟩, e96, h⟩ := bind_some h
                  refine tr_reg hT [(1, .call (.tup [.agg [.arr .u8 32 a94], .one (.bool b95)]) []), (5, .key 10)] [.s 1, .s 4, .s 8, .h 0, .h 10] [sO 1 (.ptr 0 0), sB 4 b95, sO 8 (.ptr 10 0), hB 0 22 [.arr .u8 32 a_0], hB 10 22 [.arr .u8 32 a94]] [CallOk P 52 [.v (.agg [.arr .u8 32 a92])] [] (.tup [.agg [.arr .u8 32 a94], .one (.bool b95)]) []] (by kernel_rfl) (hone (field_Root_ok a92 (a94, b95) e96)) ?_
                  refine q_k ?_
                  refine tr_seq ?_
                  obtain ⟨a98, e99, h⟩ := bind_some h
                  refine tr_reg hT [(1, .call (.v (.agg [.arr .u8 32 a98])) []), (2, .key 11)] [.s 4, .s 8, .s 9, .h 10, .h 11] [sB 4 b95, sO 8 (.ptr 10 0), sO 9 (.ptr 11 0), hB 10 22 [.arr .u8 32 a94], hB 11 22 [.arr .u8 32 a98]] [CallOk P 33 [.v (.agg [.arr .u8 32 a_0])] [] (.v (.agg [.arr .u8 32 a98])) []] (by kernel_rfl) (hone (field_Mod_ok a_0 a98 e99)) ?_
                  refine q_k ?_
                  refine tr_seq ?_
                  rcases ite_split h with ⟨hb100, h⟩ | ⟨hb113, h⟩
                  · rcases ite_split h with ⟨hb101, h⟩ | ⟨hb104, h⟩
                    · obtain ⟨b102, e103, h⟩ := bind_some h
                      refine tr_regd hT hM [(1, .dec true), (5, .dec true), (14, .call (.v (.one (.bool b102))) [])] [.s 2] [sB 2 b102] [b95 = true, (decide (a94 = a98)) = true, CallOk P 35 [] [] (.v (.one (.bool b102))) []] (by kernel_rfl) (hcons hb100 (hcons hb101 (hone (law04_wakes_ok  b102 e103)))) ?_
                      refine q_k ?_
                      refine tr_ret ?_
                      have h := Option.some.inj h
                      subst h
                      exact q_ret0 hT (.v (.one (.bool b102))) rfl (by kernel_rfl)
                    · obtain ⟨a105, e106, h⟩ := bind_some h
                      obtain ⟨a107, e108, h⟩ := bind_some h
                      rcases ite_split h with ⟨hb109, h⟩ | ⟨hb112, h⟩
                      · obtain ⟨b110, e111, h⟩ := bind_some h
                        refine tr_regd hT hM [(1, .dec true), (5, .dec false), (7, .call (.v (.agg [.arr .u8 32 a105])) []), (9, .call (.v (.agg [.arr .u8 32 a107])) []), (13, .dec true), (14, .call (.v (.one (.bool b110))) [])] [.s 2] [sB 2 b110] [b95 = true, (decide (a94 = a98)) = false, CallOk P 26 [.v (.one (.int .i64 (0 : Int)))] [] (.v (.agg [.arr .u8 32 a105])) [], CallOk P 41 [.v (.agg [.arr .u8 32 a105]), .v (.agg [.arr .u8 32 a98])] [] (.v (.agg [.arr .u8 32 a107])) [], (decide (a94 = a107)) = true, CallOk P 35 [] [] (.v (.one (.bool b110))) []] (by kernel_rfl) (hcons hb100 (hcons hb104 (hcons (law04_Num_ok (0 : Int) a105 e106) (hcons (field_Sub_ok a105 a98 a107 e108) (hcons hb109 (hone (law04_wakes_ok  b110 e111))))))) ?_
                        refine q_k ?_
                        refine tr_ret ?_
                        have h := Option.some.inj h
                        subst h
                        exact q_ret0 hT (.v (.one (.bool b110))) rfl (by kernel_rfl)
                      · refine tr_regd hT hM [(1, .dec true), (5, .dec false), (7, .call (.v (.agg [.arr .u8 32 a105])) []), (9, .call (.v (.agg [.arr .u8 32 a107])) []), (13, .dec false)] [.s 2] [sB 2 false] [b95 = true, (decide (a94 = a98)) = false, CallOk P 26 [.v (.one (.int .i64 (0 : Int)))] [] (.v (.agg [.arr .u8 32 a105])) [], CallOk P 41 [.v (.agg [.arr .u8 32 a105]), .v (.agg [.arr .u8 32 a98])] [] (.v (.agg [.arr .u8 32 a107])) [], (decide (a94 = a107)) = false] (by kernel_rfl) (hcons hb100 (hcons hb104 (hcons (law04_Num_ok (0 : Int) a105 e106) (hcons (field_Sub_ok a105 a98 a107 e108) (hone hb112))))) ?_
                        refine q_k ?_
                        refine tr_ret ?_
                        have h := Option.some.inj h
                        subst h
                        exact q_ret0 hT (.v (.one (.bool false))) rfl (by kernel_rfl)
                  · refine tr_regd hT hM [(1, .dec false)] [.s 2] [sB 2 false] [b95 = false] (by kernel_rfl) (hone hb113) ?_
                    refine q_k ?_
                    refine tr_ret ?_
                    have h := Option.some.inj h
                    subst h
                    exact q_ret0 hT (.v (.one (.bool false))) rfl (by kernel_rfl)
          · refine tr_regd hT hM [(1, .dec false)] [.s 1, .s 61, .h 0] [sO 1 (.ptr 0 0), sB 61 false, hB 0 22 [.arr .u8 32 a_0]] [b2 = false] (by kernel_rfl) (hone hb114) ?_
            refine q_k ?_
            refine tr_cond_f false (by kernel_rfl) rfl ?_
            refine tr_skip ?_
            refine q_k ?_
            refine tr_seq ?_
            obtain ⟨a115, e116, h⟩ := bind_some h
            refine tr_reg hT [(2, .call (.v (.agg [.arr .u8 32 a115])) []), (3, .key 12)] [.s 1, .s 7, .h 0, .h 12] [sO 1 (.ptr 0 0), sO 7 (.ptr 12 0), hB 0 22 [.arr .u8 32 a_0], hB 12 22 [.arr .u8 32 a115]] [CallOk P 34 [.v (.agg [.arr .u8 32 a_0]), .v (.agg [.arr .u8 32 a_0])] [] (.v (.agg [.arr .u8 32 a115])) []] (by kernel_rfl) (hone (field_Mul_ok a_0 a_0 a115 e116)) ?_
            refine q_k ?_
            refine tr_seq ?_
            obtain ⟨⟨a117, b118⟩, e119, h⟩ := bind_some h
            refine tr_reg hT [(1, .call (.tup [.agg [.arr .u8 32 a117], .one (.bool b118)]) []), (5, .key 13)] [.s 1, .s 4, .s 8, .h 0, .h 13] [sO 1 (.ptr 0 0), sB 4 b118, sO 8 (.ptr 13 0), hB 0 22 [.arr .u8 32 a_0], hB 13 22 [.arr .u8 32 a117]] [CallOk P 52 [.v (.agg [.arr .u8 32 a115])] [] (.tup [.agg [.arr .u8 32 a117], .one (.bool b118)]) []] (by kernel_rfl) (hone (field_Root_ok a115 (a117, b118) e119)) ?_
            refine q_k ?_
            refine tr_seq ?_
            obtain ⟨a121, e122, h⟩ := bind_some h
            refine tr_reg hT [(1, .call (.v (.agg [.arr .u8 32 a121])) []), (2, .key 14)] [.s 4, .s 8, .s 9, .h 13, .h 14] [sB 4 b118, sO 8 (.ptr 13 0), sO 9 (.ptr 14 0), hB 13 22 [.arr .u8 32 a117], hB 14 22 [.arr .u8 32 a121]] [CallOk P 33 [.v (.agg [.arr .u8 32 a_0])] [] (.v (.agg [.arr .u8 32 a121])) []] (by kernel_rfl) (hone (field_Mod_ok a_0 a121 e122)) ?_
            refine q_k ?_
            refine tr_seq ?_
            rcases ite_split h with ⟨hb123, h⟩ | ⟨hb136, h⟩
            · rcases ite_split h with ⟨hb124, h⟩ | ⟨hb127, h⟩
              · obtain ⟨b125, e126, h⟩ := bind_some h
                refine tr_regd hT hM [(1, .dec true), (5, .dec true), (14, .call (.v (.one (.bool b125))) [])] [.s 2] [sB 2 b125] [b118 = true, (decide (a117 = a121)) = true, CallOk P 35 [] [] (.v (.one (.bool b125))) []] (by kernel_rfl) (hcons hb123 (hcons hb124 (hone (law04_wakes_ok  b125 e126)))) ?_
                refine q_k ?_
                refine tr_ret ?_
                have h := Option.some.inj h
                subst h
                exact q_ret0 hT (.v (.one (.bool b125))) rfl (by kernel_rfl)
              · obtain ⟨a128, e129, h⟩ := bind_some h
                obtain ⟨a130, e131, h⟩ := bind_some h
                rcases ite_split h with ⟨hb132, h⟩ | ⟨hb135, h⟩
                · obtain ⟨b133, e134, h⟩ := bind_some h
                  refine tr_regd hT hM [(1, .dec true), (5, .dec false), (7, .call (.v (.agg [.arr .u8 32 a128])) []), (9, .call (.v (.agg [.arr .u8 32 a130])) []), (13, .dec true), (14, .call (.v (.one (.bool b133))) [])] [.s 2] [sB 2 b133] [b118 = true, (decide (a117 = a121)) = false, CallOk P 26 [.v (.one (.int .i64 (0 : Int)))] [] (.v (.agg [.arr .u8 32 a128])) [], CallOk P 41 [.v (.agg [.arr .u8 32 a128]), .v (.agg [.arr .u8 32 a121])] [] (.v (.agg [.arr .u8 32 a130])) [], (decide (a117 = a130)) = true, CallOk P 35 [] [] (.v (.one (.bool b133))) []] (by kernel_rfl) (hcons hb123 (hcons hb127 (hcons (law04_Num_ok (0 : Int) a128 e129) (hcons (field_Sub_ok a128 a121 a130 e131) (hcons hb132 (hone (law04_wakes_ok  b133 e134))))))) ?_
                  refine q_k ?_
                  refine tr_ret ?_
                  have h := Option.some.inj h
                  subst h
                  exact q_ret0 hT (.v (.one (.bool b133))) rfl (by kernel_rfl)
                · refine tr_regd hT hM [(1, .dec true), (5, .dec false), (7, .call (.v (.agg [.arr .u8 32 a128])) []), (9, .call (.v (.agg [.arr .u8 32 a130])) []), (13, .dec false)] [.s 2] [sB 2 false] [b118 = true, (decide (a117 = a121)) = false, CallOk P 26 [.v (.one (.int .i64 (0 : Int)))] [] (.v (.agg [.arr .u8 32 a128])) [], CallOk P 41 [.v (.agg [.arr .u8 32 a128]), .v (.agg [.arr .u8 32 a121])] [] (.v (.agg [.arr .u8 32 a130])) [], (decide (a117 = a130)) = false] (by kernel_rfl) (hcons hb123 (hcons hb127 (hcons (law04_Num_ok (0 : Int) a128 e129) (hcons (field_Sub_ok a128 a121 a130 e131) (hone hb135))))) ?_
                  refine q_k ?_
                  refine tr_ret ?_
                  have h := Option.some.inj h
                  subst h
                  exact q_ret0 hT (.v (.one (.bool false))) rfl (by kernel_rfl)
            · refine tr_regd hT hM [(1, .dec false)] [.s 2] [sB 2 false] [b118 = false] (by kernel_rfl) (hone hb136) ?_
              refine q_k ?_
              refine tr_ret ?_
              have h := Option.some.inj h
              subst h
              exact q_ret0 hT (.v (.one (.bool false))) rfl (by kernel_rfl)
    · rcases ite_split h with ⟨hb138, h⟩ | ⟨hb199, h⟩
      · obtain ⟨a139, e140, h⟩ := bind_some h
        refine tr_regd hT hM [(3, .dec false), (5, .dec false), (15, .dec true), (17, .call (.v (.agg [.arr .u8 32 a139])) [])] [.s 1, .s 3, .s 4, .s 41, .h 0, .h 1] [sO 1 (.ptr 0 0), sO 3 (.ptr 1 0), sB 4 b2, sB 41 (!(decide (a1 = a139))), hB 0 22 [.arr .u8 32 a_0], hB 1 22 [.arr .u8 32 a1]] [(!(b2 == b8)) = false, b2 = false, (!b2) = true, CallOk P 26 [.v (.one (.int .i64 (0 : Int)))] [] (.v (.agg [.arr .u8 32 a139])) []] (by kernel_rfl) (hcons hb12 (hcons hb137 (hcons hb138 (hone (law04_Num_ok (0 : Int) a139 e140))))) ?_
        refine q_k ?_
        rcases ite_split h with ⟨hc141, h⟩ | ⟨hc141, h⟩
        · refine tr_cond_t (!(decide (a1 = a139))) (by kernel_rfl) hc141 ?_
          refine tr_seq ?_
          refine tr_reg hT [] [.s 2] [sB 2 false] [] (by kernel_rfl) trivial ?_
          refine q_k ?_
          refine tr_ret ?_
          refine q_k_ret ?_
          have h := Option.some.inj h
          subst h
          exact q_ret0 hT (.v (.one (.bool false))) rfl (by kernel_rfl)
        · refine tr_cond_f (!(decide (a1 = a139))) (by kernel_rfl) hc141 ?_
          refine tr_skip ?_
          refine q_k ?_
          refine tr_seq ?_
          refine tr_seq ?_
          rcases ite_split h with ⟨hb142, h⟩ | ⟨hb176, h⟩
          · obtain ⟨a143, e144, h⟩ := bind_some h
            obtain ⟨a145, e146, h⟩ := bind_some h
            rcases ite_split h with ⟨hb147, h⟩ | ⟨hb148, h⟩
            · refine tr_regd hT hM [(1, .dec true), (4, .call (.v (.agg [.arr .u8 32 a143])) []), (6, .call (.v (.agg [.arr .u8 32 a145])) []), (8, .dec true)] [.s 1, .s 61, .h 0] [sO 1 (.ptr 0 0), sB 61 true, hB 0 22 [.arr .u8 32 a_0]] [b2 = true, CallOk P 34 [.v (.agg [.arr .u8 32 a1]), .v (.agg [.arr .u8 32 a1])] [] (.v (.agg [.arr .u8 32 a143])) [], CallOk P 33 [.v (.agg [.arr .u8 32 a_0])] [] (.v (.agg [.arr .u8 32 a145])) [], (!(decide (a143 = a145))) = true] (by kernel_rfl) (hcons hb142 (hcons (field_Mul_ok a1 a1 a143 e144) (hcons (field_Mod_ok a_0 a145 e146) (hone hb147)))) ?_
              refine q_k ?_
              refine tr_cond_t true (by kernel_rfl) rfl ?_
              refine tr_seq ?_
              refine tr_reg hT [] [.s 2] [sB 2 false] [] (by kernel_rfl) trivial ?_
              refine q_k ?_
              refine tr_ret ?_
              refine q_k_ret ?_
              have h := Option.some.inj h
              subst h
              exact q_ret0 hT (.v (.one (.bool false))) rfl (by kernel_rfl)
            · rcases ite_split h with ⟨hb149, h⟩ | ⟨hb150, h⟩
              · refine tr_regd hT hM [(1, .dec true), (4, .call (.v (.agg [.arr .u8 32 a143])) []), (6, .call (.v (.agg [.arr .u8 32 a145])) []), (8, .dec false), (14, .dec true)] [.s 1, .s 61, .h 0] [sO 1 (.ptr 0 0), sB 61 true, hB 0 22 [.arr .u8 32 a_0]] [b2 = true, CallOk P 34 [.v (.agg [.arr .u8 32 a1]), .v (.agg [.arr .u8 32 a1])] [] (.v (.agg [.arr .u8 32 a143])) [], CallOk P 33 [.v (.agg [.arr .u8 32 a_0])] [] (.v (.agg [.arr .u8 32 a145])) [], (!(decide (a143 = a145))) = false, 0 ≤ (0 : Int) ∧ (0 : Int) < ((32 : Nat) : Int), ((band .u8 (a1.getD 0 0) (1 : Int)) != (0 : Int)) = true] (by kernel_rfl) (hcons hb142 (hcons (field_Mul_ok a1 a1 a143 e144) (hcons (field_Mod_ok a_0 a145 e146) (hcons hb148 (hcons (by decide) (hone hb149)))))) ?_
                refine q_k ?_
                refine tr_cond_t true (by kernel_rfl) rfl ?_
                refine tr_seq ?_
                refine tr_reg hT [] [.s 2] [sB 2 false] [] (by kernel_rfl) trivial ?_
                refine q_k ?_
                refine tr_ret ?_
                refine q_k_ret ?_
                have h := Option.some.inj h
                subst h
                exact q_ret0 hT (.v (.one (.bool false))) rfl (by kernel_rfl)
              · obtain ⟨b151, e152, h⟩ := bind_some h
                refine tr_regd hT hM [(1, .dec true), (4, .call (.v (.agg [.arr .u8 32 a143])) []), (6, .call (.v (.agg [.arr .u8 32 a145])) []), (8, .dec false), (14, .dec false), (16, .call (.v (.one (.bool b151))) [])] [.s 1, .s 61, .h 0] [sO 1 (.ptr 0 0), sB 61 (!b151), hB 0 22 [.arr .u8 32 a_0]] [b2 = true, CallOk P 34 [.v (.agg [.arr .u8 32 a1]), .v (.agg [.arr .u8 32 a1])] [] (.v (.agg [.arr .u8 32 a143])) [], CallOk P 33 [.v (.agg [.arr .u8 32 a_0])] [] (.v (.agg [.arr .u8 32 a145])) [], (!(decide (a143 = a145))) = false, 0 ≤ (0 : Int) ∧ (0 : Int) < ((32 : Nat) : Int), ((band .u8 (a1.getD 0 0) (1 : Int)) != (0 : Int)) = false, CallOk P 42 [.v (.agg [.arr .u8 32 a1])] [] (.v (.one (.bool b151))) []] (by kernel_rfl) (hcons hb142 (hcons (field_Mul_ok a1 a1 a143 e144) (hcons (field_Mod_ok a_0 a145 e146) (hcons hb148 (hcons (by decide) (hcons hb150 (hone (field_Check_ok a1 b151 e152)))))))) ?_
                refine q_k ?_
                rcases ite_split h with ⟨hc153, h⟩ | ⟨hc153, h⟩
                · refine tr_cond_t (!b151) (by kernel_rfl) hc153 ?_
                  refine tr_seq ?_
                  refine tr_reg hT [] [.s 2] [sB 2 false] [] (by kernel_rfl) trivial ?_
                  refine q_k ?_
                  refine tr_ret ?_
                  refine q_k_ret ?_
                  have h := Option.some.inj h
                  subst h
                  exact q_ret0 hT (.v (.one (.bool false))) rfl (by kernel_rfl)
                · refine tr_cond_f (!b151) (by kernel_rfl) hc153 ?_
                  refine tr_skip ?_
                  refine q_k ?_
                  refine tr_seq ?_
                  obtain ⟨a154, e155, h⟩ := bind_some h
                  refine tr_reg hT [(2, .call (.v (.agg [.arr .u8 32 a154])) []), (3, .key 15)] [.s 1, .s 7, .h 0, .h 15] [sO 1 (.ptr 0 0), sO 7 (.ptr 15 0), hB 0 22 [.arr .u8 32 a_0], hB 15 22 [.arr .u8 32 a154]] [CallOk P 34 [.v (.agg [.arr .u8 32 a_0]), .v (.agg [.arr .u8 32 a_0])] [] (.v (.agg [.arr .u8 32 a154])) []] (by kernel_rfl) (hone (field_Mul_ok a_0 a_0 a154 e155)) ?_
                  refine q_k ?_
                  refine tr_seq ?_
                  obtain ⟨⟨a156, b157⟩, e158, h⟩ := bind_some h
                  refine tr_reg hT [(1, .call (.tup [.agg [.arr .u8 32 a156], .one (.bool b157)]) []), (5, .key 16)] [.s 1, .s 4, .s 8, .h 0, .h 16] [sO 1 (.ptr 0 0), sB 4 b157, sO 8 (.ptr 16 0), hB 0 22 [.arr .u8 32 a_0], hB 16 22 [.arr .u8 32 a156]] [CallOk P 52 [.v (.agg [.arr .u8 32 a154])] [] (.tup [.agg [.arr .u8 32 a156], .one (.bool b157)]) []] (by kernel_rfl) (hone (field_Root_ok a154 (a156, b157) e158)) ?_
                  refine q_k ?_
                  refine tr_seq ?_
                  obtain ⟨a160, e161, h⟩ := bind_some h
                  refine tr_reg hT [(1, .call (.v (.agg [.arr .u8 32 a160])) []), (2, .key 17)] [.s 4, .s 8, .s 9, .h 16, .h 17] [sB 4 b157, sO 8 (.ptr 16 0), sO 9 (.ptr 17 0), hB 16 22 [.arr .u8 32 a156], hB 17 22 [.arr .u8 32 a160]] [CallOk P 33 [.v (.agg [.arr .u8 32 a_0])] [] (.v (.agg [.arr .u8 32 a160])) []] (by kernel_rfl) (hone (field_Mod_ok a_0 a160 e161)) ?_
                  refine q_k ?_
                  refine tr_seq ?_
                  rcases ite_split h with ⟨hb162, h⟩ | ⟨hb175, h⟩
                  · rcases ite_split h with ⟨hb163, h⟩ | ⟨hb166, h⟩
                    · obtain ⟨b164, e165, h⟩ := bind_some h
                      refine tr_regd hT hM [(1, .dec true), (5, .dec true), (14, .call (.v (.one (.bool b164))) [])] [.s 2] [sB 2 b164] [b157 = true, (decide (a156 = a160)) = true, CallOk P 35 [] [] (.v (.one (.bool b164))) []] (by kernel_rfl) (hcons hb162 (hcons hb163 (hone (law04_wakes_ok  b164 e165)))) ?_
                      refine q_k ?_
                      refine tr_ret ?_
                      have h := Option.some.inj h
                      subst h
                      exact q_ret0 hT (.v (.one (.bool b164))) rfl (by kernel_rfl)
                    · obtain ⟨a167, e168, h⟩ := bind_some h
                      obtain ⟨a169, e170, h⟩ := bind_some h
                      rcases ite_split h with ⟨hb171, h⟩ | ⟨hb174, h⟩
                      · obtain ⟨b172, e173, h⟩ := bind_some h
                        refine tr_regd hT hM [(1, .dec true), (5, .dec false), (7, .call (.v (.agg [.arr .u8 32 a167])) []), (9, .call (.v (.agg [.arr .u8 32 a169])) []), (13, .dec true), (14, .call (.v (.one (.bool b172))) [])] [.s 2] [sB 2 b172] [b157 = true, (decide (a156 = a160)) = false, CallOk P 26 [.v (.one (.int .i64 (0 : Int)))] [] (.v (.agg [.arr .u8 32 a167])) [], CallOk P 41 [.v (.agg [.arr .u8 32 a167]), .v (.agg [.arr .u8 32 a160])] [] (.v (.agg [.arr .u8 32 a169])) [], (decide (a156 = a169)) = true, CallOk P 35 [] [] (.v (.one (.bool b172))) []] (by kernel_rfl) (hcons hb162 (hcons hb166 (hcons (law04_Num_ok (0 : Int) a167 e168) (hcons (field_Sub_ok a167 a160 a169 e170) (hcons hb171 (hone (law04_wakes_ok  b172 e173))))))) ?_
                        refine q_k ?_
                        refine tr_ret ?_
                        have h := Option.some.inj h
                        subst h
                        exact q_ret0 hT (.v (.one (.bool b172))) rfl (by kernel_rfl)
                      · refine tr_regd hT hM [(1, .dec true), (5, .dec false), (7, .call (.v (.agg [.arr .u8 32 a167])) []), (9, .call (.v (.agg [.arr .u8 32 a169])) []), (13, .dec false)] [.s 2] [sB 2 false] [b157 = true, (decide (a156 = a160)) = false, CallOk P 26 [.v (.one (.int .i64 (0 : Int)))] [] (.v (.agg [.arr .u8 32 a167])) [], CallOk P 41 [.v (.agg [.arr .u8 32 a167]), .v (.agg [.arr .u8 32 a160])] [] (.v (.agg [.arr .u8 32 a169])) [], (decide (a156 = a169)) = false] (by kernel_rfl) (hcons hb162 (hcons hb166 (hcons (law04_Num_ok (0 : Int) a167 e168) (hcons (field_Sub_ok a167 a160 a169 e170) (hone hb174))))) ?_
                        refine q_k ?_
                        refine tr_ret ?_
                        have h := Option.some.inj h
                        subst h
                        exact q_ret0 hT (.v (.one (.bool false))) rfl (by kernel_rfl)
                  · refine tr_regd hT hM [(1, .dec false)] [.s 2] [sB 2 false] [b157 = false] (by kernel_rfl) (hone hb175) ?_
                    refine q_k ?_
                    refine tr_ret ?_
                    have h := Option.some.inj h
                    subst h
                    exact q_ret0 hT (.v (.one (.bool false))) rfl (by kernel_rfl)
          · refine tr_regd hT hM [(1, .dec false)] [.s 1, .s 61, .h 0] [sO 1 (.ptr 0 0), sB 61 false, hB 0 22 [.arr .u8 32 a_0]] [b2 = false] (by kernel_rfl) (hone hb176) ?_
            refine q_k ?_
            refine tr_cond_f false (by kernel_rfl) rfl ?_
            refine tr_skip ?_
            refine q_k ?_
            refine tr_seq ?_
            obtain ⟨a177, e178, h⟩ := bind_some h
            refine tr_reg hT [(2, .call (.v (.agg [.arr .u8 32 a177])) []), (3, .key 18)] [.s 1, .s 7, .h 0, .h 18] [sO 1 (.ptr 0 0), sO 7 (.ptr 18 0), hB 0 22 [.arr .u8 32 a_0], hB 18 22 [.arr .u8 32 a177]] [CallOk P 34 [.v (.agg [.arr .u8 32 a_0]), .v (.agg [.arr .u8 32 a_0])] [] (.v (.agg [.arr .u8 32 a177])) []] (by kernel_rfl) (hone (field_Mul_ok a_0 a_0 a177 e178)) ?_
            refine q_k ?_
            refine tr_seq ?_
            obtain ⟨⟨a179, b180⟩, e181, h⟩ := bind_some h
            refine tr_reg hT [(1, .call (.tup [.agg [.arr .u8 32 a179], .one (.bool b180)]) []), (5, .key 19)] [.s 1, .s 4, .s 8, .h 0, .h 19] [sO 1 (.ptr 0 0), sB 4 b180, sO 8 (.ptr 19 0), hB 0 22 [.arr .u8 32 a_0], hB 19 22 [.arr .u8 32 a179]] [CallOk P 52 [.v (.agg [.arr .u8 32 a177])] [] (.tup [.agg [.arr .u8 32 a179], .one (.bool b180)]) []] (by kernel_rfl) (hone (field_Root_ok a177 (a179, b180) e181)) ?_
            refine q_k ?_
            refine tr_seq ?_
            obtain ⟨a183, e184, h⟩ := bind_some h
            refine tr_reg hT [(1, .call (.v (.agg [.arr .u8 32 a183])) []), (2, .key 20)] [.s 4, .s 8, .s 9, .h 19, .h 20] [sB 4 b180, sO 8 (.ptr 19 0), sO 9 (.ptr 20 0), hB 19 22 [.arr .u8 32 a179], hB 20 22 [.arr .u8 32 a183]] [CallOk P 33 [.v (.agg [.arr .u8 32 a_0])] [] (.v (.agg [.arr .u8 32 a183])) []] (by kernel_rfl) (hone (field_Mod_ok a_0 a183 e184)) ?_
            refine q_k ?_
            refine tr_seq ?_
            rcases ite_split h with ⟨hb185, h⟩ | ⟨hb198, h⟩
            · rcases ite_split h with ⟨hb186, h⟩ | ⟨hb189, h⟩
              · obtain ⟨b187, e188, h⟩ := bind_some h
                refine tr_regd hT hM [(1, .dec true), (5, .dec true), (14, .call (.v (.one (.bool b187))) [])] [.s 2] [sB 2 b187] [b180 = true, (decide (a179 = a183)) = true, CallOk P 35 [] [] (.v (.one (.bool b187))) []] (by kernel_rfl) (hcons hb185 (hcons hb186 (hone (law04_wakes_ok  b187 e188)))) ?_
                refine q_k ?_
                refine tr_ret ?_
                have h := Option.some.inj h
                subst h
                exact q_ret0 hT (.v (.one (.bool b187))) rfl (by kernel_rfl)
              · obtain ⟨a190, e191, h⟩ := bind_some h
                obtain ⟨a192, e193, h⟩ := bind_some h
                rcases ite_split h with ⟨hb194, h⟩ | ⟨hb197, h⟩
                · obtain ⟨b195, e196, h⟩ := bind_some h
                  refine tr_regd hT hM [(1, .dec true), (5, .dec false), (7, .call (.v (.agg [.arr .u8 32 a190])) []), (9, .call (.v (.agg [.arr .u8 32 a192])) []), (13, .dec true), (14, .call (.v (.one (.bool b195))) [])] [.s 2] [sB 2 b195] [b180 = true, (decide (a179 = a183)) = false, CallOk P 26 [.v (.one (.int .i64 (0 : Int)))] [] (.v (.agg [.arr .u8 32 a190])) [], CallOk P 41 [.v (.agg [.arr .u8 32 a190]), .v (.agg [.arr .u8 32 a183])] [] (.v (.agg [.arr .u8 32 a192])) [], (decide (a179 = a192)) = true, CallOk P 35 [] [] (.v (.one (.bool b195))) []] (by kernel_rfl) (hcons hb185 (hcons hb189 (hcons (law04_Num_ok (0 : Int) a190 e191) (hcons (field_Sub_ok a190 a183 a192 e193) (hcons hb194 (hone (law04_wakes_ok  b195 e196))))))) ?_
                  refine q_k ?_
                  refine tr_ret ?_
                  have h := Option.some.inj h
                  subst h
                  exact q_ret0 hT (.v (.one (.bool b195))) rfl (by kernel_rfl)
                · refine tr_regd hT hM [(1, .dec true), (5, .dec false), (7, .call (.v (.agg [.arr .u8 32 a190])) []), (9, .call (.v (.agg [.arr .u8 32 a192])) []), (13, .dec false)] [.s 2] [sB 2 false] [b180 = true, (decide (a179 = a183)) = false, CallOk P 26 [.v (.one (.int .i64 (0 : Int)))] [] (.v (.agg [.arr .u8 32 a190])) [], CallOk P 41 [.v (.agg [.arr .u8 32 a190]), .v (.agg [.arr .u8 32 a183])] [] (.v (.agg [.arr .u8 32 a192])) [], (decide (a179 = a192)) = false] (by kernel_rfl) (hcons hb185 (hcons hb189 (hcons (law04_Num_ok (0 : Int) a190 e191) (hcons (field_Sub_ok a190 a183 a192 e193) (hone hb197))))) ?_
                  refine q_k ?_
                  refine tr_ret ?_
                  have h := Option.some.inj h
                  subst h
                  exact q_ret0 hT (.v (.one (.bool false))) rfl (by kernel_rfl)
            · refine tr_regd hT hM [(1, .dec false)] [.s 2] [sB 2 false] [b180 = false] (by kernel_rfl) (hone hb198) ?_
              refine q_k ?_
              refine tr_ret ?_
              have h := Option.some.inj h
              subst h
              exact q_ret0 hT (.v (.one (.bool false))) rfl (by kernel_rfl)
      · refine tr_regd hT hM [(3, .dec false), (5, .dec false), (15, .dec false)] [.s 1, .s 3, .s 4, .s 41, .h 0, .h 1] [sO 1 (.ptr 0 0), sO 3 (.ptr 1 0), sB 4 b2, sB 41 false, hB 0 22 [.arr .u8 32 a_0], hB 1 22 [.arr .u8 32 a1]] [(!(b2 == b8)) = false, b2 = false, (!b2) = false] (by kernel_rfl) (hcons hb12 (hcons hb137 (hone hb199))) ?_
        refine q_k ?_
        refine tr_cond_f false (by kernel_rfl) rfl ?_
        refine tr_skip ?_
        refine q_k ?_
        refine tr_seq ?_
        refine tr_seq ?_
        rcases ite_split h with ⟨hb200, h⟩ | ⟨hb234, h⟩
        · obtain ⟨a201, e202, h⟩ := bind_some h
          obtain ⟨a203, e204, h⟩ := bind_some h
          rcases ite_split h with ⟨hb205, h⟩ | ⟨hb206, h⟩
          · refine tr_regd hT hM [(1, .dec true), (4, .call (.v (.agg [.arr .u8 32 a201])) []), (6, .call (.v (.agg [.arr .u8 32 a203])) []), (8, .dec true)] [.s 1, .s 61, .h 0] [sO 1 (.ptr 0 0), sB 61 true, hB 0 22 [.arr .u8 32 a_0]] [b2 = true, CallOk P 34 [.v (.agg [.arr .u8 32 a1]), .v (.agg [.arr .u8 32 a1])] [] (.v (.agg [.arr .u8 32 a201])) [], CallOk P 33 [.v (.agg [.arr .u8 32 a_0])] [] (.v (.agg [.arr .u8 32 a203])) [], (!(decide (a201 = a203))) = true] (by kernel_rfl) (hcons hb200 (hcons (field_Mul_ok a1 a1 a201 e202) (hcons (field_Mod_ok a_0 a203 e204) (hone hb205)))) ?_
            refine q_k ?_
            refine tr_cond_t true (by kernel_rfl) rfl ?_
            refine tr_seq ?_
            refine tr_reg hT [] [.s 2] [sB 2 false] [] (by kernel_rfl) trivial ?_
            refine q_k ?_
            refine tr_ret ?_
            refine q_k_ret ?_
            have h := Option.some.inj h
            subst h
            exact q_ret0 hT (.v (.one (.bool false))) rfl (by kernel_rfl)
          · rcases ite_split h with ⟨hb207, h⟩ | ⟨hb208, h⟩
            · refine tr_regd hT hM [(1, .dec true), (4, .call (.v (.agg [.arr .u8 32 a201])) []), (6, .call (.v (.agg [.arr .u8 32 a203])) []), (8, .dec false), (14, .dec true)] [.s 1, .s 61, .h 0] [sO 1 (.ptr 0 0), sB 61 true, hB 0 22 [.arr .u8 32 a_0]] [b2 = true, CallOk P 34 [.v (.agg [.arr .u8 32 a1]), .v (.agg [.arr .u8 32 a1])] [] (.v (.agg [.arr .u8 32 a201])) [], CallOk P 33 [.v (.agg [.arr .u8 32 a_0])] [] (.v (.agg [.arr .u8 32 a203])) [], (!(decide (a201 = a203))) = false, 0 ≤ (0 : Int) ∧ (0 : Int) < ((32 : Nat) : Int), ((band .u8 (a1.getD 0 0) (1 : Int)) != (0 : Int)) = true] (by kernel_rfl) (hcons hb200 (hcons (field_Mul_ok a1 a1 a201 e202) (hcons (field_Mod_ok a_0 a203 e204) (hcons hb206 (hcons (by decide) (hone hb207)))))) ?_
              refine q_k ?_
              refine tr_cond_t true (by kernel_rfl) rfl ?_
              refine tr_seq ?_
              refine tr_reg hT [] [.s 2] [sB 2 false] [] (by kernel_rfl) trivial ?_
              refine q_k ?_
              refine tr_ret ?_
              refine q_k_ret ?_
              have h := Option.some.inj h
              subst h
              exact q_ret0 hT (.v (.one (.bool false))) rfl (by kernel_rfl)
            · obtain ⟨b209, e210, h⟩ := bind_some h
              refine tr_regd hT hM [(1, .dec true), (4, .call (.v (.agg [.arr .u8 32 a201])) []), (6, .call (.v (.agg [.arr .u8 32 a203])) []), (8, .dec false), (14, .dec false), (16, .call (.v (.one (.bool b209))) [])] [.s 1, .s 61, .h 0] [sO 1 (.ptr 0 0), sB 61 (!b209), hB 0 22 [.arr .u8 32 a_0]] [b2 = true, CallOk P 34 [.v (.agg [.arr .u8 32 a1]), .v (.agg [.arr .u8 32 a1])] [] (.v (.agg [.arr .u8 32 a201])) [], CallOk P 33 [.v (.agg [.arr .u8 32 a_0])] [] (.v (.agg [.arr .u8 32 a203])) [], (!(decide (a201 = a203))) = false, 0 ≤ (0 : Int) ∧ (0 : Int) < ((32 : Nat) : Int), ((band .u8 (a1.getD 0 0) (1 : Int)) != (0 : Int)) = false, CallOk P 42 [.v (.agg [.arr .u8 32 a1])] [] (.v (.one (.bool b209))) []] (by kernel_rfl) (hcons hb200 (hcons (field_Mul_ok a1 a1 a201 e202) (hcons (field_Mod_ok a_0 a203 e204) (hcons hb206 (hcons (by decide) (hcons hb208 (hone (field_Check_ok a1 b209 e210)))))))) ?_
              refine q_k ?_
              rcases ite_split h with ⟨hc211, h⟩ | ⟨hc211, h⟩
              · refine tr_cond_t (!b209) (by kernel_rfl) hc211 ?_
                refine tr_seq ?_
                refine tr_reg hT [] [.s 2] [sB 2 false] [] (by kernel_rfl) trivial ?_
                refine q_k ?_
                refine tr_ret ?_
                refine q_k_ret ?_
                have h := Option.some.inj h
                subst h
                exact q_ret0 hT (.v (.one (.bool false))) rfl (by kernel_rfl)
              · refine tr_cond_f (!b209) (by kernel_rfl) hc211 ?_
                refine tr_skip ?_
                refine q_k ?_
                refine tr_seq ?_
                obtain ⟨a212, e213, h⟩ := bind_some h
                refine tr_reg hT [(2, .call (.v (.agg [.arr .u8 32 a212])) []), (3, .key 21)] [.s 1, .s 7, .h 0, .h 21] [sO 1 (.ptr 0 0), sO 7 (.ptr 21 0), hB 0 22 [.arr .u8 32 a_0], hB 21 22 [.arr .u8 32 a212]] [CallOk P 34 [.v (.agg [.arr .u8 32 a_0]), .v (.agg [.arr .u8 32 a_0])] [] (.v (.agg [.arr .u8 32 a212])) []] (by kernel_rfl) (hone (field_Mul_ok a_0 a_0 a212 e213)) ?_
                refine q_k ?_
                refine tr_seq ?_
                obtain ⟨⟨a214, b215⟩, e216, h⟩ := bind_some h
                refine tr_reg hT [(1, .call (.tup [.agg [.arr .u8 32 a214], .one (.bool b215)]) []), (5, .key 22)] [.s 1, .s 4, .s 8, .h 0, .h 22] [sO 1 (.ptr 0 0), sB 4 b215, sO 8 (.ptr 22 0), hB 0 22 [.arr .u8 32 a_0], hB 22 22 [.arr .u8 32 a214]] [CallOk P 52 [.v (.agg [.arr .u8 32 a212])] [] (.tup [.agg [.arr .u8 32 a214], .one (.bool b215)]) []] (by kernel_rfl) (hone (field_Root_ok a212 (a214, b215) e216)) ?_
                refine q_k ?_
                refine tr_seq ?_
                obtain ⟨a218, e219, h⟩ := bind_some h
                refine tr_reg hT [(1, .call (.v (.agg [.arr .u8 32 a218])) []), (2, .key 23)] [.s 4, .s 8, .s 9, .h 22, .h 23] [sB 4 b215, sO 8 (.ptr 22 0), sO 9 (.ptr 23 0), hB 22 22 [.arr .u8 32 a214], hB 23 22 [.arr .u8 32 a218]] [CallOk P 33 [.v (.agg [.arr .u8 32 a_0])] [] (.v (.agg [.arr .u8 32 a218])) []] (by kernel_rfl) (hone (field_Mod_ok a_0 a218 e219)) ?_
                refine q_k ?_
                refine tr_seq ?_
                rcases ite_split h with ⟨hb220, h⟩ | ⟨hb233, h⟩
                · rcases ite_split h with ⟨hb221, h⟩ | ⟨hb224, h⟩
                  · obtain ⟨b222, e223, h⟩ := bind_some h
                    refine tr_regd hT hM [(1, .dec true), (5, .dec true), (14, .call (.v (.one (.bool b222))) [])] [.s 2] [sB 2 b222] [b215 = true, (decide (a214 = a218)) = true, CallOk P 35 [] [] (.v (.one (.bool b222))) []] (by kernel_rfl) (hcons hb220 (hcons hb221 (hone (law04_wakes_ok  b222 e223)))) ?_
                    refine q_k ?_
                    refine tr_ret ?_
                    have h := Option.some.inj h
                    subst h
                    exact q_ret0 hT (.v (.one (.bool b222))) rfl (by kernel_rfl)
                  · obtain ⟨a225, e226, h⟩ := bind_some h
                    obtain ⟨a227, e228, h⟩ := bind_some h
                    rcases ite_split h with ⟨hb229, h⟩ | ⟨hb232, h⟩
                    · obtain ⟨b230, e231, h⟩ := bind_some h
                      refine tr_regd hT hM [(1, .dec true), (5, .dec false), (7, .call (.v (.agg [.arr .u8 32 a225])) []), (9, .call (.v (.agg [.arr .u8 32 a227])) []), (13, .dec true), (14, .call (.v (.one (.bool b230))) [])] [.s 2] [sB 2 b230] [b215 = true, (decide (a214 = a218)) = false, CallOk P 26 [.v (.one (.int .i64 (0 : Int)))] [] (.v (.agg [.arr .u8 32 a225])) [], CallOk P 41 [.v (.agg [.arr .u8 32 a225]), .v (.agg [.arr .u8 32 a218])] [] (.v (.agg [.arr .u8 32 a227])) [], (decide (a214 = a227)) = true, CallOk P 35 [] [] (.v (.one (.bool b230))) []] (by kernel_rfl) (hcons hb220 (hcons hb224 (hcons (law04_Num_ok (0 : Int) a225 e226) (hcons (field_Sub_ok a225 a218 a227 e228) (hcons hb229 (hone (law04_wakes_ok  b230 e231))))))) ?_
                      refine q_k ?_
                      refine tr_ret ?_
                      have h := Option.some.inj h
                      subst h
                      exact q_ret0 hT (.v (.one (.bool b230))) rfl (by kernel_rfl)
                    · refine tr_regd hT hM [(1, .dec true), (5, .dec false), (7, .call (.v (.agg [.arr .u8 32 a225])) []), (9, .call (.v (.agg [.arr .u8 32 a227])) []), (13, .dec false)] [.s 2] [sB 2 false] [b215 = true, (decide (a214 = a218)) = false, CallOk P 26 [.v (.one (.int .i64 (0 : Int)))] [] (.v (.agg [.arr .u8 32 a225])) [], CallOk P 41 [.v (.agg [.arr .u8 32 a225]), .v (.agg [.arr .u8 32 a218])] [] (.v (.agg [.arr .u8 32 a227])) [], (decide (a214 = a227)) = false] (by kernel_rfl) (hcons hb220 (hcons hb224 (hcons (law04_Num_ok (0 : Int) a225 e226) (hcons (field_Sub_ok a225 a218 a227 e228) (hone hb232))))) ?_
                      refine q_k ?_
                      refine tr_ret ?_
                      have h := Option.some.inj h
                      subst h
                      exact q_ret0 hT (.v (.one (.bool false))) rfl (by kernel_rfl)
                · refine tr_regd hT hM [(1, .dec false)] [.s 2] [sB 2 false] [b215 = false] (by kernel_rfl) (hone hb233) ?_
                  refine q_k ?_
                  refine tr_ret ?_
                  have h := Option.some.inj h
                  subst h
                  exact q_ret0 hT (.v (.one (.bool false))) rfl (by kernel_rfl)
        · refine tr_regd hT hM [(1, .dec false)] [.s 1, .s 61, .h 0] [sO 1 (.ptr 0 0), sB 61 false, hB 0 22 [.arr .u8 32 a_0]] [b2 = false] (by kernel_rfl) (hone hb234) ?_
          refine q_k ?_
          refine tr_cond_f false (by kernel_rfl) rfl ?_
          refine tr_skip ?_
          refine q_k ?_
          refine tr_seq ?_
          obtain ⟨a235, e236, h⟩ := bind_some h
          refine tr_reg hT [(2, .call (.v (.agg [.arr .u8 32 a235])) []), (3, .key 24)] [.s 1, .s 7, .h 0, .h 24] [sO 1 (.ptr 0 0), sO 7 (.ptr 24 0), hB 0 22 [.arr .u8 32 a_0], hB 24 22 [.arr .u8 32 a235]] [CallOk P 34 [.v (.agg [.arr .u8 32 a_0]), .v (.agg [.arr .u8 32 a_0])] [] (.v (.agg [.arr .u8 32 a235])) []] (by kernel_rfl) (hone (field_Mul_ok a_0 a_0 a235 e236)) ?_
          refine q_k ?_
          refine tr_seq ?_
          obtain ⟨⟨a237, b238⟩, e239, h⟩ := bind_some h
          refine tr_reg hT [(1, .call (.tup [.agg [.arr .u8 32 a237], .one (.bool b238)]) []), (5, .key 25)] [.s 1, .s 4, .s 8, .h 0, .h 25] [sO 1 (.ptr 0 0), sB 4 b238, sO 8 (.ptr 25 0), hB 0 22 [.arr .u8 32 a_0], hB 25 22 [.arr .u8 32 a237]] [CallOk P 52 [.v (.agg [.arr .u8 32 a235])] [] (.tup [.agg [.arr .u8 32 a237], .one (.bool b238)]) []] (by kernel_rfl) (hone (field_Root_ok a235 (a237, b238) e239)) ?_
          refine q_k ?_
          refine tr_seq ?_
          obtain ⟨a241, e242, h⟩ := bind_some h
          refine tr_reg hT [(1, .call (.v (.agg [.arr .u8 32 a241])) []), (2, .key 26)] [.s 4, .s 8, .s 9, .h 25, .h 26] [sB 4 b238, sO 8 (.ptr 25 0), sO 9 (.ptr 26 0), hB 25 22 [.arr .u8 32 a237], hB 26 22 [.arr .u8 32 a241]] [CallOk P 33 [.v (.agg [.arr .u8 32 a_0])] [] (.v (.agg [.arr .u8 32 a241])) []] (by kernel_rfl) (hone (field_Mod_ok a_0 a241 e242)) ?_
          refine q_k ?_
          refine tr_seq ?_
          rcases ite_split h with ⟨hb243, h⟩ | ⟨hb256, h⟩
          · rcases ite_split h with ⟨hb244, h⟩ | ⟨hb247, h⟩
            · obtain ⟨b245, e246, h⟩ := bind_some h
              refine tr_regd hT hM [(1, .dec true), (5, .dec true), (14, .call (.v (.one (.bool b245))) [])] [.s 2] [sB 2 b245] [b238 = true, (decide (a237 = a241)) = true, CallOk P 35 [] [] (.v (.one (.bool b245))) []] (by kernel_rfl) (hcons hb243 (hcons hb244 (hone (law04_wakes_ok  b245 e246)))) ?_
              refine q_k ?_
              refine tr_ret ?_
              have h := Option.some.inj h
              subst h
              exact q_ret0 hT (.v (.one (.bool b245))) rfl (by kernel_rfl)
            · obtain ⟨a248, e249, h⟩ := bind_some h
              obtain ⟨a250, e251, h⟩ := bind_some h
              rcases ite_split h with ⟨hb252, h⟩ | ⟨hb255, h⟩
              · obtain ⟨b253, e254, h⟩ := bind_some h
                refine tr_regd hT hM [(1, .dec true), (5, .dec false), (7, .call (.v (.agg [.arr .u8 32 a248])) []), (9, .call (.v (.agg [.arr .u8 32 a250])) []), (13, .dec true), (14, .call (.v (.one (.bool b253))) [])] [.s 2] [sB 2 b253] [b238 = true, (decide (a237 = a241)) = false, CallOk P 26 [.v (.one (.int .i64 (0 : Int)))] [] (.v (.agg [.arr .u8 32 a248])) [], CallOk P 41 [.v (.agg [.arr .u8 32 a248]), .v (.agg [.arr .u8 32 a241])] [] (.v (.agg [.arr .u8 32 a250])) [], (decide (a237 = a250)) = true, CallOk P 35 [] [] (.v (.one (.bool b253))) []] (by kernel_rfl) (hcons hb243 (hcons hb247 (hcons (law04_Num_ok (0 : Int) a248 e249) (hcons (field_Sub_ok a248 a241 a250 e251) (hcons hb252 (hone (law04_wakes_ok  b253 e254))))))) ?_
                refine q_k ?_
                refine tr_ret ?_
                have h := Option.some.inj h
                subst h
                exact q_ret0 hT (.v (.one (.bool b253))) rfl (by kernel_rfl)
              · refine tr_regd hT hM [(1, .dec true), (5, .dec false), (7, .call (.v (.agg [.arr .u8 32 a248])) []), (9, .call (.v (.agg [.arr .u8 32 a250])) []), (13, .dec false)] [.s 2] [sB 2 false] [b238 = true, (decide (a237 = a241)) = false, CallOk P 26 [.v (.one (.int .i64 (0 : Int)))] [] (.v (.agg [.arr .u8 32 a248])) [], CallOk P 41 [.v (.agg [.arr .u8 32 a248]), .v (.agg [.arr .u8 32 a241])] [] (.v (.agg [.arr .u8 32 a250])) [], (decide (a237 = a250)) = false] (by kernel_rfl) (hcons hb243 (hcons hb247 (hcons (law04_Num_ok (0 : Int) a248 e249) (hcons (field_Sub_ok a248 a241 a250 e251) (hone hb255))))) ?_
                refine q_k ?_
                refine tr_ret ?_
                have h := Option.some.inj h
                subst h
                exact q_ret0 hT (.v (.one (.bool false))) rfl (by kernel_rfl)
          · refine tr_regd hT hM [(1, .dec false)] [.s 2] [sB 2 false] [b238 = false] (by kernel_rfl) (hone hb256) ?_
            refine q_k ?_
            refine tr_ret ?_
            have h := Option.some.inj h
            subst h
            exact q_ret0 hT (.v (.one (.bool false))) rfl (by kernel_rfl)

theorem curve_bend_ok (r : List Int) (h : curve_bend = some r) {pre : List (Nat × Ent)} : CallOk P 107 [] pre (.v (.agg [.arr .u64 5 r])) [] := by
  refine call0 (N := 3) Try.func107 (by kernel_rfl) rfl rfl rfl pre ?_
  intro _ w
  show Tr P w.heap.size 3 w _ _ (RetQ P Try.f107 (R0 _ w))
  unfold curve_bend at h
  refine tr_seq ?_
  refine tr_reg hT [(0, .key 0)] [.s 0, .h 0] [sO 0 (.ptr 0 0), hB 0 71 [.arr .u64 5 (List.replicate 5 0)]] [] (by kernel_rfl) trivial ?_
  refine q_k ?_
  refine tr_seq ?_
  obtain ⟨a1, e2, h⟩ := bind_some h
  refine tr_reg hT [(1, .call (.v (.agg [.arr .u64 5 a1])) [])] [.s 0, .h 0] [sO 0 (.ptr 0 0), hB 0 71 [.arr .u64 5 a1]] [CallOk P 72 [.v (.agg [.arr .u8 32 [(163 : Int), (120 : Int), (89 : Int), (19 : Int), (202 : Int), (77 : Int), (235 : Int), (117 : Int), (171 : Int), (216 : Int), (65 : Int), (65 : Int), (77 : Int), (10 : Int), (112 : Int), (0 : Int), (152 : Int), (232 : Int), (121 : Int), (119 : Int), (121 : Int), (64 : Int), (199 : Int), (140 : Int), (115 : Int), (254 : Int), (111 : Int), (43 : Int), (238 : Int), (108 : Int), (3 : Int), (82 : Int)]])] [] (.v (.agg [.arr .u64 5 a1])) []] (by kernel_rfl) (hone (limb_Of_ok [(163 : Int), (120 : Int), (89 : Int), (19 : Int), (202 : Int), (77 : Int), (235 : Int), (117 : Int), (171 : Int), (216 : Int), (65 : Int), (65 : Int), (77 : Int), (10 : Int), (112 : Int), (0 : Int), (152 : Int), (232 : Int), (121 : Int), (119 : Int), (121 : Int), (64 : Int), (199 : Int), (140 : Int), (115 : Int), (254 : Int), (111 : Int), (43 : Int), (238 : Int), (108 : Int), (3 : Int), (82 : Int)] a1 e2)) ?_
  refine q_k ?_
  refine tr_ret ?_
  have h := Option.some.inj h
  subst h
  exact q_ret0 hT (.v (.agg [.arr .u64 5 a1])) rfl (by kernel_rfl)

end Go.Proofs.Sb
