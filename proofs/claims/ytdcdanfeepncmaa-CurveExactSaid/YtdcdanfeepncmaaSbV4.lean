/- Walks, printed by a program of this session (gowalk.py): each Go function comes to its plain function's answer. -/
import Derived.Test.YtdcdanfeepncmaaSbA
import Derived.Test.YtdcdanfeepncmaaSbD
import Derived.Test.YtdcdanfeepncmaaSbI
import Derived.Test.YtdcdanfeepncmaaSbV0
import Derived.Test.YtdcdanfeepncmaaSbV1
import Derived.Test.YtdcdanfeepncmaaSbV2
import Derived.Test.YtdcdanfeepncmaaSbV3
namespace Go.Proofs.Sb
open Go Go.Gw D
set_option linter.unusedVariables false
set_option maxRecDepth 20000

theorem ref04_P_ok (r : List Int) (h : ref04_P = some r) {pre : List (Nat × Ent)} : CallOk P 43 [] pre (.v (.agg [.arr .u64 4 r])) [] := by
  refine call0 (N := 2) Try.func43 (by kernel_rfl) rfl rfl rfl pre ?_
  intro _ w
  show Tr P (Ge w) 2 _ _ _ (RetQ P Try.f43 (R0 _ w))
  unfold ref04_P at h
  refine tr_seq ?_
  refine tr_reg hT [(0, .key 0)] [.s 0, .h 0] [sO 0 (.ptr 0 0), hB 0 31 [.arr .u64 4 (List.replicate 4 0)]] [] (by kernel_rfl) trivial ?_
  refine q_k ?_
  refine tr_seq ?_
  refine tr_reg hT [] [.s 0, .h 0] [sO 0 (.ptr 0 0), hB 0 31 [.arr .u64 4 [(18446744073709551597 : Int), (18446744073709551615 : Int), (18446744073709551615 : Int), (9223372036854775807 : Int)]]] [] (by kernel_rfl) trivial ?_
  refine q_k ?_
  refine tr_ret ?_
  have h := Option.some.inj h
  subst h
  exact q_ret0 hT (.v (.agg [.arr .u64 4 [(18446744073709551597 : Int), (18446744073709551615 : Int), (18446744073709551615 : Int), (9223372036854775807 : Int)]])) rfl (by kernel_rfl)

theorem ref04_Mod_ok (a_0 : List Int) (r : List Int) (h : ref04_Mod a_0 = some r) {pre : List (Nat × Ent)} : CallOk P 46 [.v (.agg [.arr .u64 4 a_0])] pre (.v (.agg [.arr .u64 4 r])) [] := by
  refine call0 (N := 19) Try.func46 (by kernel_rfl) rfl rfl rfl pre ?_
  intro _ w
  show Tr P (Ge w) 19 _ _ _ (RetQ P Try.f46 (R0 _ w))
  unfold ref04_Mod at h
  refine tr_seq ?_
  refine tr_reg hT [(0, .key 0), (1, .key 1)] [.s 1, .s 2, .h 0, .h 1] [sO 1 (.ptr 0 0), sO 2 (.ptr 1 0), hB 0 31 [.arr .u64 4 a_0], hB 1 31 [.arr .u64 4 (List.replicate 4 0)]] [] (by kernel_rfl) trivial ?_
  refine q_k ?_
  refine tr_seq ?_
  refine tr_seq ?_
  refine tr_reg hT [] [.s 1, .s 2, .s 3, .h 0, .h 1] [sO 1 (.ptr 0 0), sO 2 (.ptr 1 0), sI 3 .i64 (0 : Int), hB 0 31 [.arr .u64 4 a_0], hB 1 31 [.arr .u64 4 (List.replicate 4 0)]] [] (by kernel_rfl) trivial ?_
  refine q_k ?_
  refine tr_block ?_
  obtain ⟨m3, e16, h⟩ := bind_some h
  refine tr_fit [] [sO 1 (.ptr 0 0), sO 2 (.ptr 1 0), sI 3 .i64 (0 : Int), hB 0 31 [.arr .u64 4 a_0], hB 1 31 [.arr .u64 4 (List.replicate 4 0)]] [(0, .blk 31 [.arr .u64 4 a_0]), (1, .blk 31 [.arr .u64 4 (List.replicate 4 0)])] (by kernel_rfl) (by kernel_rfl) (by kernel_rfl) rfl ⟨.blk (by kernel_rfl) (by kernel_rfl), .blk (by kernel_rfl) (by kernel_rfl), trivial⟩ (by kernel_rfl) ?_
  refine tr_loop_fuel (id := 0) (α := List Int × Int) (β := List Int) (fun z => [sO 1 (.ptr 0 0), sO 2 (.ptr 1 0), sI 3 .i64 z.2, hB 0 31 [.arr .u64 4 z.1], hB 1 31 [.arr .u64 4 (List.replicate 4 0)]]) (fun z => [sO 1 (.ptr 0 0), sO 2 (.ptr 1 0), hB 0 31 [.arr .u64 4 z], hB 1 31 [.arr .u64 4 (List.replicate 4 0)]]) (fun k z => ref04_Mod_l0 k z.1 z.2) m3 (fun _ => rfl) (((3 : Int) - (0 : Int)).toNat + 1) (a_0, (0 : Int)) e16 ?_ ?_
  · skip
    replace h : (some m3) = _ := h
    refine q_b_this ?_
    refine q_k ?_
    refine tr_seq ?_
    refine tr_reg hT [] [.s 2, .h 1] [sO 2 (.ptr 1 0), hB 1 31 [.arr .u64 4 m3]] [] (by kernel_rfl) trivial ?_
    refine q_k ?_
    refine tr_ret ?_
    have h := Option.some.inj h
    subst h
    exact q_ret0 hT (.v (.agg [.arr .u64 4 m3])) rfl (by kernel_rfl)
  · clear h e16
    intro k ih0 hx0 z h
    obtain ⟨m1, i2⟩ := z
    replace h : (if (decide (i2 < (3 : Int))) = true then (ref04_P).bind (fun a5 => (ref04_less m1 a5).bind (fun b7 => if (!b7) = true then (ref04_P).bind (fun a10 => (ref04_sub m1 a10).bind (fun (a12, r13) => ref04_Mod_l0 k a12 (IntKind.i64.wrap (i2 + (1 : Int))))) else ref04_Mod_l0 k m1 (IntKind.i64.wrap (i2 + (1 : Int))))) else some m1) = _ := h
    refine tr_seq ?_
    refine tr_seq ?_
    refine tr_reg hT [] [.s 1, .s 2, .s 3, .s 5, .h 0, .h 1] [sO 1 (.ptr 0 0), sO 2 (.ptr 1 0), sI 3 .i64 i2, sB 5 (decide (i2 < (3 : Int))), hB 0 31 [.arr .u64 4 m1], hB 1 31 [.arr .u64 4 (List.replicate 4 0)]] [] (by kernel_rfl) trivial ?_
    refine q_k ?_
    rcases ite_split h with ⟨hc4, h⟩ | ⟨hc4, h⟩
    · refine tr_cond_t (decide (i2 < (3 : Int))) (by kernel_rfl) hc4 ?_
      refine tr_skip ?_
      refine q_k ?_
      refine tr_seq ?_
      refine tr_block ?_
      refine tr_seq ?_
      obtain ⟨a5, e6, h⟩ := bind_some h
      obtain ⟨b7, e8, h⟩ := bind_some h
      refine tr_regd hT hM [(1, .call [] (.v (.agg [.arr .u64 4 a5])) []), (2, .call [] (.v (.one (.bool b7))) [])] [.s 1, .s 2, .s 3, .s 11, .h 0, .h 1] [sO 1 (.ptr 0 0), sO 2 (.ptr 1 0), sI 3 .i64 i2, sB 11 (!b7), hB 0 31 [.arr .u64 4 m1], hB 1 31 [.arr .u64 4 (List.replicate 4 0)]] [CallOk P 43 [] [] (.v (.agg [.arr .u64 4 a5])) [], CallOk P 75 [.v (.agg [.arr .u64 4 m1]), .v (.agg [.arr .u64 4 a5])] [] (.v (.one (.bool b7))) []] (by kernel_rfl) (hcons (ref04_P_ok  a5 e6) (hone (ref04_less_ok m1 a5 b7 e8))) ?_
      refine q_k ?_
      rcases ite_split h with ⟨hc9, h⟩ | ⟨hc9, h⟩
      · refine tr_cond_t (!b7) (by kernel_rfl) hc9 ?_
        obtain ⟨a10, e11, h⟩ := bind_some h
        obtain ⟨⟨a12, r13⟩, e14, h⟩ := bind_some h
        refine tr_regd hT hM [(1, .call [] (.v (.agg [.arr .u64 4 a10])) []), (2, .call [] (.tup [.agg [.arr .u64 4 a12], .one (.int .u64 r13)]) [])] [.s 1, .s 2, .s 3, .h 0, .h 1] [sO 1 (.ptr 0 0), sO 2 (.ptr 1 0), sI 3 .i64 i2, hB 0 31 [.arr .u64 4 a12], hB 1 31 [.arr .u64 4 (List.replicate 4 0)]] [CallOk P 43 [] [] (.v (.agg [.arr .u64 4 a10])) [], CallOk P 81 [.v (.agg [.arr .u64 4 m1]), .v (.agg [.arr .u64 4 a10])] [] (.tup [.agg [.arr .u64 4 a12], .one (.int .u64 r13)]) []] (by kernel_rfl) (hcons (ref04_P_ok  a10 e11) (hone (ref04_sub_ok m1 a10 (a12, r13) e14))) ?_
        refine q_b 1 ?_
        refine q_k ?_
        refine tr_reg hT [] [.s 1, .s 2, .s 3, .h 0, .h 1] [sO 1 (.ptr 0 0), sO 2 (.ptr 1 0), sI 3 .i64 (IntKind.i64.wrap (i2 + (1 : Int))), hB 0 31 [.arr .u64 4 a12], hB 1 31 [.arr .u64 4 (List.replicate 4 0)]] [] (by kernel_rfl) trivial ?_
        refine q_kr ?_
        exact trR_less [.s 1, .s 2, .s 3, .h 0, .h 1] [sO 1 (.ptr 0 0), sO 2 (.ptr 1 0), sI 3 .i64 (IntKind.i64.wrap (i2 + (1 : Int))), hB 0 31 [.arr .u64 4 a12], hB 1 31 [.arr .u64 4 (List.replicate 4 0)]] (by kernel_rfl) (ih0 (a12, (IntKind.i64.wrap (i2 + (1 : Int)))) h)
      · refine tr_cond_f (!b7) (by kernel_rfl) hc9 ?_
        refine tr_skip ?_
        refine q_b 1 ?_
        refine q_k ?_
        refine tr_reg hT [] [.s 1, .s 2, .s 3, .h 0, .h 1] [sO 1 (.ptr 0 0), sO 2 (.ptr 1 0), sI 3 .i64 (IntKind.i64.wrap (i2 + (1 : Int))), hB 0 31 [.arr .u64 4 m1], hB 1 31 [.arr .u64 4 (List.replicate 4 0)]] [] (by kernel_rfl) trivial ?_
        refine q_kr ?_
        exact trR_less [.s 1, .s 2, .s 3, .h 0, .h 1] [sO 1 (.ptr 0 0), sO 2 (.ptr 1 0), sI 3 .i64 (IntKind.i64.wrap (i2 + (1 : Int))), hB 0 31 [.arr .u64 4 m1], hB 1 31 [.arr .u64 4 (List.replicate 4 0)]] (by kernel_rfl) (ih0 (m1, (IntKind.i64.wrap (i2 + (1 : Int)))) h)
    · refine tr_cond_f (decide (i2 < (3 : Int))) (by kernel_rfl) hc4 ?_
      refine tr_exit ?_
      refine q_k_exit ?_
      refine q_kr_exit ?_
      have h := Option.some.inj h
      subst h
      exact q_less [.s 1, .s 2, .h 0, .h 1] [sO 1 (.ptr 0 0), sO 2 (.ptr 1 0), hB 0 31 [.arr .u64 4 m1], hB 1 31 [.arr .u64 4 (List.replicate 4 0)]] (by kernel_rfl) hx0

theorem ref04_Add_ok (a_0 : List Int) (b_1 : List Int) (r : List Int) (h : ref04_Add a_0 b_1 = some r) {pre : List (Nat × Ent)} : CallOk P 47 [.v (.agg [.arr .u64 4 a_0]), .v (.agg [.arr .u64 4 b_1])] pre (.v (.agg [.arr .u64 4 r])) [] := by
  refine call0 (N := 18) Try.func47 (by kernel_rfl) rfl rfl rfl pre ?_
  intro _ w
  show Tr P (Ge w) 18 _ _ _ (RetQ P Try.f47 (R0 _ w))
  unfold ref04_Add at h
  refine tr_seq ?_
  refine tr_reg hT [(0, .key 0), (1, .key 1), (2, .key 2)] [.s 2, .s 3, .s 4, .h 0, .h 1, .h 2] [sO 2 (.ptr 0 0), sO 3 (.ptr 1 0), sO 4 (.ptr 2 0), hB 0 31 [.arr .u64 4 a_0], hB 1 31 [.arr .u64 4 b_1], hB 2 31 [.arr .u64 4 (List.replicate 4 0)]] [] (by kernel_rfl) trivial ?_
  refine q_k ?_
  refine tr_seq ?_
  obtain ⟨a1, e2, h⟩ := bind_some h
  obtain ⟨a3, e4, h⟩ := bind_some h
  obtain ⟨⟨a5, r6⟩, e7, h⟩ := bind_some h
  refine tr_regd hT hM [(1, .call [] (.v (.agg [.arr .u64 4 a1])) []), (3, .call [] (.v (.agg [.arr .u64 4 a3])) []), (4, .call [] (.tup [.agg [.arr .u64 4 a5], .one (.int .u64 r6)]) []), (8, .key 3)] [.s 4, .s 5, .s 6, .h 2, .h 3] [sO 4 (.ptr 2 0), sO 5 (.ptr 3 0), sI 6 .u64 r6, hB 2 31 [.arr .u64 4 (List.replicate 4 0)], hB 3 31 [.arr .u64 4 a5]] [CallOk P 46 [.v (.agg [.arr .u64 4 a_0])] [] (.v (.agg [.arr .u64 4 a1])) [], CallOk P 46 [.v (.agg [.arr .u64 4 b_1])] [] (.v (.agg [.arr .u64 4 a3])) [], CallOk P 82 [.v (.agg [.arr .u64 4 a1]), .v (.agg [.arr .u64 4 a3])] [] (.tup [.agg [.arr .u64 4 a5], .one (.int .u64 r6)]) []] (by kernel_rfl) (hcons (ref04_Mod_ok a_0 a1 e2) (hcons (ref04_Mod_ok b_1 a3 e4) (hone (ref04_add_ok a1 a3 (a5, r6) e7)))) ?_
  refine q_k ?_
  refine tr_seq ?_
  refine tr_reg hT [] [.s 4, .s 5, .h 2, .h 3] [sO 4 (.ptr 2 0), sO 5 (.ptr 3 0), hB 2 31 [.arr .u64 4 (List.replicate 4 0)], hB 3 31 [.arr .u64 4 a5]] [] (by kernel_rfl) trivial ?_
  refine q_k ?_
  refine tr_seq ?_
  obtain ⟨a9, e10, h⟩ := bind_some h
  refine tr_reg hT [(1, .call [] (.v (.agg [.arr .u64 4 a9])) [])] [.s 4, .h 2] [sO 4 (.ptr 2 0), hB 2 31 [.arr .u64 4 a9]] [CallOk P 46 [.v (.agg [.arr .u64 4 a5])] [] (.v (.agg [.arr .u64 4 a9])) []] (by kernel_rfl) (hone (ref04_Mod_ok a5 a9 e10)) ?_
  refine q_k ?_
  refine tr_ret ?_
  have h := Option.some.inj h
  subst h
  exact q_ret0 hT (.v (.agg [.arr .u64 4 a9])) rfl (by kernel_rfl)

theorem ref04_Sub_ok (a_0 : List Int) (b_1 : List Int) (r : List Int) (h : ref04_Sub a_0 b_1 = some r) {pre : List (Nat × Ent)} : CallOk P 48 [.v (.agg [.arr .u64 4 a_0]), .v (.agg [.arr .u64 4 b_1])] pre (.v (.agg [.arr .u64 4 r])) [] := by
  refine call0 (N := 23) Try.func48 (by kernel_rfl) rfl rfl rfl pre ?_
  intro _ w
  show Tr P (Ge w) 23 _ _ _ (RetQ P Try.f48 (R0 _ w))
  unfold ref04_Sub at h
  refine tr_seq ?_
  refine tr_reg hT [(0, .key 0), (1, .key 1), (2, .key 2)] [.s 2, .s 3, .s 4, .h 0, .h 1, .h 2] [sO 2 (.ptr 0 0), sO 3 (.ptr 1 0), sO 4 (.ptr 2 0), hB 0 31 [.arr .u64 4 a_0], hB 1 31 [.arr .u64 4 b_1], hB 2 31 [.arr .u64 4 (List.replicate 4 0)]] [] (by kernel_rfl) trivial ?_
  refine q_k ?_
  refine tr_seq ?_
  obtain ⟨a1, e2, h⟩ := bind_some h
  obtain ⟨a3, e4, h⟩ := bind_some h
  obtain ⟨⟨a5, r6⟩, e7, h⟩ := bind_some h
  refine tr_reg hT [(1, .call [] (.v (.agg [.arr .u64 4 a1])) []), (2, .call [] (.v (.agg [.arr .u64 4 a3])) []), (3, .call [] (.tup [.agg [.arr .u64 4 a5], .one (.int .u64 r6)]) []), (7, .key 3)] [.s 3, .s 4, .s 5, .h 1, .h 2, .h 3] [sO 3 (.ptr 1 0), sO 4 (.ptr 2 0), sO 5 (.ptr 3 0), hB 1 31 [.arr .u64 4 b_1], hB 2 31 [.arr .u64 4 (List.replicate 4 0)], hB 3 31 [.arr .u64 4 a5]] [CallOk P 46 [.v (.agg [.arr .u64 4 a_0])] [] (.v (.agg [.arr .u64 4 a1])) [], CallOk P 43 [] [] (.v (.agg [.arr .u64 4 a3])) [], CallOk P 82 [.v (.agg [.arr .u64 4 a1]), .v (.agg [.arr .u64 4 a3])] [] (.tup [.agg [.arr .u64 4 a5], .one (.int .u64 r6)]) []] (by kernel_rfl) (hcons (ref04_Mod_ok a_0 a1 e2) (hcons (ref04_P_ok  a3 e4) (hone (ref04_add_ok a1 a3 (a5, r6) e7)))) ?_
  refine q_k ?_
  refine tr_seq ?_
  obtain ⟨a9, e10, h⟩ := bind_some h
  obtain ⟨⟨a11, r12⟩, e13, h⟩ := bind_some h
  refine tr_regd hT hM [(2, .call [] (.v (.agg [.arr .u64 4 a9])) []), (3, .call [] (.tup [.agg [.arr .u64 4 a11], .one (.int .u64 r12)]) [])] [.s 4, .s 5, .h 2, .h 3] [sO 4 (.ptr 2 0), sO 5 (.ptr 3 0), hB 2 31 [.arr .u64 4 (List.replicate 4 0)], hB 3 31 [.arr .u64 4 a11]] [CallOk P 46 [.v (.agg [.arr .u64 4 b_1])] [] (.v (.agg [.arr .u64 4 a9])) [], CallOk P 81 [.v (.agg [.arr .u64 4 a5]), .v (.agg [.arr .u64 4 a9])] [] (.tup [.agg [.arr .u64 4 a11], .one (.int .u64 r12)]) []] (by kernel_rfl) (hcons (ref04_Mod_ok b_1 a9 e10) (hone (ref04_sub_ok a5 a9 (a11, r12) e13))) ?_
  refine q_k ?_
  refine tr_seq ?_
  obtain ⟨a15, e16, h⟩ := bind_some h
  refine tr_reg hT [(1, .call [] (.v (.agg [.arr .u64 4 a15])) [])] [.s 4, .h 2] [sO 4 (.ptr 2 0), hB 2 31 [.arr .u64 4 a15]] [CallOk P 46 [.v (.agg [.arr .u64 4 a11])] [] (.v (.agg [.arr .u64 4 a15])) []] (by kernel_rfl) (hone (ref04_Mod_ok a11 a15 e16)) ?_
  refine q_k ?_
  refine tr_ret ?_
  have h := Option.some.inj h
  subst h
  exact q_ret0 hT (.v (.agg [.arr .u64 4 a15])) rfl (by kernel_rfl)

theorem ref04_Mul_ok (a_0 : List Int) (b_1 : List Int) (r : List Int) (h : ref04_Mul a_0 b_1 = some r) {pre : List (Nat × Ent)} : CallOk P 49 [.v (.agg [.arr .u64 4 a_0]), .v (.agg [.arr .u64 4 b_1])] pre (.v (.agg [.arr .u64 4 r])) [] := by
  refine call0 (N := 62) Try.func49 (by kernel_rfl) rfl rfl rfl pre ?_
  intro _ w
  show Tr P (Ge w) 62 _ _ _ (RetQ P Try.f49 (R0 _ w))
  unfold ref04_Mul at h
  refine tr_seq ?_
  refine tr_reg hT [(0, .key 0), (1, .key 1), (2, .key 2)] [.s 2, .s 3, .s 4, .h 0, .h 1, .h 2] [sO 2 (.ptr 0 0), sO 3 (.ptr 1 0), sO 4 (.ptr 2 0), hB 0 31 [.arr .u64 4 a_0], hB 1 31 [.arr .u64 4 b_1], hB 2 31 [.arr .u64 4 (List.replicate 4 0)]] [] (by kernel_rfl) trivial ?_
  refine q_k ?_
  refine tr_seq ?_
  obtain ⟨a1, e2, h⟩ := bind_some h
  refine tr_reg hT [(2, .call [] (.v (.agg [.arr .u64 8 a1])) []), (3, .key 3)] [.s 4, .s 5, .h 2, .h 3] [sO 4 (.ptr 2 0), sO 5 (.ptr 3 0), hB 2 31 [.arr .u64 4 (List.replicate 4 0)], hB 3 75 [.arr .u64 8 a1]] [CallOk P 77 [.v (.agg [.arr .u64 4 a_0]), .v (.agg [.arr .u64 4 b_1])] [] (.v (.agg [.arr .u64 8 a1])) []] (by kernel_rfl) (hone (ref04_times_ok a_0 b_1 a1 e2)) ?_
  refine q_k ?_
  refine tr_seq ?_
  refine tr_reg hT [(9, .key 4)] [.s 4, .s 5, .s 6, .h 2, .h 3, .h 4] [sO 4 (.ptr 2 0), sO 5 (.ptr 3 0), sO 6 (.ptr 4 0), hB 2 31 [.arr .u64 4 (List.replicate 4 0)], hB 3 75 [.arr .u64 8 a1], hB 4 31 [.arr .u64 4 [(a1.getD 0 0), (a1.getD 1 0), (a1.getD 2 0), (a1.getD 3 0)]]] [0 ≤ (0 : Int) ∧ (0 : Int) < ((8 : Nat) : Int), 0 ≤ (1 : Int) ∧ (1 : Int) < ((8 : Nat) : Int), 0 ≤ (2 : Int) ∧ (2 : Int) < ((8 : Nat) : Int), 0 ≤ (3 : Int) ∧ (3 : Int) < ((8 : Nat) : Int)] (by kernel_rfl) (hcons (by decide) (hcons (by decide) (hcons (by decide) (hone (by decide))))) ?_
  refine q_k ?_
  refine tr_seq ?_
  refine tr_reg hT [(9, .key 5)] [.s 4, .s 6, .s 7, .h 2, .h 4, .h 5] [sO 4 (.ptr 2 0), sO 6 (.ptr 4 0), sO 7 (.ptr 5 0), hB 2 31 [.arr .u64 4 (List.replicate 4 0)], hB 4 31 [.arr .u64 4 [(a1.getD 0 0), (a1.getD 1 0), (a1.getD 2 0), (a1.getD 3 0)]], hB 5 31 [.arr .u64 4 [(a1.getD 4 0), (a1.getD 5 0), (a1.getD 6 0), (a1.getD 7 0)]]] [0 ≤ (4 : Int) ∧ (4 : Int) < ((8 : Nat) : Int), 0 ≤ (5 : Int) ∧ (5 : Int) < ((8 : Nat) : Int), 0 ≤ (6 : Int) ∧ (6 : Int) < ((8 : Nat) : Int), 0 ≤ (7 : Int) ∧ (7 : Int) < ((8 : Nat) : Int)] (by kernel_rfl) (hcons (by decide) (hcons (by decide) (hcons (by decide) (hone (by decide))))) ?_
  refine q_k ?_
  refine tr_seq ?_
  refine tr_seq ?_
  refine tr_reg hT [] [.s 4, .s 6, .s 7, .s 8, .h 2, .h 4, .h 5] [sO 4 (.ptr 2 0), sO 6 (.ptr 4 0), sO 7 (.ptr 5 0), sB 8 true, hB 2 31 [.arr .u64 4 (List.replicate 4 0)], hB 4 31 [.arr .u64 4 [(a1.getD 0 0), (a1.getD 1 0), (a1.getD 2 0), (a1.getD 3 0)]], hB 5 31 [.arr .u64 4 [(a1.getD 4 0), (a1.getD 5 0), (a1.getD 6 0), (a1.getD 7 0)]]] [] (by kernel_rfl) trivial ?_
  refine q_k ?_
  refine tr_block ?_
  obtain ⟨m6, e14, h⟩ := bind_some h
  refine tr_fit [] [sO 4 (.ptr 2 0), sO 6 (.ptr 4 0), sO 7 (.ptr 5 0), sB 8 true, hB 2 31 [.arr .u64 4 (List.replicate 4 0)], hB 4 31 [.arr .u64 4 [(a1.getD 0 0), (a1.getD 1 0), (a1.getD 2 0), (a1.getD 3 0)]], hB 5 31 [.arr .u64 4 [(a1.getD 4 0), (a1.getD 5 0), (a1.getD 6 0), (a1.getD 7 0)]]] [(2, .blk 31 [.arr .u64 4 (List.replicate 4 0)]), (4, .blk 31 [.arr .u64 4 [(a1.getD 0 0), (a1.getD 1 0), (a1.getD 2 0), (a1.getD 3 0)]]), (5, .blk 31 [.arr .u64 4 [(a1.getD 4 0), (a1.getD 5 0), (a1.getD 6 0), (a1.getD 7 0)]])] (by kernel_rfl) (by kernel_rfl) (by kernel_rfl) rfl ⟨.blk (by kernel_rfl) (by kernel_rfl), .blk (by kernel_rfl) (by kernel_rfl), .blk (by kernel_rfl) (by kernel_rfl), trivial⟩ (by kernel_rfl) ?_
  refine tr_loop_fuel (id := 0) (α := List Int × List Int × Bool) (β := List Int) (fun z => [sO 4 (.ptr 2 0), sO 6 (.ptr 4 0), sO 7 (.ptr 5 0), sB 8 z.2.2, hB 2 31 [.arr .u64 4 (List.replicate 4 0)], hB 4 31 [.arr .u64 4 z.1], hB 5 31 [.arr .u64 4 z.2.1]]) (fun z => [sO 4 (.ptr 2 0), sO 6 (.ptr 4 0), hB 2 31 [.arr .u64 4 (List.replicate 4 0)], hB 4 31 [.arr .u64 4 z]]) (fun k z => ref04_Mul_l0 k z.1 z.2.1 z.2.2) m6 (fun _ => rfl) (10) ([(a1.getD 0 0), (a1.getD 1 0), (a1.getD 2 0), (a1.getD 3 0)], [(a1.getD 4 0), (a1.getD 5 0), (a1.getD 6 0), (a1.getD 7 0)], true) e14 ?_ ?_
  · skip
    replace h : ((ref04_Mod m6).bind (fun a15 => some a15)) = _ := h
    refine q_b_this ?_
    refine q_k ?_
    refine tr_seq ?_
    obtain ⟨a15, e16, h⟩ := bind_some h
    refine tr_reg hT [(1, .call [] (.v (.agg [.arr .u64 4 a15])) [])] [.s 4, .h 2] [sO 4 (.ptr 2 0), hB 2 31 [.arr .u64 4 a15]] [CallOk P 46 [.v (.agg [.arr .u64 4 m6])] [] (.v (.agg [.arr .u64 4 a15])) []] (by kernel_rfl) (hone (ref04_Mod_ok m6 a15 e16)) ?_
    refine q_k ?_
    refine tr_ret ?_
    have h := Option.some.inj h
    subst h
    exact q_ret0 hT (.v (.agg [.arr .u64 4 a15])) rfl (by kernel_rfl)
  · clear h e14
    intro k ih0 hx0 z h
    obtain ⟨m3, m4, more5⟩ := z
    replace h : (if more5 = true then (ref04_times m4 [(38 : Int), (0 : Int), (0 : Int), (0 : Int)]).bind (fun a8 => (ref04_add m3 [(a8.getD 0 0), (a8.getD 1 0), (a8.getD 2 0), (a8.getD 3 0)]).bind (fun (a10, r11) => ref04_Mul_l0 k a10 [(IntKind.u64.wrap ((a8.getD 4 0) + r11)), (0 : Int), (0 : Int), (0 : Int)] (([(IntKind.u64.wrap ((a8.getD 4 0) + r11)), (0 : Int), (0 : Int), (0 : Int)].getD 0 0) != (0 : Int)))) else some m3) = _ := h
    refine tr_seq ?_
    refine tr_seq ?_
    refine tr_reg hT [] [.s 4, .s 6, .s 7, .s 33, .h 2, .h 4, .h 5] [sO 4 (.ptr 2 0), sO 6 (.ptr 4 0), sO 7 (.ptr 5 0), sB 33 more5, hB 2 31 [.arr .u64 4 (List.replicate 4 0)], hB 4 31 [.arr .u64 4 m3], hB 5 31 [.arr .u64 4 m4]] [] (by kernel_rfl) trivial ?_
    refine q_k ?_
    rcases ite_split h with ⟨hc7, h⟩ | ⟨hc7, h⟩
    · refine tr_cond_t more5 (by kernel_rfl) hc7 ?_
      refine tr_skip ?_
      refine q_k ?_
      refine tr_block ?_
      refine tr_seq ?_
      obtain ⟨a8, e9, h⟩ := bind_some h
      refine tr_reg hT [(2, .call [] (.v (.agg [.arr .u64 8 a8])) []), (3, .key 6)] [.s 4, .s 6, .s 7, .s 9, .h 2, .h 4, .h 5, .h 6] [sO 4 (.ptr 2 0), sO 6 (.ptr 4 0), sO 7 (.ptr 5 0), sO 9 (.ptr 6 0), hB 2 31 [.arr .u64 4 (List.replicate 4 0)], hB 4 31 [.arr .u64 4 m3], hB 5 31 [.arr .u64 4 m4], hB 6 75 [.arr .u64 8 a8]] [CallOk P 77 [.v (.agg [.arr .u64 4 m4]), .v (.agg [.arr .u64 4 [(38 : Int), (0 : Int), (0 : Int), (0 : Int)]])] [] (.v (.agg [.arr .u64 8 a8])) []] (by kernel_rfl) (hone (ref04_times_ok m4 [(38 : Int), (0 : Int), (0 : Int), (0 : Int)] a8 e9)) ?_
      refine q_k ?_
      refine tr_seq ?_
      obtain ⟨⟨a10, r11⟩, e12, h⟩ := bind_some h
      refine tr_reg hT [(10, .call [] (.tup [.agg [.arr .u64 4 a10], .one (.int .u64 r11)]) []), (14, .key 7)] [.s 4, .s 6, .s 7, .s 9, .s 10, .s 11, .h 2, .h 4, .h 5, .h 6, .h 7] [sO 4 (.ptr 2 0), sO 6 (.ptr 4 0), sO 7 (.ptr 5 0), sO 9 (.ptr 6 0), sO 10 (.ptr 7 0), sI 11 .u64 r11, hB 2 31 [.arr .u64 4 (List.replicate 4 0)], hB 4 31 [.arr .u64 4 m3], hB 5 31 [.arr .u64 4 m4], hB 6 75 [.arr .u64 8 a8], hB 7 31 [.arr .u64 4 a10]] [0 ≤ (0 : Int) ∧ (0 : Int) < ((8 : Nat) : Int), 0 ≤ (1 : Int) ∧ (1 : Int) < ((8 : Nat) : Int), 0 ≤ (2 : Int) ∧ (2 : Int) < ((8 : Nat) : Int), 0 ≤ (3 : Int) ∧ (3 : Int) < ((8 : Nat) : Int), CallOk P 82 [.v (.agg [.arr .u64 4 m3]), .v (.agg [.arr .u64 4 [(a8.getD 0 0), (a8.getD 1 0), (a8.getD 2 0), (a8.getD 3 0)]])] [] (.tup [.agg [.arr .u64 4 a10], .one (.int .u64 r11)]) []] (by kernel_rfl) (hcons (by decide) (hcons (by decide) (hcons (by decide) (hcons (by decide) (hone (ref04_add_ok m3 [(a8.getD 0 0), (a8.getD 1 0), (a8.getD 2 0), (a8.getD 3 0)] (a10, r11) e12)))))) ?_
      refine q_k ?_
      refine tr_seq ?_
      refine tr_regd hT hM [] [.s 4, .s 6, .s 7, .h 2, .h 4, .h 5] [sO 4 (.ptr 2 0), sO 6 (.ptr 4 0), sO 7 (.ptr 5 0), hB 2 31 [.arr .u64 4 (List.replicate 4 0)], hB 4 31 [.arr .u64 4 a10], hB 5 31 [.arr .u64 4 [(IntKind.u64.wrap ((a8.getD 4 0) + r11)), (0 : Int), (0 : Int), (0 : Int)]]] [0 ≤ (4 : Int) ∧ (4 : Int) < ((8 : Nat) : Int)] (by kernel_rfl) (hone (by decide)) ?_
      refine q_k ?_
      refine tr_reg hT [] [.s 4, .s 6, .s 7, .s 8, .h 2, .h 4, .h 5] [sO 4 (.ptr 2 0), sO 6 (.ptr 4 0), sO 7 (.ptr 5 0), sB 8 (([(IntKind.u64.wrap ((a8.getD 4 0) + r11)), (0 : Int), (0 : Int), (0 : Int)].getD 0 0) != (0 : Int)), hB 2 31 [.arr .u64 4 (List.replicate 4 0)], hB 4 31 [.arr .u64 4 a10], hB 5 31 [.arr .u64 4 [(IntKind.u64.wrap ((a8.getD 4 0) + r11)), (0 : Int), (0 : Int), (0 : Int)]]] [0 ≤ (0 : Int) ∧ (0 : Int) < ((4 : Nat) : Int)] (by kernel_rfl) (hone (by decide)) ?_
      refine q_b 1 ?_
      refine q_kr ?_
      exact trR_less [.s 4, .s 6, .s 7, .s 8, .h 2, .h 4, .h 5] [sO 4 (.ptr 2 0), sO 6 (.ptr 4 0), sO 7 (.ptr 5 0), sB 8 (([(IntKind.u64.wrap ((a8.getD 4 0) + r11)), (0 : Int), (0 : Int), (0 : Int)].getD 0 0) != (0 : Int)), hB 2 31 [.arr .u64 4 (List.replicate 4 0)], hB 4 31 [.arr .u64 4 a10], hB 5 31 [.arr .u64 4 [(IntKind.u64.wrap ((a8.getD 4 0) + r11)), (0 : Int), (0 : Int), (0 : Int)]]] (by kernel_rfl) (ih0 (a10, [(IntKind.u64.wrap ((a8.getD 4 0) + r11)), (0 : Int), (0 : Int), (0 : Int)], (([(IntKind.u64.wrap ((a8.getD 4 0) + r11)), (0 : Int), (0 : Int), (0 : Int)].getD 0 0) != (0 : Int))) h)
    · refine tr_cond_f more5 (by kernel_rfl) hc7 ?_
      refine tr_exit ?_
      refine q_k_exit ?_
      refine q_kr_exit ?_
      have h := Option.some.inj h
      subst h
      exact q_less [.s 4, .s 6, .h 2, .h 4] [sO 4 (.ptr 2 0), sO 6 (.ptr 4 0), hB 2 31 [.arr .u64 4 (List.replicate 4 0)], hB 4 31 [.arr .u64 4 m3]] (by kernel_rfl) hx0

theorem limb_Below_ok (n_0 : Int) (k_1 : Int) (r : List Int) (h : limb_Below n_0 k_1 = some r) {pre : List (Nat × Ent)} : CallOk P 104 [.v (.one (.int .i64 n_0)), .v (.one (.int .u8 k_1))] pre (.v (.agg [.arr .u8 32 r])) [] := by
  refine call0 (N := 28) Try.func104 (by kernel_rfl) rfl rfl rfl pre ?_
  intro _ w
  show Tr P (Ge w) 28 _ _ _ (RetQ P Try.f104 (R0 _ w))
  unfold limb_Below at h
  refine tr_seq ?_
  refine tr_reg hT [(0, .key 0)] [.s 0, .s 1, .s 4, .h 0] [sI 0 .i64 n_0, sI 1 .u8 k_1, sO 4 (.ptr 0 0), hB 0 22 [.arr .u8 32 (List.replicate 32 0)]] [] (by kernel_rfl) trivial ?_
  refine q_k ?_
  refine tr_seq ?_
  refine tr_reg hT [(0, .key 1)] [.s 0, .s 1, .s 4, .s 5, .h 0, .h 1] [sI 0 .i64 n_0, sI 1 .u8 k_1, sO 4 (.ptr 0 0), sO 5 (.ptr 1 0), hB 0 22 [.arr .u8 32 (List.replicate 32 0)], hB 1 22 [.arr .u8 32 (List.replicate 32 0)]] [] (by kernel_rfl) trivial ?_
  refine q_k ?_
  refine tr_seq ?_
  refine tr_seq ?_
  refine tr_reg hT [] [.s 1, .s 4, .s 5, .s 7, .s 8, .h 0, .h 1] [sI 1 .u8 k_1, sO 4 (.ptr 0 0), sO 5 (.ptr 1 0), sI 7 .i64 n_0, sI 8 .i64 (0 : Int), hB 0 22 [.arr .u8 32 (List.replicate 32 0)], hB 1 22 [.arr .u8 32 (List.replicate 32 0)]] [] (by kernel_rfl) trivial ?_
  refine q_k ?_
  refine tr_block ?_
  obtain ⟨m3, e8, h⟩ := bind_some h
  refine tr_fit [] [sI 1 .u8 k_1, sO 4 (.ptr 0 0), sO 5 (.ptr 1 0), sI 7 .i64 n_0, sI 8 .i64 (0 : Int), hB 0 22 [.arr .u8 32 (List.replicate 32 0)], hB 1 22 [.arr .u8 32 (List.replicate 32 0)]] [(0, .blk 22 [.arr .u8 32 (List.replicate 32 0)]), (1, .blk 22 [.arr .u8 32 (List.replicate 32 0)])] (by kernel_rfl) (by kernel_rfl) (by kernel_rfl) rfl ⟨.blk (by kernel_rfl) (by kernel_rfl), .blk (by kernel_rfl) (by kernel_rfl), trivial⟩ (by kernel_rfl) ?_
  refine tr_loop_fuel (id := 0) (α := List Int × Int) (β := List Int) (fun z => [sI 1 .u8 k_1, sO 4 (.ptr 0 0), sO 5 (.ptr 1 0), sI 7 .i64 n_0, sI 8 .i64 z.2, hB 0 22 [.arr .u8 32 (List.replicate 32 0)], hB 1 22 [.arr .u8 32 z.1]]) (fun z => [sI 1 .u8 k_1, sO 4 (.ptr 0 0), sO 5 (.ptr 1 0), hB 0 22 [.arr .u8 32 (List.replicate 32 0)], hB 1 22 [.arr .u8 32 z]]) (fun k z => limb_Below_l0 n_0 k_1 k z.1 z.2) m3 (fun _ => rfl) ((n_0 - (0 : Int)).toNat + 1) ((List.replicate 32 0), (0 : Int)) e8 ?_ ?_
  · skip
    replace h : (some (m3.set 0 (IntKind.u8.wrap ((m3.getD 0 0) - (IntKind.u8.wrap (k_1 - (1 : Int))))))) = _ := h
    refine q_b_this ?_
    refine q_k ?_
    refine tr_seq ?_
    refine tr_reg hT [] [.s 4, .s 5, .h 0, .h 1] [sO 4 (.ptr 0 0), sO 5 (.ptr 1 0), hB 0 22 [.arr .u8 32 (List.replicate 32 0)], hB 1 22 [.arr .u8 32 (m3.set 0 (IntKind.u8.wrap ((m3.getD 0 0) - (IntKind.u8.wrap (k_1 - (1 : Int))))))]] [0 ≤ (0 : Int) ∧ (0 : Int) < ((32 : Nat) : Int), 0 ≤ (0 : Int) ∧ (0 : Int) < ((32 : Nat) : Int)] (by kernel_rfl) (hcons (by decide) (hone (by decide))) ?_
    refine q_k ?_
    refine tr_seq ?_
    refine tr_reg hT [] [.s 4, .h 0] [sO 4 (.ptr 0 0), hB 0 22 [.arr .u8 32 (m3.set 0 (IntKind.u8.wrap ((m3.getD 0 0) - (IntKind.u8.wrap (k_1 - (1 : Int))))))]] [] (by kernel_rfl) trivial ?_
    refine q_k ?_
    refine tr_ret ?_
    have h := Option.some.inj h
    subst h
    exact q_ret0 hT (.v (.agg [.arr .u8 32 (m3.set 0 (IntKind.u8.wrap ((m3.getD 0 0) - (IntKind.u8.wrap (k_1 - (1 : Int))))))])) rfl (by kernel_rfl)
  · clear h e8
    intro k ih0 hx0 z h
    obtain ⟨m1, x2⟩ := z
    replace h : (if (decide (x2 < n_0)) = true then if 0 ≤ (IntKind.i64.wrap (x2.tdiv (8 : Int))) ∧ (IntKind.i64.wrap (x2.tdiv (8 : Int))) < ((32 : Nat) : Int) then if 0 ≤ (x2.tmod (8 : Int)) then if 0 ≤ (IntKind.i64.wrap (x2.tdiv (8 : Int))) ∧ (IntKind.i64.wrap (x2.tdiv (8 : Int))) < ((32 : Nat) : Int) then limb_Below_l0 n_0 k_1 k (m1.set (IntKind.i64.wrap (x2.tdiv (8 : Int))).toNat (bor .u8 (m1.getD (IntKind.i64.wrap (x2.tdiv (8 : Int))).toNat 0) (shl .u8 (1 : Int) (x2.tmod (8 : Int))))) (IntKind.i64.wrap (x2 + (1 : Int))) else none else none else none else some m1) = _ := h
    refine tr_seq ?_
    refine tr_reg hT [] [.s 1, .s 4, .s 5, .s 7, .s 8, .s 9, .h 0, .h 1] [sI 1 .u8 k_1, sO 4 (.ptr 0 0), sO 5 (.ptr 1 0), sI 7 .i64 n_0, sI 8 .i64 x2, sB 9 (decide (x2 < n_0)), hB 0 22 [.arr .u8 32 (List.replicate 32 0)], hB 1 22 [.arr .u8 32 m1]] [] (by kernel_rfl) trivial ?_
    refine q_k ?_
    refine tr_seq ?_
    rcases ite_split h with ⟨hc4, h⟩ | ⟨hc4, h⟩
    · refine tr_cond_t (decide (x2 < n_0)) (by kernel_rfl) hc4 ?_
      refine tr_skip ?_
      refine q_k ?_
      refine tr_seq ?_
      refine tr_block ?_
      refine tr_seq ?_
      refine tr_reg hT [] [.s 1, .s 4, .s 5, .s 6, .s 7, .s 8, .h 0, .h 1] [sI 1 .u8 k_1, sO 4 (.ptr 0 0), sO 5 (.ptr 1 0), sI 6 .i64 x2, sI 7 .i64 n_0, sI 8 .i64 x2, hB 0 22 [.arr .u8 32 (List.replicate 32 0)], hB 1 22 [.arr .u8 32 m1]] [] (by kernel_rfl) trivial ?_
      refine q_k ?_
      obtain ⟨hn5, h⟩ := ite_some h
      obtain ⟨hn6, h⟩ := ite_some h
      obtain ⟨hn7, h⟩ := ite_some h
      refine tr_regd hT hM [] [.s 1, .s 4, .s 5, .s 7, .s 8, .h 0, .h 1] [sI 1 .u8 k_1, sO 4 (.ptr 0 0), sO 5 (.ptr 1 0), sI 7 .i64 n_0, sI 8 .i64 x2, hB 0 22 [.arr .u8 32 (List.replicate 32 0)], hB 1 22 [.arr .u8 32 (m1.set (IntKind.i64.wrap (x2.tdiv (8 : Int))).toNat (bor .u8 (m1.getD (IntKind.i64.wrap (x2.tdiv (8 : Int))).toNat 0) (shl .u8 (1 : Int) (x2.tmod (8 : Int)))))]] [(8 : Int) ≠ 0, 0 ≤ (IntKind.i64.wrap (x2.tdiv (8 : Int))) ∧ (IntKind.i64.wrap (x2.tdiv (8 : Int))) < ((32 : Nat) : Int), (8 : Int) ≠ 0, 0 ≤ (x2.tmod (8 : Int)), 0 ≤ (IntKind.i64.wrap (x2.tdiv (8 : Int))) ∧ (IntKind.i64.wrap (x2.tdiv (8 : Int))) < ((32 : Nat) : Int)] (by kernel_rfl) (hcons (by decide) (hcons hn5 (hcons (by decide) (hcons hn6 (hone hn7))))) ?_
      refine q_b 1 ?_
      refine q_k ?_
      refine tr_reg hT [] [.s 1, .s 4, .s 5, .s 7, .s 8, .h 0, .h 1] [sI 1 .u8 k_1, sO 4 (.ptr 0 0), sO 5 (.ptr 1 0), sI 7 .i64 n_0, sI 8 .i64 (IntKind.i64.wrap (x2 + (1 : Int))), hB 0 22 [.arr .u8 32 (List.replicate 32 0)], hB 1 22 [.arr .u8 32 (m1.set (IntKind.i64.wrap (x2.tdiv (8 : Int))).toNat (bor .u8 (m1.getD (IntKind.i64.wrap (x2.tdiv (8 : Int))).toNat 0) (shl .u8 (1 : Int) (x2.tmod (8 : Int)))))]] [] (by kernel_rfl) trivial ?_
      refine q_kr ?_
      exact trR_less [.s 1, .s 4, .s 5, .s 7, .s 8, .h 0, .h 1] [sI 1 .u8 k_1, sO 4 (.ptr 0 0), sO 5 (.ptr 1 0), sI 7 .i64 n_0, sI 8 .i64 (IntKind.i64.wrap (x2 + (1 : Int))), hB 0 22 [.arr .u8 32 (List.replicate 32 0)], hB 1 22 [.arr .u8 32 (m1.set (IntKind.i64.wrap (x2.tdiv (8 : Int))).toNat (bor .u8 (m1.getD (IntKind.i64.wrap (x2.tdiv (8 : Int))).toNat 0) (shl .u8 (1 : Int) (x2.tmod (8 : Int)))))]] (by kernel_rfl) (ih0 ((m1.set (IntKind.i64.wrap (x2.tdiv (8 : Int))).toNat (bor .u8 (m1.getD (IntKind.i64.wrap (x2.tdiv (8 : Int))).toNat 0) (shl .u8 (1 : Int) (x2.tmod (8 : Int))))), (IntKind.i64.wrap (x2 + (1 : Int)))) h)
    · refine tr_cond_f (decide (x2 < n_0)) (by kernel_rfl) hc4 ?_
      refine tr_exit ?_
      refine q_k_exit ?_
      refine q_kr_exit ?_
      have h := Option.some.inj h
      subst h
      exact q_less [.s 1, .s 4, .s 5, .h 0, .h 1] [sI 1 .u8 k_1, sO 4 (.ptr 0 0), sO 5 (.ptr 1 0), hB 0 22 [.arr .u8 32 (List.replicate 32 0)], hB 1 22 [.arr .u8 32 m1]] (by kernel_rfl) hx0

theorem limb_Small_ok (x_0 : Int) (r : List Int) (h : limb_Small x_0 = some r) {pre : List (Nat × Ent)} : CallOk P 87 [.v (.one (.int .u64 x_0))] pre (.v (.agg [.arr .u64 5 r])) [] := by
  refine call0 (N := 5) Try.func87 (by kernel_rfl) rfl rfl rfl pre ?_
  intro _ w
  show Tr P (Ge w) 5 _ _ _ (RetQ P Try.f87 (R0 _ w))
  unfold limb_Small at h
  refine tr_seq ?_
  refine tr_reg hT [(0, .key 0)] [.s 0, .s 2, .h 0] [sI 0 .u64 x_0, sO 2 (.ptr 0 0), hB 0 71 [.arr .u64 5 (List.replicate 5 0)]] [] (by kernel_rfl) trivial ?_
  refine q_k ?_
  refine tr_seq ?_
  refine tr_reg hT [] [.s 2, .h 0] [sO 2 (.ptr 0 0), hB 0 71 [.arr .u64 5 [x_0, (0 : Int), (0 : Int), (0 : Int), (0 : Int)]]] [] (by kernel_rfl) trivial ?_
  refine q_k ?_
  refine tr_ret ?_
  have h := Option.some.inj h
  subst h
  exact q_ret0 hT (.v (.agg [.arr .u64 5 [x_0, (0 : Int), (0 : Int), (0 : Int), (0 : Int)]])) rfl (by kernel_rfl)

end Go.Proofs.Sb
