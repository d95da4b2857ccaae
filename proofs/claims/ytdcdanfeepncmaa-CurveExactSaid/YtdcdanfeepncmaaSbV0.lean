/- Walks, printed by a program of this session (gowalk.py): each Go function comes to its plain function's answer. -/
import Derived.Test.YtdcdanfeepncmaaSbA
import Derived.Test.YtdcdanfeepncmaaSbD
import Derived.Test.YtdcdanfeepncmaaSbI
namespace Go.Proofs.Sb
open Go Go.Gw D
set_option linter.unusedVariables false
set_option maxRecDepth 20000

theorem law04_Num_ok (n_0 : Int) (r : List Int) (h : law04_Num n_0 = some r) {pre : List (Nat × Ent)} : CallOk P 26 [.v (.one (.int .i64 n_0))] pre (.v (.agg [.arr .u8 32 r])) [] := by
  refine call0 (N := 18) Try.func26 (by kernel_rfl) rfl rfl rfl pre ?_
  intro _ w
  show Tr P (Ge w) 18 _ _ _ (RetQ P Try.f26 (R0 _ w))
  unfold law04_Num at h
  refine tr_seq ?_
  refine tr_reg hT [(0, .key 0)] [.s 0, .s 2, .h 0] [sI 0 .i64 n_0, sO 2 (.ptr 0 0), hB 0 22 [.arr .u8 32 (List.replicate 32 0)]] [] (by kernel_rfl) trivial ?_
  refine q_k ?_
  refine tr_seq ?_
  refine tr_reg hT [(0, .key 1)] [.s 0, .s 2, .s 3, .h 0, .h 1] [sI 0 .i64 n_0, sO 2 (.ptr 0 0), sO 3 (.ptr 1 0), hB 0 22 [.arr .u8 32 (List.replicate 32 0)], hB 1 22 [.arr .u8 32 (List.replicate 32 0)]] [] (by kernel_rfl) trivial ?_
  refine q_k ?_
  refine tr_seq ?_
  refine tr_seq ?_
  refine tr_reg hT [] [.s 0, .s 2, .s 3, .s 4, .h 0, .h 1] [sI 0 .i64 n_0, sO 2 (.ptr 0 0), sO 3 (.ptr 1 0), sI 4 .i64 (0 : Int), hB 0 22 [.arr .u8 32 (List.replicate 32 0)], hB 1 22 [.arr .u8 32 (List.replicate 32 0)]] [] (by kernel_rfl) trivial ?_
  refine q_k ?_
  refine tr_block ?_
  obtain ⟨m3, e7, h⟩ := bind_some h
  refine tr_fit [] [sI 0 .i64 n_0, sO 2 (.ptr 0 0), sO 3 (.ptr 1 0), sI 4 .i64 (0 : Int), hB 0 22 [.arr .u8 32 (List.replicate 32 0)], hB 1 22 [.arr .u8 32 (List.replicate 32 0)]] [(0, .blk 22 [.arr .u8 32 (List.replicate 32 0)]), (1, .blk 22 [.arr .u8 32 (List.replicate 32 0)])] (by kernel_rfl) (by kernel_rfl) (by kernel_rfl) rfl ⟨.blk (by kernel_rfl) (by kernel_rfl), .blk (by kernel_rfl) (by kernel_rfl), trivial⟩ (by kernel_rfl) ?_
  refine tr_loop_fuel (id := 0) (α := List Int × Int) (β := List Int) (fun z => [sI 0 .i64 n_0, sO 2 (.ptr 0 0), sO 3 (.ptr 1 0), sI 4 .i64 z.2, hB 0 22 [.arr .u8 32 (List.replicate 32 0)], hB 1 22 [.arr .u8 32 z.1]]) (fun z => [sO 2 (.ptr 0 0), sO 3 (.ptr 1 0), hB 0 22 [.arr .u8 32 (List.replicate 32 0)], hB 1 22 [.arr .u8 32 z]]) (fun k z => law04_Num_l0 n_0 k z.1 z.2) m3 (fun _ => rfl) (((8 : Int) - (0 : Int)).toNat + 1) ((List.replicate 32 0), (0 : Int)) e7 ?_ ?_
  · skip
    replace h : (some m3) = _ := h
    refine q_b_this ?_
    refine q_k ?_
    refine tr_seq ?_
    refine tr_reg hT [] [.s 2, .h 0] [sO 2 (.ptr 0 0), hB 0 22 [.arr .u8 32 m3]] [] (by kernel_rfl) trivial ?_
    refine q_k ?_
    refine tr_ret ?_
    have h := Option.some.inj h
    subst h
    exact q_ret0 hT (.v (.agg [.arr .u8 32 m3])) rfl (by kernel_rfl)
  · clear h e7
    intro k ih0 hx0 z h
    obtain ⟨m1, i2⟩ := z
    replace h : (if (decide (i2 < (8 : Int))) = true then if 0 ≤ (IntKind.u64.wrap (IntKind.i64.wrap ((8 : Int) * i2))) then if 0 ≤ i2 ∧ i2 < ((32 : Nat) : Int) then law04_Num_l0 n_0 k (m1.set i2.toNat (IntKind.u8.wrap (shr .i64 n_0 (IntKind.u64.wrap (IntKind.i64.wrap ((8 : Int) * i2)))))) (IntKind.i64.wrap (i2 + (1 : Int))) else none else none else some m1) = _ := h
    refine tr_seq ?_
    refine tr_seq ?_
    refine tr_reg hT [] [.s 0, .s 2, .s 3, .s 4, .s 6, .h 0, .h 1] [sI 0 .i64 n_0, sO 2 (.ptr 0 0), sO 3 (.ptr 1 0), sI 4 .i64 i2, sB 6 (decide (i2 < (8 : Int))), hB 0 22 [.arr .u8 32 (List.replicate 32 0)], hB 1 22 [.arr .u8 32 m1]] [] (by kernel_rfl) trivial ?_
    refine q_k ?_
    rcases ite_split h with ⟨hc4, h⟩ | ⟨hc4, h⟩
    · refine tr_cond_t (decide (i2 < (8 : Int))) (by kernel_rfl) hc4 ?_
      refine tr_skip ?_
      refine q_k ?_
      refine tr_seq ?_
      refine tr_block ?_
      obtain ⟨hn5, h⟩ := ite_some h
      obtain ⟨hn6, h⟩ := ite_some h
      refine tr_reg hT [] [.s 0, .s 2, .s 3, .s 4, .h 0, .h 1] [sI 0 .i64 n_0, sO 2 (.ptr 0 0), sO 3 (.ptr 1 0), sI 4 .i64 i2, hB 0 22 [.arr .u8 32 (List.replicate 32 0)], hB 1 22 [.arr .u8 32 (m1.set i2.toNat (IntKind.u8.wrap (shr .i64 n_0 (IntKind.u64.wrap (IntKind.i64.wrap ((8 : Int) * i2))))))]] [0 ≤ (IntKind.u64.wrap (IntKind.i64.wrap ((8 : Int) * i2))), 0 ≤ i2 ∧ i2 < ((32 : Nat) : Int)] (by kernel_rfl) (hcons hn5 (hone hn6)) ?_
      refine q_b 1 ?_
      refine q_k ?_
      refine tr_reg hT [] [.s 0, .s 2, .s 3, .s 4, .h 0, .h 1] [sI 0 .i64 n_0, sO 2 (.ptr 0 0), sO 3 (.ptr 1 0), sI 4 .i64 (IntKind.i64.wrap (i2 + (1 : Int))), hB 0 22 [.arr .u8 32 (List.replicate 32 0)], hB 1 22 [.arr .u8 32 (m1.set i2.toNat (IntKind.u8.wrap (shr .i64 n_0 (IntKind.u64.wrap (IntKind.i64.wrap ((8 : Int) * i2))))))]] [] (by kernel_rfl) trivial ?_
      refine q_kr ?_
      exact trR_less [.s 0, .s 2, .s 3, .s 4, .h 0, .h 1] [sI 0 .i64 n_0, sO 2 (.ptr 0 0), sO 3 (.ptr 1 0), sI 4 .i64 (IntKind.i64.wrap (i2 + (1 : Int))), hB 0 22 [.arr .u8 32 (List.replicate 32 0)], hB 1 22 [.arr .u8 32 (m1.set i2.toNat (IntKind.u8.wrap (shr .i64 n_0 (IntKind.u64.wrap (IntKind.i64.wrap ((8 : Int) * i2))))))]] (by kernel_rfl) (ih0 ((m1.set i2.toNat (IntKind.u8.wrap (shr .i64 n_0 (IntKind.u64.wrap (IntKind.i64.wrap ((8 : Int) * i2)))))), (IntKind.i64.wrap (i2 + (1 : Int)))) h)
    · refine tr_cond_f (decide (i2 < (8 : Int))) (by kernel_rfl) hc4 ?_
      refine tr_exit ?_
      refine q_k_exit ?_
      refine q_kr_exit ?_
      have h := Option.some.inj h
      subst h
      exact q_less [.s 2, .s 3, .h 0, .h 1] [sO 2 (.ptr 0 0), sO 3 (.ptr 1 0), hB 0 22 [.arr .u8 32 (List.replicate 32 0)], hB 1 22 [.arr .u8 32 m1]] (by kernel_rfl) hx0

theorem math_bits_Mul64_ok (x_0 : Int) (y_1 : Int) (r : Int × Int) (h : math_bits_Mul64 x_0 y_1 = some r) {pre : List (Nat × Ent)} : CallOk P 100 [.v (.one (.int .u64 x_0)), .v (.one (.int .u64 y_1))] pre (.tup [.one (.int .u64 r.1), .one (.int .u64 r.2)]) [] := by
  refine call0 (N := 51) Try.func100 (by kernel_rfl) rfl rfl rfl pre ?_
  intro _ w
  show Tr P (Ge w) 51 _ _ _ (RetQ P Try.f100 (R0 _ w))
  unfold math_bits_Mul64 at h
  refine tr_seq ?_
  refine tr_reg hT [] [.s 0, .s 1] [sI 0 .u64 x_0, sI 1 .u64 y_1] [] (by kernel_rfl) trivial ?_
  refine q_k ?_
  refine tr_seq ?_
  refine tr_reg hT [] [.s 0, .s 1, .s 6] [sI 0 .u64 x_0, sI 1 .u64 y_1, sI 6 .u64 (band .u64 x_0 (4294967295 : Int))] [] (by kernel_rfl) trivial ?_
  refine q_k ?_
  refine tr_seq ?_
  refine tr_reg hT [] [.s 0, .s 1, .s 6, .s 7] [sI 0 .u64 x_0, sI 1 .u64 y_1, sI 6 .u64 (band .u64 x_0 (4294967295 : Int)), sI 7 .u64 (shr .u64 x_0 (32 : Int))] [0 ≤ (32 : Int)] (by kernel_rfl) (hone (by decide)) ?_
  refine q_k ?_
  refine tr_seq ?_
  refine tr_reg hT [] [.s 0, .s 1, .s 6, .s 7, .s 8] [sI 0 .u64 x_0, sI 1 .u64 y_1, sI 6 .u64 (band .u64 x_0 (4294967295 : Int)), sI 7 .u64 (shr .u64 x_0 (32 : Int)), sI 8 .u64 (band .u64 y_1 (4294967295 : Int))] [] (by kernel_rfl) trivial ?_
  refine q_k ?_
  refine tr_seq ?_
  refine tr_reg hT [] [.s 0, .s 1, .s 6, .s 7, .s 8, .s 9] [sI 0 .u64 x_0, sI 1 .u64 y_1, sI 6 .u64 (band .u64 x_0 (4294967295 : Int)), sI 7 .u64 (shr .u64 x_0 (32 : Int)), sI 8 .u64 (band .u64 y_1 (4294967295 : Int)), sI 9 .u64 (shr .u64 y_1 (32 : Int))] [0 ≤ (32 : Int)] (by kernel_rfl) (hone (by decide)) ?_
  refine q_k ?_
  refine tr_seq ?_
  refine tr_reg hT [] [.s 0, .s 1, .s 6, .s 7, .s 8, .s 9, .s 10] [sI 0 .u64 x_0, sI 1 .u64 y_1, sI 6 .u64 (band .u64 x_0 (4294967295 : Int)), sI 7 .u64 (shr .u64 x_0 (32 : Int)), sI 8 .u64 (band .u64 y_1 (4294967295 : Int)), sI 9 .u64 (shr .u64 y_1 (32 : Int)), sI 10 .u64 (IntKind.u64.wrap ((band .u64 x_0 (4294967295 : Int)) * (band .u64 y_1 (4294967295 : Int))))] [] (by kernel_rfl) trivial ?_
  refine q_k ?_
  refine tr_seq ?_
  refine tr_reg hT [] [.s 0, .s 1, .s 6, .s 7, .s 9, .s 11] [sI 0 .u64 x_0, sI 1 .u64 y_1, sI 6 .u64 (band .u64 x_0 (4294967295 : Int)), sI 7 .u64 (shr .u64 x_0 (32 : Int)), sI 9 .u64 (shr .u64 y_1 (32 : Int)), sI 11 .u64 (IntKind.u64.wrap ((IntKind.u64.wrap ((shr .u64 x_0 (32 : Int)) * (band .u64 y_1 (4294967295 : Int)))) + (shr .u64 (IntKind.u64.wrap ((band .u64 x_0 (4294967295 : Int)) * (band .u64 y_1 (4294967295 : Int)))) (32 : Int))))] [0 ≤ (32 : Int)] (by kernel_rfl) (hone (by decide)) ?_
  refine q_k ?_
  refine tr_seq ?_
  refine tr_reg hT [] [.s 0, .s 1, .s 6, .s 7, .s 9, .s 11, .s 12] [sI 0 .u64 x_0, sI 1 .u64 y_1, sI 6 .u64 (band .u64 x_0 (4294967295 : Int)), sI 7 .u64 (shr .u64 x_0 (32 : Int)), sI 9 .u64 (shr .u64 y_1 (32 : Int)), sI 11 .u64 (IntKind.u64.wrap ((IntKind.u64.wrap ((shr .u64 x_0 (32 : Int)) * (band .u64 y_1 (4294967295 : Int)))) + (shr .u64 (IntKind.u64.wrap ((band .u64 x_0 (4294967295 : Int)) * (band .u64 y_1 (4294967295 : Int)))) (32 : Int)))), sI 12 .u64 (band .u64 (IntKind.u64.wrap ((IntKind.u64.wrap ((shr .u64 x_0 (32 : Int)) * (band .u64 y_1 (4294967295 : Int)))) + (shr .u64 (IntKind.u64.wrap ((band .u64 x_0 (4294967295 : Int)) * (band .u64 y_1 (4294967295 : Int)))) (32 : Int)))) (4294967295 : Int))] [] (by kernel_rfl) trivial ?_
  refine q_k ?_
  refine tr_seq ?_
  refine tr_reg hT [] [.s 0, .s 1, .s 6, .s 7, .s 9, .s 12, .s 13] [sI 0 .u64 x_0, sI 1 .u64 y_1, sI 6 .u64 (band .u64 x_0 (4294967295 : Int)), sI 7 .u64 (shr .u64 x_0 (32 : Int)), sI 9 .u64 (shr .u64 y_1 (32 : Int)), sI 12 .u64 (band .u64 (IntKind.u64.wrap ((IntKind.u64.wrap ((shr .u64 x_0 (32 : Int)) * (band .u64 y_1 (4294967295 : Int)))) + (shr .u64 (IntKind.u64.wrap ((band .u64 x_0 (4294967295 : Int)) * (band .u64 y_1 (4294967295 : Int)))) (32 : Int)))) (4294967295 : Int)), sI 13 .u64 (shr .u64 (IntKind.u64.wrap ((IntKind.u64.wrap ((shr .u64 x_0 (32 : Int)) * (band .u64 y_1 (4294967295 : Int)))) + (shr .u64 (IntKind.u64.wrap ((band .u64 x_0 (4294967295 : Int)) * (band .u64 y_1 (4294967295 : Int)))) (32 : Int)))) (32 : Int))] [0 ≤ (32 : Int)] (by kernel_rfl) (hone (by decide)) ?_
  refine q_k ?_
  refine tr_seq ?_
  refine tr_reg hT [] [.s 0, .s 1, .s 7, .s 9, .s 12, .s 13] [sI 0 .u64 x_0, sI 1 .u64 y_1, sI 7 .u64 (shr .u64 x_0 (32 : Int)), sI 9 .u64 (shr .u64 y_1 (32 : Int)), sI 12 .u64 (IntKind.u64.wrap ((band .u64 (IntKind.u64.wrap ((IntKind.u64.wrap ((shr .u64 x_0 (32 : Int)) * (band .u64 y_1 (4294967295 : Int)))) + (shr .u64 (IntKind.u64.wrap ((band .u64 x_0 (4294967295 : Int)) * (band .u64 y_1 (4294967295 : Int)))) (32 : Int)))) (4294967295 : Int)) + (IntKind.u64.wrap ((band .u64 x_0 (4294967295 : Int)) * (shr .u64 y_1 (32 : Int)))))), sI 13 .u64 (shr .u64 (IntKind.u64.wrap ((IntKind.u64.wrap ((shr .u64 x_0 (32 : Int)) * (band .u64 y_1 (4294967295 : Int)))) + (shr .u64 (IntKind.u64.wrap ((band .u64 x_0 (4294967295 : Int)) * (band .u64 y_1 (4294967295 : Int)))) (32 : Int)))) (32 : Int))] [] (by kernel_rfl) trivial ?_
  refine q_k ?_
  refine tr_seq ?_
  refine tr_reg hT [] [.s 0, .s 1, .s 4] [sI 0 .u64 x_0, sI 1 .u64 y_1, sI 4 .u64 (IntKind.u64.wrap ((IntKind.u64.wrap ((IntKind.u64.wrap ((shr .u64 x_0 (32 : Int)) * (shr .u64 y_1 (32 : Int)))) + (shr .u64 (IntKind.u64.wrap ((IntKind.u64.wrap ((shr .u64 x_0 (32 : Int)) * (band .u64 y_1 (4294967295 : Int)))) + (shr .u64 (IntKind.u64.wrap ((band .u64 x_0 (4294967295 : Int)) * (band .u64 y_1 (4294967295 : Int)))) (32 : Int)))) (32 : Int)))) + (shr .u64 (IntKind.u64.wrap ((band .u64 (IntKind.u64.wrap ((IntKind.u64.wrap ((shr .u64 x_0 (32 : Int)) * (band .u64 y_1 (4294967295 : Int)))) + (shr .u64 (IntKind.u64.wrap ((band .u64 x_0 (4294967295 : Int)) * (band .u64 y_1 (4294967295 : Int)))) (32 : Int)))) (4294967295 : Int)) + (IntKind.u64.wrap ((band .u64 x_0 (4294967295 : Int)) * (shr .u64 y_1 (32 : Int)))))) (32 : Int))))] [0 ≤ (32 : Int)] (by kernel_rfl) (hone (by decide)) ?_
  refine q_k ?_
  refine tr_seq ?_
  refine tr_reg hT [] [.s 4, .s 5] [sI 4 .u64 (IntKind.u64.wrap ((IntKind.u64.wrap ((IntKind.u64.wrap ((shr .u64 x_0 (32 : Int)) * (shr .u64 y_1 (32 : Int)))) + (shr .u64 (IntKind.u64.wrap ((IntKind.u64.wrap ((shr .u64 x_0 (32 : Int)) * (band .u64 y_1 (4294967295 : Int)))) + (shr .u64 (IntKind.u64.wrap ((band .u64 x_0 (4294967295 : Int)) * (band .u64 y_1 (4294967295 : Int)))) (32 : Int)))) (32 : Int)))) + (shr .u64 (IntKind.u64.wrap ((band .u64 (IntKind.u64.wrap ((IntKind.u64.wrap ((shr .u64 x_0 (32 : Int)) * (band .u64 y_1 (4294967295 : Int)))) + (shr .u64 (IntKind.u64.wrap ((band .u64 x_0 (4294967295 : Int)) * (band .u64 y_1 (4294967295 : Int)))) (32 : Int)))) (4294967295 : Int)) + (IntKind.u64.wrap ((band .u64 x_0 (4294967295 : Int)) * (shr .u64 y_1 (32 : Int)))))) (32 : Int)))), sI 5 .u64 (IntKind.u64.wrap (x_0 * y_1))] [] (by kernel_rfl) trivial ?_
  refine q_k ?_
  refine tr_ret ?_
  have h := Option.some.inj h
  subst h
  exact q_ret0 hT (.tup [.one (.int .u64 (IntKind.u64.wrap ((IntKind.u64.wrap ((IntKind.u64.wrap ((shr .u64 x_0 (32 : Int)) * (shr .u64 y_1 (32 : Int)))) + (shr .u64 (IntKind.u64.wrap ((IntKind.u64.wrap ((shr .u64 x_0 (32 : Int)) * (band .u64 y_1 (4294967295 : Int)))) + (shr .u64 (IntKind.u64.wrap ((band .u64 x_0 (4294967295 : Int)) * (band .u64 y_1 (4294967295 : Int)))) (32 : Int)))) (32 : Int)))) + (shr .u64 (IntKind.u64.wrap ((band .u64 (IntKind.u64.wrap ((IntKind.u64.wrap ((shr .u64 x_0 (32 : Int)) * (band .u64 y_1 (4294967295 : Int)))) + (shr .u64 (IntKind.u64.wrap ((band .u64 x_0 (4294967295 : Int)) * (band .u64 y_1 (4294967295 : Int)))) (32 : Int)))) (4294967295 : Int)) + (IntKind.u64.wrap ((band .u64 x_0 (4294967295 : Int)) * (shr .u64 y_1 (32 : Int)))))) (32 : Int))))), .one (.int .u64 (IntKind.u64.wrap (x_0 * y_1)))]) rfl (by kernel_rfl)

theorem ref04_L_ok (r : List Int) (h : ref04_L = some r) {pre : List (Nat × Ent)} : CallOk P 30 [] pre (.v (.agg [.arr .u64 4 r])) [] := by
  refine call0 (N := 2) Try.func30 (by kernel_rfl) rfl rfl rfl pre ?_
  intro _ w
  show Tr P (Ge w) 2 _ _ _ (RetQ P Try.f30 (R0 _ w))
  unfold ref04_L at h
  refine tr_seq ?_
  refine tr_reg hT [(0, .key 0)] [.s 0, .h 0] [sO 0 (.ptr 0 0), hB 0 31 [.arr .u64 4 (List.replicate 4 0)]] [] (by kernel_rfl) trivial ?_
  refine q_k ?_
  refine tr_seq ?_
  refine tr_reg hT [] [.s 0, .h 0] [sO 0 (.ptr 0 0), hB 0 31 [.arr .u64 4 [(6346243789798364141 : Int), (1503914060200516822 : Int), (0 : Int), (1152921504606846976 : Int)]]] [] (by kernel_rfl) trivial ?_
  refine q_k ?_
  refine tr_ret ?_
  have h := Option.some.inj h
  subst h
  exact q_ret0 hT (.v (.agg [.arr .u64 4 [(6346243789798364141 : Int), (1503914060200516822 : Int), (0 : Int), (1152921504606846976 : Int)]])) rfl (by kernel_rfl)

end Go.Proofs.Sb
