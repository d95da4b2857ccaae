/- Walks, printed by a program of this session (gowalk.py): each Go function comes to its plain function's answer. -/
import Derived.Test.YtdcdanfeepncmaaSbA
import Derived.Test.YtdcdanfeepncmaaSbD
import Derived.Test.YtdcdanfeepncmaaSbI
namespace Go.Proofs.Sb
open Go Go.Gw D
set_option linter.unusedVariables false
set_option maxRecDepth 20000

theorem law04_Num_ok (n_0 : Int) (r : List Int) (h : law04_Num n_0 = some r) {pre : List (Nat × Ent)} : CallOk P 26 [.v (.one (.int .i64 n_0))] pre (.v (.agg [.arr .u8 32 r])) [] := by
  refine call0 (N := 18) Try.func26 (by kernel_rfl) rfl rfl rfl pre ?_
  intro _ w
  show Tr P w.heap.size 18 w _ _ (RetQ P Try.f26 (R0 _ w))
  unfold law04_Num at h
  refine tr_seq ?_
  refine tr_reg hT [(0, .key 0)] [.s 0, .s 2, .h 0] [sI 0 .i64 n_0, sO 2 (.ptr 0 0), hB 0 22 [.arr .u8 32 (List.replicate 32 0)]] [] (by kernel_rfl) trivial ?_
  refine q_k ?_
  refine tr_seq ?_
  refine tr_reg hT [(0, .key 1)] [.s 0, .s 2, .s 3, .h 0, .h 1] [sI 0 .i64 n_0, sO 2 (.ptr 0 0), sO 3 (.ptr 1 0), hB 0 22 [.arr .u8 32 (List.replicate 32 0)], hB 1 22 [.arr .u8 32 (List.replicate 32 0)]] [] (by kernel_rfl) trivial ?_
  refine q_k ?_
  refine tr_seq ?_
  refine tr_seq ?_
  refine tr_reg hT [] [.s 0, .s 2, .s 3, .s 4, .h 0, .h 1] [sI 0 .i64 n_0, sO 2 (.ptr 0 0), sO 3 (.ptr 1 0), sI 4 .i64 (0 : Int), hB 0 22 [.arr .u8 32 (List.replicate 32 0)], hB 1 22 [.arr .u8 32 (List.replicate 32 0)]] [] (by kernel_rfl) trivial ?_
  refine q_k ?_
  refine tr_block ?_
  obtain ⟨m6, e7, h⟩ := bind_some h
  refine tr_less [.s 0, .s 2, .s 3, .s 4, .h 0, .h 1] [sI 0 .i64 n_0, sO 2 (.ptr 0 0), sO 3 (.ptr 1 0), sI 4 .i64 (0 : Int), hB 0 22 [.arr .u8 32 (List.replicate 32 0)], hB 1 22 [.arr .u8 32 (List.replicate 32 0)]] (by kernel_rfl) ?_
  refine tr_loop_fuel (id := 0) (α := List Int × Int) (β := List Int) (fun z => [sI 0 .i64 n_0, sO 2 (.ptr 0 0), sO 3 (.ptr 1 0), sI 4 .i64 z.2, hB 0 22 [.arr .u8 32 (List.replicate 32 0)], hB 1 22 [.arr .u8 32 z.1]]) (fun z => [sO 2 (.ptr 0 0), sO 3 (.ptr 1 0), hB 0 22 [.arr .u8 32 (List.replicate 32 0)], hB 1 22 [.arr .u8 32 z]]) (fun k z => law04_Num_l0 n_0 k z.1 z.2) m6 (fun _ => rfl) (((8 : Int) - (0 : Int)).toNat + 1) ((List.replicate 32 0), (0 : Int)) e7 ?_ ?_
  · skip
    replace h : (some m6) = _ := h
    refine q_b_this ?_
    refine q_k ?_
    refine tr_seq ?_
    refine tr_reg hT [] [.s 2, .h 0] [sO 2 (.ptr 0 0), hB 0 22 [.arr .u8 32 m6]] [] (by kernel_rfl) trivial ?_
    refine q_k ?_
    refine tr_ret ?_
    have h := Option.some.inj h
    subst h
    exact q_ret0 hT (.v (.agg [.arr .u8 32 m6])) rfl (by kernel_rfl)
  · clear h e7
    intro k ih0 hx0 z h
    obtain ⟨m1, i2⟩ := z
    replace h : (if (decide (i2 < (8 : Int))) = true then if 0 ≤ (IntKind.u64.wrap (IntKind.i64.wrap ((8 : Int) * i2))) then if 0 ≤ i2 ∧ i2 < ((32 : Nat) : Int) then law04_Num_l0 n_0 k (m1.set i2.toNat (IntKind.u8.wrap (shr .i64 n_0 (IntKind.u64.wrap (IntKind.i64.wrap ((8 : Int) * i2)))))) (IntKind.i64.wrap (i2 + (1 : Int))) else none else none else some m1) = _ := h
    refine tr_seq ?_
    refine tr_seq ?_
    refine tr_reg hT [] [.s 0, .s 2, .s 3, .s 4, .s 6, .h 0, .h 1] [sI 0 .i64 n_0, sO 2 (.ptr 0 0), sO 3 (.ptr 1 0), sI 4 .i64 i2, sB 6 (decide (i2 < (8 : Int))), hB 0 22 [.arr .u8 32 (List.replicate 32 0)], hB 1 22 [.arr .u8 32 m1]] [] (by kernel_rfl) trivial ?_
    refine q_k ?_
    rcases ite_split h with ⟨hc3, h⟩ | ⟨hc3, h⟩
    · refine tr_cond_t (decide (i2 < (8 : Int))) (by kernel_rfl) hc3 ?_
      refine tr_skip ?_
      refine q_k ?_
      refine tr_seq ?_
      refine tr_block ?_
      obtain ⟨hn4, h⟩ := ite_some h
      obtain ⟨hn5, h⟩ := ite_some h
      refine tr_reg hT [] [.s 0, .s 2, .s 3, .s 4, .h 0, .h 1] [sI 0 .i64 n_0, sO 2 (.ptr 0 0), sO 3 (.ptr 1 0), sI 4 .i64 i2, hB 0 22 [.arr .u8 32 (List.replicate 32 0)], hB 1 22 [.arr .u8 32 (m1.set i2.toNat (IntKind.u8.wrap (shr .i64 n_0 (IntKind.u64.wrap (IntKind.i64.wrap ((8 : Int) * i2))))))]] [0 ≤ (IntKind.u64.wrap (IntKind.i64.wrap ((8 : Int) * i2))), 0 ≤ i2 ∧ i2 < ((32 : Nat) : Int)] (by kernel_rfl) (hcons hn4 (hone hn5)) ?_
      refine q_b 1 ?_
      refine q_k ?_
      refine tr_reg hT [] [.s 0, .s 2, .s 3, .s 4, .h 0, .h 1] [sI 0 .i64 n_0, sO 2 (.ptr 0 0), sO 3 (.ptr 1 0), sI 4 .i64 (IntKind.i64.wrap (i2 + (1 : Int))), hB 0 22 [.arr .u8 32 (List.replicate 32 0)], hB 1 22 [.arr .u8 32 (m1.set i2.toNat (IntKind.u8.wrap (shr .i64 n_0 (IntKind.u64.wrap (IntKind.i64.wrap ((8 : Int) * i2))))))]] [] (by kernel_rfl) trivial ?_
      refine q_kr ?_
      exact trR_less [.s 0, .s 2, .s 3, .s 4, .h 0, .h 1] [sI 0 .i64 n_0, sO 2 (.ptr 0 0), sO 3 (.ptr 1 0), sI 4 .i64 (IntKind.i64.wrap (i2 + (1 : Int))), hB 0 22 [.arr .u8 32 (List.replicate 32 0)], hB 1 22 [.arr .u8 32 (m1.set i2.toNat (IntKind.u8.wrap (shr .i64 n_0 (IntKind.u64.wrap (IntKind.i64.wrap ((8 : Int) * i2))))))]] (by kernel_rfl) (ih0 ((m1.set i2.toNat (IntKind.u8.wrap (shr .i64 n_0 (IntKind.u64.wrap (IntKind.i64.wrap ((8 : Int) * i2)))))), (IntKind.i64.wrap (i2 + (1 : Int)))) h)
    · refine tr_cond_f (decide (i2 < (8 : Int))) (by kernel_rfl) hc3 ?_
      refine tr_exit ?_
      refine q_k_exit ?_
      refine q_kr_exit ?_
      have h := Option.some.inj h
      subst h
      exact q_less [.s 2, .s 3, .h 0, .h 1] [sO 2 (.ptr 0 0), sO 3 (.ptr 1 0), hB 0 22 [.arr .u8 32 (List.replicate 32 0)], hB 1 22 [.arr .u8 32 m1]] (by kernel_rfl) hx0

theorem scalar_of_ok (b_0 : List Int) (r : List Int) (h : scalar_of b_0 = some r) {pre : List (Nat × Ent)} : CallOk P 68 [.v (.agg [.arr .u8 32 b_0])] pre (.v (.agg [.arr .u64 4 r])) [] := by
  refine call0 (N := 24) Try.func68 (by kernel_rfl) rfl rfl rfl pre ?_
  intro _ w
  show Tr P w.heap.size 24 w _ _ (RetQ P Try.f68 (R0 _ w))
  unfold scalar_of at h
  refine tr_seq ?_
  refine tr_reg hT [(0, .key 0), (1, .key 1)] [.s 1, .s 2, .h 0, .h 1] [sO 1 (.ptr 0 0), sO 2 (.ptr 1 0), hB 0 22 [.arr .u8 32 b_0], hB 1 63 [.arr .u64 4 (List.replicate 4 0)]] [] (by kernel_rfl) trivial ?_
  refine q_k ?_
  refine tr_seq ?_
  refine tr_reg hT [(0, .key 2)] [.s 1, .s 2, .s 3, .h 0, .h 1, .h 2] [sO 1 (.ptr 0 0), sO 2 (.ptr 1 0), sO 3 (.ptr 2 0), hB 0 22 [.arr .u8 32 b_0], hB 1 63 [.arr .u64 4 (List.replicate 4 0)], hB 2 63 [.arr .u64 4 (List.replicate 4 0)]] [] (by kernel_rfl) trivial ?_
  refine q_k ?_
  refine tr_seq ?_
  refine tr_seq ?_
  refine tr_reg hT [] [.s 1, .s 2, .s 3, .s 5, .h 0, .h 1, .h 2] [sO 1 (.ptr 0 0), sO 2 (.ptr 1 0), sO 3 (.ptr 2 0), sI 5 .i64 (0 : Int), hB 0 22 [.arr .u8 32 b_0], hB 1 63 [.arr .u64 4 (List.replicate 4 0)], hB 2 63 [.arr .u64 4 (List.replicate 4 0)]] [] (by kernel_rfl) trivial ?_
  refine q_k ?_
  refine tr_block ?_
  obtain ⟨m8, e9, h⟩ := bind_some h
  refine tr_less [.s 1, .s 2, .s 3, .s 5, .h 0, .h 1, .h 2] [sO 1 (.ptr 0 0), sO 2 (.ptr 1 0), sO 3 (.ptr 2 0), sI 5 .i64 (0 : Int), hB 0 22 [.arr .u8 32 b_0], hB 1 63 [.arr .u64 4 (List.replicate 4 0)], hB 2 63 [.arr .u64 4 (List.replicate 4 0)]] (by kernel_rfl) ?_
  refine tr_loop_fuel (id := 0) (α := List Int × Int) (β := List Int) (fun z => [sO 1 (.ptr 0 0), sO 2 (.ptr 1 0), sO 3 (.ptr 2 0), sI 5 .i64 z.2, hB 0 22 [.arr .u8 32 b_0], hB 1 63 [.arr .u64 4 (List.replicate 4 0)], hB 2 63 [.arr .u64 4 z.1]]) (fun z => [sO 2 (.ptr 1 0), sO 3 (.ptr 2 0), hB 1 63 [.arr .u64 4 (List.replicate 4 0)], hB 2 63 [.arr .u64 4 z]]) (fun k z => scalar_of_l0 b_0 k z.1 z.2) m8 (fun _ => rfl) (((32 : Int) - (0 : Int)).toNat + 1) ((List.replicate 4 0), (0 : Int)) e9 ?_ ?_
  · skip
    replace h : (some m8) = _ := h
    refine q_b_this ?_
    refine q_k ?_
    refine tr_seq ?_
    refine tr_reg hT [] [.s 2, .h 1] [sO 2 (.ptr 1 0), hB 1 63 [.arr .u64 4 m8]] [] (by kernel_rfl) trivial ?_
    refine q_k ?_
    refine tr_ret ?_
    have h := Option.some.inj h
    subst h
    exact q_ret0 hT (.v (.agg [.arr .u64 4 m8])) rfl (by kernel_rfl)
  · clear h e9
    intro k ih0 hx0 z h
    obtain ⟨m1, x2⟩ := z
    replace h : (if (decide (x2 < (32 : Int))) = true then if 0 ≤ (IntKind.i64.wrap (x2.tdiv (8 : Int))) ∧ (IntKind.i64.wrap (x2.tdiv (8 : Int))) < ((4 : Nat) : Int) then if 0 ≤ x2 ∧ x2 < ((32 : Nat) : Int) then if 0 ≤ (IntKind.i64.wrap ((8 : Int) * (x2.tmod (8 : Int)))) then if 0 ≤ (IntKind.i64.wrap (x2.tdiv (8 : Int))) ∧ (IntKind.i64.wrap (x2.tdiv (8 : Int))) < ((4 : Nat) : Int) then scalar_of_l0 b_0 k (m1.set (IntKind.i64.wrap (x2.tdiv (8 : Int))).toNat (bor .u64 (m1.getD (IntKind.i64.wrap (x2.tdiv (8 : Int))).toNat 0) (shl .u64 (IntKind.u64.wrap (b_0.getD x2.toNat 0)) (IntKind.i64.wrap ((8 : Int) * (x2.tmod (8 : Int))))))) (IntKind.i64.wrap (x2 + (1 : Int))) else none else none else none else none else some m1) = _ := h
    refine tr_seq ?_
    refine tr_reg hT [] [.s 1, .s 2, .s 3, .s 5, .s 6, .h 0, .h 1, .h 2] [sO 1 (.ptr 0 0), sO 2 (.ptr 1 0), sO 3 (.ptr 2 0), sI 5 .i64 x2, sB 6 (decide (x2 < (32 : Int))), hB 0 22 [.arr .u8 32 b_0], hB 1 63 [.arr .u64 4 (List.replicate 4 0)], hB 2 63 [.arr .u64 4 m1]] [] (by kernel_rfl) trivial ?_
    refine q_k ?_
    refine tr_seq ?_
    rcases ite_split h with ⟨hc3, h⟩ | ⟨hc3, h⟩
    · refine tr_cond_t (decide (x2 < (32 : Int))) (by kernel_rfl) hc3 ?_
      refine tr_skip ?_
      refine q_k ?_
      refine tr_seq ?_
      refine tr_block ?_
      refine tr_seq ?_
      refine tr_reg hT [] [.s 1, .s 2, .s 3, .s 4, .s 5, .h 0, .h 1, .h 2] [sO 1 (.ptr 0 0), sO 2 (.ptr 1 0), sO 3 (.ptr 2 0), sI 4 .i64 x2, sI 5 .i64 x2, hB 0 22 [.arr .u8 32 b_0], hB 1 63 [.arr .u64 4 (List.replicate 4 0)], hB 2 63 [.arr .u64 4 m1]] [] (by kernel_rfl) trivial ?_
      refine q_k ?_
      obtain ⟨hn4, h⟩ := ite_some h
      obtain ⟨hn5, h⟩ := ite_some h
      obtain ⟨hn6, h⟩ := ite_some h
      obtain ⟨hn7, h⟩ := ite_some h
      refine tr_regd hT hM [] [.s 1, .s 2, .s 3, .s 5, .h 0, .h 1, .h 2] [sO 1 (.ptr 0 0), sO 2 (.ptr 1 0), sO 3 (.ptr 2 0), sI 5 .i64 x2, hB 0 22 [.arr .u8 32 b_0], hB 1 63 [.arr .u64 4 (List.replicate 4 0)], hB 2 63 [.arr .u64 4 (m1.set (IntKind.i64.wrap (x2.tdiv (8 : Int))).toNat (bor .u64 (m1.getD (IntKind.i64.wrap (x2.tdiv (8 : Int))).toNat 0) (shl .u64 (IntKind.u64.wrap (b_0.getD x2.toNat 0)) (IntKind.i64.wrap ((8 : Int) * (x2.tmod (8 : Int)))))))]] [(8 : Int) ≠ 0, 0 ≤ (IntKind.i64.wrap (x2.tdiv (8 : Int))) ∧ (IntKind.i64.wrap (x2.tdiv (8 : Int))) < ((4 : Nat) : Int), 0 ≤ x2 ∧ x2 < ((32 : Nat) : Int), (8 : Int) ≠ 0, 0 ≤ (IntKind.i64.wrap ((8 : Int) * (x2.tmod (8 : Int)))), 0 ≤ (IntKind.i64.wrap (x2.tdiv (8 : Int))) ∧ (IntKind.i64.wrap (x2.tdiv (8 : Int))) < ((4 : Nat) : Int)] (by kernel_rfl) (hcons (by decide) (hcons hn4 (hcons hn5 (hcons (by decide) (hcons hn6 (hone hn7)))))) ?_
      refine q_b 1 ?_
      refine q_k ?_
      refine tr_reg hT [] [.s 1, .s 2, .s 3, .s 5, .h 0, .h 1, .h 2] [sO 1 (.ptr 0 0), sO 2 (.ptr 1 0), sO 3 (.ptr 2 0), sI 5 .i64 (IntKind.i64.wrap (x2 + (1 : Int))), hB 0 22 [.arr .u8 32 b_0], hB 1 63 [.arr .u64 4 (List.replicate 4 0)], hB 2 63 [.arr .u64 4 (m1.set (IntKind.i64.wrap (x2.tdiv (8 : Int))).toNat (bor .u64 (m1.getD (IntKind.i64.wrap (x2.tdiv (8 : Int))).toNat 0) (shl .u64 (IntKind.u64.wrap (b_0.getD x2.toNat 0)) (IntKind.i64.wrap ((8 : Int) * (x2.tmod (8 : Int)))))))]] [] (by kernel_rfl) trivial ?_
      refine q_kr ?_
      exact trR_less [.s 1, .s 2, .s 3, .s 5, .h 0, .h 1, .h 2] [sO 1 (.ptr 0 0), sO 2 (.ptr 1 0), sO 3 (.ptr 2 0), sI 5 .i64 (IntKind.i64.wrap (x2 + (1 : Int))), hB 0 22 [.arr .u8 32 b_0], hB 1 63 [.arr .u64 4 (List.replicate 4 0)], hB 2 63 [.arr .u64 4 (m1.set (IntKind.i64.wrap (x2.tdiv (8 : Int))).toNat (bor .u64 (m1.getD (IntKind.i64.wrap (x2.tdiv (8 : Int))).toNat 0) (shl .u64 (IntKind.u64.wrap (b_0.getD x2.toNat 0)) (IntKind.i64.wrap ((8 : Int) * (x2.tmod (8 : Int)))))))]] (by kernel_rfl) (ih0 ((m1.set (IntKind.i64.wrap (x2.tdiv (8 : Int))).toNat (bor .u64 (m1.getD (IntKind.i64.wrap (x2.tdiv (8 : Int))).toNat 0) (shl .u64 (IntKind.u64.wrap (b_0.getD x2.toNat 0)) (IntKind.i64.wrap ((8 : Int) * (x2.tmod (8 : Int))))))), (IntKind.i64.wrap (x2 + (1 : Int)))) h)
    · refine tr_cond_f (decide (x2 < (32 : Int))) (by kernel_rfl) hc3 ?_
      refine tr_exit ?_
      refine q_k_exit ?_
      refine q_kr_exit ?_
      have h := Option.some.inj h
      subst h
      exact q_less [.s 2, .s 3, .h 1, .h 2] [sO 2 (.ptr 1 0), sO 3 (.ptr 2 0), hB 1 63 [.arr .u64 4 (List.replicate 4 0)], hB 2 63 [.arr .u64 4 m1]] (by kernel_rfl) hx0

theorem math_bits_Mul64_ok (x_0 : Int) (y_1 : Int) (r : Int × Int) (h : math_bits_Mul64 x_0 y_1 = some r) {pre : List (Nat × Ent)} : CallOk P 100 [.v (.one (.int .u64 x_0)), .v (.one (.int .u64 y_1))] pre (.tup [.one (.int .u64 r.1), .one (.int .u64 r.2)]) [] := by
  refine call0 (N := 51) Try.func100 (by kernel_rfl) rfl rfl rfl pre ?_
  intro _ w
  show Tr P w.heap.size 51 w _ _ (RetQ P Try.f100 (R0 _ w))
  unfold math_bits_Mul64 at h
  refine tr_seq ?_
  refine tr_reg hT [] [.s 0, .s 1] [sI 0 .u64 x_0, sI 1 .u64 y_1] [] (by kernel_rfl) trivial ?_
  refine q_k ?_
  refine tr_seq ?_
  refine tr_reg hT [] [.s 0, .s 1, .s 6] [sI 0 .u64 x_0, sI 1 .u64 y_1, sI 6 .u64 (band .u64 x_0 (4294967295 : Int))] [] (by kernel_rfl) trivial ?_
  refine q_k ?_
  refine tr_seq ?_
  refine tr_reg hT [] [.s 0, .s 1, .s 6, .s 7] [sI 0 .u64 x_0, sI 1 .u64 y_1, sI 6 .u64 (band .u64 x_0 (4294967295 : Int)), sI 7 .u64 (shr .u64 x_0 (32 : Int))] [0 ≤ (32 : Int)] (by kernel_rfl) (hone (by decide)) ?_
  refine q_k ?_
  refine tr_seq ?_
  refine tr_reg hT [] [.s 0, .s 1, .s 6, .s 7, .s 8] [sI 0 .u64 x_0, sI 1 .u64 y_1, sI 6 .u64 (band .u64 x_0 (4294967295 : Int)), sI 7 .u64 (shr .u64 x_0 (32 : Int)), sI 8 .u64 (band .u64 y_1 (4294967295 : Int))] [] (by kernel_rfl) trivial ?_
  refine q_k ?_
  refine tr_seq ?_
  refine tr_reg hT [] [.s 0, .s 1, .s 6, .s 7, .s 8, .s 9] [sI 0 .u64 x_0, sI 1 .u64 y_1, sI 6 .u64 (band .u64 x_0 (4294967295 : Int)), sI 7 .u64 (shr .u64 x_0 (32 : Int)), sI 8 .u64 (band .u64 y_1 (4294967295 : Int)), sI 9 .u64 (shr .u64 y_1 (32 : Int))] [0 ≤ (32 : Int)] (by kernel_rfl) (hone (by decide)) ?_
  refine q_k ?_
  refine tr_seq ?_
  refine tr_reg hT [] [.s 0, .s 1, .s 6, .s 7, .s 8, .s 9, .s 10] [sI 0 .u64 x_0, sI 1 .u64 y_1, sI 6 .u64 (band .u64 x_0 (4294967295 : Int)), sI 7 .u64 (shr .u64 x_0 (32 : Int)), sI 8 .u64 (band .u64 y_1 (4294967295 : Int)), sI 9 .u64 (shr .u64 y_1 (32 : Int)), sI 10 .u64 (IntKind.u64.wrap ((band .u64 x_0 (4294967295 : Int)) * (band .u64 y_1 (4294967295 : Int))))] [] (by kernel_rfl) trivial ?_
  refine q_k ?_
  refine tr_seq ?_
  refine tr_reg hT [] [.s 0, .s 1, .s 6, .s 7, .s 9, .s 11] [sI 0 .u64 x_0, sI 1 .u64 y_1, sI 6 .u64 (band .u64 x_0 (4294967295 : Int)), sI 7 .u64 (shr .u64 x_0 (32 : Int)), sI 9 .u64 (shr .u64 y_1 (32 : Int)), sI 11 .u64 (IntKind.u64.wrap ((IntKind.u64.wrap ((shr .u64 x_0 (32 : Int)) * (band .u64 y_1 (4294967295 : Int)))) + (shr .u64 (IntKind.u64.wrap ((band .u64 x_0 (4294967295 : Int)) * (band .u64 y_1 (4294967295 : Int)))) (32 : Int))))] [0 ≤ (32 : Int)] (by kernel_rfl) (hone (by decide)) ?_
  refine q_k ?_
  refine tr_seq ?_
  refine tr_reg hT [] [.s 0, .s 1, .s 6, .s 7, .s 9, .s 11, .s 12] [sI 0 .u64 x_0, sI 1 .u64 y_1, sI 6 .u64 (band .u64 x_0 (4294967295 : Int)), sI 7 .u64 (shr .u64 x_0 (32 : Int)), sI 9 .u64 (shr .u64 y_1 (32 : Int)), sI 11 .u64 (IntKind.u64.wrap ((IntKind.u64.wrap ((shr .u64 x_0 (32 : Int)) * (band .u64 y_1 (4294967295 : Int)))) + (shr .u64 (IntKind.u64.wrap ((band .u64 x_0 (4294967295 : Int)) * (band .u64 y_1 (4294967295 : Int)))) (32 : Int)))), sI 12 .u64 (band .u64 (IntKind.u64.wrap ((IntKind.u64.wrap ((shr .u64 x_0 (32 : Int)) * (band .u64 y_1 (4294967295 : Int)))) + (shr .u64 (IntKind.u64.wrap ((band .u64 x_0 (4294967295 : Int)) * (band .u64 y_1 (4294967295 : Int)))) (32 : Int)))) (4294967295 : Int))] [] (by kernel_rfl) trivial ?_
  refine q_k ?_
  refine tr_seq ?_
  refine tr_reg hT [] [.s 0, .s 1, .s 6, .s 7, .s 9, .s 12, .s 13] [sI 0 .u64 x_0, sI 1 .u64 y_1, sI 6 .u64 (band .u64 x_0 (4294967295 : Int)), sI 7 .u64 (shr .u64 x_0 (32 : Int)), sI 9 .u64 (shr .u64 y_1 (32 : Int)), sI 12 .u64 (band .u64 (IntKind.u64.wrap ((IntKind.u64.wrap ((shr .u64 x_0 (32 : Int)) * (band .u64 y_1 (4294967295 : Int)))) + (shr .u64 (IntKind.u64.wrap ((band .u64 x_0 (4294967295 : Int)) * (band .u64 y_1 (4294967295 : Int)))) (32 : Int)))) (4294967295 : Int)), sI 13 .u64 (shr .u64 (IntKind.u64.wrap ((IntKind.u64.wrap ((shr .u64 x_0 (32 : Int)) * (band .u64 y_1 (4294967295 : Int)))) + (shr .u64 (IntKind.u64.wrap ((band .u64 x_0 (4294967295 : Int)) * (band .u64 y_1 (4294967295 : Int)))) (32 : Int)))) (32 : Int))] [0 ≤ (32 : Int)] (by kernel_rfl) (hone (by decide)) ?_
  refine q_k ?_
  refine tr_seq ?_
  refine tr_reg hT [] [.s 0, .s 1, .s 7, .s 9, .s 12, .s 13] [sI 0 .u64 x_0, sI 1 .u64 y_1, sI 7 .u64 (shr .u64 x_0 (32 : Int)), sI 9 .u64 (shr .u64 y_1 (32 : Int)), sI 12 .u64 (IntKind.u64.wrap ((band .u64 (IntKind.u64.wrap ((IntKind.u64.wrap ((shr .u64 x_0 (32 : Int)) * (band .u64 y_1 (4294967295 : Int)))) + (shr .u64 (IntKind.u64.wrap ((band .u64 x_0 (4294967295 : Int)) * (band .u64 y_1 (4294967295 : Int)))) (32 : Int)))) (4294967295 : Int)) + (IntKind.u64.wrap ((band .u64 x_0 (4294967295 : Int)) * (shr .u64 y_1 (32 : Int)))))), sI 13 .u64 (shr .u64 (IntKind.u64.wrap ((IntKind.u64.wrap ((shr .u64 x_0 (32 : Int)) * (band .u64 y_1 (4294967295 : Int)))) + (shr .u64 (IntKind.u64.wrap ((band .u64 x_0 (4294967295 : Int)) * (band .u64 y_1 (4294967295 : Int)))) (32 : Int)))) (32 : Int))] [] (by kernel_rfl) trivial ?_
  refine q_k ?_
  refine tr_seq ?_
  refine tr_reg hT [] [.s 0, .s 1, .s 4] [sI 0 .u64 x_0, sI 1 .u64 y_1, sI 4 .u64 (IntKind.u64.wrap ((IntKind.u64.wrap ((IntKind.u64.wrap ((shr .u64 x_0 (32 : Int)) * (shr .u64 y_1 (32 : Int)))) + (shr .u64 (IntKind.u64.wrap ((IntKind.u64.wrap ((shr .u64 x_0 (32 : Int)) * (band .u64 y_1 (4294967295 : Int)))) + (shr .u64 (IntKind.u64.wrap ((band .u64 x_0 (4294967295 : Int)) * (band .u64 y_1 (4294967295 : Int)))) (32 : Int)))) (32 : Int)))) + (shr .u64 (IntKind.u64.wrap ((band .u64 (IntKind.u64.wrap ((IntKind.u64.wrap ((shr .u64 x_0 (32 : Int)) * (band .u64 y_1 (4294967295 : Int)))) + (shr .u64 (IntKind.u64.wrap ((band .u64 x_0 (4294967295 : Int)) * (band .u64 y_1 (4294967295 : Int)))) (32 : Int)))) (4294967295 : Int)) + (IntKind.u64.wrap ((band .u64 x_0 (4294967295 : Int)) * (shr .u64 y_1 (32 : Int)))))) (32 : Int))))] [0 ≤ (32 : Int)] (by kernel_rfl) (hone (by decide)) ?_
  refine q_k ?_
  refine tr_seq ?_
  refine tr_reg hT [] [.s 4, .s 5] [sI 4 .u64 (IntKind.u64.wrap ((IntKind.u64.wrap ((IntKind.u64.wrap ((shr .u64 x_0 (32 : Int)) * (shr .u64 y_1 (32 : Int)))) + (shr .u64 (IntKind.u64.wrap ((IntKind.u64.wrap ((shr .u64 x_0 (32 : Int)) * (band .u64 y_1 (4294967295 : Int)))) + (shr .u64 (IntKind.u64.wrap ((band .u64 x_0 (4294967295 : Int)) * (band .u64 y_1 (4294967295 : Int)))) (32 : Int)))) (32 : Int)))) + (shr .u64 (IntKind.u64.wrap ((band .u64 (IntKind.u64.wrap ((IntKind.u64.wrap ((shr .u64 x_0 (32 : Int)) * (band .u64 y_1 (4294967295 : Int)))) + (shr .u64 (IntKind.u64.wrap ((band .u64 x_0 (4294967295 : Int)) * (band .u64 y_1 (4294967295 : Int)))) (32 : Int)))) (4294967295 : Int)) + (IntKind.u64.wrap ((band .u64 x_0 (4294967295 : Int)) * (shr .u64 y_1 (32 : Int)))))) (32 : Int)))), sI 5 .u64 (IntKind.u64.wrap (x_0 * y_1))] [] (by kernel_rfl) trivial ?_
  refine q_k ?_
  refine tr_ret ?_
  have h := Option.some.inj h
  subst h
  exact q_ret0 hT (.tup [.one (.int .u64 (IntKind.u64.wrap ((IntKind.u64.wrap ((IntKind.u64.wrap ((shr .u64 x_0 (32 : Int)) * (shr .u64 y_1 (32 : Int)))) + (shr .u64 (IntKind.u64.wrap ((IntKind.u64.wrap ((shr .u64 x_0 (32 : Int)) * (band .u64 y_1 (4294967295 : Int)))) + (shr .u64 (IntKind.u64.wrap ((band .u64 x_0 (4294967295 : Int)) * (band .u64 y_1 (4294967295 : Int)))) (32 : Int)))) (32 : Int)))) + (shr .u64 (IntKind.u64.wrap ((band .u64 (IntKind.u64.wrap ((IntKind.u64.wrap ((shr .u64 x_0 (32 : Int)) * (band .u64 y_1 (4294967295 : Int)))) + (shr .u64 (IntKind.u64.wrap ((band .u64 x_0 (4294967295 : Int)) * (band .u64 y_1 (4294967295 : Int)))) (32 : Int)))) (4294967295 : Int)) + (IntKind.u64.wrap ((band .u64 x_0 (4294967295 : Int)) * (shr .u64 y_1 (32 : Int)))))) (32 : Int))))), .one (.int .u64 (IntKind.u64.wrap (x_0 * y_1)))]) rfl (by kernel_rfl)

theorem scalar_order_ok (r : List Int) (h : scalar_order = some r) {pre : List (Nat × Ent)} : CallOk P 71 [] pre (.v (.agg [.arr .u64 4 r])) [] := by
  refine call0 (N := 2) Try.func71 (by kernel_rfl) rfl rfl rfl pre ?_
  intro _ w
  show Tr P w.heap.size 2 w _ _ (RetQ P Try.f71 (R0 _ w))
  unfold scalar_order at h
  refine tr_seq ?_
  refine tr_reg hT [(0, .key 0)] [.s 0, .h 0] [sO 0 (.ptr 0 0), hB 0 63 [.arr .u64 4 (List.replicate 4 0)]] [] (by kernel_rfl) trivial ?_
  refine q_k ?_
  refine tr_seq ?_
  refine tr_reg hT [] [.s 0, .h 0] [sO 0 (.ptr 0 0), hB 0 63 [.arr .u64 4 [(6346243789798364141 : Int), (1503914060200516822 : Int), (0 : Int), (1152921504606846976 : Int)]]] [] (by kernel_rfl) trivial ?_
  refine q_k ?_
  refine tr_ret ?_
  have h := Option.some.inj h
  subst h
  exact q_ret0 hT (.v (.agg [.arr .u64 4 [(6346243789798364141 : Int), (1503914060200516822 : Int), (0 : Int), (1152921504606846976 : Int)]])) rfl (by kernel_rfl)

theorem scalar_number_less_ok (a_0 : List Int) (b_1 : List Int) (r : Bool) (h : scalar_number_less a_0 b_1 = some r) {pre : List (Nat × Ent)} : CallOk P 70 [.v (.agg [.arr .u64 4 a_0]), .v (.agg [.arr .u64 4 b_1])] pre (.v (.one (.bool r))) [] := by
  refine call0 (N := 24) Try.func70 (by kernel_rfl) rfl rfl rfl pre ?_
  intro _ w
  show Tr P w.heap.size 24 w _ _ (RetQ P Try.f70 (R0 _ w))
  unfold scalar_number_less at h
  refine tr_seq ?_
  refine tr_reg hT [(0, .key 0), (1, .key 1)] [.s 2, .s 3, .h 0, .h 1] [sO 2 (.ptr 0 0), sO 3 (.ptr 1 0), hB 0 63 [.arr .u64 4 a_0], hB 1 63 [.arr .u64 4 b_1]] [] (by kernel_rfl) trivial ?_
  refine q_k ?_
  refine tr_seq ?_
  refine tr_reg hT [] [.s 2, .s 3, .s 5, .h 0, .h 1] [sO 2 (.ptr 0 0), sO 3 (.ptr 1 0), sI 5 .u64 (0 : Int), hB 0 63 [.arr .u64 4 a_0], hB 1 63 [.arr .u64 4 b_1]] [] (by kernel_rfl) trivial ?_
  refine q_k ?_
  refine tr_seq ?_
  refine tr_seq ?_
  refine tr_reg hT [] [.s 2, .s 3, .s 5, .s 7, .h 0, .h 1] [sO 2 (.ptr 0 0), sO 3 (.ptr 1 0), sI 5 .u64 (0 : Int), sI 7 .i64 (0 : Int), hB 0 63 [.arr .u64 4 a_0], hB 1 63 [.arr .u64 4 b_1]] [] (by kernel_rfl) trivial ?_
  refine q_k ?_
  refine tr_block ?_
  obtain ⟨c10, e11, h⟩ := bind_some h
  refine tr_less [.s 2, .s 3, .s 5, .s 7, .h 0, .h 1] [sO 2 (.ptr 0 0), sO 3 (.ptr 1 0), sI 5 .u64 (0 : Int), sI 7 .i64 (0 : Int), hB 0 63 [.arr .u64 4 a_0], hB 1 63 [.arr .u64 4 b_1]] (by kernel_rfl) ?_
  refine tr_loop_fuel (id := 0) (α := Int × Int) (β := Int) (fun z => [sO 2 (.ptr 0 0), sO 3 (.ptr 1 0), sI 5 .u64 z.1, sI 7 .i64 z.2, hB 0 63 [.arr .u64 4 a_0], hB 1 63 [.arr .u64 4 b_1]]) (fun z => [sI 5 .u64 z]) (fun k z => scalar_number_less_l0 a_0 b_1 k z.1 z.2) c10 (fun _ => rfl) (((4 : Int) - (0 : Int)).toNat + 1) ((0 : Int), (0 : Int)) e11 ?_ ?_
  · skip
    replace h : (some (c10 == (1 : Int))) = _ := h
    refine q_b_this ?_
    refine q_k ?_
    refine tr_seq ?_
    refine tr_reg hT [] [.s 4] [sB 4 (c10 == (1 : Int))] [] (by kernel_rfl) trivial ?_
    refine q_k ?_
    refine tr_ret ?_
    have h := Option.some.inj h
    subst h
    exact q_ret0 hT (.v (.one (.bool (c10 == (1 : Int))))) rfl (by kernel_rfl)
  · clear h e11
    intro k ih0 hx0 z h
    obtain ⟨c1, x2⟩ := z
    replace h : (if (decide (x2 < (4 : Int))) = true then if 0 ≤ x2 ∧ x2 < ((4 : Nat) : Int) then if 0 ≤ x2 ∧ x2 < ((4 : Nat) : Int) then (sub64 (a_0.getD x2.toNat 0) (b_1.getD x2.toNat 0) c1).bind (fun (r6, r7) => scalar_number_less_l0 a_0 b_1 k r7 (IntKind.i64.wrap (x2 + (1 : Int)))) else none else none else some c1) = _ := h
    refine tr_seq ?_
    refine tr_reg hT [] [.s 2, .s 3, .s 5, .s 7, .s 8, .h 0, .h 1] [sO 2 (.ptr 0 0), sO 3 (.ptr 1 0), sI 5 .u64 c1, sI 7 .i64 x2, sB 8 (decide (x2 < (4 : Int))), hB 0 63 [.arr .u64 4 a_0], hB 1 63 [.arr .u64 4 b_1]] [] (by kernel_rfl) trivial ?_
    refine q_k ?_
    refine tr_seq ?_
    rcases ite_split h with ⟨hc3, h⟩ | ⟨hc3, h⟩
    · refine tr_cond_t (decide (x2 < (4 : Int))) (by kernel_rfl) hc3 ?_
      refine tr_skip ?_
      refine q_k ?_
      refine tr_seq ?_
      refine tr_block ?_
      refine tr_seq ?_
      refine tr_reg hT [] [.s 2, .s 3, .s 5, .s 6, .s 7, .h 0, .h 1] [sO 2 (.ptr 0 0), sO 3 (.ptr 1 0), sI 5 .u64 c1, sI 6 .i64 x2, sI 7 .i64 x2, hB 0 63 [.arr .u64 4 a_0], hB 1 63 [.arr .u64 4 b_1]] [] (by kernel_rfl) trivial ?_
      refine q_k ?_
      obtain ⟨hn4, h⟩ := ite_some h
      obtain ⟨hn5, h⟩ := ite_some h
      obtain ⟨⟨r6, r7⟩, e8, h⟩ := bind_some h
      refine tr_regd hT hM [(7, .call (.tup [.one (.int .u64 r6), .one (.int .u64 r7)]) [])] [.s 2, .s 3, .s 5, .s 7, .h 0, .h 1] [sO 2 (.ptr 0 0), sO 3 (.ptr 1 0), sI 5 .u64 r7, sI 7 .i64 x2, hB 0 63 [.arr .u64 4 a_0], hB 1 63 [.arr .u64 4 b_1]] [0 ≤ x2 ∧ x2 < ((4 : Nat) : Int), 0 ≤ x2 ∧ x2 < ((4 : Nat) : Int), CallOk P 101 [.v (.one (.int .u64 (a_0.getD x2.toNat 0))), .v (.one (.int .u64 (b_1.getD x2.toNat 0))), .v (.one (.int .u64 c1))] [] (.tup [.one (.int .u64 r6), .one (.int .u64 r7)]) []] (by kernel_rfl) (hcons hn4 (hcons hn5 (hone (bits_Sub64_ok (a_0.getD x2.toNat 0) (b_1.getD x2.toNat 0) c1 (r6, r7) e8)))) ?_
      refine q_b 1 ?_
      refine q_k ?_
      refine tr_reg hT [] [.s 2, .s 3, .s 5, .s 7, .h 0, .h 1] [sO 2 (.ptr 0 0), sO 3 (.ptr 1 0), sI 5 .u64 r7, sI 7 .i64 (IntKind.i64.wrap (x2 + (1 : Int))), hB 0 63 [.arr .u64 4 a_0], hB 1 63 [.arr .u64 4 b_1]] [] (by kernel_rfl) trivial ?_
      refine q_kr ?_
      exact trR_less [.s 2, .s 3, .s 5, .s 7, .h 0, .h 1] [sO 2 (.ptr 0 0), sO 3 (.ptr 1 0), sI 5 .u64 r7, sI 7 .i64 (IntKind.i64.wrap (x2 + (1 : Int))), hB 0 63 [.arr .u64 4 a_0], hB 1 63 [.arr .u64 4 b_1]] (by kernel_rfl) (ih0 (r7, (IntKind.i64.wrap (x2 + (1 : Int)))) h)
    · refine tr_cond_f (decide (x2 < (4 : Int))) (by kernel_rfl) hc3 ?_
      refine tr_exit ?_
      refine q_k_exit ?_
      refine q_kr_exit ?_
      have h := Option.some.inj h
      subst h
      exact q_less [.s 5] [sI 5 .u64 c1] (by kernel_rfl) hx0

theorem scalar_number_shifted_ok (a_0 : List Int) (bit_1 : Int) (r : List Int) (h : scalar_number_shifted a_0 bit_1 = some r) {pre : List (Nat × Ent)} : CallOk P 99 [.v (.agg [.arr .u64 4 a_0]), .v (.one (.int .u64 bit_1))] pre (.v (.agg [.arr .u64 4 r])) [] := by
  refine call0 (N := 47) Try.func99 (by kernel_rfl) rfl rfl rfl pre ?_
  intro _ w
  show Tr P w.heap.size 47 w _ _ (RetQ P Try.f99 (R0 _ w))
  unfold scalar_number_shifted at h
  refine tr_seq ?_
  refine tr_reg hT [(0, .key 0), (1, .key 1)] [.s 1, .s 2, .s 4, .h 0, .h 1] [sI 1 .u64 bit_1, sO 2 (.ptr 0 0), sO 4 (.ptr 1 0), hB 0 63 [.arr .u64 4 a_0], hB 1 63 [.arr .u64 4 (List.replicate 4 0)]] [] (by kernel_rfl) trivial ?_
  refine q_k ?_
  refine tr_seq ?_
  refine tr_seq ?_
  refine tr_reg hT [] [.s 1, .s 2, .s 4, .s 9, .h 0, .h 1] [sI 1 .u64 bit_1, sO 2 (.ptr 0 0), sO 4 (.ptr 1 0), sI 9 .i64 (0 : Int), hB 0 63 [.arr .u64 4 a_0], hB 1 63 [.arr .u64 4 (List.replicate 4 0)]] [] (by kernel_rfl) trivial ?_
  refine q_k ?_
  refine tr_block ?_
  obtain ⟨m8, e9, h⟩ := bind_some h
  refine tr_less [.s 1, .s 2, .s 4, .s 9, .h 0, .h 1] [sI 1 .u64 bit_1, sO 2 (.ptr 0 0), sO 4 (.ptr 1 0), sI 9 .i64 (0 : Int), hB 0 63 [.arr .u64 4 a_0], hB 1 63 [.arr .u64 4 (List.replicate 4 0)]] (by kernel_rfl) ?_
  refine tr_loop_fuel (id := 0) (α := List Int × Int × Int) (β := List Int) (fun z => [sI 1 .u64 z.2.1, sO 2 (.ptr 0 0), sO 4 (.ptr 1 0), sI 9 .i64 z.2.2, hB 0 63 [.arr .u64 4 z.1], hB 1 63 [.arr .u64 4 (List.replicate 4 0)]]) (fun z => [sO 2 (.ptr 0 0), sO 4 (.ptr 1 0), hB 0 63 [.arr .u64 4 z], hB 1 63 [.arr .u64 4 (List.replicate 4 0)]]) (fun k z => scalar_number_shifted_l0 k z.1 z.2.1 z.2.2) m8 (fun _ => rfl) (((4 : Int) - (0 : Int)).toNat + 1) (a_0, bit_1, (0 : Int)) e9 ?_ ?_
  · skip
    replace h : ((scalar_order).bind (fun a10 => (scalar_number_less m8 a10).bind (fun b12 => if b12 = true then some m8 else (scalar_order).bind (fun a15 => (scalar_number_shifted_l1 a15 (((4 : Int) - (0 : Int)).toNat + 1) m8 (0 : Int) (0 : Int)).bind (fun m28 => some m28))))) = _ := h
    refine q_b_this ?_
    refine q_k ?_
    refine tr_seq ?_
    refine tr_seq ?_
    obtain ⟨a10, e11, h⟩ := bind_some h
    obtain ⟨b12, e13, h⟩ := bind_some h
    refine tr_regd hT hM [(1, .call (.v (.agg [.arr .u64 4 a10])) []), (2, .call (.v (.one (.bool b12))) [])] [.s 2, .s 4, .s 27, .h 0, .h 1] [sO 2 (.ptr 0 0), sO 4 (.ptr 1 0), sB 27 b12, hB 0 63 [.arr .u64 4 m8], hB 1 63 [.arr .u64 4 (List.replicate 4 0)]] [CallOk P 71 [] [] (.v (.agg [.arr .u64 4 a10])) [], CallOk P 70 [.v (.agg [.arr .u64 4 m8]), .v (.agg [.arr .u64 4 a10])] [] (.v (.one (.bool b12))) []] (by kernel_rfl) (hcons (scalar_order_ok  a10 e11) (hone (scalar_number_less_ok m8 a10 b12 e13))) ?_
    refine q_k ?_
    rcases ite_split h with ⟨hc14, h⟩ | ⟨hc14, h⟩
    · refine tr_cond_t b12 (by kernel_rfl) hc14 ?_
      refine tr_seq ?_
      refine tr_reg hT [] [.s 4, .h 1] [sO 4 (.ptr 1 0), hB 1 63 [.arr .u64 4 m8]] [] (by kernel_rfl) trivial ?_
      refine q_k ?_
      refine tr_ret ?_
      refine q_k_ret ?_
      have h := Option.some.inj h
      subst h
      exact q_ret0 hT (.v (.agg [.arr .u64 4 m8])) rfl (by kernel_rfl)
    · refine tr_cond_f b12 (by kernel_rfl) hc14 ?_
      refine tr_skip ?_
      refine q_k ?_
      refine tr_seq ?_
      refine tr_reg hT [] [.s 2, .s 4, .s 6, .h 0, .h 1] [sO 2 (.ptr 0 0), sO 4 (.ptr 1 0), sI 6 .u64 (0 : Int), hB 0 63 [.arr .u64 4 m8], hB 1 63 [.arr .u64 4 (List.replicate 4 0)]] [] (by kernel_rfl) trivial ?_
      refine q_k ?_
      refine tr_seq ?_
      refine tr_seq ?_
      obtain ⟨a15, e16, h⟩ := bind_some h
      refine tr_reg hT [(0, .call (.v (.agg [.arr .u64 4 a15])) [])] [.s 2, .s 4, .s 6, .s 29, .s 30, .h 0, .h 1] [sO 2 (.ptr 0 0), sO 4 (.ptr 1 0), sI 6 .u64 (0 : Int), sG 29 [.arr .u64 4 a15], sI 30 .i64 (0 : Int), hB 0 63 [.arr .u64 4 m8], hB 1 63 [.arr .u64 4 (List.replicate 4 0)]] [CallOk P 71 [] [] (.v (.agg [.arr .u64 4 a15])) []] (by kernel_rfl) (hone (scalar_order_ok  a15 e16)) ?_
      refine q_k ?_
      refine tr_block ?_
      obtain ⟨m28, e29, h⟩ := bind_some h
      refine tr_less [.s 2, .s 4, .s 6, .s 29, .s 30, .h 0, .h 1] [sO 2 (.ptr 0 0), sO 4 (.ptr 1 0), sI 6 .u64 (0 : Int), sG 29 [.arr .u64 4 a15], sI 30 .i64 (0 : Int), hB 0 63 [.arr .u64 4 m8], hB 1 63 [.arr .u64 4 (List.replicate 4 0)]] (by kernel_rfl) ?_
      refine tr_loop_fuel (id := 2) (α := List Int × Int × Int) (β := List Int) (fun z => [sO 2 (.ptr 0 0), sO 4 (.ptr 1 0), sI 6 .u64 z.2.1, sG 29 [.arr .u64 4 a15], sI 30 .i64 z.2.2, hB 0 63 [.arr .u64 4 z.1], hB 1 63 [.arr .u64 4 (List.replicate 4 0)]]) (fun z => [sO 2 (.ptr 0 0), sO 4 (.ptr 1 0), hB 0 63 [.arr .u64 4 z], hB 1 63 [.arr .u64 4 (List.replicate 4 0)]]) (fun k z => scalar_number_shifted_l1 a15 k z.1 z.2.1 z.2.2) m28 (fun _ => rfl) (((4 : Int) - (0 : Int)).toNat + 1) (m8, (0 : Int), (0 : Int)) e29 ?_ ?_
      · skip
        replace h : (some m28) = _ := h
        refine q_b_this ?_
        refine q_k ?_
        refine tr_seq ?_
        refine tr_reg hT [] [.s 4, .h 1] [sO 4 (.ptr 1 0), hB 1 63 [.arr .u64 4 m28]] [] (by kernel_rfl) trivial ?_
        refine q_k ?_
        refine tr_ret ?_
        have h := Option.some.inj h
        subst h
        exact q_ret0 hT (.v (.agg [.arr .u64 4 m28])) rfl (by kernel_rfl)
      · clear h e29
        intro k ih1 hx1 z h
        obtain ⟨m17, c18, x19⟩ := z
        replace h : (if (decide (x19 < (4 : Int))) = true then if 0 ≤ x19 ∧ x19 < ((4 : Nat) : Int) then if 0 ≤ x19 ∧ x19 < ((4 : Nat) : Int) then (sub64 (m17.getD x19.toNat 0) (a15.getD x19.toNat 0) c18).bind (fun (r23, r24) => if 0 ≤ x19 ∧ x19 < ((4 : Nat) : Int) then scalar_number_shifted_l1 a15 k (m17.set x19.toNat r23) r24 (IntKind.i64.wrap (x19 + (1 : Int))) else none) else none else none else some m17) = _ := h
        refine tr_seq ?_
        refine tr_reg hT [] [.s 2, .s 4, .s 6, .s 29, .s 30, .s 31, .h 0, .h 1] [sO 2 (.ptr 0 0), sO 4 (.ptr 1 0), sI 6 .u64 c18, sG 29 [.arr .u64 4 a15], sI 30 .i64 x19, sB 31 (decide (x19 < (4 : Int))), hB 0 63 [.arr .u64 4 m17], hB 1 63 [.arr .u64 4 (List.replicate 4 0)]] [] (by kernel_rfl) trivial ?_
        refine q_k ?_
        refine tr_seq ?_
        rcases ite_split h with ⟨hc20, h⟩ | ⟨hc20, h⟩
        · refine tr_cond_t (decide (x19 < (4 : Int))) (by kernel_rfl) hc20 ?_
          refine tr_skip ?_
          refine q_k ?_
          refine tr_seq ?_
          refine tr_block ?_
          refine tr_seq ?_
          obtain ⟨hn21, h⟩ := ite_some h
          refine tr_reg hT [] [.s 2, .s 4, .s 6, .s 7, .s 8, .s 29, .s 30, .h 0, .h 1] [sO 2 (.ptr 0 0), sO 4 (.ptr 1 0), sI 6 .u64 c18, sI 7 .i64 x19, sI 8 .u64 (a15.getD x19.toNat 0), sG 29 [.arr .u64 4 a15], sI 30 .i64 x19, hB 0 63 [.arr .u64 4 m17], hB 1 63 [.arr .u64 4 (List.replicate 4 0)]] [0 ≤ x19 ∧ x19 < ((4 : Nat) : Int)] (by kernel_rfl) (hone hn21) ?_
          refine q_k ?_
          obtain ⟨hn22, h⟩ := ite_some h
          obtain ⟨⟨r23, r24⟩, e25, h⟩ := bind_some h
          obtain ⟨hn27, h⟩ := ite_some h
          refine tr_reg hT [(6, .call (.tup [.one (.int .u64 r23), .one (.int .u64 r24)]) [])] [.s 2, .s 4, .s 6, .s 29, .s 30, .h 0, .h 1] [sO 2 (.ptr 0 0), sO 4 (.ptr 1 0), sI 6 .u64 r24, sG 29 [.arr .u64 4 a15], sI 30 .i64 x19, hB 0 63 [.arr .u64 4 (m17.set x19.toNat r23)], hB 1 63 [.arr .u64 4 (List.replicate 4 0)]] [0 ≤ x19 ∧ x19 < ((4 : Nat) : Int), CallOk P 101 [.v (.one (.int .u64 (m17.getD x19.toNat 0))), .v (.one (.int .u64 (a15.getD x19.toNat 0))), .v (.one (.int .u64 c18))] [] (.tup [.one (.int .u64 r23), .one (.int .u64 r24)]) [], 0 ≤ x19 ∧ x19 < ((4 : Nat) : Int)] (by kernel_rfl) (hcons hn22 (hcons (bits_Sub64_ok (m17.getD x19.toNat 0) (a15.getD x19.toNat 0) c18 (r23, r24) e25) (hone hn27))) ?_
          refine q_b 3 ?_
          refine q_k ?_
          refine tr_reg hT [] [.s 2, .s 4, .s 6, .s 29, .s 30, .h 0, .h 1] [sO 2 (.ptr 0 0), sO 4 (.ptr 1 0), sI 6 .u64 r24, sG 29 [.arr .u64 4 a15], sI 30 .i64 (IntKind.i64.wrap (x19 + (1 : Int))), hB 0 63 [.arr .u64 4 (m17.set x19.toNat r23)], hB 1 63 [.arr .u64 4 (List.replicate 4 0)]] [] (by kernel_rfl) trivial ?_
          refine q_kr ?_
          exact trR_less [.s 2, .s 4, .s 6, .s 29, .s 30, .h 0, .h 1] [sO 2 (.ptr 0 0), sO 4 (.ptr 1 0), sI 6 .u64 r24, sG 29 [.arr .u64 4 a15], sI 30 .i64 (IntKind.i64.wrap (x19 + (1 : Int))), hB 0 63 [.arr .u64 4 (m17.set x19.toNat r23)], hB 1 63 [.arr .u64 4 (List.replicate 4 0)]] (by kernel_rfl) (ih1 ((m17.set x19.toNat r23), r24, (IntKind.i64.wrap (x19 + (1 : Int)))) h)
        · refine tr_cond_f (decide (x19 < (4 : Int))) (by kernel_rfl) hc20 ?_
          refine tr_exit ?_
          refine q_k_exit ?_
          refine q_kr_exit ?_
          have h := Option.some.inj h
          subst h
          exact q_less [.s 2, .s 4, .h 0, .h 1] [sO 2 (.ptr 0 0), sO 4 (.ptr 1 0), hB 0 63 [.arr .u64 4 m17], hB 1 63 [.arr .u64 4 (List.replicate 4 0)]] (by kernel_rfl) hx1
  · clear h e9
    intro k ih0 hx0 z h
    obtain ⟨m1, bit2, x3⟩ := z
    replace h : (if (decide (x3 < (4 : Int))) = true then if 0 ≤ x3 ∧ x3 < ((4 : Nat) : Int) then if 0 ≤ x3 ∧ x3 < ((4 : Nat) : Int) then if 0 ≤ x3 ∧ x3 < ((4 : Nat) : Int) then scalar_number_shifted_l0 k (m1.set x3.toNat (bor .u64 (shl .u64 (m1.getD x3.toNat 0) (1 : Int)) bit2)) (shr .u64 (m1.getD x3.toNat 0) (63 : Int)) (IntKind.i64.wrap (x3 + (1 : Int))) else none else none else none else some m1) = _ := h
    refine tr_seq ?_
    refine tr_reg hT [] [.s 1, .s 2, .s 4, .s 9, .s 10, .h 0, .h 1] [sI 1 .u64 bit2, sO 2 (.ptr 0 0), sO 4 (.ptr 1 0), sI 9 .i64 x3, sB 10 (decide (x3 < (4 : Int))), hB 0 63 [.arr .u64 4 m1], hB 1 63 [.arr .u64 4 (List.replicate 4 0)]] [] (by kernel_rfl) trivial ?_
    refine q_k ?_
    refine tr_seq ?_
    rcases ite_split h with ⟨hc4, h⟩ | ⟨hc4, h⟩
    · refine tr_cond_t (decide (x3 < (4 : Int))) (by kernel_rfl) hc4 ?_
      refine tr_skip ?_
      refine q_k ?_
      refine tr_seq ?_
      refine tr_block ?_
      refine tr_seq ?_
      refine tr_reg hT [] [.s 1, .s 2, .s 4, .s 5, .s 9, .h 0, .h 1] [sI 1 .u64 bit2, sO 2 (.ptr 0 0), sO 4 (.ptr 1 0), sI 5 .i64 x3, sI 9 .i64 x3, hB 0 63 [.arr .u64 4 m1], hB 1 63 [.arr .u64 4 (List.replicate 4 0)]] [] (by kernel_rfl) trivial ?_
      refine q_k ?_
      obtain ⟨hn5, h⟩ := ite_some h
      obtain ⟨hn6, h⟩ := ite_some h
      obtain ⟨hn7, h⟩ := ite_some h
      refine tr_regd hT hM [] [.s 1, .s 2, .s 4, .s 9, .h 0, .h 1] [sI 1 .u64 (shr .u64 (m1.getD x3.toNat 0) (63 : Int)), sO 2 (.ptr 0 0), sO 4 (.ptr 1 0), sI 9 .i64 x3, hB 0 63 [.arr .u64 4 (m1.set x3.toNat (bor .u64 (shl .u64 (m1.getD x3.toNat 0) (1 : Int)) bit2))], hB 1 63 [.arr .u64 4 (List.replicate 4 0)]] [0 ≤ x3 ∧ x3 < ((4 : Nat) : Int), 0 ≤ (1 : Int), 0 ≤ x3 ∧ x3 < ((4 : Nat) : Int), 0 ≤ (63 : Int), 0 ≤ x3 ∧ x3 < ((4 : Nat) : Int)] (by kernel_rfl) (hcons hn5 (hcons (by decide) (hcons hn6 (hcons (by decide) (hone hn7))))) ?_
      refine q_b 1 ?_
      refine q_k ?_
      refine tr_reg hT [] [.s 1, .s 2, .s 4, .s 9, .h 0, .h 1] [sI 1 .u64 (shr .u64 (m1.getD x3.toNat 0) (63 : Int)), sO 2 (.ptr 0 0), sO 4 (.ptr 1 0), sI 9 .i64 (IntKind.i64.wrap (x3 + (1 : Int))), hB 0 63 [.arr .u64 4 (m1.set x3.toNat (bor .u64 (shl .u64 (m1.getD x3.toNat 0) (1 : Int)) bit2))], hB 1 63 [.arr .u64 4 (List.replicate 4 0)]] [] (by kernel_rfl) trivial ?_
      refine q_kr ?_
      exact trR_less [.s 1, .s 2, .s 4, .s 9, .h 0, .h 1] [sI 1 .u64 (shr .u64 (m1.getD x3.toNat 0) (63 : Int)), sO 2 (.ptr 0 0), sO 4 (.ptr 1 0), sI 9 .i64 (IntKind.i64.wrap (x3 + (1 : Int))), hB 0 63 [.arr .u64 4 (m1.set x3.toNat (bor .u64 (shl .u64 (m1.getD x3.toNat 0) (1 : Int)) bit2))], hB 1 63 [.arr .u64 4 (List.replicate 4 0)]] (by kernel_rfl) (ih0 ((m1.set x3.toNat (bor .u64 (shl .u64 (m1.getD x3.toNat 0) (1 : Int)) bit2)), (shr .u64 (m1.getD x3.toNat 0) (63 : Int)), (IntKind.i64.wrap (x3 + (1 : Int)))) h)
    · refine tr_cond_f (decide (x3 < (4 : Int))) (by kernel_rfl) hc4 ?_
      refine tr_exit ?_
      refine q_k_exit ?_
      refine q_kr_exit ?_
      have h := Option.some.inj h
      subst h
      exact q_less [.s 2, .s 4, .h 0, .h 1] [sO 2 (.ptr 0 0), sO 4 (.ptr 1 0), hB 0 63 [.arr .u64 4 m1], hB 1 63 [.arr .u64 4 (List.replicate 4 0)]] (by kernel_rfl) hx0

theorem scalar_number_bytes_ok (a_0 : List Int) (r : List Int) (h : scalar_number_bytes a_0 = some r) {pre : List (Nat × Ent)} : CallOk P 69 [.v (.agg [.arr .u64 4 a_0])] pre (.v (.agg [.arr .u8 32 r])) [] := by
  refine call0 (N := 21) Try.func69 (by kernel_rfl) rfl rfl rfl pre ?_
  intro _ w
  show Tr P w.heap.size 21 w _ _ (RetQ P Try.f69 (R0 _ w))
  unfold scalar_number_bytes at h
  refine tr_seq ?_
  refine tr_reg hT [(0, .key 0), (1, .key 1)] [.s 1, .s 2, .h 0, .h 1] [sO 1 (.ptr 0 0), sO 2 (.ptr 1 0), hB 0 63 [.arr .u64 4 a_0], hB 1 22 [.arr .u8 32 (List.replicate 32 0)]] [] (by kernel_rfl) trivial ?_
  refine q_k ?_
  refine tr_seq ?_
  refine tr_reg hT [(0, .key 2)] [.s 1, .s 2, .s 3, .h 0, .h 1, .h 2] [sO 1 (.ptr 0 0), sO 2 (.ptr 1 0), sO 3 (.ptr 2 0), hB 0 63 [.arr .u64 4 a_0], hB 1 22 [.arr .u8 32 (List.replicate 32 0)], hB 2 22 [.arr .u8 32 (List.replicate 32 0)]] [] (by kernel_rfl) trivial ?_
  refine q_k ?_
  refine tr_seq ?_
  refine tr_seq ?_
  refine tr_reg hT [] [.s 1, .s 2, .s 3, .s 5, .h 0, .h 1, .h 2] [sO 1 (.ptr 0 0), sO 2 (.ptr 1 0), sO 3 (.ptr 2 0), sI 5 .i64 (0 : Int), hB 0 63 [.arr .u64 4 a_0], hB 1 22 [.arr .u8 32 (List.replicate 32 0)], hB 2 22 [.arr .u8 32 (List.replicate 32 0)]] [] (by kernel_rfl) trivial ?_
  refine q_k ?_
  refine tr_block ?_
  obtain ⟨m7, e8, h⟩ := bind_some h
  refine tr_less [.s 1, .s 2, .s 3, .s 5, .h 0, .h 1, .h 2] [sO 1 (.ptr 0 0), sO 2 (.ptr 1 0), sO 3 (.ptr 2 0), sI 5 .i64 (0 : Int), hB 0 63 [.arr .u64 4 a_0], hB 1 22 [.arr .u8 32 (List.replicate 32 0)], hB 2 22 [.arr .u8 32 (List.replicate 32 0)]] (by kernel_rfl) ?_
  refine tr_loop_fuel (id := 0) (α := List Int × Int) (β := List Int) (fun z => [sO 1 (.ptr 0 0), sO 2 (.ptr 1 0), sO 3 (.ptr 2 0), sI 5 .i64 z.2, hB 0 63 [.arr .u64 4 a_0], hB 1 22 [.arr .u8 32 (List.replicate 32 0)], hB 2 22 [.arr .u8 32 z.1]]) (fun z => [sO 2 (.ptr 1 0), sO 3 (.ptr 2 0), hB 1 22 [.arr .u8 32 (List.replicate 32 0)], hB 2 22 [.arr .u8 32 z]]) (fun k z => scalar_number_bytes_l0 a_0 k z.1 z.2) m7 (fun _ => rfl) (((32 : Int) - (0 : Int)).toNat + 1) ((List.replicate 32 0), (0 : Int)) e8 ?_ ?_
  · skip
    replace h : (some m7) = _ := h
    refine q_b_this ?_
    refine q_k ?_
    refine tr_seq ?_
    refine tr_reg hT [] [.s 2, .h 1] [sO 2 (.ptr 1 0), hB 1 22 [.arr .u8 32 m7]] [] (by kernel_rfl) trivial ?_
    refine q_k ?_
    refine tr_ret ?_
    have h := Option.some.inj h
    subst h
    exact q_ret0 hT (.v (.agg [.arr .u8 32 m7])) rfl (by kernel_rfl)
  · clear h e8
    intro k ih0 hx0 z h
    obtain ⟨m1, x2⟩ := z
    replace h : (if (decide (x2 < (32 : Int))) = true then if 0 ≤ (IntKind.i64.wrap (x2.tdiv (8 : Int))) ∧ (IntKind.i64.wrap (x2.tdiv (8 : Int))) < ((4 : Nat) : Int) then if 0 ≤ (IntKind.i64.wrap ((8 : Int) * (x2.tmod (8 : Int)))) then if 0 ≤ x2 ∧ x2 < ((32 : Nat) : Int) then scalar_number_bytes_l0 a_0 k (m1.set x2.toNat (IntKind.u8.wrap (shr .u64 (a_0.getD (IntKind.i64.wrap (x2.tdiv (8 : Int))).toNat 0) (IntKind.i64.wrap ((8 : Int) * (x2.tmod (8 : Int))))))) (IntKind.i64.wrap (x2 + (1 : Int))) else none else none else none else some m1) = _ := h
    refine tr_seq ?_
    refine tr_reg hT [] [.s 1, .s 2, .s 3, .s 5, .s 6, .h 0, .h 1, .h 2] [sO 1 (.ptr 0 0), sO 2 (.ptr 1 0), sO 3 (.ptr 2 0), sI 5 .i64 x2, sB 6 (decide (x2 < (32 : Int))), hB 0 63 [.arr .u64 4 a_0], hB 1 22 [.arr .u8 32 (List.replicate 32 0)], hB 2 22 [.arr .u8 32 m1]] [] (by kernel_rfl) trivial ?_
    refine q_k ?_
    refine tr_seq ?_
    rcases ite_split h with ⟨hc3, h⟩ | ⟨hc3, h⟩
    · refine tr_cond_t (decide (x2 < (32 : Int))) (by kernel_rfl) hc3 ?_
      refine tr_skip ?_
      refine q_k ?_
      refine tr_seq ?_
      refine tr_block ?_
      refine tr_seq ?_
      refine tr_reg hT [] [.s 1, .s 2, .s 3, .s 4, .s 5, .h 0, .h 1, .h 2] [sO 1 (.ptr 0 0), sO 2 (.ptr 1 0), sO 3 (.ptr 2 0), sI 4 .i64 x2, sI 5 .i64 x2, hB 0 63 [.arr .u64 4 a_0], hB 1 22 [.arr .u8 32 (List.replicate 32 0)], hB 2 22 [.arr .u8 32 m1]] [] (by kernel_rfl) trivial ?_
      refine q_k ?_
      obtain ⟨hn4, h⟩ := ite_some h
      obtain ⟨hn5, h⟩ := ite_some h
      obtain ⟨hn6, h⟩ := ite_some h
      refine tr_reg hT [] [.s 1, .s 2, .s 3, .s 5, .h 0, .h 1, .h 2] [sO 1 (.ptr 0 0), sO 2 (.ptr 1 0), sO 3 (.ptr 2 0), sI 5 .i64 x2, hB 0 63 [.arr .u64 4 a_0], hB 1 22 [.arr .u8 32 (List.replicate 32 0)], hB 2 22 [.arr .u8 32 (m1.set x2.toNat (IntKind.u8.wrap (shr .u64 (a_0.getD (IntKind.i64.wrap (x2.tdiv (8 : Int))).toNat 0) (IntKind.i64.wrap ((8 : Int) * (x2.tmod (8 : Int)))))))]] [(8 : Int) ≠ 0, 0 ≤ (IntKind.i64.wrap (x2.tdiv (8 : Int))) ∧ (IntKind.i64.wrap (x2.tdiv (8 : Int))) < ((4 : Nat) : Int), (8 : Int) ≠ 0, 0 ≤ (IntKind.i64.wrap ((8 : Int) * (x2.tmod (8 : Int)))), 0 ≤ x2 ∧ x2 < ((32 : Nat) : Int)] (by kernel_rfl) (hcons (by decide) (hcons hn4 (hcons (by decide) (hcons hn5 (hone hn6))))) ?_
      refine q_b 1 ?_
      refine q_k ?_
      refine tr_reg hT [] [.s 1, .s 2, .s 3, .s 5, .h 0, .h 1, .h 2] [sO 1 (.ptr 0 0), sO 2 (.ptr 1 0), sO 3 (.ptr 2 0), sI 5 .i64 (IntKind.i64.wrap (x2 + (1 : Int))), hB 0 63 [.arr .u64 4 a_0], hB 1 22 [.arr .u8 32 (List.replicate 32 0)], hB 2 22 [.arr .u8 32 (m1.set x2.toNat (IntKind.u8.wrap (shr .u64 (a_0.getD (IntKind.i64.wrap (x2.tdiv (8 : Int))).toNat 0) (IntKind.i64.wrap ((8 : Int) * (x2.tmod (8 : Int)))))))]] [] (by kernel_rfl) trivial ?_
      refine q_kr ?_
      exact trR_less [.s 1, .s 2, .s 3, .s 5, .h 0, .h 1, .h 2] [sO 1 (.ptr 0 0), sO 2 (.ptr 1 0), sO 3 (.ptr 2 0), sI 5 .i64 (IntKind.i64.wrap (x2 + (1 : Int))), hB 0 63 [.arr .u64 4 a_0], hB 1 22 [.arr .u8 32 (List.replicate 32 0)], hB 2 22 [.arr .u8 32 (m1.set x2.toNat (IntKind.u8.wrap (shr .u64 (a_0.getD (IntKind.i64.wrap (x2.tdiv (8 : Int))).toNat 0) (IntKind.i64.wrap ((8 : Int) * (x2.tmod (8 : Int)))))))]] (by kernel_rfl) (ih0 ((m1.set x2.toNat (IntKind.u8.wrap (shr .u64 (a_0.getD (IntKind.i64.wrap (x2.tdiv (8 : Int))).toNat 0) (IntKind.i64.wrap ((8 : Int) * (x2.tmod (8 : Int))))))), (IntKind.i64.wrap (x2 + (1 : Int)))) h)
    · refine tr_cond_f (decide (x2 < (32 : Int))) (by kernel_rfl) hc3 ?_
      refine tr_exit ?_
      refine q_k_exit ?_
      refine q_kr_exit ?_
      have h := Option.some.inj h
      subst h
      exact q_less [.s 2, .s 3, .h 1, .h 2] [sO 2 (.ptr 1 0), sO 3 (.ptr 2 0), hB 1 22 [.arr .u8 32 (List.replicate 32 0)], hB 2 22 [.arr .u8 32 m1]] (by kernel_rfl) hx0

theorem scalar_Check_ok (a_0 : List Int) (r : Bool) (h : scalar_Check a_0 = some r) {pre : List (Nat × Ent)} : CallOk P 32 [.v (.agg [.arr .u8 32 a_0])] pre (.v (.one (.bool r))) [] := by
  refine call0 (N := 7) Try.func32 (by kernel_rfl) rfl rfl rfl pre ?_
  intro _ w
  show Tr P w.heap.size 7 w _ _ (RetQ P Try.f32 (R0 _ w))
  unfold scalar_Check at h
  refine tr_seq ?_
  refine tr_reg hT [(0, .key 0)] [.s 1, .h 0] [sO 1 (.ptr 0 0), hB 0 22 [.arr .u8 32 a_0]] [] (by kernel_rfl) trivial ?_
  refine q_k ?_
  refine tr_seq ?_
  obtain ⟨a1, e2, h⟩ := bind_some h
  obtain ⟨a3, e4, h⟩ := bind_some h
  obtain ⟨b5, e6, h⟩ := bind_some h
  refine tr_reg hT [(1, .call (.v (.agg [.arr .u64 4 a1])) []), (2, .call (.v (.agg [.arr .u64 4 a3])) []), (3, .call (.v (.one (.bool b5))) [])] [.s 2] [sB 2 b5] [CallOk P 68 [.v (.agg [.arr .u8 32 a_0])] [] (.v (.agg [.arr .u64 4 a1])) [], CallOk P 71 [] [] (.v (.agg [.arr .u64 4 a3])) [], CallOk P 70 [.v (.agg [.arr .u64 4 a1]), .v (.agg [.arr .u64 4 a3])] [] (.v (.one (.bool b5))) []] (by kernel_rfl) (hcons (scalar_of_ok a_0 a1 e2) (hcons (scalar_order_ok  a3 e4) (hone (scalar_number_less_ok a1 a3 b5 e6)))) ?_
  refine q_k ?_
  refine tr_ret ?_
  have h := Option.some.inj h
  subst h
  exact q_ret0 hT (.v (.one (.bool b5))) rfl (by kernel_rfl)

theorem ref04_L_ok (r : List Int) (h : ref04_L = some r) {pre : List (Nat × Ent)} : CallOk P 30 [] pre (.v (.agg [.arr .u64 4 r])) [] := by
  refine call0 (N := 2) Try.func30 (by kernel_rfl) rfl rfl rfl pre ?_
  intro _ w
  show Tr P w.heap.size 2 w _ _ (RetQ P Try.f30 (R0 _ w))
  unfold ref04_L at h
  refine tr_seq ?_
  refine tr_reg hT [(0, .key 0)] [.s 0, .h 0] [sO 0 (.ptr 0 0), hB 0 31 [.arr .u64 4 (List.replicate 4 0)]] [] (by kernel_rfl) trivial ?_
  refine q_k ?_
  refine tr_seq ?_
  refine tr_reg hT [] [.s 0, .h 0] [sO 0 (.ptr 0 0), hB 0 31 [.arr .u64 4 [(6346243789798364141 : Int), (1503914060200516822 : Int), (0 : Int), (1152921504606846976 : Int)]]] [] (by kernel_rfl) trivial ?_
  refine q_k ?_
  refine tr_ret ?_
  have h := Option.some.inj h
  subst h
  exact q_ret0 hT (.v (.agg [.arr .u64 4 [(6346243789798364141 : Int), (1503914060200516822 : Int), (0 : Int), (1152921504606846976 : Int)]])) rfl (by kernel_rfl)

theorem ref04_Bytes_ok (n_0 : List Int) (r : List Int) (h : ref04_Bytes n_0 = some r) {pre : List (Nat × Ent)} : CallOk P 29 [.v (.agg [.arr .u64 4 n_0])] pre (.v (.agg [.arr .u8 32 r])) [] := by
  refine call0 (N := 22) Try.func29 (by kernel_rfl) rfl rfl rfl pre ?_
  intro _ w
  show Tr P w.heap.size 22 w _ _ (RetQ P Try.f29 (R0 _ w))
  unfold ref04_Bytes at h
  refine tr_seq ?_
  refine tr_reg hT [(0, .key 0), (1, .key 1)] [.s 1, .s 2, .h 0, .h 1] [sO 1 (.ptr 0 0), sO 2 (.ptr 1 0), hB 0 31 [.arr .u64 4 n_0], hB 1 22 [.arr .u8 32 (List.replicate 32 0)]] [] (by kernel_rfl) trivial ?_
  refine q_k ?_
  refine tr_seq ?_
  refine tr_reg hT [(0, .key 2)] [.s 1, .s 2, .s 3, .h 0, .h 1, .h 2] [sO 1 (.ptr 0 0), sO 2 (.ptr 1 0), sO 3 (.ptr 2 0), hB 0 31 [.arr .u64 4 n_0], hB 1 22 [.arr .u8 32 (List.replicate 32 0)], hB 2 22 [.arr .u8 32 (List.replicate 32 0)]] [] (by kernel_rfl) trivial ?_
  refine q_k ?_
  refine tr_seq ?_
  refine tr_seq ?_
  refine tr_reg hT [] [.s 1, .s 2, .s 3, .s 4, .h 0, .h 1, .h 2] [sO 1 (.ptr 0 0), sO 2 (.ptr 1 0), sO 3 (.ptr 2 0), sI 4 .i64 (0 : Int), hB 0 31 [.arr .u64 4 n_0], hB 1 22 [.arr .u8 32 (List.replicate 32 0)], hB 2 22 [.arr .u8 32 (List.replicate 32 0)]] [] (by kernel_rfl) trivial ?_
  refine q_k ?_
  refine tr_block ?_
  obtain ⟨m7, e8, h⟩ := bind_some h
  refine tr_less [.s 1, .s 2, .s 3, .s 4, .h 0, .h 1, .h 2] [sO 1 (.ptr 0 0), sO 2 (.ptr 1 0), sO 3 (.ptr 2 0), sI 4 .i64 (0 : Int), hB 0 31 [.arr .u64 4 n_0], hB 1 22 [.arr .u8 32 (List.replicate 32 0)], hB 2 22 [.arr .u8 32 (List.replicate 32 0)]] (by kernel_rfl) ?_
  refine tr_loop_fuel (id := 0) (α := List Int × Int) (β := List Int) (fun z => [sO 1 (.ptr 0 0), sO 2 (.ptr 1 0), sO 3 (.ptr 2 0), sI 4 .i64 z.2, hB 0 31 [.arr .u64 4 n_0], hB 1 22 [.arr .u8 32 (List.replicate 32 0)], hB 2 22 [.arr .u8 32 z.1]]) (fun z => [sO 2 (.ptr 1 0), sO 3 (.ptr 2 0), hB 1 22 [.arr .u8 32 (List.replicate 32 0)], hB 2 22 [.arr .u8 32 z]]) (fun k z => ref04_Bytes_l0 n_0 k z.1 z.2) m7 (fun _ => rfl) (((32 : Int) - (0 : Int)).toNat + 1) ((List.replicate 32 0), (0 : Int)) e8 ?_ ?_
  · skip
    replace h : (some m7) = _ := h
    refine q_b_this ?_
    refine q_k ?_
    refine tr_seq ?_
    refine tr_reg hT [] [.s 2, .h 1] [sO 2 (.ptr 1 0), hB 1 22 [.arr .u8 32 m7]] [] (by kernel_rfl) trivial ?_
    refine q_k ?_
    refine tr_ret ?_
    have h := Option.some.inj h
    subst h
    exact q_ret0 hT (.v (.agg [.arr .u8 32 m7])) rfl (by kernel_rfl)
  · clear h e8
    intro k ih0 hx0 z h
    obtain ⟨m1, i2⟩ := z
    replace h : (if (decide (i2 < (32 : Int))) = true then if 0 ≤ (IntKind.i64.wrap (i2.tdiv (8 : Int))) ∧ (IntKind.i64.wrap (i2.tdiv (8 : Int))) < ((4 : Nat) : Int) then if 0 ≤ (IntKind.u64.wrap (IntKind.i64.wrap ((8 : Int) * (i2.tmod (8 : Int))))) then if 0 ≤ i2 ∧ i2 < ((32 : Nat) : Int) then ref04_Bytes_l0 n_0 k (m1.set i2.toNat (IntKind.u8.wrap (shr .u64 (n_0.getD (IntKind.i64.wrap (i2.tdiv (8 : Int))).toNat 0) (IntKind.u64.wrap (IntKind.i64.wrap ((8 : Int) * (i2.tmod (8 : Int)))))))) (IntKind.i64.wrap (i2 + (1 : Int))) else none else none else none else some m1) = _ := h
    refine tr_seq ?_
    refine tr_seq ?_
    refine tr_reg hT [] [.s 1, .s 2, .s 3, .s 4, .s 6, .h 0, .h 1, .h 2] [sO 1 (.ptr 0 0), sO 2 (.ptr 1 0), sO 3 (.ptr 2 0), sI 4 .i64 i2, sB 6 (decide (i2 < (32 : Int))), hB 0 31 [.arr .u64 4 n_0], hB 1 22 [.arr .u8 32 (List.replicate 32 0)], hB 2 22 [.arr .u8 32 m1]] [] (by kernel_rfl) trivial ?_
    refine q_k ?_
    rcases ite_split h with ⟨hc3, h⟩ | ⟨hc3, h⟩
    · refine tr_cond_t (decide (i2 < (32 : Int))) (by kernel_rfl) hc3 ?_
      refine tr_skip ?_
      refine q_k ?_
      refine tr_seq ?_
      refine tr_block ?_
      obtain ⟨hn4, h⟩ := ite_some h
      obtain ⟨hn5, h⟩ := ite_some h
      obtain ⟨hn6, h⟩ := ite_some h
      refine tr_reg hT [] [.s 1, .s 2, .s 3, .s 4, .h 0, .h 1, .h 2] [sO 1 (.ptr 0 0), sO 2 (.ptr 1 0), sO 3 (.ptr 2 0), sI 4 .i64 i2, hB 0 31 [.arr .u64 4 n_0], hB 1 22 [.arr .u8 32 (List.replicate 32 0)], hB 2 22 [.arr .u8 32 (m1.set i2.toNat (IntKind.u8.wrap (shr .u64 (n_0.getD (IntKind.i64.wrap (i2.tdiv (8 : Int))).toNat 0) (IntKind.u64.wrap (IntKind.i64.wrap ((8 : Int) * (i2.tmod (8 : Int))))))))]] [(8 : Int) ≠ 0, 0 ≤ (IntKind.i64.wrap (i2.tdiv (8 : Int))) ∧ (IntKind.i64.wrap (i2.tdiv (8 : Int))) < ((4 : Nat) : Int), (8 : Int) ≠ 0, 0 ≤ (IntKind.u64.wrap (IntKind.i64.wrap ((8 : Int) * (i2.tmod (8 : Int))))), 0 ≤ i2 ∧ i2 < ((32 : Nat) : Int)] (by kernel_rfl) (hcons (by decide) (hcons hn4 (hcons (by decide) (hcons hn5 (hone hn6))))) ?_
      refine q_b 1 ?_
      refine q_k ?_
      refine tr_reg hT [] [.s 1, .s 2, .s 3, .s 4, .h 0, .h 1, .h 2] [sO 1 (.ptr 0 0), sO 2 (.ptr 1 0), sO 3 (.ptr 2 0), sI 4 .i64 (IntKind.i64.wrap (i2 + (1 : Int))), hB 0 31 [.arr .u64 4 n_0], hB 1 22 [.arr .u8 32 (List.replicate 32 0)], hB 2 22 [.arr .u8 32 (m1.set i2.toNat (IntKind.u8.wrap (shr .u64 (n_0.getD (IntKind.i64.wrap (i2.tdiv (8 : Int))).toNat 0) (IntKind.u64.wrap (IntKind.i64.wrap ((8 : Int) * (i2.tmod (8 : Int))))))))]] [] (by kernel_rfl) trivial ?_
      refine q_kr ?_
      exact trR_less [.s 1, .s 2, .s 3, .s 4, .h 0, .h 1, .h 2] [sO 1 (.ptr 0 0), sO 2 (.ptr 1 0), sO 3 (.ptr 2 0), sI 4 .i64 (IntKind.i64.wrap (i2 + (1 : Int))), hB 0 31 [.arr .u64 4 n_0], hB 1 22 [.arr .u8 32 (List.replicate 32 0)], hB 2 22 [.arr .u8 32 (m1.set i2.toNat (IntKind.u8.wrap (shr .u64 (n_0.getD (IntKind.i64.wrap (i2.tdiv (8 : Int))).toNat 0) (IntKind.u64.wrap (IntKind.i64.wrap ((8 : Int) * (i2.tmod (8 : Int))))))))]] (by kernel_rfl) (ih0 ((m1.set i2.toNat (IntKind.u8.wrap (shr .u64 (n_0.getD (IntKind.i64.wrap (i2.tdiv (8 : Int))).toNat 0) (IntKind.u64.wrap (IntKind.i64.wrap ((8 : Int) * (i2.tmod (8 : Int)))))))), (IntKind.i64.wrap (i2 + (1 : Int)))) h)
    · refine tr_cond_f (decide (i2 < (32 : Int))) (by kernel_rfl) hc3 ?_
      refine tr_exit ?_
      refine q_k_exit ?_
      refine q_kr_exit ?_
      have h := Option.some.inj h
      subst h
      exact q_less [.s 2, .s 3, .h 1, .h 2] [sO 2 (.ptr 1 0), sO 3 (.ptr 2 0), hB 1 22 [.arr .u8 32 (List.replicate 32 0)], hB 2 22 [.arr .u8 32 m1]] (by kernel_rfl) hx0

theorem limb_Of_ok (b_0 : List Int) (r : List Int) (h : limb_Of b_0 = some r) {pre : List (Nat × Ent)} : CallOk P 72 [.v (.agg [.arr .u8 32 b_0])] pre (.v (.agg [.arr .u64 5 r])) [] := by
  refine call0 (N := 65) Try.func72 (by kernel_rfl) rfl rfl rfl pre ?_
  intro _ w
  show Tr P w.heap.size 65 w _ _ (RetQ P Try.f72 (R0 _ w))
  unfold limb_Of at h
  refine tr_seq ?_
  refine tr_reg hT [(0, .key 0), (1, .key 1)] [.s 1, .s 2, .h 0, .h 1] [sO 1 (.ptr 0 0), sO 2 (.ptr 1 0), hB 0 22 [.arr .u8 32 b_0], hB 1 71 [.arr .u64 5 (List.replicate 5 0)]] [] (by kernel_rfl) trivial ?_
  refine q_k ?_
  refine tr_seq ?_
  refine tr_reg hT [(0, .key 2)] [.s 1, .s 2, .s 3, .h 0, .h 1, .h 2] [sO 1 (.ptr 0 0), sO 2 (.ptr 1 0), sO 3 (.ptr 2 0), hB 0 22 [.arr .u8 32 b_0], hB 1 71 [.arr .u64 5 (List.replicate 5 0)], hB 2 30 [.arr .u64 4 (List.replicate 4 0)]] [] (by kernel_rfl) trivial ?_
  refine q_k ?_
  refine tr_seq ?_
  refine tr_seq ?_
  refine tr_reg hT [] [.s 1, .s 2, .s 3, .s 6, .h 0, .h 1, .h 2] [sO 1 (.ptr 0 0), sO 2 (.ptr 1 0), sO 3 (.ptr 2 0), sI 6 .i64 (0 : Int), hB 0 22 [.arr .u8 32 b_0], hB 1 71 [.arr .u64 5 (List.replicate 5 0)], hB 2 30 [.arr .u64 4 (List.replicate 4 0)]] [] (by kernel_rfl) trivial ?_
  refine q_k ?_
  refine tr_block ?_
  obtain ⟨m8, e9, h⟩ := bind_some h
  refine tr_less [.s 1, .s 2, .s 3, .s 6, .h 0, .h 1, .h 2] [sO 1 (.ptr 0 0), sO 2 (.ptr 1 0), sO 3 (.ptr 2 0), sI 6 .i64 (0 : Int), hB 0 22 [.arr .u8 32 b_0], hB 1 71 [.arr .u64 5 (List.replicate 5 0)], hB 2 30 [.arr .u64 4 (List.replicate 4 0)]] (by kernel_rfl) ?_
  refine tr_loop_fuel (id := 0) (α := List Int × Int) (β := List Int) (fun z => [sO 1 (.ptr 0 0), sO 2 (.ptr 1 0), sO 3 (.ptr 2 0), sI 6 .i64 z.2, hB 0 22 [.arr .u8 32 b_0], hB 1 71 [.arr .u64 5 (List.replicate 5 0)], hB 2 30 [.arr .u64 4 z.1]]) (fun z => [sO 2 (.ptr 1 0), sO 3 (.ptr 2 0), hB 1 71 [.arr .u64 5 (List.replicate 5 0)], hB 2 30 [.arr .u64 4 z]]) (fun k z => limb_Of_l0 b_0 k z.1 z.2) m8 (fun _ => rfl) (((32 : Int) - (0 : Int)).toNat + 1) ((List.replicate 4 0), (0 : Int)) e9 ?_ ?_
  · skip
    replace h : (some ([(band .u64 (m8.getD 0 0) (2251799813685247 : Int)), (band .u64 (bor .u64 (shr .u64 (m8.getD 0 0) (51 : Int)) (shl .u64 (m8.getD 1 0) (13 : Int))) (2251799813685247 : Int)), (band .u64 (bor .u64 (shr .u64 (m8.getD 1 0) (38 : Int)) (shl .u64 (m8.getD 2 0) (26 : Int))) (2251799813685247 : Int)), (band .u64 (bor .u64 (shr .u64 (m8.getD 2 0) (25 : Int)) (shl .u64 (m8.getD 3 0) (39 : Int))) (2251799813685247 : Int)), (band .u64 (shr .u64 (m8.getD 3 0) (12 : Int)) (2251799813685247 : Int))].set 0 (IntKind.u64.wrap (([(band .u64 (m8.getD 0 0) (2251799813685247 : Int)), (band .u64 (bor .u64 (shr .u64 (m8.getD 0 0) (51 : Int)) (shl .u64 (m8.getD 1 0) (13 : Int))) (2251799813685247 : Int)), (band .u64 (bor .u64 (shr .u64 (m8.getD 1 0) (38 : Int)) (shl .u64 (m8.getD 2 0) (26 : Int))) (2251799813685247 : Int)), (band .u64 (bor .u64 (shr .u64 (m8.getD 2 0) (25 : Int)) (shl .u64 (m8.getD 3 0) (39 : Int))) (2251799813685247 : Int)), (band .u64 (shr .u64 (m8.getD 3 0) (12 : Int)) (2251799813685247 : Int))].getD 0 0) + (IntKind.u64.wrap ((19 : Int) * (shr .u64 (m8.getD 3 0) (63 : Int)))))))) = _ := h
    refine q_b_this ?_
    refine q_k ?_
    refine tr_seq ?_
    refine tr_reg hT [(32, .key 3)] [.s 2, .s 3, .s 5, .h 1, .h 2, .h 3] [sO 2 (.ptr 1 0), sO 3 (.ptr 2 0), sO 5 (.ptr 3 0), hB 1 71 [.arr .u64 5 (List.replicate 5 0)], hB 2 30 [.arr .u64 4 m8], hB 3 71 [.arr .u64 5 [(band .u64 (m8.getD 0 0) (2251799813685247 : Int)), (band .u64 (bor .u64 (shr .u64 (m8.getD 0 0) (51 : Int)) (shl .u64 (m8.getD 1 0) (13 : Int))) (2251799813685247 : Int)), (band .u64 (bor .u64 (shr .u64 (m8.getD 1 0) (38 : Int)) (shl .u64 (m8.getD 2 0) (26 : Int))) (2251799813685247 : Int)), (band .u64 (bor .u64 (shr .u64 (m8.getD 2 0) (25 : Int)) (shl .u64 (m8.getD 3 0) (39 : Int))) (2251799813685247 : Int)), (band .u64 (shr .u64 (m8.getD 3 0) (12 : Int)) (2251799813685247 : Int))]]] [0 ≤ (0 : Int) ∧ (0 : Int) < ((4 : Nat) : Int), 0 ≤ (0 : Int) ∧ (0 : Int) < ((4 : Nat) : Int), 0 ≤ (51 : Int), 0 ≤ (1 : Int) ∧ (1 : Int) < ((4 : Nat) : Int), 0 ≤ (13 : Int), 0 ≤ (1 : Int) ∧ (1 : Int) < ((4 : Nat) : Int), 0 ≤ (38 : Int), 0 ≤ (2 : Int) ∧ (2 : Int) < ((4 : Nat) : Int), 0 ≤ (26 : Int), 0 ≤ (2 : Int) ∧ (2 : Int) < ((4 : Nat) : Int), 0 ≤ (25 : Int), 0 ≤ (3 : Int) ∧ (3 : Int) < ((4 : Nat) : Int), 0 ≤ (39 : Int), 0 ≤ (3 : Int) ∧ (3 : Int) < ((4 : Nat) : Int), 0 ≤ (12 : Int)] (by kernel_rfl) (hcons (by decide) (hcons (by decide) (hcons (by decide) (hcons (by decide) (hcons (by decide) (hcons (by decide) (hcons (by decide) (hcons (by decide) (hcons (by decide) (hcons (by decide) (hcons (by decide) (hcons (by decide) (hcons (by decide) (hcons (by decide) (hone (by decide)))))))))))))))) ?_
    refine q_k ?_
    refine tr_seq ?_
    refine tr_reg hT [] [.s 2, .s 5, .h 1, .h 3] [sO 2 (.ptr 1 0), sO 5 (.ptr 3 0), hB 1 71 [.arr .u64 5 (List.replicate 5 0)], hB 3 71 [.arr .u64 5 ([(band .u64 (m8.getD 0 0) (2251799813685247 : Int)), (band .u64 (bor .u64 (shr .u64 (m8.getD 0 0) (51 : Int)) (shl .u64 (m8.getD 1 0) (13 : Int))) (2251799813685247 : Int)), (band .u64 (bor .u64 (shr .u64 (m8.getD 1 0) (38 : Int)) (shl .u64 (m8.getD 2 0) (26 : Int))) (2251799813685247 : Int)), (band .u64 (bor .u64 (shr .u64 (m8.getD 2 0) (25 : Int)) (shl .u64 (m8.getD 3 0) (39 : Int))) (2251799813685247 : Int)), (band .u64 (shr .u64 (m8.getD 3 0) (12 : Int)) (2251799813685247 : Int))].set 0 (IntKind.u64.wrap (([(band .u64 (m8.getD 0 0) (2251799813685247 : Int)), (band .u64 (bor .u64 (shr .u64 (m8.getD 0 0) (51 : Int)) (shl .u64 (m8.getD 1 0) (13 : Int))) (2251799813685247 : Int)), (band .u64 (bor .u64 (shr .u64 (m8.getD 1 0) (38 : Int)) (shl .u64 (m8.getD 2 0) (26 : Int))) (2251799813685247 : Int)), (band .u64 (bor .u64 (shr .u64 (m8.getD 2 0) (25 : Int)) (shl .u64 (m8.getD 3 0) (39 : Int))) (2251799813685247 : Int)), (band .u64 (shr .u64 (m8.getD 3 0) (12 : Int)) (2251799813685247 : Int))].getD 0 0) + (IntKind.u64.wrap ((19 : Int) * (shr .u64 (m8.getD 3 0) (63 : Int)))))))]] [0 ≤ (0 : Int) ∧ (0 : Int) < ((5 : Nat) : Int), 0 ≤ (3 : Int) ∧ (3 : Int) < ((4 : Nat) : Int), 0 ≤ (63 : Int), 0 ≤ (0 : Int) ∧ (0 : Int) < ((5 : Nat) : Int)] (by kernel_rfl) (hcons (by decide) (hcons (by decide) (hcons (by decide) (hone (by decide))))) ?_
    refine q_k ?_
    refine tr_seq ?_
    refine tr_reg hT [] [.s 2, .h 1] [sO 2 (.ptr 1 0), hB 1 71 [.arr .u64 5 ([(band .u64 (m8.getD 0 0) (2251799813685247 : Int)), (band .u64 (bor .u64 (shr .u64 (m8.getD 0 0) (51 : Int)) (shl .u64 (m8.getD 1 0) (13 : Int))) (2251799813685247 : Int)), (band .u64 (bor .u64 (shr .u64 (m8.getD 1 0) (38 : Int)) (shl .u64 (m8.getD 2 0) (26 : Int))) (2251799813685247 : Int)), (band .u64 (bor .u64 (shr .u64 (m8.getD 2 0) (25 : Int)) (shl .u64 (m8.getD 3 0) (39 : Int))) (2251799813685247 : Int)), (band .u64 (shr .u64 (m8.getD 3 0) (12 : Int)) (2251799813685247 : Int))].set 0 (IntKind.u64.wrap (([(band .u64 (m8.getD 0 0) (2251799813685247 : Int)), (band .u64 (bor .u64 (shr .u64 (m8.getD 0 0) (51 : Int)) (shl .u64 (m8.getD 1 0) (13 : Int))) (2251799813685247 : Int)), (band .u64 (bor .u64 (shr .u64 (m8.getD 1 0) (38 : Int)) (shl .u64 (m8.getD 2 0) (26 : Int))) (2251799813685247 : Int)), (band .u64 (bor .u64 (shr .u64 (m8.getD 2 0) (25 : Int)) (shl .u64 (m8.getD 3 0) (39 : Int))) (2251799813685247 : Int)), (band .u64 (shr .u64 (m8.getD 3 0) (12 : Int)) (2251799813685247 : Int))].getD 0 0) + (IntKind.u64.wrap ((19 : Int) * (shr .u64 (m8.getD 3 0) (63 : Int)))))))]] [] (by kernel_rfl) trivial ?_
    refine q_k ?_
    refine tr_ret ?_
    have h := Option.some.inj h
    subst h
    exact q_ret0 hT (.v (.agg [.arr .u64 5 ([(band .u64 (m8.getD 0 0) (2251799813685247 : Int)), (band .u64 (bor .u64 (shr .u64 (m8.getD 0 0) (51 : Int)) (shl .u64 (m8.getD 1 0) (13 : Int))) (2251799813685247 : Int)), (band .u64 (bor .u64 (shr .u64 (m8.getD 1 0) (38 : Int)) (shl .u64 (m8.getD 2 0) (26 : Int))) (2251799813685247 : Int)), (band .u64 (bor .u64 (shr .u64 (m8.getD 2 0) (25 : Int)) (shl .u64 (m8.getD 3 0) (39 : Int))) (2251799813685247 : Int)), (band .u64 (shr .u64 (m8.getD 3 0) (12 : Int)) (2251799813685247 : Int))].set 0 (IntKind.u64.wrap (([(band .u64 (m8.getD 0 0) (2251799813685247 : Int)), (band .u64 (bor .u64 (shr .u64 (m8.getD 0 0) (51 : Int)) (shl .u64 (m8.getD 1 0) (13 : Int))) (2251799813685247 : Int)), (band .u64 (bor .u64 (shr .u64 (m8.getD 1 0) (38 : Int)) (shl .u64 (m8.getD 2 0) (26 : Int))) (2251799813685247 : Int)), (band .u64 (bor .u64 (shr .u64 (m8.getD 2 0) (25 : Int)) (shl .u64 (m8.getD 3 0) (39 : Int))) (2251799813685247 : Int)), (band .u64 (shr .u64 (m8.getD 3 0) (12 : Int)) (2251799813685247 : Int))].getD 0 0) + (IntKind.u64.wrap ((19 : Int) * (shr .u64 (m8.getD 3 0) (63 : Int)))))))])) rfl (by kernel_rfl)
  · clear h e9
    intro k ih0 hx0 z h
    obtain ⟨m1, x2⟩ := z
    replace h : (if (decide (x2 < (32 : Int))) = true then if 0 ≤ (IntKind.i64.wrap (x2.tdiv (8 : Int))) ∧ (IntKind.i64.wrap (x2.tdiv (8 : Int))) < ((4 : Nat) : Int) then if 0 ≤ x2 ∧ x2 < ((32 : Nat) : Int) then if 0 ≤ (IntKind.i64.wrap ((8 : Int) * (x2.tmod (8 : Int)))) then if 0 ≤ (IntKind.i64.wrap (x2.tdiv (8 : Int))) ∧ (IntKind.i64.wrap (x2.tdiv (8 : Int))) < ((4 : Nat) : Int) then limb_Of_l0 b_0 k (m1.set (IntKind.i64.wrap (x2.tdiv (8 : Int))).toNat (bor .u64 (m1.getD (IntKind.i64.wrap (x2.tdiv (8 : Int))).toNat 0) (shl .u64 (IntKind.u64.wrap (b_0.getD x2.toNat 0)) (IntKind.i64.wrap ((8 : Int) * (x2.tmod (8 : Int))))))) (IntKind.i64.wrap (x2 + (1 : Int))) else none else none else none else none else some m1) = _ := h
    refine tr_seq ?_
    refine tr_reg hT [] [.s 1, .s 2, .s 3, .s 6, .s 7, .h 0, .h 1, .h 2] [sO 1 (.ptr 0 0), sO 2 (.ptr 1 0), sO 3 (.ptr 2 0), sI 6 .i64 x2, sB 7 (decide (x2 < (32 : Int))), hB 0 22 [.arr .u8 32 b_0], hB 1 71 [.arr .u64 5 (List.replicate 5 0)], hB 2 30 [.arr .u64 4 m1]] [] (by kernel_rfl) trivial ?_
    refine q_k ?_
    refine tr_seq ?_
    rcases ite_split h with ⟨hc3, h⟩ | ⟨hc3, h⟩
    · refine tr_cond_t (decide (x2 < (32 : Int))) (by kernel_rfl) hc3 ?_
      refine tr_skip ?_
      refine q_k ?_
      refine tr_seq ?_
      refine tr_block ?_
      refine tr_seq ?_
      refine tr_reg hT [] [.s 1, .s 2, .s 3, .s 4, .s 6, .h 0, .h 1, .h 2] [sO 1 (.ptr 0 0), sO 2 (.ptr 1 0), sO 3 (.ptr 2 0), sI 4 .i64 x2, sI 6 .i64 x2, hB 0 22 [.arr .u8 32 b_0], hB 1 71 [.arr .u64 5 (List.replicate 5 0)], hB 2 30 [.arr .u64 4 m1]] [] (by kernel_rfl) trivial ?_
      refine q_k ?_
      obtain ⟨hn4, h⟩ := ite_some h
      obtain ⟨hn5, h⟩ := ite_some h
      obtain ⟨hn6, h⟩ := ite_some h
      obtain ⟨hn7, h⟩ := ite_some h
      refine tr_regd hT hM [] [.s 1, .s 2, .s 3, .s 6, .h 0, .h 1, .h 2] [sO 1 (.ptr 0 0), sO 2 (.ptr 1 0), sO 3 (.ptr 2 0), sI 6 .i64 x2, hB 0 22 [.arr .u8 32 b_0], hB 1 71 [.arr .u64 5 (List.replicate 5 0)], hB 2 30 [.arr .u64 4 (m1.set (IntKind.i64.wrap (x2.tdiv (8 : Int))).toNat (bor .u64 (m1.getD (IntKind.i64.wrap (x2.tdiv (8 : Int))).toNat 0) (shl .u64 (IntKind.u64.wrap (b_0.getD x2.toNat 0)) (IntKind.i64.wrap ((8 : Int) * (x2.tmod (8 : Int)))))))]] [(8 : Int) ≠ 0, 0 ≤ (IntKind.i64.wrap (x2.tdiv (8 : Int))) ∧ (IntKind.i64.wrap (x2.tdiv (8 : Int))) < ((4 : Nat) : Int), 0 ≤ x2 ∧ x2 < ((32 : Nat) : Int), (8 : Int) ≠ 0, 0 ≤ (IntKind.i64.wrap ((8 : Int) * (x2.tmod (8 : Int)))), 0 ≤ (IntKind.i64.wrap (x2.tdiv (8 : Int))) ∧ (IntKind.i64.wrap (x2.tdiv (8 : Int))) < ((4 : Nat) : Int)] (by kernel_rfl) (hcons (by decide) (hcons hn4 (hcons hn5 (hcons (by decide) (hcons hn6 (hone hn7)))))) ?_
      refine q_b 1 ?_
      refine q_k ?_
      refine tr_reg hT [] [.s 1, .s 2, .s 3, .s 6, .h 0, .h 1, .h 2] [sO 1 (.ptr 0 0), sO 2 (.ptr 1 0), sO 3 (.ptr 2 0), sI 6 .i64 (IntKind.i64.wrap (x2 + (1 : Int))), hB 0 22 [.arr .u8 32 b_0], hB 1 71 [.arr .u64 5 (List.replicate 5 0)], hB 2 30 [.arr .u64 4 (m1.set (IntKind.i64.wrap (x2.tdiv (8 : Int))).toNat (bor .u64 (m1.getD (IntKind.i64.wrap (x2.tdiv (8 : Int))).toNat 0) (shl .u64 (IntKind.u64.wrap (b_0.getD x2.toNat 0)) (IntKind.i64.wrap ((8 : Int) * (x2.tmod (8 : Int)))))))]] [] (by kernel_rfl) trivial ?_
      refine q_kr ?_
      exact trR_less [.s 1, .s 2, .s 3, .s 6, .h 0, .h 1, .h 2] [sO 1 (.ptr 0 0), sO 2 (.ptr 1 0), sO 3 (.ptr 2 0), sI 6 .i64 (IntKind.i64.wrap (x2 + (1 : Int))), hB 0 22 [.arr .u8 32 b_0], hB 1 71 [.arr .u64 5 (List.replicate 5 0)], hB 2 30 [.arr .u64 4 (m1.set (IntKind.i64.wrap (x2.tdiv (8 : Int))).toNat (bor .u64 (m1.getD (IntKind.i64.wrap (x2.tdiv (8 : Int))).toNat 0) (shl .u64 (IntKind.u64.wrap (b_0.getD x2.toNat 0)) (IntKind.i64.wrap ((8 : Int) * (x2.tmod (8 : Int)))))))]] (by kernel_rfl) (ih0 ((m1.set (IntKind.i64.wrap (x2.tdiv (8 : Int))).toNat (bor .u64 (m1.getD (IntKind.i64.wrap (x2.tdiv (8 : Int))).toNat 0) (shl .u64 (IntKind.u64.wrap (b_0.getD x2.toNat 0)) (IntKind.i64.wrap ((8 : Int) * (x2.tmod (8 : Int))))))), (IntKind.i64.wrap (x2 + (1 : Int)))) h)
    · refine tr_cond_f (decide (x2 < (32 : Int))) (by kernel_rfl) hc3 ?_
      refine tr_exit ?_
      refine q_k_exit ?_
      refine q_kr_exit ?_
      have h := Option.some.inj h
      subst h
      exact q_less [.s 2, .s 3, .h 1, .h 2] [sO 2 (.ptr 1 0), sO 3 (.ptr 2 0), hB 1 71 [.arr .u64 5 (List.replicate 5 0)], hB 2 30 [.arr .u64 4 m1]] (by kernel_rfl) hx0

theorem limb_carried_ok (a_0 : List Int) (r : List Int) (h : limb_carried a_0 = some r) {pre : List (Nat × Ent)} : CallOk P 102 [.v (.agg [.arr .u64 5 a_0])] pre (.v (.agg [.arr .u64 5 r])) [] := by
  refine call0 (N := 31) Try.func102 (by kernel_rfl) rfl rfl rfl pre ?_
  intro _ w
  show Tr P w.heap.size 31 w _ _ (RetQ P Try.f102 (R0 _ w))
  unfold limb_carried at h
  refine tr_seq ?_
  refine tr_reg hT [(0, .key 0), (1, .key 1)] [.s 1, .s 2, .h 0, .h 1] [sO 1 (.ptr 0 0), sO 2 (.ptr 1 0), hB 0 71 [.arr .u64 5 a_0], hB 1 71 [.arr .u64 5 (List.replicate 5 0)]] [] (by kernel_rfl) trivial ?_
  refine q_k ?_
  refine tr_seq ?_
  refine tr_reg hT [] [.s 1, .s 2, .s 3, .h 0, .h 1] [sO 1 (.ptr 0 0), sO 2 (.ptr 1 0), sI 3 .u64 (0 : Int), hB 0 71 [.arr .u64 5 a_0], hB 1 71 [.arr .u64 5 (List.replicate 5 0)]] [] (by kernel_rfl) trivial ?_
  refine q_k ?_
  refine tr_seq ?_
  refine tr_seq ?_
  refine tr_reg hT [] [.s 1, .s 2, .s 3, .s 5, .h 0, .h 1] [sO 1 (.ptr 0 0), sO 2 (.ptr 1 0), sI 3 .u64 (0 : Int), sI 5 .i64 (0 : Int), hB 0 71 [.arr .u64 5 a_0], hB 1 71 [.arr .u64 5 (List.replicate 5 0)]] [] (by kernel_rfl) trivial ?_
  refine q_k ?_
  refine tr_block ?_
  obtain ⟨rr0, e12, h⟩ := bind_some h
  refine tr_less [.s 1, .s 2, .s 3, .s 5, .h 0, .h 1] [sO 1 (.ptr 0 0), sO 2 (.ptr 1 0), sI 3 .u64 (0 : Int), sI 5 .i64 (0 : Int), hB 0 71 [.arr .u64 5 a_0], hB 1 71 [.arr .u64 5 (List.replicate 5 0)]] (by kernel_rfl) ?_
  refine tr_loop_fuel (id := 0) (α := List Int × Int × Int) (β := List Int × Int) (fun z => [sO 1 (.ptr 0 0), sO 2 (.ptr 1 0), sI 3 .u64 z.2.1, sI 5 .i64 z.2.2, hB 0 71 [.arr .u64 5 z.1], hB 1 71 [.arr .u64 5 (List.replicate 5 0)]]) (fun z => [sO 1 (.ptr 0 0), sO 2 (.ptr 1 0), sI 3 .u64 z.2, hB 0 71 [.arr .u64 5 z.1], hB 1 71 [.arr .u64 5 (List.replicate 5 0)]]) (fun k z => limb_carried_l0 k z.1 z.2.1 z.2.2) rr0 (fun _ => rfl) (((5 : Int) - (0 : Int)).toNat + 1) (a_0, (0 : Int), (0 : Int)) e12 ?_ ?_
  · rcases rr0 with ⟨m10, c11⟩
    replace h : (some (m10.set 0 (IntKind.u64.wrap ((m10.getD 0 0) + (IntKind.u64.wrap ((19 : Int) * c11)))))) = _ := h
    refine q_b_this ?_
    refine q_k ?_
    refine tr_seq ?_
    refine tr_reg hT [] [.s 1, .s 2, .h 0, .h 1] [sO 1 (.ptr 0 0), sO 2 (.ptr 1 0), hB 0 71 [.arr .u64 5 (m10.set 0 (IntKind.u64.wrap ((m10.getD 0 0) + (IntKind.u64.wrap ((19 : Int) * c11)))))], hB 1 71 [.arr .u64 5 (List.replicate 5 0)]] [0 ≤ (0 : Int) ∧ (0 : Int) < ((5 : Nat) : Int), 0 ≤ (0 : Int) ∧ (0 : Int) < ((5 : Nat) : Int)] (by kernel_rfl) (hcons (by decide) (hone (by decide))) ?_
    refine q_k ?_
    refine tr_seq ?_
    refine tr_reg hT [] [.s 2, .h 1] [sO 2 (.ptr 1 0), hB 1 71 [.arr .u64 5 (m10.set 0 (IntKind.u64.wrap ((m10.getD 0 0) + (IntKind.u64.wrap ((19 : Int) * c11)))))]] [] (by kernel_rfl) trivial ?_
    refine q_k ?_
    refine tr_ret ?_
    have h := Option.some.inj h
    subst h
    exact q_ret0 hT (.v (.agg [.arr .u64 5 (m10.set 0 (IntKind.u64.wrap ((m10.getD 0 0) + (IntKind.u64.wrap ((19 : Int) * c11)))))])) rfl (by kernel_rfl)
  · clear h e12
    intro k ih0 hx0 z h
    obtain ⟨m1, c2, x3⟩ := z
    replace h : (if (decide (x3 < (5 : Int))) = true then if 0 ≤ x3 ∧ x3 < ((5 : Nat) : Int) then if 0 ≤ x3 ∧ x3 < ((5 : Nat) : Int) then if 0 ≤ x3 ∧ x3 < ((5 : Nat) : Int) then if 0 ≤ x3 ∧ x3 < ((5 : Nat) : Int) then if 0 ≤ x3 ∧ x3 < ((5 : Nat) : Int) then limb_carried_l0 k ((m1.set x3.toNat (IntKind.u64.wrap ((m1.getD x3.toNat 0) + c2))).set x3.toNat (band .u64 ((m1.set x3.toNat (IntKind.u64.wrap ((m1.getD x3.toNat 0) + c2))).getD x3.toNat 0) (2251799813685247 : Int))) (shr .u64 ((m1.set x3.toNat (IntKind.u64.wrap ((m1.getD x3.toNat 0) + c2))).getD x3.toNat 0) (51 : Int)) (IntKind.i64.wrap (x3 + (1 : Int))) else none else none else none else none else none else some (m1, c2)) = _ := h
    refine tr_seq ?_
    refine tr_reg hT [] [.s 1, .s 2, .s 3, .s 5, .s 6, .h 0, .h 1] [sO 1 (.ptr 0 0), sO 2 (.ptr 1 0), sI 3 .u64 c2, sI 5 .i64 x3, sB 6 (decide (x3 < (5 : Int))), hB 0 71 [.arr .u64 5 m1], hB 1 71 [.arr .u64 5 (List.replicate 5 0)]] [] (by kernel_rfl) trivial ?_
    refine q_k ?_
    refine tr_seq ?_
    rcases ite_split h with ⟨hc4, h⟩ | ⟨hc4, h⟩
    · refine tr_cond_t (decide (x3 < (5 : Int))) (by kernel_rfl) hc4 ?_
      refine tr_skip ?_
      refine q_k ?_
      refine tr_seq ?_
      refine tr_block ?_
      refine tr_seq ?_
      refine tr_reg hT [] [.s 1, .s 2, .s 3, .s 4, .s 5, .h 0, .h 1] [sO 1 (.ptr 0 0), sO 2 (.ptr 1 0), sI 3 .u64 c2, sI 4 .i64 x3, sI 5 .i64 x3, hB 0 71 [.arr .u64 5 m1], hB 1 71 [.arr .u64 5 (List.replicate 5 0)]] [] (by kernel_rfl) trivial ?_
      refine q_k ?_
      refine tr_seq ?_
      obtain ⟨hn5, h⟩ := ite_some h
      obtain ⟨hn6, h⟩ := ite_some h
      refine tr_reg hT [] [.s 1, .s 2, .s 4, .s 5, .h 0, .h 1] [sO 1 (.ptr 0 0), sO 2 (.ptr 1 0), sI 4 .i64 x3, sI 5 .i64 x3, hB 0 71 [.arr .u64 5 (m1.set x3.toNat (IntKind.u64.wrap ((m1.getD x3.toNat 0) + c2)))], hB 1 71 [.arr .u64 5 (List.replicate 5 0)]] [0 ≤ x3 ∧ x3 < ((5 : Nat) : Int), 0 ≤ x3 ∧ x3 < ((5 : Nat) : Int)] (by kernel_rfl) (hcons hn5 (hone hn6)) ?_
      refine q_k ?_
      refine tr_seq ?_
      obtain ⟨hn7, h⟩ := ite_some h
      refine tr_reg hT [] [.s 1, .s 2, .s 3, .s 4, .s 5, .h 0, .h 1] [sO 1 (.ptr 0 0), sO 2 (.ptr 1 0), sI 3 .u64 (shr .u64 ((m1.set x3.toNat (IntKind.u64.wrap ((m1.getD x3.toNat 0) + c2))).getD x3.toNat 0) (51 : Int)), sI 4 .i64 x3, sI 5 .i64 x3, hB 0 71 [.arr .u64 5 (m1.set x3.toNat (IntKind.u64.wrap ((m1.getD x3.toNat 0) + c2)))], hB 1 71 [.arr .u64 5 (List.replicate 5 0)]] [0 ≤ x3 ∧ x3 < ((5 : Nat) : Int), 0 ≤ (51 : Int)] (by kernel_rfl) (hcons hn7 (hone (by decide))) ?_
      refine q_k ?_
      obtain ⟨hn8, h⟩ := ite_some h
      obtain ⟨hn9, h⟩ := ite_some h
      refine tr_reg hT [] [.s 1, .s 2, .s 3, .s 5, .h 0, .h 1] [sO 1 (.ptr 0 0), sO 2 (.ptr 1 0), sI 3 .u64 (shr .u64 ((m1.set x3.toNat (IntKind.u64.wrap ((m1.getD x3.toNat 0) + c2))).getD x3.toNat 0) (51 : Int)), sI 5 .i64 x3, hB 0 71 [.arr .u64 5 ((m1.set x3.toNat (IntKind.u64.wrap ((m1.getD x3.toNat 0) + c2))).set x3.toNat (band .u64 ((m1.set x3.toNat (IntKind.u64.wrap ((m1.getD x3.toNat 0) + c2))).getD x3.toNat 0) (2251799813685247 : Int)))], hB 1 71 [.arr .u64 5 (List.replicate 5 0)]] [0 ≤ x3 ∧ x3 < ((5 : Nat) : Int), 0 ≤ x3 ∧ x3 < ((5 : Nat) : Int)] (by kernel_rfl) (hcons hn8 (hone hn9)) ?_
      refine q_b 1 ?_
      refine q_k ?_
      refine tr_reg hT [] [.s 1, .s 2, .s 3, .s 5, .h 0, .h 1] [sO 1 (.ptr 0 0), sO 2 (.ptr 1 0), sI 3 .u64 (shr .u64 ((m1.set x3.toNat (IntKind.u64.wrap ((m1.getD x3.toNat 0) + c2))).getD x3.toNat 0) (51 : Int)), sI 5 .i64 (IntKind.i64.wrap (x3 + (1 : Int))), hB 0 71 [.arr .u64 5 ((m1.set x3.toNat (IntKind.u64.wrap ((m1.getD x3.toNat 0) + c2))).set x3.toNat (band .u64 ((m1.set x3.toNat (IntKind.u64.wrap ((m1.getD x3.toNat 0) + c2))).getD x3.toNat 0) (2251799813685247 : Int)))], hB 1 71 [.arr .u64 5 (List.replicate 5 0)]] [] (by kernel_rfl) trivial ?_
      refine q_kr ?_
      exact trR_less [.s 1, .s 2, .s 3, .s 5, .h 0, .h 1] [sO 1 (.ptr 0 0), sO 2 (.ptr 1 0), sI 3 .u64 (shr .u64 ((m1.set x3.toNat (IntKind.u64.wrap ((m1.getD x3.toNat 0) + c2))).getD x3.toNat 0) (51 : Int)), sI 5 .i64 (IntKind.i64.wrap (x3 + (1 : Int))), hB 0 71 [.arr .u64 5 ((m1.set x3.toNat (IntKind.u64.wrap ((m1.getD x3.toNat 0) + c2))).set x3.toNat (band .u64 ((m1.set x3.toNat (IntKind.u64.wrap ((m1.getD x3.toNat 0) + c2))).getD x3.toNat 0) (2251799813685247 : Int)))], hB 1 71 [.arr .u64 5 (List.replicate 5 0)]] (by kernel_rfl) (ih0 (((m1.set x3.toNat (IntKind.u64.wrap ((m1.getD x3.toNat 0) + c2))).set x3.toNat (band .u64 ((m1.set x3.toNat (IntKind.u64.wrap ((m1.getD x3.toNat 0) + c2))).getD x3.toNat 0) (2251799813685247 : Int))), (shr .u64 ((m1.set x3.toNat (IntKind.u64.wrap ((m1.getD x3.toNat 0) + c2))).getD x3.toNat 0) (51 : Int)), (IntKind.i64.wrap (x3 + (1 : Int)))) h)
    · refine tr_cond_f (decide (x3 < (5 : Int))) (by kernel_rfl) hc4 ?_
      refine tr_exit ?_
      refine q_k_exit ?_
      refine q_kr_exit ?_
      have h := Option.some.inj h
      subst h
      exact q_less [.s 1, .s 2, .s 3, .h 0, .h 1] [sO 1 (.ptr 0 0), sO 2 (.ptr 1 0), sI 3 .u64 c2, hB 0 71 [.arr .u64 5 m1], hB 1 71 [.arr .u64 5 (List.replicate 5 0)]] (by kernel_rfl) hx0

end Go.Proofs.Sb
