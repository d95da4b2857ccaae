/- Walks, printed by a program of this session (gowalk.py): each Go function comes to its plain function's answer. -/
import Derived.Test.YtdcdanfeepncmaaSbA
import Derived.Test.YtdcdanfeepncmaaSbD
import Derived.Test.YtdcdanfeepncmaaSbI
namespace Go.Proofs.Sb
open Go Go.Gw D
set_option linter.unusedVariables false
set_option maxRecDepth 20000

theorem law04_Num_ok (n_0 : Int) (r : List Int) (h : law04_Num n_0 = some r) {pre : List (Nat × Ent)} : CallOk P 26 [.v (.one (.int .i64 n_0))] pre (.v (.agg [.arr .u8 32 r])) [] := by
  refine call0 (N := 18) Try.func26 (by kernel_rfl) rfl rfl rfl pre ?_
  intro _ w
  show Tr P (Ge w) 18 _ _ _ (RetQ P Try.f26 (R0 _ w))
  unfold law04_Num at h
  refine tr_seq ?_
  refine tr_reg hT [(0, .key 0)] [.s 0, .s 2, .h 0] [sI 0 .i64 n_0, sO 2 (.ptr 0 0), hB 0 22 [.arr .u8 32 (List.replicate 32 0)]] [] (by kernel_rfl) trivial ?_
  refine q_k ?_
  refine tr_seq ?_
  refine tr_reg hT [(0, .key 1)] [.s 0, .s 2, .s 3, .h 0, .h 1] [sI 0 .i64 n_0, sO 2 (.ptr 0 0), sO 3 (.ptr 1 0), hB 0 22 [.arr .u8 32 (List.replicate 32 0)], hB 1 22 [.arr .u8 32 (List.replicate 32 0)]] [] (by kernel_rfl) trivial ?_
  refine q_k ?_
  refine tr_seq ?_
  refine tr_seq ?_
  refine tr_reg hT [] [.s 0, .s 2, .s 3, .s 4, .h 0, .h 1] [sI 0 .i64 n_0, sO 2 (.ptr 0 0), sO 3 (.ptr 1 0), sI 4 .i64 (0 : Int), hB 0 22 [.arr .u8 32 (List.replicate 32 0)], hB 1 22 [.arr .u8 32 (List.replicate 32 0)]] [] (by kernel_rfl) trivial ?_
  refine q_k ?_
  refine tr_block ?_
  obtain ⟨m3, e7, h⟩ := bind_some h
  refine tr_fit [] [sI 0 .i64 n_0, sO 2 (.ptr 0 0), sO 3 (.ptr 1 0), sI 4 .i64 (0 : Int), hB 0 22 [.arr .u8 32 (List.replicate 32 0)], hB 1 22 [.arr .u8 32 (List.replicate 32 0)]] [(0, .blk 22 [.arr .u8 32 (List.replicate 32 0)]), (1, .blk 22 [.arr .u8 32 (List.replicate 32 0)])] (by kernel_rfl) (by kernel_rfl) (by kernel_rfl) rfl ⟨.blk (by kernel_rfl) (by kernel_rfl), .blk (by kernel_rfl) (by kernel_rfl), trivial⟩ (by kernel_rfl) ?_
  refine tr_loop_fuel (id := 0) (α := List Int × Int) (β := List Int) (fun z => [sI 0 .i64 n_0, sO 2 (.ptr 0 0), sO 3 (.ptr 1 0), sI 4 .i64 z.2, hB 0 22 [.arr .u8 32 (List.replicate 32 0)], hB 1 22 [.arr .u8 32 z.1]]) (fun z => [sO 2 (.ptr 0 0), sO 3 (.ptr 1 0), hB 0 22 [.arr .u8 32 (List.replicate 32 0)], hB 1 22 [.arr .u8 32 z]]) (fun k z => law04_Num_l0 n_0 k z.1 z.2) m3 (fun _ => rfl) (((8 : Int) - (0 : Int)).toNat + 1) ((List.replicate 32 0), (0 : Int)) e7 ?_ ?_
  · skip
    replace h : (some m3) = _ := h
    refine q_b_this ?_
    refine q_k ?_
    refine tr_seq ?_
    refine tr_reg hT [] [.s 2, .h 0] [sO 2 (.ptr 0 0), hB 0 22 [.arr .u8 32 m3]] [] (by kernel_rfl) trivial ?_
    refine q_k ?_
    refine tr_ret ?_
    have h := Option.some.inj h
    subst h
    exact q_ret0 hT (.v (.agg [.arr .u8 32 m3])) rfl (by kernel_rfl)
  · clear h e7
    intro k ih0 hx0 z h
    obtain ⟨m1, i2⟩ := z
    replace h : (if (decide (i2 < (8 : Int))) = true then if 0 ≤ (IntKind.u64.wrap (IntKind.i64.wrap ((8 : Int) * i2))) then if 0 ≤ i2 ∧ i2 < ((32 : Nat) : Int) then law04_Num_l0 n_0 k (m1.set i2.toNat (IntKind.u8.wrap (shr .i64 n_0 (IntKind.u64.wrap (IntKind.i64.wrap ((8 : Int) * i2)))))) (IntKind.i64.wrap (i2 + (1 : Int))) else none else none else some m1) = _ := h
    refine tr_seq ?_
    refine tr_seq ?_
    refine tr_reg hT [] [.s 0, .s 2, .s 3, .s 4, .s 6, .h 0, .h 1] [sI 0 .i64 n_0, sO 2 (.ptr 0 0), sO 3 (.ptr 1 0), sI 4 .i64 i2, sB 6 (decide (i2 < (8 : Int))), hB 0 22 [.arr .u8 32 (List.replicate 32 0)], hB 1 22 [.arr .u8 32 m1]] [] (by kernel_rfl) trivial ?_
    refine q_k ?_
    rcases ite_split h with ⟨hc4, h⟩ | ⟨hc4, h⟩
    · refine tr_cond_t (decide (i2 < (8 : Int))) (by kernel_rfl) hc4 ?_
      refine tr_skip ?_
      refine q_k ?_
      refine tr_seq ?_
      refine tr_block ?_
      obtain ⟨hn5, h⟩ := ite_some h
      obtain ⟨hn6, h⟩ := ite_some h
      refine tr_reg hT [] [.s 0, .s 2, .s 3, .s 4, .h 0, .h 1] [sI 0 .i64 n_0, sO 2 (.ptr 0 0), sO 3 (.ptr 1 0), sI 4 .i64 i2, hB 0 22 [.arr .u8 32 (List.replicate 32 0)], hB 1 22 [.arr .u8 32 (m1.set i2.toNat (IntKind.u8.wrap (shr .i64 n_0 (IntKind.u64.wrap (IntKind.i64.wrap ((8 : Int) * i2))))))]] [0 ≤ (IntKind.u64.wrap (IntKind.i64.wrap ((8 : Int) * i2))), 0 ≤ i2 ∧ i2 < ((32 : Nat) : Int)] (by kernel_rfl) (hcons hn5 (hone hn6)) ?_
      refine q_b 1 ?_
      refine q_k ?_
      refine tr_reg hT [] [.s 0, .s 2, .s 3, .s 4, .h 0, .h 1] [sI 0 .i64 n_0, sO 2 (.ptr 0 0), sO 3 (.ptr 1 0), sI 4 .i64 (IntKind.i64.wrap (i2 + (1 : Int))), hB 0 22 [.arr .u8 32 (List.replicate 32 0)], hB 1 22 [.arr .u8 32 (m1.set i2.toNat (IntKind.u8.wrap (shr .i64 n_0 (IntKind.u64.wrap (IntKind.i64.wrap ((8 : Int) * i2))))))]] [] (by kernel_rfl) trivial ?_
      refine q_kr ?_
      exact trR_less [.s 0, .s 2, .s 3, .s 4, .h 0, .h 1] [sI 0 .i64 n_0, sO 2 (.ptr 0 0), sO 3 (.ptr 1 0), sI 4 .i64 (IntKind.i64.wrap (i2 + (1 : Int))), hB 0 22 [.arr .u8 32 (List.replicate 32 0)], hB 1 22 [.arr .u8 32 (m1.set i2.toNat (IntKind.u8.wrap (shr .i64 n_0 (IntKind.u64.wrap (IntKind.i64.wrap ((8 : Int) * i2))))))]] (by kernel_rfl) (ih0 ((m1.set i2.toNat (IntKind.u8.wrap (shr .i64 n_0 (IntKind.u64.wrap (IntKind.i64.wrap ((8 : Int) * i2)))))), (IntKind.i64.wrap (i2 + (1 : Int)))) h)
    · refine tr_cond_f (decide (i2 < (8 : Int))) (by kernel_rfl) hc4 ?_
      refine tr_exit ?_
      refine q_k_exit ?_
      refine q_kr_exit ?_
      have h := Option.some.inj h
      subst h
      exact q_less [.s 2, .s 3, .h 0, .h 1] [sO 2 (.ptr 0 0), sO 3 (.ptr 1 0), hB 0 22 [.arr .u8 32 (List.replicate 32 0)], hB 1 22 [.arr .u8 32 m1]] (by kernel_rfl) hx0

theorem scalar_of_ok (b_0 : List Int) (r : List Int) (h : scalar_of b_0 = some r) {pre : List (Nat × Ent)} : CallOk P 68 [.v (.agg [.arr .u8 32 b_0])] pre (.v (.agg [.arr .u64 4 r])) [] := by
  refine call0 (N := 24) Try.func68 (by kernel_rfl) rfl rfl rfl pre ?_
  intro _ w
  show Tr P (Ge w) 24 _ _ _ (RetQ P Try.f68 (R0 _ w))
  unfold scalar_of at h
  refine tr_seq ?_
  refine tr_reg hT [(0, .key 0), (1, .key 1)] [.s 1, .s 2, .h 0, .h 1] [sO 1 (.ptr 0 0), sO 2 (.ptr 1 0), hB 0 22 [.arr .u8 32 b_0], hB 1 63 [.arr .u64 4 (List.replicate 4 0)]] [] (by kernel_rfl) trivial ?_
  refine q_k ?_
  refine tr_seq ?_
  refine tr_reg hT [(0, .key 2)] [.s 1, .s 2, .s 3, .h 0, .h 1, .h 2] [sO 1 (.ptr 0 0), sO 2 (.ptr 1 0), sO 3 (.ptr 2 0), hB 0 22 [.arr .u8 32 b_0], hB 1 63 [.arr .u64 4 (List.replicate 4 0)], hB 2 63 [.arr .u64 4 (List.replicate 4 0)]] [] (by kernel_rfl) trivial ?_
  refine q_k ?_
  refine tr_seq ?_
  refine tr_seq ?_
  refine tr_reg hT [] [.s 1, .s 2, .s 3, .s 5, .h 0, .h 1, .h 2] [sO 1 (.ptr 0 0), sO 2 (.ptr 1 0), sO 3 (.ptr 2 0), sI 5 .i64 (0 : Int), hB 0 22 [.arr .u8 32 b_0], hB 1 63 [.arr .u64 4 (List.replicate 4 0)], hB 2 63 [.arr .u64 4 (List.replicate 4 0)]] [] (by kernel_rfl) trivial ?_
  refine q_k ?_
  refine tr_block ?_
  obtain ⟨m3, e9, h⟩ := bind_some h
  refine tr_fit [] [sO 1 (.ptr 0 0), sO 2 (.ptr 1 0), sO 3 (.ptr 2 0), sI 5 .i64 (0 : Int), hB 0 22 [.arr .u8 32 b_0], hB 1 63 [.arr .u64 4 (List.replicate 4 0)], hB 2 63 [.arr .u64 4 (List.replicate 4 0)]] [(0, .blk 22 [.arr .u8 32 b_0]), (1, .blk 63 [.arr .u64 4 (List.replicate 4 0)]), (2, .blk 63 [.arr .u64 4 (List.replicate 4 0)])] (by kernel_rfl) (by kernel_rfl) (by kernel_rfl) rfl ⟨.blk (by kernel_rfl) (by kernel_rfl), .blk (by kernel_rfl) (by kernel_rfl), .blk (by kernel_rfl) (by kernel_rfl), trivial⟩ (by kernel_rfl) ?_
  refine tr_loop_fuel (id := 0) (α := List Int × Int) (β := List Int) (fun z => [sO 1 (.ptr 0 0), sO 2 (.ptr 1 0), sO 3 (.ptr 2 0), sI 5 .i64 z.2, hB 0 22 [.arr .u8 32 b_0], hB 1 63 [.arr .u64 4 (List.replicate 4 0)], hB 2 63 [.arr .u64 4 z.1]]) (fun z => [sO 2 (.ptr 1 0), sO 3 (.ptr 2 0), hB 1 63 [.arr .u64 4 (List.replicate 4 0)], hB 2 63 [.arr .u64 4 z]]) (fun k z => scalar_of_l0 b_0 k z.1 z.2) m3 (fun _ => rfl) (((32 : Int) - (0 : Int)).toNat + 1) ((List.replicate 4 0), (0 : Int)) e9 ?_ ?_
  · skip
    replace h : (some m3) = _ := h
    refine q_b_this ?_
    refine q_k ?_
    refine tr_seq ?_
    refine tr_reg hT [] [.s 2, .h 1] [sO 2 (.ptr 1 0), hB 1 63 [.arr .u64 4 m3]] [] (by kernel_rfl) trivial ?_
    refine q_k ?_
    refine tr_ret ?_
    have h := Option.some.inj h
    subst h
    exact q_ret0 hT (.v (.agg [.arr .u64 4 m3])) rfl (by kernel_rfl)
  · clear h e9
    intro k ih0 hx0 z h
    obtain ⟨m1, x2⟩ := z
    replace h : (if (decide (x2 < (32 : Int))) = true then if 0 ≤ (IntKind.i64.wrap (x2.tdiv (8 : Int))) ∧ (IntKind.i64.wrap (x2.tdiv (8 : Int))) < ((4 : Nat) : Int) then if 0 ≤ x2 ∧ x2 < ((32 : Nat) : Int) then if 0 ≤ (IntKind.i64.wrap ((8 : Int) * (x2.tmod (8 : Int)))) then if 0 ≤ (IntKind.i64.wrap (x2.tdiv (8 : Int))) ∧ (IntKind.i64.wrap (x2.tdiv (8 : Int))) < ((4 : Nat) : Int) then scalar_of_l0 b_0 k (m1.set (IntKind.i64.wrap (x2.tdiv (8 : Int))).toNat (bor .u64 (m1.getD (IntKind.i64.wrap (x2.tdiv (8 : Int))).toNat 0) (shl .u64 (IntKind.u64.wrap (b_0.getD x2.toNat 0)) (IntKind.i64.wrap ((8 : Int) * (x2.tmod (8 : Int))))))) (IntKind.i64.wrap (x2 + (1 : Int))) else none else none else none else none else some m1) = _ := h
    refine tr_seq ?_
    refine tr_reg hT [] [.s 1, .s 2, .s 3, .s 5, .s 6, .h 0, .h 1, .h 2] [sO 1 (.ptr 0 0), sO 2 (.ptr 1 0), sO 3 (.ptr 2 0), sI 5 .i64 x2, sB 6 (decide (x2 < (32 : Int))), hB 0 22 [.arr .u8 32 b_0], hB 1 63 [.arr .u64 4 (List.replicate 4 0)], hB 2 63 [.arr .u64 4 m1]] [] (by kernel_rfl) trivial ?_
    refine q_k ?_
    refine tr_seq ?_
    rcases ite_split h with ⟨hc4, h⟩ | ⟨hc4, h⟩
    · refine tr_cond_t (decide (x2 < (32 : Int))) (by kernel_rfl) hc4 ?_
      refine tr_skip ?_
      refine q_k ?_
      refine tr_seq ?_
      refine tr_block ?_
      refine tr_seq ?_
      refine tr_reg hT [] [.s 1, .s 2, .s 3, .s 4, .s 5, .h 0, .h 1, .h 2] [sO 1 (.ptr 0 0), sO 2 (.ptr 1 0), sO 3 (.ptr 2 0), sI 4 .i64 x2, sI 5 .i64 x2, hB 0 22 [.arr .u8 32 b_0], hB 1 63 [.arr .u64 4 (List.replicate 4 0)], hB 2 63 [.arr .u64 4 m1]] [] (by kernel_rfl) trivial ?_
      refine q_k ?_
      obtain ⟨hn5, h⟩ := ite_some h
      obtain ⟨hn6, h⟩ := ite_some h
      obtain ⟨hn7, h⟩ := ite_some h
      obtain ⟨hn8, h⟩ := ite_some h
      refine tr_regd hT hM [] [.s 1, .s 2, .s 3, .s 5, .h 0, .h 1, .h 2] [sO 1 (.ptr 0 0), sO 2 (.ptr 1 0), sO 3 (.ptr 2 0), sI 5 .i64 x2, hB 0 22 [.arr .u8 32 b_0], hB 1 63 [.arr .u64 4 (List.replicate 4 0)], hB 2 63 [.arr .u64 4 (m1.set (IntKind.i64.wrap (x2.tdiv (8 : Int))).toNat (bor .u64 (m1.getD (IntKind.i64.wrap (x2.tdiv (8 : Int))).toNat 0) (shl .u64 (IntKind.u64.wrap (b_0.getD x2.toNat 0)) (IntKind.i64.wrap ((8 : Int) * (x2.tmod (8 : Int)))))))]] [(8 : Int) ≠ 0, 0 ≤ (IntKind.i64.wrap (x2.tdiv (8 : Int))) ∧ (IntKind.i64.wrap (x2.tdiv (8 : Int))) < ((4 : Nat) : Int), 0 ≤ x2 ∧ x2 < ((32 : Nat) : Int), (8 : Int) ≠ 0, 0 ≤ (IntKind.i64.wrap ((8 : Int) * (x2.tmod (8 : Int)))), 0 ≤ (IntKind.i64.wrap (x2.tdiv (8 : Int))) ∧ (IntKind.i64.wrap (x2.tdiv (8 : Int))) < ((4 : Nat) : Int)] (by kernel_rfl) (hcons (by decide) (hcons hn5 (hcons hn6 (hcons (by decide) (hcons hn7 (hone hn8)))))) ?_
      refine q_b 1 ?_
      refine q_k ?_
      refine tr_reg hT [] [.s 1, .s 2, .s 3, .s 5, .h 0, .h 1, .h 2] [sO 1 (.ptr 0 0), sO 2 (.ptr 1 0), sO 3 (.ptr 2 0), sI 5 .i64 (IntKind.i64.wrap (x2 + (1 : Int))), hB 0 22 [.arr .u8 32 b_0], hB 1 63 [.arr .u64 4 (List.replicate 4 0)], hB 2 63 [.arr .u64 4 (m1.set (IntKind.i64.wrap (x2.tdiv (8 : Int))).toNat (bor .u64 (m1.getD (IntKind.i64.wrap (x2.tdiv (8 : Int))).toNat 0) (shl .u64 (IntKind.u64.wrap (b_0.getD x2.toNat 0)) (IntKind.i64.wrap ((8 : Int) * (x2.tmod (8 : Int)))))))]] [] (by kernel_rfl) trivial ?_
      refine q_kr ?_
      exact trR_less [.s 1, .s 2, .s 3, .s 5, .h 0, .h 1, .h 2] [sO 1 (.ptr 0 0), sO 2 (.ptr 1 0), sO 3 (.ptr 2 0), sI 5 .i64 (IntKind.i64.wrap (x2 + (1 : Int))), hB 0 22 [.arr .u8 32 b_0], hB 1 63 [.arr .u64 4 (List.replicate 4 0)], hB 2 63 [.arr .u64 4 (m1.set (IntKind.i64.wrap (x2.tdiv (8 : Int))).toNat (bor .u64 (m1.getD (IntKind.i64.wrap (x2.tdiv (8 : Int))).toNat 0) (shl .u64 (IntKind.u64.wrap (b_0.getD x2.toNat 0)) (IntKind.i64.wrap ((8 : Int) * (x2.tmod (8 : Int)))))))]] (by kernel_rfl) (ih0 ((m1.set (IntKind.i64.wrap (x2.tdiv (8 : Int))).toNat (bor .u64 (m1.getD (IntKind.i64.wrap (x2.tdiv (8 : Int))).toNat 0) (shl .u64 (IntKind.u64.wrap (b_0.getD x2.toNat 0)) (IntKind.i64.wrap ((8 : Int) * (x2.tmod (8 : Int))))))), (IntKind.i64.wrap (x2 + (1 : Int)))) h)
    · refine tr_cond_f (decide (x2 < (32 : Int))) (by kernel_rfl) hc4 ?_
      refine tr_exit ?_
      refine q_k_exit ?_
      refine q_kr_exit ?_
      have h := Option.some.inj h
      subst h
      exact q_less [.s 2, .s 3, .h 1, .h 2] [sO 2 (.ptr 1 0), sO 3 (.ptr 2 0), hB 1 63 [.arr .u64 4 (List.replicate 4 0)], hB 2 63 [.arr .u64 4 m1]] (by kernel_rfl) hx0

theorem math_bits_Mul64_ok (x_0 : Int) (y_1 : Int) (r : Int × Int) (h : math_bits_Mul64 x_0 y_1 = some r) {pre : List (Nat × Ent)} : CallOk P 100 [.v (.one (.int .u64 x_0)), .v (.one (.int .u64 y_1))] pre (.tup [.one (.int .u64 r.1), .one (.int .u64 r.2)]) [] := by
  refine call0 (N := 51) Try.func100 (by kernel_rfl) rfl rfl rfl pre ?_
  intro _ w
  show Tr P (Ge w) 51 _ _ _ (RetQ P Try.f100 (R0 _ w))
  unfold math_bits_Mul64 at h
  refine tr_seq ?_
  refine tr_reg hT [] [.s 0, .s 1] [sI 0 .u64 x_0, sI 1 .u64 y_1] [] (by kernel_rfl) trivial ?_
  refine q_k ?_
  refine tr_seq ?_
  refine tr_reg hT [] [.s 0, .s 1, .s 6] [sI 0 .u64 x_0, sI 1 .u64 y_1, sI 6 .u64 (band .u64 x_0 (4294967295 : Int))] [] (by kernel_rfl) trivial ?_
  refine q_k ?_
  refine tr_seq ?_
  refine tr_reg hT [] [.s 0, .s 1, .s 6, .s 7] [sI 0 .u64 x_0, sI 1 .u64 y_1, sI 6 .u64 (band .u64 x_0 (4294967295 : Int)), sI 7 .u64 (shr .u64 x_0 (32 : Int))] [0 ≤ (32 : Int)] (by kernel_rfl) (hone (by decide)) ?_
  refine q_k ?_
  refine tr_seq ?_
  refine tr_reg hT [] [.s 0, .s 1, .s 6, .s 7, .s 8] [sI 0 .u64 x_0, sI 1 .u64 y_1, sI 6 .u64 (band .u64 x_0 (4294967295 : Int)), sI 7 .u64 (shr .u64 x_0 (32 : Int)), sI 8 .u64 (band .u64 y_1 (4294967295 : Int))] [] (by kernel_rfl) trivial ?_
  refine q_k ?_
  refine tr_seq ?_
  refine tr_reg hT [] [.s 0, .s 1, .s 6, .s 7, .s 8, .s 9] [sI 0 .u64 x_0, sI 1 .u64 y_1, sI 6 .u64 (band .u64 x_0 (4294967295 : Int)), sI 7 .u64 (shr .u64 x_0 (32 : Int)), sI 8 .u64 (band .u64 y_1 (4294967295 : Int)), sI 9 .u64 (shr .u64 y_1 (32 : Int))] [0 ≤ (32 : Int)] (by kernel_rfl) (hone (by decide)) ?_
  refine q_k ?_
  refine tr_seq ?_
  refine tr_reg hT [] [.s 0, .s 1, .s 6, .s 7, .s 8, .s 9, .s 10] [sI 0 .u64 x_0, sI 1 .u64 y_1, sI 6 .u64 (band .u64 x_0 (4294967295 : Int)), sI 7 .u64 (shr .u64 x_0 (32 : Int)), sI 8 .u64 (band .u64 y_1 (4294967295 : Int)), sI 9 .u64 (shr .u64 y_1 (32 : Int)), sI 10 .u64 (IntKind.u64.wrap ((band .u64 x_0 (4294967295 : Int)) * (band .u64 y_1 (4294967295 : Int))))] [] (by kernel_rfl) trivial ?_
  refine q_k ?_
  refine tr_seq ?_
  refine tr_reg hT [] [.s 0, .s 1, .s 6, .s 7, .s 9, .s 11] [sI 0 .u64 x_0, sI 1 .u64 y_1, sI 6 .u64 (band .u64 x_0 (4294967295 : Int)), sI 7 .u64 (shr .u64 x_0 (32 : Int)), sI 9 .u64 (shr .u64 y_1 (32 : Int)), sI 11 .u64 (IntKind.u64.wrap ((IntKind.u64.wrap ((shr .u64 x_0 (32 : Int)) * (band .u64 y_1 (4294967295 : Int)))) + (shr .u64 (IntKind.u64.wrap ((band .u64 x_0 (4294967295 : Int)) * (band .u64 y_1 (4294967295 : Int)))) (32 : Int))))] [0 ≤ (32 : Int)] (by kernel_rfl) (hone (by decide)) ?_
  refine q_k ?_
  refine tr_seq ?_
  refine tr_reg hT [] [.s 0, .s 1, .s 6, .s 7, .s 9, .s 11, .s 12] [sI 0 .u64 x_0, sI 1 .u64 y_1, sI 6 .u64 (band .u64 x_0 (4294967295 : Int)), sI 7 .u64 (shr .u64 x_0 (32 : Int)), sI 9 .u64 (shr .u64 y_1 (32 : Int)), sI 11 .u64 (IntKind.u64.wrap ((IntKind.u64.wrap ((shr .u64 x_0 (32 : Int)) * (band .u64 y_1 (4294967295 : Int)))) + (shr .u64 (IntKind.u64.wrap ((band .u64 x_0 (4294967295 : Int)) * (band .u64 y_1 (4294967295 : Int)))) (32 : Int)))), sI 12 .u64 (band .u64 (IntKind.u64.wrap ((IntKind.u64.wrap ((shr .u64 x_0 (32 : Int)) * (band .u64 y_1 (4294967295 : Int)))) + (shr .u64 (IntKind.u64.wrap ((band .u64 x_0 (4294967295 : Int)) * (band .u64 y_1 (4294967295 : Int)))) (32 : Int)))) (4294967295 : Int))] [] (by kernel_rfl) trivial ?_
  refine q_k ?_
  refine tr_seq ?_
  refine tr_reg hT [] [.s 0, .s 1, .s 6, .s 7, .s 9, .s 12, .s 13] [sI 0 .u64 x_0, sI 1 .u64 y_1, sI 6 .u64 (band .u64 x_0 (4294967295 : Int)), sI 7 .u64 (shr .u64 x_0 (32 : Int)), sI 9 .u64 (shr .u64 y_1 (32 : Int)), sI 12 .u64 (band .u64 (IntKind.u64.wrap ((IntKind.u64.wrap ((shr .u64 x_0 (32 : Int)) * (band .u64 y_1 (4294967295 : Int)))) + (shr .u64 (IntKind.u64.wrap ((band .u64 x_0 (4294967295 : Int)) * (band .u64 y_1 (4294967295 : Int)))) (32 : Int)))) (4294967295 : Int)), sI 13 .u64 (shr .u64 (IntKind.u64.wrap ((IntKind.u64.wrap ((shr .u64 x_0 (32 : Int)) * (band .u64 y_1 (4294967295 : Int)))) + (shr .u64 (IntKind.u64.wrap ((band .u64 x_0 (4294967295 : Int)) * (band .u64 y_1 (4294967295 : Int)))) (32 : Int)))) (32 : Int))] [0 ≤ (32 : Int)] (by kernel_rfl) (hone (by decide)) ?_
  refine q_k ?_
  refine tr_seq ?_
  refine tr_reg hT [] [.s 0, .s 1, .s 7, .s 9, .s 12, .s 13] [sI 0 .u64 x_0, sI 1 .u64 y_1, sI 7 .u64 (shr .u64 x_0 (32 : Int)), sI 9 .u64 (shr .u64 y_1 (32 : Int)), sI 12 .u64 (IntKind.u64.wrap ((band .u64 (IntKind.u64.wrap ((IntKind.u64.wrap ((shr .u64 x_0 (32 : Int)) * (band .u64 y_1 (4294967295 : Int)))) + (shr .u64 (IntKind.u64.wrap ((band .u64 x_0 (4294967295 : Int)) * (band .u64 y_1 (4294967295 : Int)))) (32 : Int)))) (4294967295 : Int)) + (IntKind.u64.wrap ((band .u64 x_0 (4294967295 : Int)) * (shr .u64 y_1 (32 : Int)))))), sI 13 .u64 (shr .u64 (IntKind.u64.wrap ((IntKind.u64.wrap ((shr .u64 x_0 (32 : Int)) * (band .u64 y_1 (4294967295 : Int)))) + (shr .u64 (IntKind.u64.wrap ((band .u64 x_0 (4294967295 : Int)) * (band .u64 y_1 (4294967295 : Int)))) (32 : Int)))) (32 : Int))] [] (by kernel_rfl) trivial ?_
  refine q_k ?_
  refine tr_seq ?_
  refine tr_reg hT [] [.s 0, .s 1, .s 4] [sI 0 .u64 x_0, sI 1 .u64 y_1, sI 4 .u64 (IntKind.u64.wrap ((IntKind.u64.wrap ((IntKind.u64.wrap ((shr .u64 x_0 (32 : Int)) * (shr .u64 y_1 (32 : Int)))) + (shr .u64 (IntKind.u64.wrap ((IntKind.u64.wrap ((shr .u64 x_0 (32 : Int)) * (band .u64 y_1 (4294967295 : Int)))) + (shr .u64 (IntKind.u64.wrap ((band .u64 x_0 (4294967295 : Int)) * (band .u64 y_1 (4294967295 : Int)))) (32 : Int)))) (32 : Int)))) + (shr .u64 (IntKind.u64.wrap ((band .u64 (IntKind.u64.wrap ((IntKind.u64.wrap ((shr .u64 x_0 (32 : Int)) * (band .u64 y_1 (4294967295 : Int)))) + (shr .u64 (IntKind.u64.wrap ((band .u64 x_0 (4294967295 : Int)) * (band .u64 y_1 (4294967295 : Int)))) (32 : Int)))) (4294967295 : Int)) + (IntKind.u64.wrap ((band .u64 x_0 (4294967295 : Int)) * (shr .u64 y_1 (32 : Int)))))) (32 : Int))))] [0 ≤ (32 : Int)] (by kernel_rfl) (hone (by decide)) ?_
  refine q_k ?_
  refine tr_seq ?_
  refine tr_reg hT [] [.s 4, .s 5] [sI 4 .u64 (IntKind.u64.wrap ((IntKind.u64.wrap ((IntKind.u64.wrap ((shr .u64 x_0 (32 : Int)) * (shr .u64 y_1 (32 : Int)))) + (shr .u64 (IntKind.u64.wrap ((IntKind.u64.wrap ((shr .u64 x_0 (32 : Int)) * (band .u64 y_1 (4294967295 : Int)))) + (shr .u64 (IntKind.u64.wrap ((band .u64 x_0 (4294967295 : Int)) * (band .u64 y_1 (4294967295 : Int)))) (32 : Int)))) (32 : Int)))) + (shr .u64 (IntKind.u64.wrap ((band .u64 (IntKind.u64.wrap ((IntKind.u64.wrap ((shr .u64 x_0 (32 : Int)) * (band .u64 y_1 (4294967295 : Int)))) + (shr .u64 (IntKind.u64.wrap ((band .u64 x_0 (4294967295 : Int)) * (band .u64 y_1 (4294967295 : Int)))) (32 : Int)))) (4294967295 : Int)) + (IntKind.u64.wrap ((band .u64 x_0 (4294967295 : Int)) * (shr .u64 y_1 (32 : Int)))))) (32 : Int)))), sI 5 .u64 (IntKind.u64.wrap (x_0 * y_1))] [] (by kernel_rfl) trivial ?_
  refine q_k ?_
  refine tr_ret ?_
  have h := Option.some.inj h
  subst h
  exact q_ret0 hT (.tup [.one (.int .u64 (IntKind.u64.wrap ((IntKind.u64.wrap ((IntKind.u64.wrap ((shr .u64 x_0 (32 : Int)) * (shr .u64 y_1 (32 : Int)))) + (shr .u64 (IntKind.u64.wrap ((IntKind.u64.wrap ((shr .u64 x_0 (32 : Int)) * (band .u64 y_1 (4294967295 : Int)))) + (shr .u64 (IntKind.u64.wrap ((band .u64 x_0 (4294967295 : Int)) * (band .u64 y_1 (4294967295 : Int)))) (32 : Int)))) (32 : Int)))) + (shr .u64 (IntKind.u64.wrap ((band .u64 (IntKind.u64.wrap ((IntKind.u64.wrap ((shr .u64 x_0 (32 : Int)) * (band .u64 y_1 (4294967295 : Int)))) + (shr .u64 (IntKind.u64.wrap ((band .u64 x_0 (4294967295 : Int)) * (band .u64 y_1 (4294967295 : Int)))) (32 : Int)))) (4294967295 : Int)) + (IntKind.u64.wrap ((band .u64 x_0 (4294967295 : Int)) * (shr .u64 y_1 (32 : Int)))))) (32 : Int))))), .one (.int .u64 (IntKind.u64.wrap (x_0 * y_1)))]) rfl (by kernel_rfl)

theorem scalar_product_ok (a_0 : List Int) (b_1 : List Int) (c_2 : List Int) (r : List Int) (h : scalar_product a_0 b_1 c_2 = some r) : CallOk P 67 [.v (.agg [.arr .u64 4 a_0]), .v (.agg [.arr .u64 4 b_1]), .v (.agg [.arr .u64 4 c_2])] [] (.v (.one (.slc 8900))) [(8900, .own 5 .u8 r)] := by
  refine call1 (N := 112) Try.func67 (by kernel_rfl) rfl rfl rfl [] (by kernel_rfl) ?_
  intro _ B w0
  show Tr P B 112 w0 _ _ (RetQ P Try.f67 (R1 _ _ B w0))
  unfold scalar_product at h
  refine tr_seq ?_
  refine tr_reg hT [(0, .key 0), (1, .key 1), (2, .key 2)] [.s 3, .s 4, .s 5, .h 0, .h 1, .h 2] [sO 3 (.ptr 0 0), sO 4 (.ptr 1 0), sO 5 (.ptr 2 0), hB 0 63 [.arr .u64 4 a_0], hB 1 63 [.arr .u64 4 b_1], hB 2 63 [.arr .u64 4 c_2]] [] (by kernel_rfl) trivial ?_
  refine q_k ?_
  refine tr_seq ?_
  refine tr_reg hT [(0, .key 3)] [.s 3, .s 4, .s 5, .s 7, .h 0, .h 1, .h 2, .h 3] [sO 3 (.ptr 0 0), sO 4 (.ptr 1 0), sO 5 (.ptr 2 0), sO 7 (.ptr 3 0), hB 0 63 [.arr .u64 4 a_0], hB 1 63 [.arr .u64 4 b_1], hB 2 63 [.arr .u64 4 c_2], hB 3 98 [.arr .u64 9 (List.replicate 9 0)]] [] (by kernel_rfl) trivial ?_
  refine q_k ?_
  refine tr_seq ?_
  refine tr_seq ?_
  refine tr_reg hT [] [.s 3, .s 4, .s 5, .s 7, .s 20, .h 0, .h 1, .h 2, .h 3] [sO 3 (.ptr 0 0), sO 4 (.ptr 1 0), sO 5 (.ptr 2 0), sO 7 (.ptr 3 0), sI 20 .i64 (0 : Int), hB 0 63 [.arr .u64 4 a_0], hB 1 63 [.arr .u64 4 b_1], hB 2 63 [.arr .u64 4 c_2], hB 3 98 [.arr .u64 9 (List.replicate 9 0)]] [] (by kernel_rfl) trivial ?_
  refine q_k ?_
  refine tr_block ?_
  obtain ⟨m3, e31, h⟩ := bind_some h
  refine tr_fit [] [sO 3 (.ptr 0 0), sO 4 (.ptr 1 0), sO 5 (.ptr 2 0), sO 7 (.ptr 3 0), sI 20 .i64 (0 : Int), hB 0 63 [.arr .u64 4 a_0], hB 1 63 [.arr .u64 4 b_1], hB 2 63 [.arr .u64 4 c_2], hB 3 98 [.arr .u64 9 (List.replicate 9 0)]] [(0, .blk 63 [.arr .u64 4 a_0]), (1, .blk 63 [.arr .u64 4 b_1]), (2, .blk 63 [.arr .u64 4 c_2]), (3, .blk 98 [.arr .u64 9 (List.replicate 9 0)])] (by kernel_rfl) (by kernel_rfl) (by kernel_rfl) rfl ⟨.blk (by kernel_rfl) (by kernel_rfl), .blk (by kernel_rfl) (by kernel_rfl), .blk (by kernel_rfl) (by kernel_rfl), .blk (by kernel_rfl) (by kernel_rfl), trivial⟩ (by kernel_rfl) ?_
  refine tr_loop_fuel (id := 0) (α := List Int × Int) (β := List Int) (fun z => [sO 3 (.ptr 0 0), sO 4 (.ptr 1 0), sO 5 (.ptr 2 0), sO 7 (.ptr 3 0), sI 20 .i64 z.2, hB 0 63 [.arr .u64 4 a_0], hB 1 63 [.arr .u64 4 b_1], hB 2 63 [.arr .u64 4 c_2], hB 3 98 [.arr .u64 9 z.1]]) (fun z => [sO 5 (.ptr 2 0), sO 7 (.ptr 3 0), hB 2 63 [.arr .u64 4 c_2], hB 3 98 [.arr .u64 9 z]]) (fun k z => scalar_product_l0 a_0 b_1 c_2 k z.1 z.2) m3 (fun _ => rfl) (((4 : Int) - (0 : Int)).toNat + 1) ((List.replicate 9 0), (0 : Int)) e31 ?_ ?_
  · skip
    replace h : ((scalar_product_l2 c_2 (((9 : Int) - (0 : Int)).toNat + 1) m3 (0 : Int) (0 : Int)).bind (fun m35 => (scalar_product_l4 m35 (((72 : Int) - (0 : Int)).toNat + 1) [] (0 : Int)).bind (fun text50 => some text50))) = _ := h
    refine q_b_this ?_
    refine q_k ?_
    refine tr_seq ?_
    refine tr_reg hT [] [.s 5, .s 7, .s 15, .h 2, .h 3] [sO 5 (.ptr 2 0), sO 7 (.ptr 3 0), sI 15 .u64 (0 : Int), hB 2 63 [.arr .u64 4 c_2], hB 3 98 [.arr .u64 9 m3]] [] (by kernel_rfl) trivial ?_
    refine q_k ?_
    refine tr_seq ?_
    refine tr_seq ?_
    refine tr_reg hT [] [.s 5, .s 7, .s 15, .s 75, .h 2, .h 3] [sO 5 (.ptr 2 0), sO 7 (.ptr 3 0), sI 15 .u64 (0 : Int), sI 75 .i64 (0 : Int), hB 2 63 [.arr .u64 4 c_2], hB 3 98 [.arr .u64 9 m3]] [] (by kernel_rfl) trivial ?_
    refine q_k ?_
    refine tr_block ?_
    obtain ⟨m35, e47, h⟩ := bind_some h
    refine tr_fit [] [sO 5 (.ptr 2 0), sO 7 (.ptr 3 0), sI 15 .u64 (0 : Int), sI 75 .i64 (0 : Int), hB 2 63 [.arr .u64 4 c_2], hB 3 98 [.arr .u64 9 m3]] [(2, .blk 63 [.arr .u64 4 c_2]), (3, .blk 98 [.arr .u64 9 m3])] (by kernel_rfl) (by kernel_rfl) (by kernel_rfl) rfl ⟨.blk (by kernel_rfl) (by kernel_rfl), .blk (by kernel_rfl) (by kernel_rfl), trivial⟩ (by kernel_rfl) ?_
    refine tr_loop_fuel (id := 4) (α := List Int × Int × Int) (β := List Int) (fun z => [sO 5 (.ptr 2 0), sO 7 (.ptr 3 0), sI 15 .u64 z.2.1, sI 75 .i64 z.2.2, hB 2 63 [.arr .u64 4 c_2], hB 3 98 [.arr .u64 9 z.1]]) (fun z => [sO 7 (.ptr 3 0), hB 3 98 [.arr .u64 9 z]]) (fun k z => scalar_product_l2 c_2 k z.1 z.2.1 z.2.2) m35 (fun _ => rfl) (((9 : Int) - (0 : Int)).toNat + 1) (m3, (0 : Int), (0 : Int)) e47 ?_ ?_
    · skip
      replace h : ((scalar_product_l4 m35 (((72 : Int) - (0 : Int)).toNat + 1) [] (0 : Int)).bind (fun text50 => some text50)) = _ := h
      refine q_b_this ?_
      refine q_k ?_
      refine tr_seq ?_
      refine tr_reg hT [] [.s 7, .s 18, .h 3] [sO 7 (.ptr 3 0), sO 18 (.nils), hB 3 98 [.arr .u64 9 m35]] [] (by kernel_rfl) trivial ?_
      refine q_k ?_
      refine tr_seq ?_
      refine tr_seq ?_
      refine tr_reg hT [] [.s 7, .s 18, .s 95, .h 3] [sO 7 (.ptr 3 0), sO 18 (.nils), sI 95 .i64 (0 : Int), hB 3 98 [.arr .u64 9 m35]] [] (by kernel_rfl) trivial ?_
      refine q_k ?_
      refine tr_block ?_
      obtain ⟨text50, e55, h⟩ := bind_some h
      refine tr_fit [(44, .nils)] [sO 7 (.ptr 3 0), sO 18 (.slc 44), sI 95 .i64 (0 : Int), hB 3 98 [.arr .u64 9 m35], hO 44 5 .u8 []] [(3, .blk 98 [.arr .u64 9 m35]), (44, .own 5 .u8 [])] (by kernel_rfl) (by kernel_rfl) (by kernel_rfl) rfl ⟨.blk (by kernel_rfl) (by kernel_rfl), .nilown, trivial⟩ (by kernel_rfl) ?_
      refine tr_loop_fuel (id := 6) (α := List Int × Int) (β := List Int) (fun z => [sO 7 (.ptr 3 0), sO 18 (.slc 44), sI 95 .i64 z.2, hB 3 98 [.arr .u64 9 m35], hO 44 5 .u8 z.1]) (fun z => [sO 18 (.slc 45), hO 45 5 .u8 z]) (fun k z => scalar_product_l4 m35 k z.1 z.2) text50 (fun _ => rfl) (((72 : Int) - (0 : Int)).toNat + 1) ([], (0 : Int)) e55 ?_ ?_
      · skip
        replace h : (some text50) = _ := h
        refine q_b_this ?_
        refine q_k ?_
        refine tr_seq ?_
        refine tr_reg hT [] [.s 6, .h 45] [sO 6 (.slc 45), hO 45 5 .u8 text50] [] (by kernel_rfl) trivial ?_
        refine q_k ?_
        refine tr_ret ?_
        have h := Option.some.inj h
        subst h
        refine q_fit [(8900, .slc 45)] [sO 6 (.slc 8900), hO 8900 5 .u8 text50] [(8900, .own 5 .u8 text50)] (by kernel_rfl) (by kernel_rfl) (by kernel_rfl) rfl ⟨.own (by kernel_rfl), trivial⟩ (by kernel_rfl) ?_
        exact q_ret1 hT (.v (.one (.slc 8900))) [(8900, .own 5 .u8 text50)] (by kernel_rfl) (by kernel_rfl) (by kernel_rfl)
      · clear h e55
        intro k ih4 hx4 z h
        obtain ⟨text48, x49⟩ := z
        replace h : (if (decide (x49 < (72 : Int))) = true then if 0 ≤ (IntKind.i64.wrap (x49.tdiv (8 : Int))) ∧ (IntKind.i64.wrap (x49.tdiv (8 : Int))) < ((9 : Nat) : Int) then if 0 ≤ (IntKind.i64.wrap ((8 : Int) * (x49.tmod (8 : Int)))) then if List.length (text48 ++ [(IntKind.u8.wrap (shr .u64 (m35.getD (IntKind.i64.wrap (x49.tdiv (8 : Int))).toNat 0) (IntKind.i64.wrap ((8 : Int) * (x49.tmod (8 : Int))))))]) ≤ maxN then scalar_product_l4 m35 k (text48 ++ [(IntKind.u8.wrap (shr .u64 (m35.getD (IntKind.i64.wrap (x49.tdiv (8 : Int))).toNat 0) (IntKind.i64.wrap ((8 : Int) * (x49.tmod (8 : Int))))))]) (IntKind.i64.wrap (x49 + (1 : Int))) else none else none else none else some text48) = _ := h
        refine tr_seq ?_
        refine tr_reg hT [] [.s 7, .s 18, .s 95, .s 96, .h 3, .h 44] [sO 7 (.ptr 3 0), sO 18 (.slc 44), sI 95 .i64 x49, sB 96 (decide (x49 < (72 : Int))), hB 3 98 [.arr .u64 9 m35], hO 44 5 .u8 text48] [] (by kernel_rfl) trivial ?_
        refine q_k ?_
        refine tr_seq ?_
        rcases ite_split h with ⟨hc51, h⟩ | ⟨hc51, h⟩
        · refine tr_cond_t (decide (x49 < (72 : Int))) (by kernel_rfl) hc51 ?_
          refine tr_skip ?_
          refine q_k ?_
          refine tr_seq ?_
          refine tr_block ?_
          refine tr_seq ?_
          refine tr_reg hT [] [.s 7, .s 18, .s 19, .s 95, .h 3, .h 44] [sO 7 (.ptr 3 0), sO 18 (.slc 44), sI 19 .i64 x49, sI 95 .i64 x49, hB 3 98 [.arr .u64 9 m35], hO 44 5 .u8 text48] [] (by kernel_rfl) trivial ?_
          refine q_k ?_
          obtain ⟨hn52, h⟩ := ite_some h
          obtain ⟨hn53, h⟩ := ite_some h
          obtain ⟨hn54, h⟩ := ite_some h
          refine tr_reg hT [(10, .key 46), (11, .key 47)] [.s 7, .s 18, .s 95, .h 3, .h 47] [sO 7 (.ptr 3 0), sO 18 (.slc 47), sI 95 .i64 x49, hB 3 98 [.arr .u64 9 m35], hO 47 5 .u8 (text48 ++ [(IntKind.u8.wrap (shr .u64 (m35.getD (IntKind.i64.wrap (x49.tdiv (8 : Int))).toNat 0) (IntKind.i64.wrap ((8 : Int) * (x49.tmod (8 : Int))))))])] [(8 : Int) ≠ 0, 0 ≤ (IntKind.i64.wrap (x49.tdiv (8 : Int))) ∧ (IntKind.i64.wrap (x49.tdiv (8 : Int))) < ((9 : Nat) : Int), (8 : Int) ≠ 0, 0 ≤ (IntKind.i64.wrap ((8 : Int) * (x49.tmod (8 : Int)))), List.length (text48 ++ [(IntKind.u8.wrap (shr .u64 (m35.getD (IntKind.i64.wrap (x49.tdiv (8 : Int))).toNat 0) (IntKind.i64.wrap ((8 : Int) * (x49.tmod (8 : Int))))))]) ≤ maxN] (by kernel_rfl) (hcons (by decide) (hcons hn52 (hcons (by decide) (hcons hn53 (hone hn54))))) ?_
          refine q_b 7 ?_
          refine q_k ?_
          refine tr_reg hT [] [.s 7, .s 18, .s 95, .h 3, .h 47] [sO 7 (.ptr 3 0), sO 18 (.slc 47), sI 95 .i64 (IntKind.i64.wrap (x49 + (1 : Int))), hB 3 98 [.arr .u64 9 m35], hO 47 5 .u8 (text48 ++ [(IntKind.u8.wrap (shr .u64 (m35.getD (IntKind.i64.wrap (x49.tdiv (8 : Int))).toNat 0) (IntKind.i64.wrap ((8 : Int) * (x49.tmod (8 : Int))))))])] [] (by kernel_rfl) trivial ?_
          refine q_kr ?_
          exact trR_fit [(44, .slc 47)] [sO 7 (.ptr 3 0), sO 18 (.slc 44), sI 95 .i64 (IntKind.i64.wrap (x49 + (1 : Int))), hB 3 98 [.arr .u64 9 m35], hO 44 5 .u8 (text48 ++ [(IntKind.u8.wrap (shr .u64 (m35.getD (IntKind.i64.wrap (x49.tdiv (8 : Int))).toNat 0) (IntKind.i64.wrap ((8 : Int) * (x49.tmod (8 : Int))))))])] [(3, .blk 98 [.arr .u64 9 m35]), (44, .own 5 .u8 (text48 ++ [(IntKind.u8.wrap (shr .u64 (m35.getD (IntKind.i64.wrap (x49.tdiv (8 : Int))).toNat 0) (IntKind.i64.wrap ((8 : Int) * (x49.tmod (8 : Int))))))]))] (by kernel_rfl) (by kernel_rfl) (by kernel_rfl) rfl ⟨.blk (by kernel_rfl) (by kernel_rfl), .own (by kernel_rfl), trivial⟩ (by kernel_rfl) (ih4 ((text48 ++ [(IntKind.u8.wrap (shr .u64 (m35.getD (IntKind.i64.wrap (x49.tdiv (8 : Int))).toNat 0) (IntKind.i64.wrap ((8 : Int) * (x49.tmod (8 : Int))))))]), (IntKind.i64.wrap (x49 + (1 : Int)))) h)
        · refine tr_cond_f (decide (x49 < (72 : Int))) (by kernel_rfl) hc51 ?_
          refine tr_exit ?_
          refine q_k_exit ?_
          refine q_kr_exit ?_
          have h := Option.some.inj h
          subst h
          exact q_fit [(45, .slc 44)] [sO 18 (.slc 45), hO 45 5 .u8 text48] [(45, .own 5 .u8 text48)] (by kernel_rfl) (by kernel_rfl) (by kernel_rfl) rfl ⟨.own (by kernel_rfl), trivial⟩ (by kernel_rfl) hx4
    · clear h e47
      intro k ih2 hx2 z h
      obtain ⟨m32, x33, x34⟩ := z
      replace h : (if (decide (x34 < (9 : Int))) = true then (show Option (Int) from if (decide (x34 < (4 : Int))) = true then if 0 ≤ x34 ∧ x34 < ((4 : Nat) : Int) then some (c_2.getD x34.toNat 0) else none else some (0 : Int)).bind (fun y37 => if 0 ≤ x34 ∧ x34 < ((9 : Nat) : Int) then (add64 (m32.getD x34.toNat 0) y37 x33).bind (fun (r41, r42) => if 0 ≤ x34 ∧ x34 < ((9 : Nat) : Int) then scalar_product_l2 c_2 k (m32.set x34.toNat r41) r42 (IntKind.i64.wrap (x34 + (1 : Int))) else none) else none) else some m32) = _ := h
      refine tr_seq ?_
      refine tr_reg hT [] [.s 5, .s 7, .s 15, .s 75, .s 76, .h 2, .h 3] [sO 5 (.ptr 2 0), sO 7 (.ptr 3 0), sI 15 .u64 x33, sI 75 .i64 x34, sB 76 (decide (x34 < (9 : Int))), hB 2 63 [.arr .u64 4 c_2], hB 3 98 [.arr .u64 9 m32]] [] (by kernel_rfl) trivial ?_
      refine q_k ?_
      refine tr_seq ?_
      rcases ite_split h with ⟨hc36, h⟩ | ⟨hc36, h⟩
      · refine tr_cond_t (decide (x34 < (9 : Int))) (by kernel_rfl) hc36 ?_
        refine tr_skip ?_
        refine q_k ?_
        refine tr_seq ?_
        refine tr_block ?_
        refine tr_seq ?_
        refine tr_reg hT [] [.s 5, .s 7, .s 15, .s 16, .s 75, .h 2, .h 3] [sO 5 (.ptr 2 0), sO 7 (.ptr 3 0), sI 15 .u64 x33, sI 16 .i64 x34, sI 75 .i64 x34, hB 2 63 [.arr .u64 4 c_2], hB 3 98 [.arr .u64 9 m32]] [] (by kernel_rfl) trivial ?_
        refine q_k ?_
        refine tr_seq ?_
        refine tr_reg hT [] [.s 5, .s 7, .s 15, .s 16, .s 17, .s 75, .h 2, .h 3] [sO 5 (.ptr 2 0), sO 7 (.ptr 3 0), sI 15 .u64 x33, sI 16 .i64 x34, sI 17 .u64 (0 : Int), sI 75 .i64 x34, hB 2 63 [.arr .u64 4 c_2], hB 3 98 [.arr .u64 9 m32]] [] (by kernel_rfl) trivial ?_
        refine q_k ?_
        refine tr_seq ?_
        refine tr_seq ?_
        refine tr_reg hT [] [.s 5, .s 7, .s 15, .s 16, .s 17, .s 75, .s 79, .h 2, .h 3] [sO 5 (.ptr 2 0), sO 7 (.ptr 3 0), sI 15 .u64 x33, sI 16 .i64 x34, sI 17 .u64 (0 : Int), sI 75 .i64 x34, sB 79 (decide (x34 < (4 : Int))), hB 2 63 [.arr .u64 4 c_2], hB 3 98 [.arr .u64 9 m32]] [] (by kernel_rfl) trivial ?_
        refine q_k ?_
        obtain ⟨y37, e46, h⟩ := bind_some h
        refine tr_join (σ1 := [sO 5 (.ptr 2 0), sO 7 (.ptr 3 0), sI 15 .u64 x33, sI 16 .i64 x34, sI 17 .u64 y37, sI 75 .i64 x34, hB 2 63 [.arr .u64 4 c_2], hB 3 98 [.arr .u64 9 m32]]) ?_ ?_
        · skip
          replace h : (if 0 ≤ x34 ∧ x34 < ((9 : Nat) : Int) then (add64 (m32.getD x34.toNat 0) y37 x33).bind (fun (r41, r42) => if 0 ≤ x34 ∧ x34 < ((9 : Nat) : Int) then scalar_product_l2 c_2 k (m32.set x34.toNat r41) r42 (IntKind.i64.wrap (x34 + (1 : Int))) else none) else none) = _ := h
          refine q_k ?_
          obtain ⟨hn40, h⟩ := ite_some h
          obtain ⟨⟨r41, r42⟩, e43, h⟩ := bind_some h
          obtain ⟨hn45, h⟩ := ite_some h
          refine tr_reg hT [(6, .call [] (.tup [.one (.int .u64 r41), .one (.int .u64 r42)]) [])] [.s 5, .s 7, .s 15, .s 75, .h 2, .h 3] [sO 5 (.ptr 2 0), sO 7 (.ptr 3 0), sI 15 .u64 r42, sI 75 .i64 x34, hB 2 63 [.arr .u64 4 c_2], hB 3 98 [.arr .u64 9 (m32.set x34.toNat r41)]] [0 ≤ x34 ∧ x34 < ((9 : Nat) : Int), CallOk P 78 [.v (.one (.int .u64 (m32.getD x34.toNat 0))), .v (.one (.int .u64 y37)), .v (.one (.int .u64 x33))] [] (.tup [.one (.int .u64 r41), .one (.int .u64 r42)]) [], 0 ≤ x34 ∧ x34 < ((9 : Nat) : Int)] (by kernel_rfl) (hcons hn40 (hcons (bits_Add64_ok (m32.getD x34.toNat 0) y37 x33 (r41, r42) e43) (hone hn45))) ?_
          refine q_b 5 ?_
          refine q_k ?_
          refine tr_reg hT [] [.s 5, .s 7, .s 15, .s 75, .h 2, .h 3] [sO 5 (.ptr 2 0), sO 7 (.ptr 3 0), sI 15 .u64 r42, sI 75 .i64 (IntKind.i64.wrap (x34 + (1 : Int))), hB 2 63 [.arr .u64 4 c_2], hB 3 98 [.arr .u64 9 (m32.set x34.toNat r41)]] [] (by kernel_rfl) trivial ?_
          refine q_kr ?_
          exact trR_less [.s 5, .s 7, .s 15, .s 75, .h 2, .h 3] [sO 5 (.ptr 2 0), sO 7 (.ptr 3 0), sI 15 .u64 r42, sI 75 .i64 (IntKind.i64.wrap (x34 + (1 : Int))), hB 2 63 [.arr .u64 4 c_2], hB 3 98 [.arr .u64 9 (m32.set x34.toNat r41)]] (by kernel_rfl) (ih2 ((m32.set x34.toNat r41), r42, (IntKind.i64.wrap (x34 + (1 : Int)))) h)
        · intro hj3
          clear h
          have h := e46
          clear e46
          rcases ite_split h with ⟨hc38, h⟩ | ⟨hc38, h⟩
          · refine tr_cond_t (decide (x34 < (4 : Int))) (by kernel_rfl) hc38 ?_
            obtain ⟨hn39, h⟩ := ite_some h
            refine tr_reg hT [] [.s 5, .s 7, .s 15, .s 16, .s 17, .s 75, .h 2, .h 3] [sO 5 (.ptr 2 0), sO 7 (.ptr 3 0), sI 15 .u64 x33, sI 16 .i64 x34, sI 17 .u64 (c_2.getD x34.toNat 0), sI 75 .i64 x34, hB 2 63 [.arr .u64 4 c_2], hB 3 98 [.arr .u64 9 m32]] [0 ≤ x34 ∧ x34 < ((4 : Nat) : Int)] (by kernel_rfl) (hone hn39) ?_
            have h := Option.some.inj h
            subst h
            exact q_less [.s 5, .s 7, .s 15, .s 16, .s 17, .s 75, .h 2, .h 3] [sO 5 (.ptr 2 0), sO 7 (.ptr 3 0), sI 15 .u64 x33, sI 16 .i64 x34, sI 17 .u64 (c_2.getD x34.toNat 0), sI 75 .i64 x34, hB 2 63 [.arr .u64 4 c_2], hB 3 98 [.arr .u64 9 m32]] (by kernel_rfl) hj3
          · refine tr_cond_f (decide (x34 < (4 : Int))) (by kernel_rfl) hc38 ?_
            refine tr_skip ?_
            have h := Option.some.inj h
            subst h
            exact q_fit [] [sO 5 (.ptr 2 0), sO 7 (.ptr 3 0), sI 15 .u64 x33, sI 16 .i64 x34, sI 17 .u64 (0 : Int), sI 75 .i64 x34, hB 2 63 [.arr .u64 4 c_2], hB 3 98 [.arr .u64 9 m32]] [(2, .blk 63 [.arr .u64 4 c_2]), (3, .blk 98 [.arr .u64 9 m32])] (by kernel_rfl) (by kernel_rfl) (by kernel_rfl) rfl ⟨.blk (by kernel_rfl) (by kernel_rfl), .blk (by kernel_rfl) (by kernel_rfl), trivial⟩ (by kernel_rfl) hj3
      · refine tr_cond_f (decide (x34 < (9 : Int))) (by kernel_rfl) hc36 ?_
        refine tr_exit ?_
        refine q_k_exit ?_
        refine q_kr_exit ?_
        have h := Option.some.inj h
        subst h
        exact q_less [.s 7, .h 3] [sO 7 (.ptr 3 0), hB 3 98 [.arr .u64 9 m32]] (by kernel_rfl) hx2
  · clear h e31
    intro k ih0 hx0 z h
    obtain ⟨m1, x2⟩ := z
    replace h : (if (decide (x2 < (4 : Int))) = true then (scalar_product_l1 a_0 b_1 c_2 x2 (((4 : Int) - (0 : Int)).toNat + 1) m1 (0 : Int) (0 : Int)).bind (fun (m8, carry9) => if 0 ≤ (IntKind.i64.wrap (x2 + (4 : Int))) ∧ (IntKind.i64.wrap (x2 + (4 : Int))) < ((9 : Nat) : Int) then scalar_product_l0 a_0 b_1 c_2 k (m8.set (IntKind.i64.wrap (x2 + (4 : Int))).toNat carry9) (IntKind.i64.wrap (x2 + (1 : Int))) else none) else some m1) = _ := h
    refine tr_seq ?_
    refine tr_reg hT [] [.s 3, .s 4, .s 5, .s 7, .s 20, .s 21, .h 0, .h 1, .h 2, .h 3] [sO 3 (.ptr 0 0), sO 4 (.ptr 1 0), sO 5 (.ptr 2 0), sO 7 (.ptr 3 0), sI 20 .i64 x2, sB 21 (decide (x2 < (4 : Int))), hB 0 63 [.arr .u64 4 a_0], hB 1 63 [.arr .u64 4 b_1], hB 2 63 [.arr .u64 4 c_2], hB 3 98 [.arr .u64 9 m1]] [] (by kernel_rfl) trivial ?_
    refine q_k ?_
    refine tr_seq ?_
    rcases ite_split h with ⟨hc4, h⟩ | ⟨hc4, h⟩
    · refine tr_cond_t (decide (x2 < (4 : Int))) (by kernel_rfl) hc4 ?_
      refine tr_skip ?_
      refine q_k ?_
      refine tr_seq ?_
      refine tr_block ?_
      refine tr_seq ?_
      refine tr_reg hT [] [.s 3, .s 4, .s 5, .s 7, .s 8, .s 20, .h 0, .h 1, .h 2, .h 3] [sO 3 (.ptr 0 0), sO 4 (.ptr 1 0), sO 5 (.ptr 2 0), sO 7 (.ptr 3 0), sI 8 .i64 x2, sI 20 .i64 x2, hB 0 63 [.arr .u64 4 a_0], hB 1 63 [.arr .u64 4 b_1], hB 2 63 [.arr .u64 4 c_2], hB 3 98 [.arr .u64 9 m1]] [] (by kernel_rfl) trivial ?_
      refine q_k ?_
      refine tr_seq ?_
      refine tr_reg hT [] [.s 3, .s 4, .s 5, .s 7, .s 8, .s 9, .s 20, .h 0, .h 1, .h 2, .h 3] [sO 3 (.ptr 0 0), sO 4 (.ptr 1 0), sO 5 (.ptr 2 0), sO 7 (.ptr 3 0), sI 8 .i64 x2, sI 9 .u64 (0 : Int), sI 20 .i64 x2, hB 0 63 [.arr .u64 4 a_0], hB 1 63 [.arr .u64 4 b_1], hB 2 63 [.arr .u64 4 c_2], hB 3 98 [.arr .u64 9 m1]] [] (by kernel_rfl) trivial ?_
      refine q_k ?_
      refine tr_seq ?_
      refine tr_seq ?_
      refine tr_reg hT [] [.s 3, .s 4, .s 5, .s 7, .s 8, .s 9, .s 20, .s 23, .h 0, .h 1, .h 2, .h 3] [sO 3 (.ptr 0 0), sO 4 (.ptr 1 0), sO 5 (.ptr 2 0), sO 7 (.ptr 3 0), sI 8 .i64 x2, sI 9 .u64 (0 : Int), sI 20 .i64 x2, sI 23 .i64 (0 : Int), hB 0 63 [.arr .u64 4 a_0], hB 1 63 [.arr .u64 4 b_1], hB 2 63 [.arr .u64 4 c_2], hB 3 98 [.arr .u64 9 m1]] [] (by kernel_rfl) trivial ?_
      refine q_k ?_
      refine tr_block ?_
      obtain ⟨rr1, e29, h⟩ := bind_some h
      refine tr_fit [] [sO 3 (.ptr 0 0), sO 4 (.ptr 1 0), sO 5 (.ptr 2 0), sO 7 (.ptr 3 0), sI 8 .i64 x2, sI 9 .u64 (0 : Int), sI 20 .i64 x2, sI 23 .i64 (0 : Int), hB 0 63 [.arr .u64 4 a_0], hB 1 63 [.arr .u64 4 b_1], hB 2 63 [.arr .u64 4 c_2], hB 3 98 [.arr .u64 9 m1]] [(0, .blk 63 [.arr .u64 4 a_0]), (1, .blk 63 [.arr .u64 4 b_1]), (2, .blk 63 [.arr .u64 4 c_2]), (3, .blk 98 [.arr .u64 9 m1])] (by kernel_rfl) (by kernel_rfl) (by kernel_rfl) rfl ⟨.blk (by kernel_rfl) (by kernel_rfl), .blk (by kernel_rfl) (by kernel_rfl), .blk (by kernel_rfl) (by kernel_rfl), .blk (by kernel_rfl) (by kernel_rfl), trivial⟩ (by kernel_rfl) ?_
      refine tr_loop_fuel (id := 2) (α := List Int × Int × Int) (β := List Int × Int) (fun z => [sO 3 (.ptr 0 0), sO 4 (.ptr 1 0), sO 5 (.ptr 2 0), sO 7 (.ptr 3 0), sI 8 .i64 x2, sI 9 .u64 z.2.1, sI 20 .i64 x2, sI 23 .i64 z.2.2, hB 0 63 [.arr .u64 4 a_0], hB 1 63 [.arr .u64 4 b_1], hB 2 63 [.arr .u64 4 c_2], hB 3 98 [.arr .u64 9 z.1]]) (fun z => [sO 3 (.ptr 0 0), sO 4 (.ptr 1 0), sO 5 (.ptr 2 0), sO 7 (.ptr 3 0), sI 8 .i64 x2, sI 9 .u64 z.2, sI 20 .i64 x2, hB 0 63 [.arr .u64 4 a_0], hB 1 63 [.arr .u64 4 b_1], hB 2 63 [.arr .u64 4 c_2], hB 3 98 [.arr .u64 9 z.1]]) (fun k z => scalar_product_l1 a_0 b_1 c_2 x2 k z.1 z.2.1 z.2.2) rr1 (fun _ => rfl) (((4 : Int) - (0 : Int)).toNat + 1) (m1, (0 : Int), (0 : Int)) e29 ?_ ?_
      · rcases rr1 with ⟨m8, carry9⟩
        replace h : (if 0 ≤ (IntKind.i64.wrap (x2 + (4 : Int))) ∧ (IntKind.i64.wrap (x2 + (4 : Int))) < ((9 : Nat) : Int) then scalar_product_l0 a_0 b_1 c_2 k (m8.set (IntKind.i64.wrap (x2 + (4 : Int))).toNat carry9) (IntKind.i64.wrap (x2 + (1 : Int))) else none) = _ := h
        refine q_b_this ?_
        refine q_k ?_
        obtain ⟨hn30, h⟩ := ite_some h
        refine tr_reg hT [] [.s 3, .s 4, .s 5, .s 7, .s 20, .h 0, .h 1, .h 2, .h 3] [sO 3 (.ptr 0 0), sO 4 (.ptr 1 0), sO 5 (.ptr 2 0), sO 7 (.ptr 3 0), sI 20 .i64 x2, hB 0 63 [.arr .u64 4 a_0], hB 1 63 [.arr .u64 4 b_1], hB 2 63 [.arr .u64 4 c_2], hB 3 98 [.arr .u64 9 (m8.set (IntKind.i64.wrap (x2 + (4 : Int))).toNat carry9)]] [0 ≤ (IntKind.i64.wrap (x2 + (4 : Int))) ∧ (IntKind.i64.wrap (x2 + (4 : Int))) < ((9 : Nat) : Int)] (by kernel_rfl) (hone hn30) ?_
        refine q_b 1 ?_
        refine q_k ?_
        refine tr_reg hT [] [.s 3, .s 4, .s 5, .s 7, .s 20, .h 0, .h 1, .h 2, .h 3] [sO 3 (.ptr 0 0), sO 4 (.ptr 1 0), sO 5 (.ptr 2 0), sO 7 (.ptr 3 0), sI 20 .i64 (IntKind.i64.wrap (x2 + (1 : Int))), hB 0 63 [.arr .u64 4 a_0], hB 1 63 [.arr .u64 4 b_1], hB 2 63 [.arr .u64 4 c_2], hB 3 98 [.arr .u64 9 (m8.set (IntKind.i64.wrap (x2 + (4 : Int))).toNat carry9)]] [] (by kernel_rfl) trivial ?_
        refine q_kr ?_
        exact trR_less [.s 3, .s 4, .s 5, .s 7, .s 20, .h 0, .h 1, .h 2, .h 3] [sO 3 (.ptr 0 0), sO 4 (.ptr 1 0), sO 5 (.ptr 2 0), sO 7 (.ptr 3 0), sI 20 .i64 (IntKind.i64.wrap (x2 + (1 : Int))), hB 0 63 [.arr .u64 4 a_0], hB 1 63 [.arr .u64 4 b_1], hB 2 63 [.arr .u64 4 c_2], hB 3 98 [.arr .u64 9 (m8.set (IntKind.i64.wrap (x2 + (4 : Int))).toNat carry9)]] (by kernel_rfl) (ih0 ((m8.set (IntKind.i64.wrap (x2 + (4 : Int))).toNat carry9), (IntKind.i64.wrap (x2 + (1 : Int)))) h)
      · clear h e29
        intro k ih1 hx1 z h
        obtain ⟨m5, carry6, x7⟩ := z
        replace h : (if (decide (x7 < (4 : Int))) = true then if 0 ≤ x2 ∧ x2 < ((4 : Nat) : Int) then if 0 ≤ x7 ∧ x7 < ((4 : Nat) : Int) then (math_bits_Mul64 (a_0.getD x2.toNat 0) (b_1.getD x7.toNat 0)).bind (fun (r13, r14) => if 0 ≤ (IntKind.i64.wrap (x2 + x7)) ∧ (IntKind.i64.wrap (x2 + x7)) < ((9 : Nat) : Int) then (add64 (m5.getD (IntKind.i64.wrap (x2 + x7)).toNat 0) r14 (0 : Int)).bind (fun (r18, r19) => if 0 ≤ (IntKind.i64.wrap (x2 + x7)) ∧ (IntKind.i64.wrap (x2 + x7)) < ((9 : Nat) : Int) then if 0 ≤ (IntKind.i64.wrap (x2 + x7)) ∧ (IntKind.i64.wrap (x2 + x7)) < ((9 : Nat) : Int) then (add64 ((m5.set (IntKind.i64.wrap (x2 + x7)).toNat r18).getD (IntKind.i64.wrap (x2 + x7)).toNat 0) carry6 (0 : Int)).bind (fun (r24, r25) => if 0 ≤ (IntKind.i64.wrap (x2 + x7)) ∧ (IntKind.i64.wrap (x2 + x7)) < ((9 : Nat) : Int) then scalar_product_l1 a_0 b_1 c_2 x2 k ((m5.set (IntKind.i64.wrap (x2 + x7)).toNat r18).set (IntKind.i64.wrap (x2 + x7)).toNat r24) (IntKind.u64.wrap ((IntKind.u64.wrap (r13 + r19)) + r25)) (IntKind.i64.wrap (x7 + (1 : Int))) else none) else none else none) else none) else none else none else some (m5, carry6)) = _ := h
        refine tr_seq ?_
        refine tr_reg hT [] [.s 3, .s 4, .s 5, .s 7, .s 8, .s 9, .s 20, .s 23, .s 24, .h 0, .h 1, .h 2, .h 3] [sO 3 (.ptr 0 0), sO 4 (.ptr 1 0), sO 5 (.ptr 2 0), sO 7 (.ptr 3 0), sI 8 .i64 x2, sI 9 .u64 carry6, sI 20 .i64 x2, sI 23 .i64 x7, sB 24 (decide (x7 < (4 : Int))), hB 0 63 [.arr .u64 4 a_0], hB 1 63 [.arr .u64 4 b_1], hB 2 63 [.arr .u64 4 c_2], hB 3 98 [.arr .u64 9 m5]] [] (by kernel_rfl) trivial ?_
        refine q_k ?_
        refine tr_seq ?_
        rcases ite_split h with ⟨hc10, h⟩ | ⟨hc10, h⟩
        · refine tr_cond_t (decide (x7 < (4 : Int))) (by kernel_rfl) hc10 ?_
          refine tr_skip ?_
          refine q_k ?_
          refine tr_seq ?_
          refine tr_block ?_
          refine tr_seq ?_
          refine tr_reg hT [] [.s 3, .s 4, .s 5, .s 7, .s 8, .s 9, .s 10, .s 20, .s 23, .h 0, .h 1, .h 2, .h 3] [sO 3 (.ptr 0 0), sO 4 (.ptr 1 0), sO 5 (.ptr 2 0), sO 7 (.ptr 3 0), sI 8 .i64 x2, sI 9 .u64 carry6, sI 10 .i64 x7, sI 20 .i64 x2, sI 23 .i64 x7, hB 0 63 [.arr .u64 4 a_0], hB 1 63 [.arr .u64 4 b_1], hB 2 63 [.arr .u64 4 c_2], hB 3 98 [.arr .u64 9 m5]] [] (by kernel_rfl) trivial ?_
          refine q_k ?_
          refine tr_seq ?_
          obtain ⟨hn11, h⟩ := ite_some h
          obtain ⟨hn12, h⟩ := ite_some h
          obtain ⟨⟨r13, r14⟩, e15, h⟩ := bind_some h
          refine tr_regd hT hM [(6, .call [] (.tup [.one (.int .u64 r13), .one (.int .u64 r14)]) [])] [.s 3, .s 4, .s 5, .s 7, .s 8, .s 9, .s 10, .s 11, .s 12, .s 20, .s 23, .h 0, .h 1, .h 2, .h 3] [sO 3 (.ptr 0 0), sO 4 (.ptr 1 0), sO 5 (.ptr 2 0), sO 7 (.ptr 3 0), sI 8 .i64 x2, sI 9 .u64 carry6, sI 10 .i64 x7, sI 11 .u64 r13, sI 12 .u64 r14, sI 20 .i64 x2, sI 23 .i64 x7, hB 0 63 [.arr .u64 4 a_0], hB 1 63 [.arr .u64 4 b_1], hB 2 63 [.arr .u64 4 c_2], hB 3 98 [.arr .u64 9 m5]] [0 ≤ x2 ∧ x2 < ((4 : Nat) : Int), 0 ≤ x7 ∧ x7 < ((4 : Nat) : Int), CallOk P 100 [.v (.one (.int .u64 (a_0.getD x2.toNat 0))), .v (.one (.int .u64 (b_1.getD x7.toNat 0)))] [] (.tup [.one (.int .u64 r13), .one (.int .u64 r14)]) []] (by kernel_rfl) (hcons hn11 (hcons hn12 (hone (math_bits_Mul64_ok (a_0.getD x2.toNat 0) (b_1.getD x7.toNat 0) (r13, r14) e15)))) ?_
          refine q_k ?_
          refine tr_seq ?_
          refine tr_reg hT [] [.s 3, .s 4, .s 5, .s 7, .s 8, .s 9, .s 10, .s 11, .s 12, .s 20, .s 23, .h 0, .h 1, .h 2, .h 3] [sO 3 (.ptr 0 0), sO 4 (.ptr 1 0), sO 5 (.ptr 2 0), sO 7 (.ptr 3 0), sI 8 .i64 x2, sI 9 .u64 carry6, sI 10 .i64 x7, sI 11 .u64 r13, sI 12 .u64 r14, sI 20 .i64 x2, sI 23 .i64 x7, hB 0 63 [.arr .u64 4 a_0], hB 1 63 [.arr .u64 4 b_1], hB 2 63 [.arr .u64 4 c_2], hB 3 98 [.arr .u64 9 m5]] [] (by kernel_rfl) trivial ?_
          refine q_k ?_
          refine tr_seq ?_
          obtain ⟨hn17, h⟩ := ite_some h
          obtain ⟨⟨r18, r19⟩, e20, h⟩ := bind_some h
          obtain ⟨hn22, h⟩ := ite_some h
          refine tr_reg hT [(9, .call [] (.tup [.one (.int .u64 r18), .one (.int .u64 r19)]) [])] [.s 3, .s 4, .s 5, .s 7, .s 8, .s 9, .s 10, .s 11, .s 13, .s 20, .s 23, .h 0, .h 1, .h 2, .h 3] [sO 3 (.ptr 0 0), sO 4 (.ptr 1 0), sO 5 (.ptr 2 0), sO 7 (.ptr 3 0), sI 8 .i64 x2, sI 9 .u64 carry6, sI 10 .i64 x7, sI 11 .u64 r13, sI 13 .u64 r19, sI 20 .i64 x2, sI 23 .i64 x7, hB 0 63 [.arr .u64 4 a_0], hB 1 63 [.arr .u64 4 b_1], hB 2 63 [.arr .u64 4 c_2], hB 3 98 [.arr .u64 9 (m5.set (IntKind.i64.wrap (x2 + x7)).toNat r18)]] [0 ≤ (IntKind.i64.wrap (x2 + x7)) ∧ (IntKind.i64.wrap (x2 + x7)) < ((9 : Nat) : Int), CallOk P 78 [.v (.one (.int .u64 (m5.getD (IntKind.i64.wrap (x2 + x7)).toNat 0))), .v (.one (.int .u64 r14)), .v (.one (.int .u64 (0 : Int)))] [] (.tup [.one (.int .u64 r18), .one (.int .u64 r19)]) [], 0 ≤ (IntKind.i64.wrap (x2 + x7)) ∧ (IntKind.i64.wrap (x2 + x7)) < ((9 : Nat) : Int)] (by kernel_rfl) (hcons hn17 (hcons (bits_Add64_ok (m5.getD (IntKind.i64.wrap (x2 + x7)).toNat 0) r14 (0 : Int) (r18, r19) e20) (hone hn22))) ?_
          refine q_k ?_
          refine tr_seq ?_
          obtain ⟨hn23, h⟩ := ite_some h
          obtain ⟨⟨r24, r25⟩, e26, h⟩ := bind_some h
          obtain ⟨hn28, h⟩ := ite_some h
          refine tr_reg hT [(9, .call [] (.tup [.one (.int .u64 r24), .one (.int .u64 r25)]) [])] [.s 3, .s 4, .s 5, .s 7, .s 8, .s 11, .s 13, .s 14, .s 20, .s 23, .h 0, .h 1, .h 2, .h 3] [sO 3 (.ptr 0 0), sO 4 (.ptr 1 0), sO 5 (.ptr 2 0), sO 7 (.ptr 3 0), sI 8 .i64 x2, sI 11 .u64 r13, sI 13 .u64 r19, sI 14 .u64 r25, sI 20 .i64 x2, sI 23 .i64 x7, hB 0 63 [.arr .u64 4 a_0], hB 1 63 [.arr .u64 4 b_1], hB 2 63 [.arr .u64 4 c_2], hB 3 98 [.arr .u64 9 ((m5.set (IntKind.i64.wrap (x2 + x7)).toNat r18).set (IntKind.i64.wrap (x2 + x7)).toNat r24)]] [0 ≤ (IntKind.i64.wrap (x2 + x7)) ∧ (IntKind.i64.wrap (x2 + x7)) < ((9 : Nat) : Int), CallOk P 78 [.v (.one (.int .u64 ((m5.set (IntKind.i64.wrap (x2 + x7)).toNat r18).getD (IntKind.i64.wrap (x2 + x7)).toNat 0))), .v (.one (.int .u64 carry6)), .v (.one (.int .u64 (0 : Int)))] [] (.tup [.one (.int .u64 r24), .one (.int .u64 r25)]) [], 0 ≤ (IntKind.i64.wrap (x2 + x7)) ∧ (IntKind.i64.wrap (x2 + x7)) < ((9 : Nat) : Int)] (by kernel_rfl) (hcons hn23 (hcons (bits_Add64_ok ((m5.set (IntKind.i64.wrap (x2 + x7)).toNat r18).getD (IntKind.i64.wrap (x2 + x7)).toNat 0) carry6 (0 : Int) (r24, r25) e26) (hone hn28))) ?_
          refine q_k ?_
          refine tr_reg hT [] [.s 3, .s 4, .s 5, .s 7, .s 8, .s 9, .s 20, .s 23, .h 0, .h 1, .h 2, .h 3] [sO 3 (.ptr 0 0), sO 4 (.ptr 1 0), sO 5 (.ptr 2 0), sO 7 (.ptr 3 0), sI 8 .i64 x2, sI 9 .u64 (IntKind.u64.wrap ((IntKind.u64.wrap (r13 + r19)) + r25)), sI 20 .i64 x2, sI 23 .i64 x7, hB 0 63 [.arr .u64 4 a_0], hB 1 63 [.arr .u64 4 b_1], hB 2 63 [.arr .u64 4 c_2], hB 3 98 [.arr .u64 9 ((m5.set (IntKind.i64.wrap (x2 + x7)).toNat r18).set (IntKind.i64.wrap (x2 + x7)).toNat r24)]] [] (by kernel_rfl) trivial ?_
          refine q_b 3 ?_
          refine q_k ?_
          refine tr_reg hT [] [.s 3, .s 4, .s 5, .s 7, .s 8, .s 9, .s 20, .s 23, .h 0, .h 1, .h 2, .h 3] [sO 3 (.ptr 0 0), sO 4 (.ptr 1 0), sO 5 (.ptr 2 0), sO 7 (.ptr 3 0), sI 8 .i64 x2, sI 9 .u64 (IntKind.u64.wrap ((IntKind.u64.wrap (r13 + r19)) + r25)), sI 20 .i64 x2, sI 23 .i64 (IntKind.i64.wrap (x7 + (1 : Int))), hB 0 63 [.arr .u64 4 a_0], hB 1 63 [.arr .u64 4 b_1], hB 2 63 [.arr .u64 4 c_2], hB 3 98 [.arr .u64 9 ((m5.set (IntKind.i64.wrap (x2 + x7)).toNat r18).set (IntKind.i64.wrap (x2 + x7)).toNat r24)]] [] (by kernel_rfl) trivial ?_
          refine q_kr ?_
          exact trR_less [.s 3, .s 4, .s 5, .s 7, .s 8, .s 9, .s 20, .s 23, .h 0, .h 1, .h 2, .h 3] [sO 3 (.ptr 0 0), sO 4 (.ptr 1 0), sO 5 (.ptr 2 0), sO 7 (.ptr 3 0), sI 8 .i64 x2, sI 9 .u64 (IntKind.u64.wrap ((IntKind.u64.wrap (r13 + r19)) + r25)), sI 20 .i64 x2, sI 23 .i64 (IntKind.i64.wrap (x7 + (1 : Int))), hB 0 63 [.arr .u64 4 a_0], hB 1 63 [.arr .u64 4 b_1], hB 2 63 [.arr .u64 4 c_2], hB 3 98 [.arr .u64 9 ((m5.set (IntKind.i64.wrap (x2 + x7)).toNat r18).set (IntKind.i64.wrap (x2 + x7)).toNat r24)]] (by kernel_rfl) (ih1 (((m5.set (IntKind.i64.wrap (x2 + x7)).toNat r18).set (IntKind.i64.wrap (x2 + x7)).toNat r24), (IntKind.u64.wrap ((IntKind.u64.wrap (r13 + r19)) + r25)), (IntKind.i64.wrap (x7 + (1 : Int)))) h)
        · refine tr_cond_f (decide (x7 < (4 : Int))) (by kernel_rfl) hc10 ?_
          refine tr_exit ?_
          refine q_k_exit ?_
          refine q_kr_exit ?_
          have h := Option.some.inj h
          subst h
          exact q_less [.s 3, .s 4, .s 5, .s 7, .s 8, .s 9, .s 20, .h 0, .h 1, .h 2, .h 3] [sO 3 (.ptr 0 0), sO 4 (.ptr 1 0), sO 5 (.ptr 2 0), sO 7 (.ptr 3 0), sI 8 .i64 x2, sI 9 .u64 carry6, sI 20 .i64 x2, hB 0 63 [.arr .u64 4 a_0], hB 1 63 [.arr .u64 4 b_1], hB 2 63 [.arr .u64 4 c_2], hB 3 98 [.arr .u64 9 m5]] (by kernel_rfl) hx1
    · refine tr_cond_f (decide (x2 < (4 : Int))) (by kernel_rfl) hc4 ?_
      refine tr_exit ?_
      refine q_k_exit ?_
      refine q_kr_exit ?_
      have h := Option.some.inj h
      subst h
      exact q_less [.s 5, .s 7, .h 2, .h 3] [sO 5 (.ptr 2 0), sO 7 (.ptr 3 0), hB 2 63 [.arr .u64 4 c_2], hB 3 98 [.arr .u64 9 m1]] (by kernel_rfl) hx0

theorem scalar_order_ok (r : List Int) (h : scalar_order = some r) {pre : List (Nat × Ent)} : CallOk P 71 [] pre (.v (.agg [.arr .u64 4 r])) [] := by
  refine call0 (N := 2) Try.func71 (by kernel_rfl) rfl rfl rfl pre ?_
  intro _ w
  show Tr P (Ge w) 2 _ _ _ (RetQ P Try.f71 (R0 _ w))
  unfold scalar_order at h
  refine tr_seq ?_
  refine tr_reg hT [(0, .key 0)] [.s 0, .h 0] [sO 0 (.ptr 0 0), hB 0 63 [.arr .u64 4 (List.replicate 4 0)]] [] (by kernel_rfl) trivial ?_
  refine q_k ?_
  refine tr_seq ?_
  refine tr_reg hT [] [.s 0, .h 0] [sO 0 (.ptr 0 0), hB 0 63 [.arr .u64 4 [(6346243789798364141 : Int), (1503914060200516822 : Int), (0 : Int), (1152921504606846976 : Int)]]] [] (by kernel_rfl) trivial ?_
  refine q_k ?_
  refine tr_ret ?_
  have h := Option.some.inj h
  subst h
  exact q_ret0 hT (.v (.agg [.arr .u64 4 [(6346243789798364141 : Int), (1503914060200516822 : Int), (0 : Int), (1152921504606846976 : Int)]])) rfl (by kernel_rfl)

theorem scalar_number_less_ok (a_0 : List Int) (b_1 : List Int) (r : Bool) (h : scalar_number_less a_0 b_1 = some r) {pre : List (Nat × Ent)} : CallOk P 70 [.v (.agg [.arr .u64 4 a_0]), .v (.agg [.arr .u64 4 b_1])] pre (.v (.one (.bool r))) [] := by
  refine call0 (N := 24) Try.func70 (by kernel_rfl) rfl rfl rfl pre ?_
  intro _ w
  show Tr P (Ge w) 24 _ _ _ (RetQ P Try.f70 (R0 _ w))
  unfold scalar_number_less at h
  refine tr_seq ?_
  refine tr_reg hT [(0, .key 0), (1, .key 1)] [.s 2, .s 3, .h 0, .h 1] [sO 2 (.ptr 0 0), sO 3 (.ptr 1 0), hB 0 63 [.arr .u64 4 a_0], hB 1 63 [.arr .u64 4 b_1]] [] (by kernel_rfl) trivial ?_
  refine q_k ?_
  refine tr_seq ?_
  refine tr_reg hT [] [.s 2, .s 3, .s 5, .h 0, .h 1] [sO 2 (.ptr 0 0), sO 3 (.ptr 1 0), sI 5 .u64 (0 : Int), hB 0 63 [.arr .u64 4 a_0], hB 1 63 [.arr .u64 4 b_1]] [] (by kernel_rfl) trivial ?_
  refine q_k ?_
  refine tr_seq ?_
  refine tr_seq ?_
  refine tr_reg hT [] [.s 2, .s 3, .s 5, .s 7, .h 0, .h 1] [sO 2 (.ptr 0 0), sO 3 (.ptr 1 0), sI 5 .u64 (0 : Int), sI 7 .i64 (0 : Int), hB 0 63 [.arr .u64 4 a_0], hB 1 63 [.arr .u64 4 b_1]] [] (by kernel_rfl) trivial ?_
  refine q_k ?_
  refine tr_block ?_
  obtain ⟨c3, e11, h⟩ := bind_some h
  refine tr_fit [] [sO 2 (.ptr 0 0), sO 3 (.ptr 1 0), sI 5 .u64 (0 : Int), sI 7 .i64 (0 : Int), hB 0 63 [.arr .u64 4 a_0], hB 1 63 [.arr .u64 4 b_1]] [(0, .blk 63 [.arr .u64 4 a_0]), (1, .blk 63 [.arr .u64 4 b_1])] (by kernel_rfl) (by kernel_rfl) (by kernel_rfl) rfl ⟨.blk (by kernel_rfl) (by kernel_rfl), .blk (by kernel_rfl) (by kernel_rfl), trivial⟩ (by kernel_rfl) ?_
  refine tr_loop_fuel (id := 0) (α := Int × Int) (β := Int) (fun z => [sO 2 (.ptr 0 0), sO 3 (.ptr 1 0), sI 5 .u64 z.1, sI 7 .i64 z.2, hB 0 63 [.arr .u64 4 a_0], hB 1 63 [.arr .u64 4 b_1]]) (fun z => [sI 5 .u64 z]) (fun k z => scalar_number_less_l0 a_0 b_1 k z.1 z.2) c3 (fun _ => rfl) (((4 : Int) - (0 : Int)).toNat + 1) ((0 : Int), (0 : Int)) e11 ?_ ?_
  · skip
    replace h : (some (c3 == (1 : Int))) = _ := h
    refine q_b_this ?_
    refine q_k ?_
    refine tr_seq ?_
    refine tr_reg hT [] [.s 4] [sB 4 (c3 == (1 : Int))] [] (by kernel_rfl) trivial ?_
    refine q_k ?_
    refine tr_ret ?_
    have h := Option.some.inj h
    subst h
    exact q_ret0 hT (.v (.one (.bool (c3 == (1 : Int))))) rfl (by kernel_rfl)
  · clear h e11
    intro k ih0 hx0 z h
    obtain ⟨c1, x2⟩ := z
    replace h : (if (decide (x2 < (4 : Int))) = true then if 0 ≤ x2 ∧ x2 < ((4 : Nat) : Int) then if 0 ≤ x2 ∧ x2 < ((4 : Nat) : Int) then (sub64 (a_0.getD x2.toNat 0) (b_1.getD x2.toNat 0) c1).bind (fun (r7, r8) => scalar_number_less_l0 a_0 b_1 k r8 (IntKind.i64.wrap (x2 + (1 : Int)))) else none else none else some c1) = _ := h
    refine tr_seq ?_
    refine tr_reg hT [] [.s 2, .s 3, .s 5, .s 7, .s 8, .h 0, .h 1] [sO 2 (.ptr 0 0), sO 3 (.ptr 1 0), sI 5 .u64 c1, sI 7 .i64 x2, sB 8 (decide (x2 < (4 : Int))), hB 0 63 [.arr .u64 4 a_0], hB 1 63 [.arr .u64 4 b_1]] [] (by kernel_rfl) trivial ?_
    refine q_k ?_
    refine tr_seq ?_
    rcases ite_split h with ⟨hc4, h⟩ | ⟨hc4, h⟩
    · refine tr_cond_t (decide (x2 < (4 : Int))) (by kernel_rfl) hc4 ?_
      refine tr_skip ?_
      refine q_k ?_
      refine tr_seq ?_
      refine tr_block ?_
      refine tr_seq ?_
      refine tr_reg hT [] [.s 2, .s 3, .s 5, .s 6, .s 7, .h 0, .h 1] [sO 2 (.ptr 0 0), sO 3 (.ptr 1 0), sI 5 .u64 c1, sI 6 .i64 x2, sI 7 .i64 x2, hB 0 63 [.arr .u64 4 a_0], hB 1 63 [.arr .u64 4 b_1]] [] (by kernel_rfl) trivial ?_
      refine q_k ?_
      obtain ⟨hn5, h⟩ := ite_some h
      obtain ⟨hn6, h⟩ := ite_some h
      obtain ⟨⟨r7, r8⟩, e9, h⟩ := bind_some h
      refine tr_regd hT hM [(7, .call [] (.tup [.one (.int .u64 r7), .one (.int .u64 r8)]) [])] [.s 2, .s 3, .s 5, .s 7, .h 0, .h 1] [sO 2 (.ptr 0 0), sO 3 (.ptr 1 0), sI 5 .u64 r8, sI 7 .i64 x2, hB 0 63 [.arr .u64 4 a_0], hB 1 63 [.arr .u64 4 b_1]] [0 ≤ x2 ∧ x2 < ((4 : Nat) : Int), 0 ≤ x2 ∧ x2 < ((4 : Nat) : Int), CallOk P 101 [.v (.one (.int .u64 (a_0.getD x2.toNat 0))), .v (.one (.int .u64 (b_1.getD x2.toNat 0))), .v (.one (.int .u64 c1))] [] (.tup [.one (.int .u64 r7), .one (.int .u64 r8)]) []] (by kernel_rfl) (hcons hn5 (hcons hn6 (hone (bits_Sub64_ok (a_0.getD x2.toNat 0) (b_1.getD x2.toNat 0) c1 (r7, r8) e9)))) ?_
      refine q_b 1 ?_
      refine q_k ?_
      refine tr_reg hT [] [.s 2, .s 3, .s 5, .s 7, .h 0, .h 1] [sO 2 (.ptr 0 0), sO 3 (.ptr 1 0), sI 5 .u64 r8, sI 7 .i64 (IntKind.i64.wrap (x2 + (1 : Int))), hB 0 63 [.arr .u64 4 a_0], hB 1 63 [.arr .u64 4 b_1]] [] (by kernel_rfl) trivial ?_
      refine q_kr ?_
      exact trR_less [.s 2, .s 3, .s 5, .s 7, .h 0, .h 1] [sO 2 (.ptr 0 0), sO 3 (.ptr 1 0), sI 5 .u64 r8, sI 7 .i64 (IntKind.i64.wrap (x2 + (1 : Int))), hB 0 63 [.arr .u64 4 a_0], hB 1 63 [.arr .u64 4 b_1]] (by kernel_rfl) (ih0 (r8, (IntKind.i64.wrap (x2 + (1 : Int)))) h)
    · refine tr_cond_f (decide (x2 < (4 : Int))) (by kernel_rfl) hc4 ?_
      refine tr_exit ?_
      refine q_k_exit ?_
      refine q_kr_exit ?_
      have h := Option.some.inj h
      subst h
      exact q_less [.s 5] [sI 5 .u64 c1] (by kernel_rfl) hx0

theorem scalar_number_shifted_ok (a_0 : List Int) (bit_1 : Int) (r : List Int) (h : scalar_number_shifted a_0 bit_1 = some r) {pre : List (Nat × Ent)} : CallOk P 99 [.v (.agg [.arr .u64 4 a_0]), .v (.one (.int .u64 bit_1))] pre (.v (.agg [.arr .u64 4 r])) [] := by
  refine call0 (N := 47) Try.func99 (by kernel_rfl) rfl rfl rfl pre ?_
  intro _ w
  show Tr P (Ge w) 47 _ _ _ (RetQ P Try.f99 (R0 _ w))
  unfold scalar_number_shifted at h
  refine tr_seq ?_
  refine tr_reg hT [(0, .key 0), (1, .key 1)] [.s 1, .s 2, .s 4, .h 0, .h 1] [sI 1 .u64 bit_1, sO 2 (.ptr 0 0), sO 4 (.ptr 1 0), hB 0 63 [.arr .u64 4 a_0], hB 1 63 [.arr .u64 4 (List.replicate 4 0)]] [] (by kernel_rfl) trivial ?_
  refine q_k ?_
  refine tr_seq ?_
  refine tr_seq ?_
  refine tr_reg hT [] [.s 1, .s 2, .s 4, .s 9, .h 0, .h 1] [sI 1 .u64 bit_1, sO 2 (.ptr 0 0), sO 4 (.ptr 1 0), sI 9 .i64 (0 : Int), hB 0 63 [.arr .u64 4 a_0], hB 1 63 [.arr .u64 4 (List.replicate 4 0)]] [] (by kernel_rfl) trivial ?_
  refine q_k ?_
  refine tr_block ?_
  obtain ⟨m4, e9, h⟩ := bind_some h
  refine tr_fit [] [sI 1 .u64 bit_1, sO 2 (.ptr 0 0), sO 4 (.ptr 1 0), sI 9 .i64 (0 : Int), hB 0 63 [.arr .u64 4 a_0], hB 1 63 [.arr .u64 4 (List.replicate 4 0)]] [(0, .blk 63 [.arr .u64 4 a_0]), (1, .blk 63 [.arr .u64 4 (List.replicate 4 0)])] (by kernel_rfl) (by kernel_rfl) (by kernel_rfl) rfl ⟨.blk (by kernel_rfl) (by kernel_rfl), .blk (by kernel_rfl) (by kernel_rfl), trivial⟩ (by kernel_rfl) ?_
  refine tr_loop_fuel (id := 0) (α := List Int × Int × Int) (β := List Int) (fun z => [sI 1 .u64 z.2.1, sO 2 (.ptr 0 0), sO 4 (.ptr 1 0), sI 9 .i64 z.2.2, hB 0 63 [.arr .u64 4 z.1], hB 1 63 [.arr .u64 4 (List.replicate 4 0)]]) (fun z => [sO 2 (.ptr 0 0), sO 4 (.ptr 1 0), hB 0 63 [.arr .u64 4 z], hB 1 63 [.arr .u64 4 (List.replicate 4 0)]]) (fun k z => scalar_number_shifted_l0 k z.1 z.2.1 z.2.2) m4 (fun _ => rfl) (((4 : Int) - (0 : Int)).toNat + 1) (a_0, bit_1, (0 : Int)) e9 ?_ ?_
  · skip
    replace h : ((scalar_order).bind (fun a10 => (scalar_number_less m4 a10).bind (fun b12 => if b12 = true then some m4 else (scalar_order).bind (fun a15 => (scalar_number_shifted_l1 a15 (((4 : Int) - (0 : Int)).toNat + 1) m4 (0 : Int) (0 : Int)).bind (fun m20 => some m20))))) = _ := h
    refine q_b_this ?_
    refine q_k ?_
    refine tr_seq ?_
    refine tr_seq ?_
    obtain ⟨a10, e11, h⟩ := bind_some h
    obtain ⟨b12, e13, h⟩ := bind_some h
    refine tr_regd hT hM [(1, .call [] (.v (.agg [.arr .u64 4 a10])) []), (2, .call [] (.v (.one (.bool b12))) [])] [.s 2, .s 4, .s 27, .h 0, .h 1] [sO 2 (.ptr 0 0), sO 4 (.ptr 1 0), sB 27 b12, hB 0 63 [.arr .u64 4 m4], hB 1 63 [.arr .u64 4 (List.replicate 4 0)]] [CallOk P 71 [] [] (.v (.agg [.arr .u64 4 a10])) [], CallOk P 70 [.v (.agg [.arr .u64 4 m4]), .v (.agg [.arr .u64 4 a10])] [] (.v (.one (.bool b12))) []] (by kernel_rfl) (hcons (scalar_order_ok  a10 e11) (hone (scalar_number_less_ok m4 a10 b12 e13))) ?_
    refine q_k ?_
    rcases ite_split h with ⟨hc14, h⟩ | ⟨hc14, h⟩
    · refine tr_cond_t b12 (by kernel_rfl) hc14 ?_
      refine tr_seq ?_
      refine tr_reg hT [] [.s 4, .h 1] [sO 4 (.ptr 1 0), hB 1 63 [.arr .u64 4 m4]] [] (by kernel_rfl) trivial ?_
      refine q_k ?_
      refine tr_ret ?_
      refine q_k_ret ?_
      have h := Option.some.inj h
      subst h
      exact q_ret0 hT (.v (.agg [.arr .u64 4 m4])) rfl (by kernel_rfl)
    · refine tr_cond_f b12 (by kernel_rfl) hc14 ?_
      refine tr_skip ?_
      refine q_k ?_
      refine tr_seq ?_
      refine tr_reg hT [] [.s 2, .s 4, .s 6, .h 0, .h 1] [sO 2 (.ptr 0 0), sO 4 (.ptr 1 0), sI 6 .u64 (0 : Int), hB 0 63 [.arr .u64 4 m4], hB 1 63 [.arr .u64 4 (List.replicate 4 0)]] [] (by kernel_rfl) trivial ?_
      refine q_k ?_
      refine tr_seq ?_
      refine tr_seq ?_
      obtain ⟨a15, e16, h⟩ := bind_some h
      refine tr_reg hT [(0, .call [] (.v (.agg [.arr .u64 4 a15])) [])] [.s 2, .s 4, .s 6, .s 29, .s 30, .h 0, .h 1] [sO 2 (.ptr 0 0), sO 4 (.ptr 1 0), sI 6 .u64 (0 : Int), sG 29 [.arr .u64 4 a15], sI 30 .i64 (0 : Int), hB 0 63 [.arr .u64 4 m4], hB 1 63 [.arr .u64 4 (List.replicate 4 0)]] [CallOk P 71 [] [] (.v (.agg [.arr .u64 4 a15])) []] (by kernel_rfl) (hone (scalar_order_ok  a15 e16)) ?_
      refine q_k ?_
      refine tr_block ?_
      obtain ⟨m20, e29, h⟩ := bind_some h
      refine tr_fit [] [sO 2 (.ptr 0 0), sO 4 (.ptr 1 0), sI 6 .u64 (0 : Int), sG 29 [.arr .u64 4 a15], sI 30 .i64 (0 : Int), hB 0 63 [.arr .u64 4 m4], hB 1 63 [.arr .u64 4 (List.replicate 4 0)]] [(0, .blk 63 [.arr .u64 4 m4]), (1, .blk 63 [.arr .u64 4 (List.replicate 4 0)])] (by kernel_rfl) (by kernel_rfl) (by kernel_rfl) rfl ⟨.blk (by kernel_rfl) (by kernel_rfl), .blk (by kernel_rfl) (by kernel_rfl), trivial⟩ (by kernel_rfl) ?_
      refine tr_loop_fuel (id := 2) (α := List Int × Int × Int) (β := List Int) (fun z => [sO 2 (.ptr 0 0), sO 4 (.ptr 1 0), sI 6 .u64 z.2.1, sG 29 [.arr .u64 4 a15], sI 30 .i64 z.2.2, hB 0 63 [.arr .u64 4 z.1], hB 1 63 [.arr .u64 4 (List.replicate 4 0)]]) (fun z => [sO 2 (.ptr 0 0), sO 4 (.ptr 1 0), hB 0 63 [.arr .u64 4 z], hB 1 63 [.arr .u64 4 (List.replicate 4 0)]]) (fun k z => scalar_number_shifted_l1 a15 k z.1 z.2.1 z.2.2) m20 (fun _ => rfl) (((4 : Int) - (0 : Int)).toNat + 1) (m4, (0 : Int), (0 : Int)) e29 ?_ ?_
      · skip
        replace h : (some m20) = _ := h
        refine q_b_this ?_
        refine q_k ?_
        refine tr_seq ?_
        refine tr_reg hT [] [.s 4, .h 1] [sO 4 (.ptr 1 0), hB 1 63 [.arr .u64 4 m20]] [] (by kernel_rfl) trivial ?_
        refine q_k ?_
        refine tr_ret ?_
        have h := Option.some.inj h
        subst h
        exact q_ret0 hT (.v (.agg [.arr .u64 4 m20])) rfl (by kernel_rfl)
      · clear h e29
        intro k ih1 hx1 z h
        obtain ⟨m17, c18, x19⟩ := z
        replace h : (if (decide (x19 < (4 : Int))) = true then if 0 ≤ x19 ∧ x19 < ((4 : Nat) : Int) then if 0 ≤ x19 ∧ x19 < ((4 : Nat) : Int) then (sub64 (m17.getD x19.toNat 0) (a15.getD x19.toNat 0) c18).bind (fun (r24, r25) => if 0 ≤ x19 ∧ x19 < ((4 : Nat) : Int) then scalar_number_shifted_l1 a15 k (m17.set x19.toNat r24) r25 (IntKind.i64.wrap (x19 + (1 : Int))) else none) else none else none else some m17) = _ := h
        refine tr_seq ?_
        refine tr_reg hT [] [.s 2, .s 4, .s 6, .s 29, .s 30, .s 31, .h 0, .h 1] [sO 2 (.ptr 0 0), sO 4 (.ptr 1 0), sI 6 .u64 c18, sG 29 [.arr .u64 4 a15], sI 30 .i64 x19, sB 31 (decide (x19 < (4 : Int))), hB 0 63 [.arr .u64 4 m17], hB 1 63 [.arr .u64 4 (List.replicate 4 0)]] [] (by kernel_rfl) trivial ?_
        refine q_k ?_
        refine tr_seq ?_
        rcases ite_split h with ⟨hc21, h⟩ | ⟨hc21, h⟩
        · refine tr_cond_t (decide (x19 < (4 : Int))) (by kernel_rfl) hc21 ?_
          refine tr_skip ?_
          refine q_k ?_
          refine tr_seq ?_
          refine tr_block ?_
          refine tr_seq ?_
          obtain ⟨hn22, h⟩ := ite_some h
          refine tr_reg hT [] [.s 2, .s 4, .s 6, .s 7, .s 8, .s 29, .s 30, .h 0, .h 1] [sO 2 (.ptr 0 0), sO 4 (.ptr 1 0), sI 6 .u64 c18, sI 7 .i64 x19, sI 8 .u64 (a15.getD x19.toNat 0), sG 29 [.arr .u64 4 a15], sI 30 .i64 x19, hB 0 63 [.arr .u64 4 m17], hB 1 63 [.arr .u64 4 (List.replicate 4 0)]] [0 ≤ x19 ∧ x19 < ((4 : Nat) : Int)] (by kernel_rfl) (hone hn22) ?_
          refine q_k ?_
          obtain ⟨hn23, h⟩ := ite_some h
          obtain ⟨⟨r24, r25⟩, e26, h⟩ := bind_some h
          obtain ⟨hn28, h⟩ := ite_some h
          refine tr_reg hT [(6, .call [] (.tup [.one (.int .u64 r24), .one (.int .u64 r25)]) [])] [.s 2, .s 4, .s 6, .s 29, .s 30, .h 0, .h 1] [sO 2 (.ptr 0 0), sO 4 (.ptr 1 0), sI 6 .u64 r25, sG 29 [.arr .u64 4 a15], sI 30 .i64 x19, hB 0 63 [.arr .u64 4 (m17.set x19.toNat r24)], hB 1 63 [.arr .u64 4 (List.replicate 4 0)]] [0 ≤ x19 ∧ x19 < ((4 : Nat) : Int), CallOk P 101 [.v (.one (.int .u64 (m17.getD x19.toNat 0))), .v (.one (.int .u64 (a15.getD x19.toNat 0))), .v (.one (.int .u64 c18))] [] (.tup [.one (.int .u64 r24), .one (.int .u64 r25)]) [], 0 ≤ x19 ∧ x19 < ((4 : Nat) : Int)] (by kernel_rfl) (hcons hn23 (hcons (bits_Sub64_ok (m17.getD x19.toNat 0) (a15.getD x19.toNat 0) c18 (r24, r25) e26) (hone hn28))) ?_
          refine q_b 3 ?_
          refine q_k ?_
          refine tr_reg hT [] [.s 2, .s 4, .s 6, .s 29, .s 30, .h 0, .h 1] [sO 2 (.ptr 0 0), sO 4 (.ptr 1 0), sI 6 .u64 r25, sG 29 [.arr .u64 4 a15], sI 30 .i64 (IntKind.i64.wrap (x19 + (1 : Int))), hB 0 63 [.arr .u64 4 (m17.set x19.toNat r24)], hB 1 63 [.arr .u64 4 (List.replicate 4 0)]] [] (by kernel_rfl) trivial ?_
          refine q_kr ?_
          exact trR_less [.s 2, .s 4, .s 6, .s 29, .s 30, .h 0, .h 1] [sO 2 (.ptr 0 0), sO 4 (.ptr 1 0), sI 6 .u64 r25, sG 29 [.arr .u64 4 a15], sI 30 .i64 (IntKind.i64.wrap (x19 + (1 : Int))), hB 0 63 [.arr .u64 4 (m17.set x19.toNat r24)], hB 1 63 [.arr .u64 4 (List.replicate 4 0)]] (by kernel_rfl) (ih1 ((m17.set x19.toNat r24), r25, (IntKind.i64.wrap (x19 + (1 : Int)))) h)
        · refine tr_cond_f (decide (x19 < (4 : Int))) (by kernel_rfl) hc21 ?_
          refine tr_exit ?_
          refine q_k_exit ?_
          refine q_kr_exit ?_
          have h := Option.some.inj h
          subst h
          exact q_less [.s 2, .s 4, .h 0, .h 1] [sO 2 (.ptr 0 0), sO 4 (.ptr 1 0), hB 0 63 [.arr .u64 4 m17], hB 1 63 [.arr .u64 4 (List.replicate 4 0)]] (by kernel_rfl) hx1
  · clear h e9
    intro k ih0 hx0 z h
    obtain ⟨m1, bit2, x3⟩ := z
    replace h : (if (decide (x3 < (4 : Int))) = true then if 0 ≤ x3 ∧ x3 < ((4 : Nat) : Int) then if 0 ≤ x3 ∧ x3 < ((4 : Nat) : Int) then if 0 ≤ x3 ∧ x3 < ((4 : Nat) : Int) then scalar_number_shifted_l0 k (m1.set x3.toNat (bor .u64 (shl .u64 (m1.getD x3.toNat 0) (1 : Int)) bit2)) (shr .u64 (m1.getD x3.toNat 0) (63 : Int)) (IntKind.i64.wrap (x3 + (1 : Int))) else none else none else none else some m1) = _ := h
    refine tr_seq ?_
    refine tr_reg hT [] [.s 1, .s 2, .s 4, .s 9, .s 10, .h 0, .h 1] [sI 1 .u64 bit2, sO 2 (.ptr 0 0), sO 4 (.ptr 1 0), sI 9 .i64 x3, sB 10 (decide (x3 < (4 : Int))), hB 0 63 [.arr .u64 4 m1], hB 1 63 [.arr .u64 4 (List.replicate 4 0)]] [] (by kernel_rfl) trivial ?_
    refine q_k ?_
    refine tr_seq ?_
    rcases ite_split h with ⟨hc5, h⟩ | ⟨hc5, h⟩
    · refine tr_cond_t (decide (x3 < (4 : Int))) (by kernel_rfl) hc5 ?_
      refine tr_skip ?_
      refine q_k ?_
      refine tr_seq ?_
      refine tr_block ?_
      refine tr_seq ?_
      refine tr_reg hT [] [.s 1, .s 2, .s 4, .s 5, .s 9, .h 0, .h 1] [sI 1 .u64 bit2, sO 2 (.ptr 0 0), sO 4 (.ptr 1 0), sI 5 .i64 x3, sI 9 .i64 x3, hB 0 63 [.arr .u64 4 m1], hB 1 63 [.arr .u64 4 (List.replicate 4 0)]] [] (by kernel_rfl) trivial ?_
      refine q_k ?_
      obtain ⟨hn6, h⟩ := ite_some h
      obtain ⟨hn7, h⟩ := ite_some h
      obtain ⟨hn8, h⟩ := ite_some h
      refine tr_regd hT hM [] [.s 1, .s 2, .s 4, .s 9, .h 0, .h 1] [sI 1 .u64 (shr .u64 (m1.getD x3.toNat 0) (63 : Int)), sO 2 (.ptr 0 0), sO 4 (.ptr 1 0), sI 9 .i64 x3, hB 0 63 [.arr .u64 4 (m1.set x3.toNat (bor .u64 (shl .u64 (m1.getD x3.toNat 0) (1 : Int)) bit2))], hB 1 63 [.arr .u64 4 (List.replicate 4 0)]] [0 ≤ x3 ∧ x3 < ((4 : Nat) : Int), 0 ≤ (1 : Int), 0 ≤ x3 ∧ x3 < ((4 : Nat) : Int), 0 ≤ (63 : Int), 0 ≤ x3 ∧ x3 < ((4 : Nat) : Int)] (by kernel_rfl) (hcons hn6 (hcons (by decide) (hcons hn7 (hcons (by decide) (hone hn8))))) ?_
      refine q_b 1 ?_
      refine q_k ?_
      refine tr_reg hT [] [.s 1, .s 2, .s 4, .s 9, .h 0, .h 1] [sI 1 .u64 (shr .u64 (m1.getD x3.toNat 0) (63 : Int)), sO 2 (.ptr 0 0), sO 4 (.ptr 1 0), sI 9 .i64 (IntKind.i64.wrap (x3 + (1 : Int))), hB 0 63 [.arr .u64 4 (m1.set x3.toNat (bor .u64 (shl .u64 (m1.getD x3.toNat 0) (1 : Int)) bit2))], hB 1 63 [.arr .u64 4 (List.replicate 4 0)]] [] (by kernel_rfl) trivial ?_
      refine q_kr ?_
      exact trR_less [.s 1, .s 2, .s 4, .s 9, .h 0, .h 1] [sI 1 .u64 (shr .u64 (m1.getD x3.toNat 0) (63 : Int)), sO 2 (.ptr 0 0), sO 4 (.ptr 1 0), sI 9 .i64 (IntKind.i64.wrap (x3 + (1 : Int))), hB 0 63 [.arr .u64 4 (m1.set x3.toNat (bor .u64 (shl .u64 (m1.getD x3.toNat 0) (1 : Int)) bit2))], hB 1 63 [.arr .u64 4 (List.replicate 4 0)]] (by kernel_rfl) (ih0 ((m1.set x3.toNat (bor .u64 (shl .u64 (m1.getD x3.toNat 0) (1 : Int)) bit2)), (shr .u64 (m1.getD x3.toNat 0) (63 : Int)), (IntKind.i64.wrap (x3 + (1 : Int)))) h)
    · refine tr_cond_f (decide (x3 < (4 : Int))) (by kernel_rfl) hc5 ?_
      refine tr_exit ?_
      refine q_k_exit ?_
      refine q_kr_exit ?_
      have h := Option.some.inj h
      subst h
      exact q_less [.s 2, .s 4, .h 0, .h 1] [sO 2 (.ptr 0 0), sO 4 (.ptr 1 0), hB 0 63 [.arr .u64 4 m1], hB 1 63 [.arr .u64 4 (List.replicate 4 0)]] (by kernel_rfl) hx0

theorem scalar_reduced_ok (b_0 : List Int) (r : List Int) (h : scalar_reduced b_0 = some r) : CallOk P 66 [.v (.one (.slc 9000))] [(9000, .rd .u8 b_0)] (.v (.agg [.arr .u64 4 r])) [] := by
  refine call1 (N := 26) Try.func66 (by kernel_rfl) rfl rfl rfl [(9000, .rd .u8 b_0)] (by kernel_rfl) ?_
  intro _ B w0
  show Tr P B 26 w0 _ _ (RetQ P Try.f66 (R1 _ _ B w0))
  unfold scalar_reduced at h
  refine tr_seq ?_
  refine tr_reg hT [(0, .key 0)] [.s 0, .s 2, .h 0, .h 9000] [sO 0 (.slc 9000), sO 2 (.ptr 0 0), hB 0 63 [.arr .u64 4 (List.replicate 4 0)], hR 9000 .u8 b_0] [] (by kernel_rfl) trivial ?_
  refine q_k ?_
  refine tr_seq ?_
  refine tr_reg hT [(0, .key 1)] [.s 0, .s 2, .s 3, .h 0, .h 1, .h 9000] [sO 0 (.slc 9000), sO 2 (.ptr 0 0), sO 3 (.ptr 1 0), hB 0 63 [.arr .u64 4 (List.replicate 4 0)], hB 1 63 [.arr .u64 4 (List.replicate 4 0)], hR 9000 .u8 b_0] [] (by kernel_rfl) trivial ?_
  refine q_k ?_
  refine tr_seq ?_
  refine tr_seq ?_
  refine tr_reg hT [] [.s 0, .s 2, .s 3, .s 4, .h 0, .h 1, .h 9000] [sO 0 (.slc 9000), sO 2 (.ptr 0 0), sO 3 (.ptr 1 0), sI 4 .i64 (IntKind.i64.wrap ((IntKind.i64.wrap ((8 : Int) * (↑(List.length b_0) : Int))) - (1 : Int))), hB 0 63 [.arr .u64 4 (List.replicate 4 0)], hB 1 63 [.arr .u64 4 (List.replicate 4 0)], hR 9000 .u8 b_0] [] (by kernel_rfl) trivial ?_
  refine q_k ?_
  refine tr_block ?_
  obtain ⟨m3, e9, h⟩ := bind_some h
  refine tr_less [.s 0, .s 2, .s 3, .s 4, .h 0, .h 1, .h 9000] [sO 0 (.slc 9000), sO 2 (.ptr 0 0), sO 3 (.ptr 1 0), sI 4 .i64 (IntKind.i64.wrap ((IntKind.i64.wrap ((8 : Int) * (↑(List.length b_0) : Int))) - (1 : Int))), hB 0 63 [.arr .u64 4 (List.replicate 4 0)], hB 1 63 [.arr .u64 4 (List.replicate 4 0)], hR 9000 .u8 b_0] (by kernel_rfl) ?_
  refine tr_loop_fuel (id := 0) (α := List Int × Int) (β := List Int) (fun z => [sO 0 (.slc 9000), sO 2 (.ptr 0 0), sO 3 (.ptr 1 0), sI 4 .i64 z.2, hB 0 63 [.arr .u64 4 (List.replicate 4 0)], hB 1 63 [.arr .u64 4 z.1], hR 9000 .u8 b_0]) (fun z => [sO 2 (.ptr 0 0), sO 3 (.ptr 1 0), hB 0 63 [.arr .u64 4 (List.replicate 4 0)], hB 1 63 [.arr .u64 4 z]]) (fun k z => scalar_reduced_l0 b_0 k z.1 z.2) m3 (fun _ => rfl) (((IntKind.i64.wrap ((IntKind.i64.wrap ((8 : Int) * (↑(List.length b_0) : Int))) - (1 : Int))) - (0 : Int) + 1).toNat + 1) ((List.replicate 4 0), (IntKind.i64.wrap ((IntKind.i64.wrap ((8 : Int) * (↑(List.length b_0) : Int))) - (1 : Int)))) e9 ?_ ?_
  · skip
    replace h : (some m3) = _ := h
    refine q_b_this ?_
    refine q_k ?_
    refine tr_seq ?_
    refine tr_reg hT [] [.s 2, .h 0] [sO 2 (.ptr 0 0), hB 0 63 [.arr .u64 4 m3]] [] (by kernel_rfl) trivial ?_
    refine q_k ?_
    refine tr_ret ?_
    have h := Option.some.inj h
    subst h
    refine q_less [.s 2, .h 0] [sO 2 (.ptr 0 0), hB 0 63 [.arr .u64 4 m3]] (by kernel_rfl) ?_
    exact q_ret1 hT (.v (.agg [.arr .u64 4 m3])) [] (by kernel_rfl) (by kernel_rfl) (by kernel_rfl)
  · clear h e9
    intro k ih0 hx0 z h
    obtain ⟨m1, i2⟩ := z
    replace h : (if (decide (i2 ≥ (0 : Int))) = true then if 0 ≤ (IntKind.i64.wrap (i2.tdiv (8 : Int))) ∧ (IntKind.i64.wrap (i2.tdiv (8 : Int))) < ↑(List.length b_0) then if 0 ≤ (i2.tmod (8 : Int)) then (scalar_number_shifted m1 (IntKind.u64.wrap (band .u8 (shr .u8 (b_0.getD (IntKind.i64.wrap (i2.tdiv (8 : Int))).toNat 0) (i2.tmod (8 : Int))) (1 : Int)))).bind (fun a7 => scalar_reduced_l0 b_0 k a7 (IntKind.i64.wrap (i2 - (1 : Int)))) else none else none else some m1) = _ := h
    refine tr_seq ?_
    refine tr_seq ?_
    refine tr_reg hT [] [.s 0, .s 2, .s 3, .s 4, .s 10, .h 0, .h 1, .h 9000] [sO 0 (.slc 9000), sO 2 (.ptr 0 0), sO 3 (.ptr 1 0), sI 4 .i64 i2, sB 10 (decide (i2 ≥ (0 : Int))), hB 0 63 [.arr .u64 4 (List.replicate 4 0)], hB 1 63 [.arr .u64 4 m1], hR 9000 .u8 b_0] [] (by kernel_rfl) trivial ?_
    refine q_k ?_
    rcases ite_split h with ⟨hc4, h⟩ | ⟨hc4, h⟩
    · refine tr_cond_t (decide (i2 ≥ (0 : Int))) (by kernel_rfl) hc4 ?_
      refine tr_skip ?_
      refine q_k ?_
      refine tr_seq ?_
      refine tr_block ?_
      obtain ⟨hn5, h⟩ := ite_some h
      obtain ⟨hn6, h⟩ := ite_some h
      obtain ⟨a7, e8, h⟩ := bind_some h
      refine tr_regd hT hM [(11, .call [] (.v (.agg [.arr .u64 4 a7])) [])] [.s 0, .s 2, .s 3, .s 4, .h 0, .h 1, .h 9000] [sO 0 (.slc 9000), sO 2 (.ptr 0 0), sO 3 (.ptr 1 0), sI 4 .i64 i2, hB 0 63 [.arr .u64 4 (List.replicate 4 0)], hB 1 63 [.arr .u64 4 a7], hR 9000 .u8 b_0] [(8 : Int) ≠ 0, 0 ≤ (IntKind.i64.wrap (i2.tdiv (8 : Int))) ∧ (IntKind.i64.wrap (i2.tdiv (8 : Int))) < ↑(List.length b_0), (IntKind.i64.wrap (i2.tdiv (8 : Int))) < ↑(List.length b_0), (8 : Int) ≠ 0, 0 ≤ (i2.tmod (8 : Int)), CallOk P 99 [.v (.agg [.arr .u64 4 m1]), .v (.one (.int .u64 (IntKind.u64.wrap (band .u8 (shr .u8 (b_0.getD (IntKind.i64.wrap (i2.tdiv (8 : Int))).toNat 0) (i2.tmod (8 : Int))) (1 : Int)))))] [] (.v (.agg [.arr .u64 4 a7])) []] (by kernel_rfl) (hcons (by decide) (hcons hn5 (hcons hn5.2 (hcons (by decide) (hcons hn6 (hone (scalar_number_shifted_ok m1 (IntKind.u64.wrap (band .u8 (shr .u8 (b_0.getD (IntKind.i64.wrap (i2.tdiv (8 : Int))).toNat 0) (i2.tmod (8 : Int))) (1 : Int))) a7 e8))))))) ?_
      refine q_b 1 ?_
      refine q_k ?_
      refine tr_reg hT [] [.s 0, .s 2, .s 3, .s 4, .h 0, .h 1, .h 9000] [sO 0 (.slc 9000), sO 2 (.ptr 0 0), sO 3 (.ptr 1 0), sI 4 .i64 (IntKind.i64.wrap (i2 - (1 : Int))), hB 0 63 [.arr .u64 4 (List.replicate 4 0)], hB 1 63 [.arr .u64 4 a7], hR 9000 .u8 b_0] [] (by kernel_rfl) trivial ?_
      refine q_kr ?_
      exact trR_less [.s 0, .s 2, .s 3, .s 4, .h 0, .h 1, .h 9000] [sO 0 (.slc 9000), sO 2 (.ptr 0 0), sO 3 (.ptr 1 0), sI 4 .i64 (IntKind.i64.wrap (i2 - (1 : Int))), hB 0 63 [.arr .u64 4 (List.replicate 4 0)], hB 1 63 [.arr .u64 4 a7], hR 9000 .u8 b_0] (by kernel_rfl) (ih0 (a7, (IntKind.i64.wrap (i2 - (1 : Int)))) h)
    · refine tr_cond_f (decide (i2 ≥ (0 : Int))) (by kernel_rfl) hc4 ?_
      refine tr_exit ?_
      refine q_k_exit ?_
      refine q_kr_exit ?_
      have h := Option.some.inj h
      subst h
      exact q_less [.s 2, .s 3, .h 0, .h 1] [sO 2 (.ptr 0 0), sO 3 (.ptr 1 0), hB 0 63 [.arr .u64 4 (List.replicate 4 0)], hB 1 63 [.arr .u64 4 m1]] (by kernel_rfl) hx0

theorem scalar_number_bytes_ok (a_0 : List Int) (r : List Int) (h : scalar_number_bytes a_0 = some r) {pre : List (Nat × Ent)} : CallOk P 69 [.v (.agg [.arr .u64 4 a_0])] pre (.v (.agg [.arr .u8 32 r])) [] := by
  refine call0 (N := 21) Try.func69 (by kernel_rfl) rfl rfl rfl pre ?_
  intro _ w
  show Tr P (Ge w) 21 _ _ _ (RetQ P Try.f69 (R0 _ w))
  unfold scalar_number_bytes at h
  refine tr_seq ?_
  refine tr_reg hT [(0, .key 0), (1, .key 1)] [.s 1, .s 2, .h 0, .h 1] [sO 1 (.ptr 0 0), sO 2 (.ptr 1 0), hB 0 63 [.arr .u64 4 a_0], hB 1 22 [.arr .u8 32 (List.replicate 32 0)]] [] (by kernel_rfl) trivial ?_
  refine q_k ?_
  refine tr_seq ?_
  refine tr_reg hT [(0, .key 2)] [.s 1, .s 2, .s 3, .h 0, .h 1, .h 2] [sO 1 (.ptr 0 0), sO 2 (.ptr 1 0), sO 3 (.ptr 2 0), hB 0 63 [.arr .u64 4 a_0], hB 1 22 [.arr .u8 32 (List.replicate 32 0)], hB 2 22 [.arr .u8 32 (List.replicate 32 0)]] [] (by kernel_rfl) trivial ?_
  refine q_k ?_
  refine tr_seq ?_
  refine tr_seq ?_
  refine tr_reg hT [] [.s 1, .s 2, .s 3, .s 5, .h 0, .h 1, .h 2] [sO 1 (.ptr 0 0), sO 2 (.ptr 1 0), sO 3 (.ptr 2 0), sI 5 .i64 (0 : Int), hB 0 63 [.arr .u64 4 a_0], hB 1 22 [.arr .u8 32 (List.replicate 32 0)], hB 2 22 [.arr .u8 32 (List.replicate 32 0)]] [] (by kernel_rfl) trivial ?_
  refine q_k ?_
  refine tr_block ?_
  obtain ⟨m3, e8, h⟩ := bind_some h
  refine tr_fit [] [sO 1 (.ptr 0 0), sO 2 (.ptr 1 0), sO 3 (.ptr 2 0), sI 5 .i64 (0 : Int), hB 0 63 [.arr .u64 4 a_0], hB 1 22 [.arr .u8 32 (List.replicate 32 0)], hB 2 22 [.arr .u8 32 (List.replicate 32 0)]] [(0, .blk 63 [.arr .u64 4 a_0]), (1, .blk 22 [.arr .u8 32 (List.replicate 32 0)]), (2, .blk 22 [.arr .u8 32 (List.replicate 32 0)])] (by kernel_rfl) (by kernel_rfl) (by kernel_rfl) rfl ⟨.blk (by kernel_rfl) (by kernel_rfl), .blk (by kernel_rfl) (by kernel_rfl), .blk (by kernel_rfl) (by kernel_rfl), trivial⟩ (by kernel_rfl) ?_
  refine tr_loop_fuel (id := 0) (α := List Int × Int) (β := List Int) (fun z => [sO 1 (.ptr 0 0), sO 2 (.ptr 1 0), sO 3 (.ptr 2 0), sI 5 .i64 z.2, hB 0 63 [.arr .u64 4 a_0], hB 1 22 [.arr .u8 32 (List.replicate 32 0)], hB 2 22 [.arr .u8 32 z.1]]) (fun z => [sO 2 (.ptr 1 0), sO 3 (.ptr 2 0), hB 1 22 [.arr .u8 32 (List.replicate 32 0)], hB 2 22 [.arr .u8 32 z]]) (fun k z => scalar_number_bytes_l0 a_0 k z.1 z.2) m3 (fun _ => rfl) (((32 : Int) - (0 : Int)).toNat + 1) ((List.replicate 32 0), (0 : Int)) e8 ?_ ?_
  · skip
    replace h : (some m3) = _ := h
    refine q_b_this ?_
    refine q_k ?_
    refine tr_seq ?_
    refine tr_reg hT [] [.s 2, .h 1] [sO 2 (.ptr 1 0), hB 1 22 [.arr .u8 32 m3]] [] (by kernel_rfl) trivial ?_
    refine q_k ?_
    refine tr_ret ?_
    have h := Option.some.inj h
    subst h
    exact q_ret0 hT (.v (.agg [.arr .u8 32 m3])) rfl (by kernel_rfl)
  · clear h e8
    intro k ih0 hx0 z h
    obtain ⟨m1, x2⟩ := z
    replace h : (if (decide (x2 < (32 : Int))) = true then if 0 ≤ (IntKind.i64.wrap (x2.tdiv (8 : Int))) ∧ (IntKind.i64.wrap (x2.tdiv (8 : Int))) < ((4 : Nat) : Int) then if 0 ≤ (IntKind.i64.wrap ((8 : Int) * (x2.tmod (8 : Int)))) then if 0 ≤ x2 ∧ x2 < ((32 : Nat) : Int) then scalar_number_bytes_l0 a_0 k (m1.set x2.toNat (IntKind.u8.wrap (shr .u64 (a_0.getD (IntKind.i64.wrap (x2.tdiv (8 : Int))).toNat 0) (IntKind.i64.wrap ((8 : Int) * (x2.tmod (8 : Int))))))) (IntKind.i64.wrap (x2 + (1 : Int))) else none else none else none else some m1) = _ := h
    refine tr_seq ?_
    refine tr_reg hT [] [.s 1, .s 2, .s 3, .s 5, .s 6, .h 0, .h 1, .h 2] [sO 1 (.ptr 0 0), sO 2 (.ptr 1 0), sO 3 (.ptr 2 0), sI 5 .i64 x2, sB 6 (decide (x2 < (32 : Int))), hB 0 63 [.arr .u64 4 a_0], hB 1 22 [.arr .u8 32 (List.replicate 32 0)], hB 2 22 [.arr .u8 32 m1]] [] (by kernel_rfl) trivial ?_
    refine q_k ?_
    refine tr_seq ?_
    rcases ite_split h with ⟨hc4, h⟩ | ⟨hc4, h⟩
    · refine tr_cond_t (decide (x2 < (32 : Int))) (by kernel_rfl) hc4 ?_
      refine tr_skip ?_
      refine q_k ?_
      refine tr_seq ?_
      refine tr_block ?_
      refine tr_seq ?_
      refine tr_reg hT [] [.s 1, .s 2, .s 3, .s 4, .s 5, .h 0, .h 1, .h 2] [sO 1 (.ptr 0 0), sO 2 (.ptr 1 0), sO 3 (.ptr 2 0), sI 4 .i64 x2, sI 5 .i64 x2, hB 0 63 [.arr .u64 4 a_0], hB 1 22 [.arr .u8 32 (List.replicate 32 0)], hB 2 22 [.arr .u8 32 m1]] [] (by kernel_rfl) trivial ?_
      refine q_k ?_
      obtain ⟨hn5, h⟩ := ite_some h
      obtain ⟨hn6, h⟩ := ite_some h
      obtain ⟨hn7, h⟩ := ite_some h
      refine tr_reg hT [] [.s 1, .s 2, .s 3, .s 5, .h 0, .h 1, .h 2] [sO 1 (.ptr 0 0), sO 2 (.ptr 1 0), sO 3 (.ptr 2 0), sI 5 .i64 x2, hB 0 63 [.arr .u64 4 a_0], hB 1 22 [.arr .u8 32 (List.replicate 32 0)], hB 2 22 [.arr .u8 32 (m1.set x2.toNat (IntKind.u8.wrap (shr .u64 (a_0.getD (IntKind.i64.wrap (x2.tdiv (8 : Int))).toNat 0) (IntKind.i64.wrap ((8 : Int) * (x2.tmod (8 : Int)))))))]] [(8 : Int) ≠ 0, 0 ≤ (IntKind.i64.wrap (x2.tdiv (8 : Int))) ∧ (IntKind.i64.wrap (x2.tdiv (8 : Int))) < ((4 : Nat) : Int), (8 : Int) ≠ 0, 0 ≤ (IntKind.i64.wrap ((8 : Int) * (x2.tmod (8 : Int)))), 0 ≤ x2 ∧ x2 < ((32 : Nat) : Int)] (by kernel_rfl) (hcons (by decide) (hcons hn5 (hcons (by decide) (hcons hn6 (hone hn7))))) ?_
      refine q_b 1 ?_
      refine q_k ?_
      refine tr_reg hT [] [.s 1, .s 2, .s 3, .s 5, .h 0, .h 1, .h 2] [sO 1 (.ptr 0 0), sO 2 (.ptr 1 0), sO 3 (.ptr 2 0), sI 5 .i64 (IntKind.i64.wrap (x2 + (1 : Int))), hB 0 63 [.arr .u64 4 a_0], hB 1 22 [.arr .u8 32 (List.replicate 32 0)], hB 2 22 [.arr .u8 32 (m1.set x2.toNat (IntKind.u8.wrap (shr .u64 (a_0.getD (IntKind.i64.wrap (x2.tdiv (8 : Int))).toNat 0) (IntKind.i64.wrap ((8 : Int) * (x2.tmod (8 : Int)))))))]] [] (by kernel_rfl) trivial ?_
      refine q_kr ?_
      exact trR_less [.s 1, .s 2, .s 3, .s 5, .h 0, .h 1, .h 2] [sO 1 (.ptr 0 0), sO 2 (.ptr 1 0), sO 3 (.ptr 2 0), sI 5 .i64 (IntKind.i64.wrap (x2 + (1 : Int))), hB 0 63 [.arr .u64 4 a_0], hB 1 22 [.arr .u8 32 (List.replicate 32 0)], hB 2 22 [.arr .u8 32 (m1.set x2.toNat (IntKind.u8.wrap (shr .u64 (a_0.getD (IntKind.i64.wrap (x2.tdiv (8 : Int))).toNat 0) (IntKind.i64.wrap ((8 : Int) * (x2.tmod (8 : Int)))))))]] (by kernel_rfl) (ih0 ((m1.set x2.toNat (IntKind.u8.wrap (shr .u64 (a_0.getD (IntKind.i64.wrap (x2.tdiv (8 : Int))).toNat 0) (IntKind.i64.wrap ((8 : Int) * (x2.tmod (8 : Int))))))), (IntKind.i64.wrap (x2 + (1 : Int)))) h)
    · refine tr_cond_f (decide (x2 < (32 : Int))) (by kernel_rfl) hc4 ?_
      refine tr_exit ?_
      refine q_k_exit ?_
      refine q_kr_exit ?_
      have h := Option.some.inj h
      subst h
      exact q_less [.s 2, .s 3, .h 1, .h 2] [sO 2 (.ptr 1 0), sO 3 (.ptr 2 0), hB 1 22 [.arr .u8 32 (List.replicate 32 0)], hB 2 22 [.arr .u8 32 m1]] (by kernel_rfl) hx0

theorem scalar_MulAdd_ok (a_0 : List Int) (b_1 : List Int) (c_2 : List Int) (r : List Int) (h : scalar_MulAdd a_0 b_1 c_2 = some r) {pre : List (Nat × Ent)} : CallOk P 27 [.v (.agg [.arr .u8 32 a_0]), .v (.agg [.arr .u8 32 b_1]), .v (.agg [.arr .u8 32 c_2])] pre (.v (.agg [.arr .u8 32 r])) [] := by
  refine call0 (N := 16) Try.func27 (by kernel_rfl) rfl rfl rfl pre ?_
  intro _ w
  show Tr P (Ge w) 16 _ _ _ (RetQ P Try.f27 (R0 _ w))
  unfold scalar_MulAdd at h
  refine tr_seq ?_
  refine tr_reg hT [(0, .key 0), (1, .key 1), (2, .key 2), (3, .key 3)] [.s 3, .s 4, .s 5, .s 6, .h 0, .h 1, .h 2, .h 3] [sO 3 (.ptr 0 0), sO 4 (.ptr 1 0), sO 5 (.ptr 2 0), sO 6 (.ptr 3 0), hB 0 22 [.arr .u8 32 a_0], hB 1 22 [.arr .u8 32 b_1], hB 2 22 [.arr .u8 32 c_2], hB 3 22 [.arr .u8 32 (List.replicate 32 0)]] [] (by kernel_rfl) trivial ?_
  refine q_k ?_
  refine tr_seq ?_
  obtain ⟨a1, e2, h⟩ := bind_some h
  obtain ⟨a3, e4, h⟩ := bind_some h
  obtain ⟨a5, e6, h⟩ := bind_some h
  obtain ⟨a7, e8, h⟩ := bind_some h
  obtain ⟨a9, e10, h⟩ := bind_some h
  obtain ⟨a11, e12, h⟩ := bind_some h
  refine tr_regd hT hM [(1, .call [] (.v (.agg [.arr .u64 4 a1])) []), (3, .call [] (.v (.agg [.arr .u64 4 a3])) []), (5, .call [] (.v (.agg [.arr .u64 4 a5])) []), (6, .call [] (.v (.one (.slc 4))) [(4, .own 5 .u8 a7)]), (7, .call [4] (.v (.agg [.arr .u64 4 a9])) []), (8, .call [] (.v (.agg [.arr .u8 32 a11])) [])] [.s 6, .h 3] [sO 6 (.ptr 3 0), hB 3 22 [.arr .u8 32 a11]] [CallOk P 68 [.v (.agg [.arr .u8 32 a_0])] [] (.v (.agg [.arr .u64 4 a1])) [], CallOk P 68 [.v (.agg [.arr .u8 32 b_1])] [] (.v (.agg [.arr .u64 4 a3])) [], CallOk P 68 [.v (.agg [.arr .u8 32 c_2])] [] (.v (.agg [.arr .u64 4 a5])) [], CallOk P 67 [.v (.agg [.arr .u64 4 a1]), .v (.agg [.arr .u64 4 a3]), .v (.agg [.arr .u64 4 a5])] [] (.v (.one (.slc 4))) [(4, .own 5 .u8 a7)], CallOk P 66 [.v (.one (.slc 4))] [(4, .own 5 .u8 a7)] (.v (.agg [.arr .u64 4 a9])) [], CallOk P 69 [.v (.agg [.arr .u64 4 a9])] [] (.v (.agg [.arr .u8 32 a11])) []] (by kernel_rfl) (hcons (scalar_of_ok a_0 a1 e2) (hcons (scalar_of_ok b_1 a3 e4) (hcons (scalar_of_ok c_2 a5 e6) (hcons ((scalar_product_ok a1 a3 a5 a7 e8).tr [(8900, .slc 4)] rfl (by kernel_rfl) trivial (by kernel_rfl) (by kernel_rfl) rfl rfl) (hcons ((scalar_reduced_ok a7 a9 e10).tr [(9000, .slc 4)] rfl (by kernel_rfl) ⟨.ownrd (e := 5) (by kernel_rfl), trivial⟩ (by kernel_rfl) (by kernel_rfl) rfl rfl) (hone (scalar_number_bytes_ok a9 a11 e12))))))) ?_
  refine q_k ?_
  refine tr_ret ?_
  have h := Option.some.inj h
  subst h
  exact q_ret0 hT (.v (.agg [.arr .u8 32 a11])) rfl (by kernel_rfl)

theorem scalar_Check_ok (a_0 : List Int) (r : Bool) (h : scalar_Check a_0 = some r) {pre : List (Nat × Ent)} : CallOk P 32 [.v (.agg [.arr .u8 32 a_0])] pre (.v (.one (.bool r))) [] := by
  refine call0 (N := 7) Try.func32 (by kernel_rfl) rfl rfl rfl pre ?_
  intro _ w
  show Tr P (Ge w) 7 _ _ _ (RetQ P Try.f32 (R0 _ w))
  unfold scalar_Check at h
  refine tr_seq ?_
  refine tr_reg hT [(0, .key 0)] [.s 1, .h 0] [sO 1 (.ptr 0 0), hB 0 22 [.arr .u8 32 a_0]] [] (by kernel_rfl) trivial ?_
  refine q_k ?_
  refine tr_seq ?_
  obtain ⟨a1, e2, h⟩ := bind_some h
  obtain ⟨a3, e4, h⟩ := bind_some h
  obtain ⟨b5, e6, h⟩ := bind_some h
  refine tr_reg hT [(1, .call [] (.v (.agg [.arr .u64 4 a1])) []), (2, .call [] (.v (.agg [.arr .u64 4 a3])) []), (3, .call [] (.v (.one (.bool b5))) [])] [.s 2] [sB 2 b5] [CallOk P 68 [.v (.agg [.arr .u8 32 a_0])] [] (.v (.agg [.arr .u64 4 a1])) [], CallOk P 71 [] [] (.v (.agg [.arr .u64 4 a3])) [], CallOk P 70 [.v (.agg [.arr .u64 4 a1]), .v (.agg [.arr .u64 4 a3])] [] (.v (.one (.bool b5))) []] (by kernel_rfl) (hcons (scalar_of_ok a_0 a1 e2) (hcons (scalar_order_ok  a3 e4) (hone (scalar_number_less_ok a1 a3 b5 e6)))) ?_
  refine q_k ?_
  refine tr_ret ?_
  have h := Option.some.inj h
  subst h
  exact q_ret0 hT (.v (.one (.bool b5))) rfl (by kernel_rfl)

theorem ref04_L_ok (r : List Int) (h : ref04_L = some r) {pre : List (Nat × Ent)} : CallOk P 30 [] pre (.v (.agg [.arr .u64 4 r])) [] := by
  refine call0 (N := 2) Try.func30 (by kernel_rfl) rfl rfl rfl pre ?_
  intro _ w
  show Tr P (Ge w) 2 _ _ _ (RetQ P Try.f30 (R0 _ w))
  unfold ref04_L at h
  refine tr_seq ?_
  refine tr_reg hT [(0, .key 0)] [.s 0, .h 0] [sO 0 (.ptr 0 0), hB 0 31 [.arr .u64 4 (List.replicate 4 0)]] [] (by kernel_rfl) trivial ?_
  refine q_k ?_
  refine tr_seq ?_
  refine tr_reg hT [] [.s 0, .h 0] [sO 0 (.ptr 0 0), hB 0 31 [.arr .u64 4 [(6346243789798364141 : Int), (1503914060200516822 : Int), (0 : Int), (1152921504606846976 : Int)]]] [] (by kernel_rfl) trivial ?_
  refine q_k ?_
  refine tr_ret ?_
  have h := Option.some.inj h
  subst h
  exact q_ret0 hT (.v (.agg [.arr .u64 4 [(6346243789798364141 : Int), (1503914060200516822 : Int), (0 : Int), (1152921504606846976 : Int)]])) rfl (by kernel_rfl)

end Go.Proofs.Sb
