/- Walks, printed by a program of this session (gowalk.py): each Go function comes to its plain function's answer. -/
import Derived.Test.YtdcdanfeepncmaaSbA
import Derived.Test.YtdcdanfeepncmaaSbD
import Derived.Test.YtdcdanfeepncmaaSbI
import Derived.Test.YtdcdanfeepncmaaSbV0
import Derived.Test.YtdcdanfeepncmaaSbV1
import Derived.Test.YtdcdanfeepncmaaSbV2
namespace Go.Proofs.Sb
open Go Go.Gw D
set_option linter.unusedVariables false
set_option maxRecDepth 20000

theorem ref04_ModL_ok (b_0 : List Int) (r : List Int) (h : ref04_ModL b_0 = some r) : CallOk P 37 [.v (.one (.slc 9000))] [(9000, .rd .u8 b_0)] (.v (.agg [.arr .u8 32 r])) [] := by
  refine call1 (N := 30) Try.func37 (by kernel_rfl) rfl rfl rfl [(9000, .rd .u8 b_0)] (by kernel_rfl) ?_
  intro _ B w0
  show Tr P B 30 w0 _ _ (RetQ P Try.f37 (R1 _ _ B w0))
  unfold ref04_ModL at h
  refine tr_seq ?_
  refine tr_reg hT [(0, .key 0)] [.s 0, .s 2, .h 0, .h 9000] [sO 0 (.slc 9000), sO 2 (.ptr 0 0), hB 0 22 [.arr .u8 32 (List.replicate 32 0)], hR 9000 .u8 b_0] [] (by kernel_rfl) trivial ?_
  refine q_k ?_
  refine tr_seq ?_
  refine tr_reg hT [(0, .key 1)] [.s 0, .s 2, .s 3, .h 0, .h 1, .h 9000] [sO 0 (.slc 9000), sO 2 (.ptr 0 0), sO 3 (.ptr 1 0), hB 0 22 [.arr .u8 32 (List.replicate 32 0)], hB 1 75 [.arr .u64 8 (List.replicate 8 0)], hR 9000 .u8 b_0] [] (by kernel_rfl) trivial ?_
  refine q_k ?_
  refine tr_seq ?_
  refine tr_seq ?_
  refine tr_reg hT [] [.s 0, .s 2, .s 3, .s 4, .h 0, .h 1, .h 9000] [sO 0 (.slc 9000), sO 2 (.ptr 0 0), sO 3 (.ptr 1 0), sI 4 .i64 (0 : Int), hB 0 22 [.arr .u8 32 (List.replicate 32 0)], hB 1 75 [.arr .u64 8 (List.replicate 8 0)], hR 9000 .u8 b_0] [] (by kernel_rfl) trivial ?_
  refine q_k ?_
  refine tr_block ?_
  obtain ⟨m3, e9, h⟩ := bind_some h
  refine tr_fit [] [sO 0 (.slc 9000), sO 2 (.ptr 0 0), sO 3 (.ptr 1 0), sI 4 .i64 (0 : Int), hB 0 22 [.arr .u8 32 (List.replicate 32 0)], hB 1 75 [.arr .u64 8 (List.replicate 8 0)], hR 9000 .u8 b_0] [(0, .blk 22 [.arr .u8 32 (List.replicate 32 0)]), (1, .blk 75 [.arr .u64 8 (List.replicate 8 0)]), (9000, .rd .u8 b_0)] (by kernel_rfl) (by kernel_rfl) (by kernel_rfl) rfl ⟨.blk (by kernel_rfl) (by kernel_rfl), .blk (by kernel_rfl) (by kernel_rfl), .rd (by kernel_rfl), trivial⟩ (by kernel_rfl) ?_
  refine tr_loop_fuel (id := 0) (α := List Int × Int) (β := List Int) (fun z => [sO 0 (.slc 9000), sO 2 (.ptr 0 0), sO 3 (.ptr 1 0), sI 4 .i64 z.2, hB 0 22 [.arr .u8 32 (List.replicate 32 0)], hB 1 75 [.arr .u64 8 z.1], hR 9000 .u8 b_0]) (fun z => [sO 2 (.ptr 0 0), sO 3 (.ptr 1 0), hB 0 22 [.arr .u8 32 (List.replicate 32 0)], hB 1 75 [.arr .u64 8 z]]) (fun k z => ref04_ModL_l0 b_0 k z.1 z.2) m3 (fun _ => rfl) (((↑(List.length b_0) : Int) - (0 : Int)).toNat + 1) ((List.replicate 8 0), (0 : Int)) e9 ?_ ?_
  · skip
    replace h : ((ref04_modL m3).bind (fun a10 => (ref04_Bytes a10).bind (fun a12 => some a12))) = _ := h
    refine q_b_this ?_
    refine q_k ?_
    refine tr_seq ?_
    obtain ⟨a10, e11, h⟩ := bind_some h
    obtain ⟨a12, e13, h⟩ := bind_some h
    refine tr_reg hT [(1, .call [] (.v (.agg [.arr .u64 4 a10])) []), (2, .call [] (.v (.agg [.arr .u8 32 a12])) [])] [.s 2, .h 0] [sO 2 (.ptr 0 0), hB 0 22 [.arr .u8 32 a12]] [CallOk P 76 [.v (.agg [.arr .u64 8 m3])] [] (.v (.agg [.arr .u64 4 a10])) [], CallOk P 29 [.v (.agg [.arr .u64 4 a10])] [] (.v (.agg [.arr .u8 32 a12])) []] (by kernel_rfl) (hcons (ref04_modL_ok m3 a10 e11) (hone (ref04_Bytes_ok a10 a12 e13))) ?_
    refine q_k ?_
    refine tr_ret ?_
    have h := Option.some.inj h
    subst h
    refine q_less [.s 2, .h 0] [sO 2 (.ptr 0 0), hB 0 22 [.arr .u8 32 a12]] (by kernel_rfl) ?_
    exact q_ret1 hT (.v (.agg [.arr .u8 32 a12])) [] (by kernel_rfl) (by kernel_rfl) (by kernel_rfl)
  · clear h e9
    intro k ih0 hx0 z h
    obtain ⟨m1, i2⟩ := z
    replace h : (if (decide (i2 < (↑(List.length b_0) : Int))) = true then if 0 ≤ (IntKind.i64.wrap (i2.tdiv (8 : Int))) ∧ (IntKind.i64.wrap (i2.tdiv (8 : Int))) < ((8 : Nat) : Int) then if 0 ≤ i2 ∧ i2 < ↑(List.length b_0) then if 0 ≤ (IntKind.u64.wrap (IntKind.i64.wrap ((8 : Int) * (i2.tmod (8 : Int))))) then if 0 ≤ (IntKind.i64.wrap (i2.tdiv (8 : Int))) ∧ (IntKind.i64.wrap (i2.tdiv (8 : Int))) < ((8 : Nat) : Int) then ref04_ModL_l0 b_0 k (m1.set (IntKind.i64.wrap (i2.tdiv (8 : Int))).toNat (bor .u64 (m1.getD (IntKind.i64.wrap (i2.tdiv (8 : Int))).toNat 0) (shl .u64 (IntKind.u64.wrap (b_0.getD i2.toNat 0)) (IntKind.u64.wrap (IntKind.i64.wrap ((8 : Int) * (i2.tmod (8 : Int)))))))) (IntKind.i64.wrap (i2 + (1 : Int))) else none else none else none else none else some m1) = _ := h
    refine tr_seq ?_
    refine tr_seq ?_
    refine tr_reg hT [] [.s 0, .s 2, .s 3, .s 4, .s 8, .h 0, .h 1, .h 9000] [sO 0 (.slc 9000), sO 2 (.ptr 0 0), sO 3 (.ptr 1 0), sI 4 .i64 i2, sB 8 (decide (i2 < (↑(List.length b_0) : Int))), hB 0 22 [.arr .u8 32 (List.replicate 32 0)], hB 1 75 [.arr .u64 8 m1], hR 9000 .u8 b_0] [] (by kernel_rfl) trivial ?_
    refine q_k ?_
    rcases ite_split h with ⟨hc4, h⟩ | ⟨hc4, h⟩
    · refine tr_cond_t (decide (i2 < (↑(List.length b_0) : Int))) (by kernel_rfl) hc4 ?_
      refine tr_skip ?_
      refine q_k ?_
      refine tr_seq ?_
      refine tr_block ?_
      obtain ⟨hn5, h⟩ := ite_some h
      obtain ⟨hn6, h⟩ := ite_some h
      obtain ⟨hn7, h⟩ := ite_some h
      obtain ⟨hn8, h⟩ := ite_some h
      refine tr_regd hT hM [] [.s 0, .s 2, .s 3, .s 4, .h 0, .h 1, .h 9000] [sO 0 (.slc 9000), sO 2 (.ptr 0 0), sO 3 (.ptr 1 0), sI 4 .i64 i2, hB 0 22 [.arr .u8 32 (List.replicate 32 0)], hB 1 75 [.arr .u64 8 (m1.set (IntKind.i64.wrap (i2.tdiv (8 : Int))).toNat (bor .u64 (m1.getD (IntKind.i64.wrap (i2.tdiv (8 : Int))).toNat 0) (shl .u64 (IntKind.u64.wrap (b_0.getD i2.toNat 0)) (IntKind.u64.wrap (IntKind.i64.wrap ((8 : Int) * (i2.tmod (8 : Int))))))))], hR 9000 .u8 b_0] [(8 : Int) ≠ 0, 0 ≤ (IntKind.i64.wrap (i2.tdiv (8 : Int))) ∧ (IntKind.i64.wrap (i2.tdiv (8 : Int))) < ((8 : Nat) : Int), 0 ≤ i2 ∧ i2 < ↑(List.length b_0), i2 < ↑(List.length b_0), (8 : Int) ≠ 0, 0 ≤ (IntKind.u64.wrap (IntKind.i64.wrap ((8 : Int) * (i2.tmod (8 : Int))))), 0 ≤ (IntKind.i64.wrap (i2.tdiv (8 : Int))) ∧ (IntKind.i64.wrap (i2.tdiv (8 : Int))) < ((8 : Nat) : Int)] (by kernel_rfl) (hcons (by decide) (hcons hn5 (hcons hn6 (hcons hn6.2 (hcons (by decide) (hcons hn7 (hone hn8))))))) ?_
      refine q_b 1 ?_
      refine q_k ?_
      refine tr_reg hT [] [.s 0, .s 2, .s 3, .s 4, .h 0, .h 1, .h 9000] [sO 0 (.slc 9000), sO 2 (.ptr 0 0), sO 3 (.ptr 1 0), sI 4 .i64 (IntKind.i64.wrap (i2 + (1 : Int))), hB 0 22 [.arr .u8 32 (List.replicate 32 0)], hB 1 75 [.arr .u64 8 (m1.set (IntKind.i64.wrap (i2.tdiv (8 : Int))).toNat (bor .u64 (m1.getD (IntKind.i64.wrap (i2.tdiv (8 : Int))).toNat 0) (shl .u64 (IntKind.u64.wrap (b_0.getD i2.toNat 0)) (IntKind.u64.wrap (IntKind.i64.wrap ((8 : Int) * (i2.tmod (8 : Int))))))))], hR 9000 .u8 b_0] [] (by kernel_rfl) trivial ?_
      refine q_kr ?_
      exact trR_less [.s 0, .s 2, .s 3, .s 4, .h 0, .h 1, .h 9000] [sO 0 (.slc 9000), sO 2 (.ptr 0 0), sO 3 (.ptr 1 0), sI 4 .i64 (IntKind.i64.wrap (i2 + (1 : Int))), hB 0 22 [.arr .u8 32 (List.replicate 32 0)], hB 1 75 [.arr .u64 8 (m1.set (IntKind.i64.wrap (i2.tdiv (8 : Int))).toNat (bor .u64 (m1.getD (IntKind.i64.wrap (i2.tdiv (8 : Int))).toNat 0) (shl .u64 (IntKind.u64.wrap (b_0.getD i2.toNat 0)) (IntKind.u64.wrap (IntKind.i64.wrap ((8 : Int) * (i2.tmod (8 : Int))))))))], hR 9000 .u8 b_0] (by kernel_rfl) (ih0 ((m1.set (IntKind.i64.wrap (i2.tdiv (8 : Int))).toNat (bor .u64 (m1.getD (IntKind.i64.wrap (i2.tdiv (8 : Int))).toNat 0) (shl .u64 (IntKind.u64.wrap (b_0.getD i2.toNat 0)) (IntKind.u64.wrap (IntKind.i64.wrap ((8 : Int) * (i2.tmod (8 : Int)))))))), (IntKind.i64.wrap (i2 + (1 : Int)))) h)
    · refine tr_cond_f (decide (i2 < (↑(List.length b_0) : Int))) (by kernel_rfl) hc4 ?_
      refine tr_exit ?_
      refine q_k_exit ?_
      refine q_kr_exit ?_
      have h := Option.some.inj h
      subst h
      exact q_less [.s 2, .s 3, .h 0, .h 1] [sO 2 (.ptr 0 0), sO 3 (.ptr 1 0), hB 0 22 [.arr .u8 32 (List.replicate 32 0)], hB 1 75 [.arr .u64 8 m1]] (by kernel_rfl) hx0

theorem ref04_times_ok (a_0 : List Int) (b_1 : List Int) (r : List Int) (h : ref04_times a_0 b_1 = some r) {pre : List (Nat × Ent)} : CallOk P 77 [.v (.agg [.arr .u64 4 a_0]), .v (.agg [.arr .u64 4 b_1])] pre (.v (.agg [.arr .u64 8 r])) [] := by
  refine call0 (N := 63) Try.func77 (by kernel_rfl) rfl rfl rfl pre ?_
  intro _ w
  show Tr P (Ge w) 63 _ _ _ (RetQ P Try.f77 (R0 _ w))
  unfold ref04_times at h
  refine tr_seq ?_
  refine tr_reg hT [(0, .key 0), (1, .key 1), (2, .key 2)] [.s 2, .s 3, .s 4, .h 0, .h 1, .h 2] [sO 2 (.ptr 0 0), sO 3 (.ptr 1 0), sO 4 (.ptr 2 0), hB 0 31 [.arr .u64 4 a_0], hB 1 31 [.arr .u64 4 b_1], hB 2 75 [.arr .u64 8 (List.replicate 8 0)]] [] (by kernel_rfl) trivial ?_
  refine q_k ?_
  refine tr_seq ?_
  refine tr_reg hT [(0, .key 3)] [.s 2, .s 3, .s 4, .s 5, .h 0, .h 1, .h 2, .h 3] [sO 2 (.ptr 0 0), sO 3 (.ptr 1 0), sO 4 (.ptr 2 0), sO 5 (.ptr 3 0), hB 0 31 [.arr .u64 4 a_0], hB 1 31 [.arr .u64 4 b_1], hB 2 75 [.arr .u64 8 (List.replicate 8 0)], hB 3 75 [.arr .u64 8 (List.replicate 8 0)]] [] (by kernel_rfl) trivial ?_
  refine q_k ?_
  refine tr_seq ?_
  refine tr_seq ?_
  refine tr_reg hT [] [.s 2, .s 3, .s 4, .s 5, .s 6, .h 0, .h 1, .h 2, .h 3] [sO 2 (.ptr 0 0), sO 3 (.ptr 1 0), sO 4 (.ptr 2 0), sO 5 (.ptr 3 0), sI 6 .i64 (0 : Int), hB 0 31 [.arr .u64 4 a_0], hB 1 31 [.arr .u64 4 b_1], hB 2 75 [.arr .u64 8 (List.replicate 8 0)], hB 3 75 [.arr .u64 8 (List.replicate 8 0)]] [] (by kernel_rfl) trivial ?_
  refine q_k ?_
  refine tr_block ?_
  obtain ⟨m3, e29, h⟩ := bind_some h
  refine tr_fit [] [sO 2 (.ptr 0 0), sO 3 (.ptr 1 0), sO 4 (.ptr 2 0), sO 5 (.ptr 3 0), sI 6 .i64 (0 : Int), hB 0 31 [.arr .u64 4 a_0], hB 1 31 [.arr .u64 4 b_1], hB 2 75 [.arr .u64 8 (List.replicate 8 0)], hB 3 75 [.arr .u64 8 (List.replicate 8 0)]] [(0, .blk 31 [.arr .u64 4 a_0]), (1, .blk 31 [.arr .u64 4 b_1]), (2, .blk 75 [.arr .u64 8 (List.replicate 8 0)]), (3, .blk 75 [.arr .u64 8 (List.replicate 8 0)])] (by kernel_rfl) (by kernel_rfl) (by kernel_rfl) rfl ⟨.blk (by kernel_rfl) (by kernel_rfl), .blk (by kernel_rfl) (by kernel_rfl), .blk (by kernel_rfl) (by kernel_rfl), .blk (by kernel_rfl) (by kernel_rfl), trivial⟩ (by kernel_rfl) ?_
  refine tr_loop_fuel (id := 0) (α := List Int × Int) (β := List Int) (fun z => [sO 2 (.ptr 0 0), sO 3 (.ptr 1 0), sO 4 (.ptr 2 0), sO 5 (.ptr 3 0), sI 6 .i64 z.2, hB 0 31 [.arr .u64 4 a_0], hB 1 31 [.arr .u64 4 b_1], hB 2 75 [.arr .u64 8 (List.replicate 8 0)], hB 3 75 [.arr .u64 8 z.1]]) (fun z => [sO 4 (.ptr 2 0), sO 5 (.ptr 3 0), hB 2 75 [.arr .u64 8 (List.replicate 8 0)], hB 3 75 [.arr .u64 8 z]]) (fun k z => ref04_times_l0 a_0 b_1 k z.1 z.2) m3 (fun _ => rfl) (((4 : Int) - (0 : Int)).toNat + 1) ((List.replicate 8 0), (0 : Int)) e29 ?_ ?_
  · skip
    replace h : (some m3) = _ := h
    refine q_b_this ?_
    refine q_k ?_
    refine tr_seq ?_
    refine tr_reg hT [] [.s 4, .h 2] [sO 4 (.ptr 2 0), hB 2 75 [.arr .u64 8 m3]] [] (by kernel_rfl) trivial ?_
    refine q_k ?_
    refine tr_ret ?_
    have h := Option.some.inj h
    subst h
    exact q_ret0 hT (.v (.agg [.arr .u64 8 m3])) rfl (by kernel_rfl)
  · clear h e29
    intro k ih0 hx0 z h
    obtain ⟨m1, i2⟩ := z
    replace h : (if (decide (i2 < (4 : Int))) = true then (ref04_times_l1 a_0 b_1 i2 (((4 : Int) - (0 : Int)).toNat + 1) m1 (0 : Int) (0 : Int)).bind (fun (m8, carry9) => if 0 ≤ (IntKind.i64.wrap (i2 + (4 : Int))) ∧ (IntKind.i64.wrap (i2 + (4 : Int))) < ((8 : Nat) : Int) then ref04_times_l0 a_0 b_1 k (m8.set (IntKind.i64.wrap (i2 + (4 : Int))).toNat carry9) (IntKind.i64.wrap (i2 + (1 : Int))) else none) else some m1) = _ := h
    refine tr_seq ?_
    refine tr_seq ?_
    refine tr_reg hT [] [.s 2, .s 3, .s 4, .s 5, .s 6, .s 13, .h 0, .h 1, .h 2, .h 3] [sO 2 (.ptr 0 0), sO 3 (.ptr 1 0), sO 4 (.ptr 2 0), sO 5 (.ptr 3 0), sI 6 .i64 i2, sB 13 (decide (i2 < (4 : Int))), hB 0 31 [.arr .u64 4 a_0], hB 1 31 [.arr .u64 4 b_1], hB 2 75 [.arr .u64 8 (List.replicate 8 0)], hB 3 75 [.arr .u64 8 m1]] [] (by kernel_rfl) trivial ?_
    refine q_k ?_
    rcases ite_split h with ⟨hc4, h⟩ | ⟨hc4, h⟩
    · refine tr_cond_t (decide (i2 < (4 : Int))) (by kernel_rfl) hc4 ?_
      refine tr_skip ?_
      refine q_k ?_
      refine tr_seq ?_
      refine tr_block ?_
      refine tr_seq ?_
      refine tr_reg hT [] [.s 2, .s 3, .s 4, .s 5, .s 6, .s 7, .h 0, .h 1, .h 2, .h 3] [sO 2 (.ptr 0 0), sO 3 (.ptr 1 0), sO 4 (.ptr 2 0), sO 5 (.ptr 3 0), sI 6 .i64 i2, sI 7 .u64 (0 : Int), hB 0 31 [.arr .u64 4 a_0], hB 1 31 [.arr .u64 4 b_1], hB 2 75 [.arr .u64 8 (List.replicate 8 0)], hB 3 75 [.arr .u64 8 m1]] [] (by kernel_rfl) trivial ?_
      refine q_k ?_
      refine tr_seq ?_
      refine tr_seq ?_
      refine tr_reg hT [] [.s 2, .s 3, .s 4, .s 5, .s 6, .s 7, .s 8, .h 0, .h 1, .h 2, .h 3] [sO 2 (.ptr 0 0), sO 3 (.ptr 1 0), sO 4 (.ptr 2 0), sO 5 (.ptr 3 0), sI 6 .i64 i2, sI 7 .u64 (0 : Int), sI 8 .i64 (0 : Int), hB 0 31 [.arr .u64 4 a_0], hB 1 31 [.arr .u64 4 b_1], hB 2 75 [.arr .u64 8 (List.replicate 8 0)], hB 3 75 [.arr .u64 8 m1]] [] (by kernel_rfl) trivial ?_
      refine q_k ?_
      refine tr_block ?_
      obtain ⟨rr1, e27, h⟩ := bind_some h
      refine tr_fit [] [sO 2 (.ptr 0 0), sO 3 (.ptr 1 0), sO 4 (.ptr 2 0), sO 5 (.ptr 3 0), sI 6 .i64 i2, sI 7 .u64 (0 : Int), sI 8 .i64 (0 : Int), hB 0 31 [.arr .u64 4 a_0], hB 1 31 [.arr .u64 4 b_1], hB 2 75 [.arr .u64 8 (List.replicate 8 0)], hB 3 75 [.arr .u64 8 m1]] [(0, .blk 31 [.arr .u64 4 a_0]), (1, .blk 31 [.arr .u64 4 b_1]), (2, .blk 75 [.arr .u64 8 (List.replicate 8 0)]), (3, .blk 75 [.arr .u64 8 m1])] (by kernel_rfl) (by kernel_rfl) (by kernel_rfl) rfl ⟨.blk (by kernel_rfl) (by kernel_rfl), .blk (by kernel_rfl) (by kernel_rfl), .blk (by kernel_rfl) (by kernel_rfl), .blk (by kernel_rfl) (by kernel_rfl), trivial⟩ (by kernel_rfl) ?_
      refine tr_loop_fuel (id := 2) (α := List Int × Int × Int) (β := List Int × Int) (fun z => [sO 2 (.ptr 0 0), sO 3 (.ptr 1 0), sO 4 (.ptr 2 0), sO 5 (.ptr 3 0), sI 6 .i64 i2, sI 7 .u64 z.2.1, sI 8 .i64 z.2.2, hB 0 31 [.arr .u64 4 a_0], hB 1 31 [.arr .u64 4 b_1], hB 2 75 [.arr .u64 8 (List.replicate 8 0)], hB 3 75 [.arr .u64 8 z.1]]) (fun z => [sO 2 (.ptr 0 0), sO 3 (.ptr 1 0), sO 4 (.ptr 2 0), sO 5 (.ptr 3 0), sI 6 .i64 i2, sI 7 .u64 z.2, hB 0 31 [.arr .u64 4 a_0], hB 1 31 [.arr .u64 4 b_1], hB 2 75 [.arr .u64 8 (List.replicate 8 0)], hB 3 75 [.arr .u64 8 z.1]]) (fun k z => ref04_times_l1 a_0 b_1 i2 k z.1 z.2.1 z.2.2) rr1 (fun _ => rfl) (((4 : Int) - (0 : Int)).toNat + 1) (m1, (0 : Int), (0 : Int)) e27 ?_ ?_
      · rcases rr1 with ⟨m8, carry9⟩
        replace h : (if 0 ≤ (IntKind.i64.wrap (i2 + (4 : Int))) ∧ (IntKind.i64.wrap (i2 + (4 : Int))) < ((8 : Nat) : Int) then ref04_times_l0 a_0 b_1 k (m8.set (IntKind.i64.wrap (i2 + (4 : Int))).toNat carry9) (IntKind.i64.wrap (i2 + (1 : Int))) else none) = _ := h
        refine q_b_this ?_
        refine q_k ?_
        obtain ⟨hn28, h⟩ := ite_some h
        refine tr_reg hT [] [.s 2, .s 3, .s 4, .s 5, .s 6, .h 0, .h 1, .h 2, .h 3] [sO 2 (.ptr 0 0), sO 3 (.ptr 1 0), sO 4 (.ptr 2 0), sO 5 (.ptr 3 0), sI 6 .i64 i2, hB 0 31 [.arr .u64 4 a_0], hB 1 31 [.arr .u64 4 b_1], hB 2 75 [.arr .u64 8 (List.replicate 8 0)], hB 3 75 [.arr .u64 8 (m8.set (IntKind.i64.wrap (i2 + (4 : Int))).toNat carry9)]] [0 ≤ (IntKind.i64.wrap (i2 + (4 : Int))) ∧ (IntKind.i64.wrap (i2 + (4 : Int))) < ((8 : Nat) : Int)] (by kernel_rfl) (hone hn28) ?_
        refine q_b 1 ?_
        refine q_k ?_
        refine tr_reg hT [] [.s 2, .s 3, .s 4, .s 5, .s 6, .h 0, .h 1, .h 2, .h 3] [sO 2 (.ptr 0 0), sO 3 (.ptr 1 0), sO 4 (.ptr 2 0), sO 5 (.ptr 3 0), sI 6 .i64 (IntKind.i64.wrap (i2 + (1 : Int))), hB 0 31 [.arr .u64 4 a_0], hB 1 31 [.arr .u64 4 b_1], hB 2 75 [.arr .u64 8 (List.replicate 8 0)], hB 3 75 [.arr .u64 8 (m8.set (IntKind.i64.wrap (i2 + (4 : Int))).toNat carry9)]] [] (by kernel_rfl) trivial ?_
        refine q_kr ?_
        exact trR_less [.s 2, .s 3, .s 4, .s 5, .s 6, .h 0, .h 1, .h 2, .h 3] [sO 2 (.ptr 0 0), sO 3 (.ptr 1 0), sO 4 (.ptr 2 0), sO 5 (.ptr 3 0), sI 6 .i64 (IntKind.i64.wrap (i2 + (1 : Int))), hB 0 31 [.arr .u64 4 a_0], hB 1 31 [.arr .u64 4 b_1], hB 2 75 [.arr .u64 8 (List.replicate 8 0)], hB 3 75 [.arr .u64 8 (m8.set (IntKind.i64.wrap (i2 + (4 : Int))).toNat carry9)]] (by kernel_rfl) (ih0 ((m8.set (IntKind.i64.wrap (i2 + (4 : Int))).toNat carry9), (IntKind.i64.wrap (i2 + (1 : Int)))) h)
      · clear h e27
        intro k ih1 hx1 z h
        obtain ⟨m5, carry6, k7⟩ := z
        replace h : (if (decide (k7 < (4 : Int))) = true then if 0 ≤ i2 ∧ i2 < ((4 : Nat) : Int) then if 0 ≤ k7 ∧ k7 < ((4 : Nat) : Int) then (math_bits_Mul64 (a_0.getD i2.toNat 0) (b_1.getD k7.toNat 0)).bind (fun (r13, r14) => if 0 ≤ (IntKind.i64.wrap (i2 + k7)) ∧ (IntKind.i64.wrap (i2 + k7)) < ((8 : Nat) : Int) then (add64 r14 (m5.getD (IntKind.i64.wrap (i2 + k7)).toNat 0) (0 : Int)).bind (fun (r18, r19) => (add64 r18 carry6 (0 : Int)).bind (fun (r22, r23) => if 0 ≤ (IntKind.i64.wrap (i2 + k7)) ∧ (IntKind.i64.wrap (i2 + k7)) < ((8 : Nat) : Int) then ref04_times_l1 a_0 b_1 i2 k (m5.set (IntKind.i64.wrap (i2 + k7)).toNat r22) (IntKind.u64.wrap ((IntKind.u64.wrap (r13 + r19)) + r23)) (IntKind.i64.wrap (k7 + (1 : Int))) else none)) else none) else none else none else some (m5, carry6)) = _ := h
        refine tr_seq ?_
        refine tr_seq ?_
        refine tr_reg hT [] [.s 2, .s 3, .s 4, .s 5, .s 6, .s 7, .s 8, .s 17, .h 0, .h 1, .h 2, .h 3] [sO 2 (.ptr 0 0), sO 3 (.ptr 1 0), sO 4 (.ptr 2 0), sO 5 (.ptr 3 0), sI 6 .i64 i2, sI 7 .u64 carry6, sI 8 .i64 k7, sB 17 (decide (k7 < (4 : Int))), hB 0 31 [.arr .u64 4 a_0], hB 1 31 [.arr .u64 4 b_1], hB 2 75 [.arr .u64 8 (List.replicate 8 0)], hB 3 75 [.arr .u64 8 m5]] [] (by kernel_rfl) trivial ?_
        refine q_k ?_
        rcases ite_split h with ⟨hc10, h⟩ | ⟨hc10, h⟩
        · refine tr_cond_t (decide (k7 < (4 : Int))) (by kernel_rfl) hc10 ?_
          refine tr_skip ?_
          refine q_k ?_
          refine tr_seq ?_
          refine tr_block ?_
          refine tr_seq ?_
          obtain ⟨hn11, h⟩ := ite_some h
          obtain ⟨hn12, h⟩ := ite_some h
          obtain ⟨⟨r13, r14⟩, e15, h⟩ := bind_some h
          refine tr_regd hT hM [(6, .call [] (.tup [.one (.int .u64 r13), .one (.int .u64 r14)]) [])] [.s 2, .s 3, .s 4, .s 5, .s 6, .s 7, .s 8, .s 9, .s 10, .h 0, .h 1, .h 2, .h 3] [sO 2 (.ptr 0 0), sO 3 (.ptr 1 0), sO 4 (.ptr 2 0), sO 5 (.ptr 3 0), sI 6 .i64 i2, sI 7 .u64 carry6, sI 8 .i64 k7, sI 9 .u64 r13, sI 10 .u64 r14, hB 0 31 [.arr .u64 4 a_0], hB 1 31 [.arr .u64 4 b_1], hB 2 75 [.arr .u64 8 (List.replicate 8 0)], hB 3 75 [.arr .u64 8 m5]] [0 ≤ i2 ∧ i2 < ((4 : Nat) : Int), 0 ≤ k7 ∧ k7 < ((4 : Nat) : Int), CallOk P 100 [.v (.one (.int .u64 (a_0.getD i2.toNat 0))), .v (.one (.int .u64 (b_1.getD k7.toNat 0)))] [] (.tup [.one (.int .u64 r13), .one (.int .u64 r14)]) []] (by kernel_rfl) (hcons hn11 (hcons hn12 (hone (math_bits_Mul64_ok (a_0.getD i2.toNat 0) (b_1.getD k7.toNat 0) (r13, r14) e15)))) ?_
          refine q_k ?_
          refine tr_seq ?_
          obtain ⟨hn17, h⟩ := ite_some h
          obtain ⟨⟨r18, r19⟩, e20, h⟩ := bind_some h
          refine tr_reg hT [(6, .call [] (.tup [.one (.int .u64 r18), .one (.int .u64 r19)]) [])] [.s 2, .s 3, .s 4, .s 5, .s 6, .s 7, .s 8, .s 9, .s 10, .s 11, .h 0, .h 1, .h 2, .h 3] [sO 2 (.ptr 0 0), sO 3 (.ptr 1 0), sO 4 (.ptr 2 0), sO 5 (.ptr 3 0), sI 6 .i64 i2, sI 7 .u64 carry6, sI 8 .i64 k7, sI 9 .u64 r13, sI 10 .u64 r18, sI 11 .u64 r19, hB 0 31 [.arr .u64 4 a_0], hB 1 31 [.arr .u64 4 b_1], hB 2 75 [.arr .u64 8 (List.replicate 8 0)], hB 3 75 [.arr .u64 8 m5]] [0 ≤ (IntKind.i64.wrap (i2 + k7)) ∧ (IntKind.i64.wrap (i2 + k7)) < ((8 : Nat) : Int), CallOk P 78 [.v (.one (.int .u64 r14)), .v (.one (.int .u64 (m5.getD (IntKind.i64.wrap (i2 + k7)).toNat 0))), .v (.one (.int .u64 (0 : Int)))] [] (.tup [.one (.int .u64 r18), .one (.int .u64 r19)]) []] (by kernel_rfl) (hcons hn17 (hone (bits_Add64_ok r14 (m5.getD (IntKind.i64.wrap (i2 + k7)).toNat 0) (0 : Int) (r18, r19) e20))) ?_
          refine q_k ?_
          refine tr_seq ?_
          refine tr_reg hT [] [.s 2, .s 3, .s 4, .s 5, .s 6, .s 7, .s 8, .s 9, .s 10, .h 0, .h 1, .h 2, .h 3] [sO 2 (.ptr 0 0), sO 3 (.ptr 1 0), sO 4 (.ptr 2 0), sO 5 (.ptr 3 0), sI 6 .i64 i2, sI 7 .u64 carry6, sI 8 .i64 k7, sI 9 .u64 (IntKind.u64.wrap (r13 + r19)), sI 10 .u64 r18, hB 0 31 [.arr .u64 4 a_0], hB 1 31 [.arr .u64 4 b_1], hB 2 75 [.arr .u64 8 (List.replicate 8 0)], hB 3 75 [.arr .u64 8 m5]] [] (by kernel_rfl) trivial ?_
          refine q_k ?_
          refine tr_seq ?_
          obtain ⟨⟨r22, r23⟩, e24, h⟩ := bind_some h
          refine tr_reg hT [(2, .call [] (.tup [.one (.int .u64 r22), .one (.int .u64 r23)]) [])] [.s 2, .s 3, .s 4, .s 5, .s 6, .s 8, .s 9, .s 10, .s 11, .h 0, .h 1, .h 2, .h 3] [sO 2 (.ptr 0 0), sO 3 (.ptr 1 0), sO 4 (.ptr 2 0), sO 5 (.ptr 3 0), sI 6 .i64 i2, sI 8 .i64 k7, sI 9 .u64 (IntKind.u64.wrap (r13 + r19)), sI 10 .u64 r22, sI 11 .u64 r23, hB 0 31 [.arr .u64 4 a_0], hB 1 31 [.arr .u64 4 b_1], hB 2 75 [.arr .u64 8 (List.replicate 8 0)], hB 3 75 [.arr .u64 8 m5]] [CallOk P 78 [.v (.one (.int .u64 r18)), .v (.one (.int .u64 carry6)), .v (.one (.int .u64 (0 : Int)))] [] (.tup [.one (.int .u64 r22), .one (.int .u64 r23)]) []] (by kernel_rfl) (hone (bits_Add64_ok r18 carry6 (0 : Int) (r22, r23) e24)) ?_
          refine q_k ?_
          refine tr_seq ?_
          refine tr_reg hT [] [.s 2, .s 3, .s 4, .s 5, .s 6, .s 8, .s 9, .s 10, .h 0, .h 1, .h 2, .h 3] [sO 2 (.ptr 0 0), sO 3 (.ptr 1 0), sO 4 (.ptr 2 0), sO 5 (.ptr 3 0), sI 6 .i64 i2, sI 8 .i64 k7, sI 9 .u64 (IntKind.u64.wrap ((IntKind.u64.wrap (r13 + r19)) + r23)), sI 10 .u64 r22, hB 0 31 [.arr .u64 4 a_0], hB 1 31 [.arr .u64 4 b_1], hB 2 75 [.arr .u64 8 (List.replicate 8 0)], hB 3 75 [.arr .u64 8 m5]] [] (by kernel_rfl) trivial ?_
          refine q_k ?_
          obtain ⟨hn26, h⟩ := ite_some h
          refine tr_reg hT [] [.s 2, .s 3, .s 4, .s 5, .s 6, .s 7, .s 8, .h 0, .h 1, .h 2, .h 3] [sO 2 (.ptr 0 0), sO 3 (.ptr 1 0), sO 4 (.ptr 2 0), sO 5 (.ptr 3 0), sI 6 .i64 i2, sI 7 .u64 (IntKind.u64.wrap ((IntKind.u64.wrap (r13 + r19)) + r23)), sI 8 .i64 k7, hB 0 31 [.arr .u64 4 a_0], hB 1 31 [.arr .u64 4 b_1], hB 2 75 [.arr .u64 8 (List.replicate 8 0)], hB 3 75 [.arr .u64 8 (m5.set (IntKind.i64.wrap (i2 + k7)).toNat r22)]] [0 ≤ (IntKind.i64.wrap (i2 + k7)) ∧ (IntKind.i64.wrap (i2 + k7)) < ((8 : Nat) : Int)] (by kernel_rfl) (hone hn26) ?_
          refine q_b 3 ?_
          refine q_k ?_
          refine tr_reg hT [] [.s 2, .s 3, .s 4, .s 5, .s 6, .s 7, .s 8, .h 0, .h 1, .h 2, .h 3] [sO 2 (.ptr 0 0), sO 3 (.ptr 1 0), sO 4 (.ptr 2 0), sO 5 (.ptr 3 0), sI 6 .i64 i2, sI 7 .u64 (IntKind.u64.wrap ((IntKind.u64.wrap (r13 + r19)) + r23)), sI 8 .i64 (IntKind.i64.wrap (k7 + (1 : Int))), hB 0 31 [.arr .u64 4 a_0], hB 1 31 [.arr .u64 4 b_1], hB 2 75 [.arr .u64 8 (List.replicate 8 0)], hB 3 75 [.arr .u64 8 (m5.set (IntKind.i64.wrap (i2 + k7)).toNat r22)]] [] (by kernel_rfl) trivial ?_
          refine q_kr ?_
          exact trR_less [.s 2, .s 3, .s 4, .s 5, .s 6, .s 7, .s 8, .h 0, .h 1, .h 2, .h 3] [sO 2 (.ptr 0 0), sO 3 (.ptr 1 0), sO 4 (.ptr 2 0), sO 5 (.ptr 3 0), sI 6 .i64 i2, sI 7 .u64 (IntKind.u64.wrap ((IntKind.u64.wrap (r13 + r19)) + r23)), sI 8 .i64 (IntKind.i64.wrap (k7 + (1 : Int))), hB 0 31 [.arr .u64 4 a_0], hB 1 31 [.arr .u64 4 b_1], hB 2 75 [.arr .u64 8 (List.replicate 8 0)], hB 3 75 [.arr .u64 8 (m5.set (IntKind.i64.wrap (i2 + k7)).toNat r22)]] (by kernel_rfl) (ih1 ((m5.set (IntKind.i64.wrap (i2 + k7)).toNat r22), (IntKind.u64.wrap ((IntKind.u64.wrap (r13 + r19)) + r23)), (IntKind.i64.wrap (k7 + (1 : Int)))) h)
        · refine tr_cond_f (decide (k7 < (4 : Int))) (by kernel_rfl) hc10 ?_
          refine tr_exit ?_
          refine q_k_exit ?_
          refine q_kr_exit ?_
          have h := Option.some.inj h
          subst h
          exact q_less [.s 2, .s 3, .s 4, .s 5, .s 6, .s 7, .h 0, .h 1, .h 2, .h 3] [sO 2 (.ptr 0 0), sO 3 (.ptr 1 0), sO 4 (.ptr 2 0), sO 5 (.ptr 3 0), sI 6 .i64 i2, sI 7 .u64 carry6, hB 0 31 [.arr .u64 4 a_0], hB 1 31 [.arr .u64 4 b_1], hB 2 75 [.arr .u64 8 (List.replicate 8 0)], hB 3 75 [.arr .u64 8 m5]] (by kernel_rfl) hx1
    · refine tr_cond_f (decide (i2 < (4 : Int))) (by kernel_rfl) hc4 ?_
      refine tr_exit ?_
      refine q_k_exit ?_
      refine q_kr_exit ?_
      have h := Option.some.inj h
      subst h
      exact q_less [.s 4, .s 5, .h 2, .h 3] [sO 4 (.ptr 2 0), sO 5 (.ptr 3 0), hB 2 75 [.arr .u64 8 (List.replicate 8 0)], hB 3 75 [.arr .u64 8 m1]] (by kernel_rfl) hx0

theorem ref04_MulAdd_ok (a_0 : List Int) (b_1 : List Int) (c_2 : List Int) (r : List Int) (h : ref04_MulAdd a_0 b_1 c_2 = some r) {pre : List (Nat × Ent)} : CallOk P 39 [.v (.agg [.arr .u8 32 a_0]), .v (.agg [.arr .u8 32 b_1]), .v (.agg [.arr .u8 32 c_2])] pre (.v (.agg [.arr .u8 32 r])) [] := by
  refine call0 (N := 42) Try.func39 (by kernel_rfl) rfl rfl rfl pre ?_
  intro _ w
  show Tr P (Ge w) 42 _ _ _ (RetQ P Try.f39 (R0 _ w))
  unfold ref04_MulAdd at h
  refine tr_seq ?_
  refine tr_reg hT [(0, .key 0), (1, .key 1), (2, .key 2), (3, .key 3)] [.s 3, .s 4, .s 5, .s 6, .h 0, .h 1, .h 2, .h 3] [sO 3 (.ptr 0 0), sO 4 (.ptr 1 0), sO 5 (.ptr 2 0), sO 6 (.ptr 3 0), hB 0 22 [.arr .u8 32 a_0], hB 1 22 [.arr .u8 32 b_1], hB 2 22 [.arr .u8 32 c_2], hB 3 22 [.arr .u8 32 (List.replicate 32 0)]] [] (by kernel_rfl) trivial ?_
  refine q_k ?_
  refine tr_seq ?_
  obtain ⟨a1, e2, h⟩ := bind_some h
  obtain ⟨a3, e4, h⟩ := bind_some h
  obtain ⟨a5, e6, h⟩ := bind_some h
  refine tr_regd hT hM [(1, .call [] (.v (.agg [.arr .u64 4 a1])) []), (3, .call [] (.v (.agg [.arr .u64 4 a3])) []), (4, .call [] (.v (.agg [.arr .u64 8 a5])) []), (5, .key 4)] [.s 5, .s 6, .s 7, .h 2, .h 3, .h 4] [sO 5 (.ptr 2 0), sO 6 (.ptr 3 0), sO 7 (.ptr 4 0), hB 2 22 [.arr .u8 32 c_2], hB 3 22 [.arr .u8 32 (List.replicate 32 0)], hB 4 75 [.arr .u64 8 a5]] [CallOk P 44 [.v (.agg [.arr .u8 32 a_0])] [] (.v (.agg [.arr .u64 4 a1])) [], CallOk P 44 [.v (.agg [.arr .u8 32 b_1])] [] (.v (.agg [.arr .u64 4 a3])) [], CallOk P 77 [.v (.agg [.arr .u64 4 a1]), .v (.agg [.arr .u64 4 a3])] [] (.v (.agg [.arr .u64 8 a5])) []] (by kernel_rfl) (hcons (ref04_Of_ok a_0 a1 e2) (hcons (ref04_Of_ok b_1 a3 e4) (hone (ref04_times_ok a1 a3 a5 e6)))) ?_
  refine q_k ?_
  refine tr_seq ?_
  obtain ⟨a7, e8, h⟩ := bind_some h
  refine tr_reg hT [(1, .call [] (.v (.agg [.arr .u64 4 a7])) []), (2, .key 5)] [.s 6, .s 7, .s 8, .h 3, .h 4, .h 5] [sO 6 (.ptr 3 0), sO 7 (.ptr 4 0), sO 8 (.ptr 5 0), hB 3 22 [.arr .u8 32 (List.replicate 32 0)], hB 4 75 [.arr .u64 8 a5], hB 5 31 [.arr .u64 4 a7]] [CallOk P 44 [.v (.agg [.arr .u8 32 c_2])] [] (.v (.agg [.arr .u64 4 a7])) []] (by kernel_rfl) (hone (ref04_Of_ok c_2 a7 e8)) ?_
  refine q_k ?_
  refine tr_seq ?_
  refine tr_reg hT [] [.s 6, .s 7, .s 8, .s 9, .h 3, .h 4, .h 5] [sO 6 (.ptr 3 0), sO 7 (.ptr 4 0), sO 8 (.ptr 5 0), sI 9 .u64 (0 : Int), hB 3 22 [.arr .u8 32 (List.replicate 32 0)], hB 4 75 [.arr .u64 8 a5], hB 5 31 [.arr .u64 4 a7]] [] (by kernel_rfl) trivial ?_
  refine q_k ?_
  refine tr_seq ?_
  refine tr_seq ?_
  refine tr_reg hT [] [.s 6, .s 7, .s 8, .s 9, .s 10, .h 3, .h 4, .h 5] [sO 6 (.ptr 3 0), sO 7 (.ptr 4 0), sO 8 (.ptr 5 0), sI 9 .u64 (0 : Int), sI 10 .i64 (0 : Int), hB 3 22 [.arr .u8 32 (List.replicate 32 0)], hB 4 75 [.arr .u64 8 a5], hB 5 31 [.arr .u64 4 a7]] [] (by kernel_rfl) trivial ?_
  refine q_k ?_
  refine tr_block ?_
  obtain ⟨m12, e24, h⟩ := bind_some h
  refine tr_fit [] [sO 6 (.ptr 3 0), sO 7 (.ptr 4 0), sO 8 (.ptr 5 0), sI 9 .u64 (0 : Int), sI 10 .i64 (0 : Int), hB 3 22 [.arr .u8 32 (List.replicate 32 0)], hB 4 75 [.arr .u64 8 a5], hB 5 31 [.arr .u64 4 a7]] [(3, .blk 22 [.arr .u8 32 (List.replicate 32 0)]), (4, .blk 75 [.arr .u64 8 a5]), (5, .blk 31 [.arr .u64 4 a7])] (by kernel_rfl) (by kernel_rfl) (by kernel_rfl) rfl ⟨.blk (by kernel_rfl) (by kernel_rfl), .blk (by kernel_rfl) (by kernel_rfl), .blk (by kernel_rfl) (by kernel_rfl), trivial⟩ (by kernel_rfl) ?_
  refine tr_loop_fuel (id := 0) (α := List Int × Int × Int) (β := List Int) (fun z => [sO 6 (.ptr 3 0), sO 7 (.ptr 4 0), sO 8 (.ptr 5 0), sI 9 .u64 z.2.1, sI 10 .i64 z.2.2, hB 3 22 [.arr .u8 32 (List.replicate 32 0)], hB 4 75 [.arr .u64 8 z.1], hB 5 31 [.arr .u64 4 a7]]) (fun z => [sO 6 (.ptr 3 0), sO 7 (.ptr 4 0), hB 3 22 [.arr .u8 32 (List.replicate 32 0)], hB 4 75 [.arr .u64 8 z]]) (fun k z => ref04_MulAdd_l0 a7 k z.1 z.2.1 z.2.2) m12 (fun _ => rfl) (((8 : Int) - (0 : Int)).toNat + 1) (a5, (0 : Int), (0 : Int)) e24 ?_ ?_
  · skip
    replace h : ((ref04_modL m12).bind (fun a25 => (ref04_Bytes a25).bind (fun a27 => some a27))) = _ := h
    refine q_b_this ?_
    refine q_k ?_
    refine tr_seq ?_
    obtain ⟨a25, e26, h⟩ := bind_some h
    obtain ⟨a27, e28, h⟩ := bind_some h
    refine tr_reg hT [(1, .call [] (.v (.agg [.arr .u64 4 a25])) []), (2, .call [] (.v (.agg [.arr .u8 32 a27])) [])] [.s 6, .h 3] [sO 6 (.ptr 3 0), hB 3 22 [.arr .u8 32 a27]] [CallOk P 76 [.v (.agg [.arr .u64 8 m12])] [] (.v (.agg [.arr .u64 4 a25])) [], CallOk P 29 [.v (.agg [.arr .u64 4 a25])] [] (.v (.agg [.arr .u8 32 a27])) []] (by kernel_rfl) (hcons (ref04_modL_ok m12 a25 e26) (hone (ref04_Bytes_ok a25 a27 e28))) ?_
    refine q_k ?_
    refine tr_ret ?_
    have h := Option.some.inj h
    subst h
    exact q_ret0 hT (.v (.agg [.arr .u8 32 a27])) rfl (by kernel_rfl)
  · clear h e24
    intro k ih0 hx0 z h
    obtain ⟨m9, carry10, i11⟩ := z
    replace h : (if (decide (i11 < (8 : Int))) = true then (show Option (Int) from if (decide (i11 < (4 : Int))) = true then if 0 ≤ i11 ∧ i11 < ((4 : Nat) : Int) then some (a7.getD i11.toNat 0) else none else some (0 : Int)).bind (fun x14 => if 0 ≤ i11 ∧ i11 < ((8 : Nat) : Int) then (add64 (m9.getD i11.toNat 0) x14 carry10).bind (fun (r18, r19) => if 0 ≤ i11 ∧ i11 < ((8 : Nat) : Int) then ref04_MulAdd_l0 a7 k (m9.set i11.toNat r18) r19 (IntKind.i64.wrap (i11 + (1 : Int))) else none) else none) else some m9) = _ := h
    refine tr_seq ?_
    refine tr_seq ?_
    refine tr_reg hT [] [.s 6, .s 7, .s 8, .s 9, .s 10, .s 20, .h 3, .h 4, .h 5] [sO 6 (.ptr 3 0), sO 7 (.ptr 4 0), sO 8 (.ptr 5 0), sI 9 .u64 carry10, sI 10 .i64 i11, sB 20 (decide (i11 < (8 : Int))), hB 3 22 [.arr .u8 32 (List.replicate 32 0)], hB 4 75 [.arr .u64 8 m9], hB 5 31 [.arr .u64 4 a7]] [] (by kernel_rfl) trivial ?_
    refine q_k ?_
    rcases ite_split h with ⟨hc13, h⟩ | ⟨hc13, h⟩
    · refine tr_cond_t (decide (i11 < (8 : Int))) (by kernel_rfl) hc13 ?_
      refine tr_skip ?_
      refine q_k ?_
      refine tr_seq ?_
      refine tr_block ?_
      refine tr_seq ?_
      refine tr_reg hT [] [.s 6, .s 7, .s 8, .s 9, .s 10, .s 11, .h 3, .h 4, .h 5] [sO 6 (.ptr 3 0), sO 7 (.ptr 4 0), sO 8 (.ptr 5 0), sI 9 .u64 carry10, sI 10 .i64 i11, sI 11 .u64 (0 : Int), hB 3 22 [.arr .u8 32 (List.replicate 32 0)], hB 4 75 [.arr .u64 8 m9], hB 5 31 [.arr .u64 4 a7]] [] (by kernel_rfl) trivial ?_
      refine q_k ?_
      refine tr_seq ?_
      refine tr_seq ?_
      refine tr_reg hT [] [.s 6, .s 7, .s 8, .s 9, .s 10, .s 11, .s 24, .h 3, .h 4, .h 5] [sO 6 (.ptr 3 0), sO 7 (.ptr 4 0), sO 8 (.ptr 5 0), sI 9 .u64 carry10, sI 10 .i64 i11, sI 11 .u64 (0 : Int), sB 24 (decide (i11 < (4 : Int))), hB 3 22 [.arr .u8 32 (List.replicate 32 0)], hB 4 75 [.arr .u64 8 m9], hB 5 31 [.arr .u64 4 a7]] [] (by kernel_rfl) trivial ?_
      refine q_k ?_
      obtain ⟨x14, e23, h⟩ := bind_some h
      refine tr_join (σ1 := [sO 6 (.ptr 3 0), sO 7 (.ptr 4 0), sO 8 (.ptr 5 0), sI 9 .u64 carry10, sI 10 .i64 i11, sI 11 .u64 x14, hB 3 22 [.arr .u8 32 (List.replicate 32 0)], hB 4 75 [.arr .u64 8 m9], hB 5 31 [.arr .u64 4 a7]]) ?_ ?_
      · skip
        replace h : (if 0 ≤ i11 ∧ i11 < ((8 : Nat) : Int) then (add64 (m9.getD i11.toNat 0) x14 carry10).bind (fun (r18, r19) => if 0 ≤ i11 ∧ i11 < ((8 : Nat) : Int) then ref04_MulAdd_l0 a7 k (m9.set i11.toNat r18) r19 (IntKind.i64.wrap (i11 + (1 : Int))) else none) else none) = _ := h
        refine q_k ?_
        obtain ⟨hn17, h⟩ := ite_some h
        obtain ⟨⟨r18, r19⟩, e20, h⟩ := bind_some h
        obtain ⟨hn22, h⟩ := ite_some h
        refine tr_reg hT [(6, .call [] (.tup [.one (.int .u64 r18), .one (.int .u64 r19)]) [])] [.s 6, .s 7, .s 8, .s 9, .s 10, .h 3, .h 4, .h 5] [sO 6 (.ptr 3 0), sO 7 (.ptr 4 0), sO 8 (.ptr 5 0), sI 9 .u64 r19, sI 10 .i64 i11, hB 3 22 [.arr .u8 32 (List.replicate 32 0)], hB 4 75 [.arr .u64 8 (m9.set i11.toNat r18)], hB 5 31 [.arr .u64 4 a7]] [0 ≤ i11 ∧ i11 < ((8 : Nat) : Int), CallOk P 78 [.v (.one (.int .u64 (m9.getD i11.toNat 0))), .v (.one (.int .u64 x14)), .v (.one (.int .u64 carry10))] [] (.tup [.one (.int .u64 r18), .one (.int .u64 r19)]) [], 0 ≤ i11 ∧ i11 < ((8 : Nat) : Int)] (by kernel_rfl) (hcons hn17 (hcons (bits_Add64_ok (m9.getD i11.toNat 0) x14 carry10 (r18, r19) e20) (hone hn22))) ?_
        refine q_b 1 ?_
        refine q_k ?_
        refine tr_reg hT [] [.s 6, .s 7, .s 8, .s 9, .s 10, .h 3, .h 4, .h 5] [sO 6 (.ptr 3 0), sO 7 (.ptr 4 0), sO 8 (.ptr 5 0), sI 9 .u64 r19, sI 10 .i64 (IntKind.i64.wrap (i11 + (1 : Int))), hB 3 22 [.arr .u8 32 (List.replicate 32 0)], hB 4 75 [.arr .u64 8 (m9.set i11.toNat r18)], hB 5 31 [.arr .u64 4 a7]] [] (by kernel_rfl) trivial ?_
        refine q_kr ?_
        exact trR_less [.s 6, .s 7, .s 8, .s 9, .s 10, .h 3, .h 4, .h 5] [sO 6 (.ptr 3 0), sO 7 (.ptr 4 0), sO 8 (.ptr 5 0), sI 9 .u64 r19, sI 10 .i64 (IntKind.i64.wrap (i11 + (1 : Int))), hB 3 22 [.arr .u8 32 (List.replicate 32 0)], hB 4 75 [.arr .u64 8 (m9.set i11.toNat r18)], hB 5 31 [.arr .u64 4 a7]] (by kernel_rfl) (ih0 ((m9.set i11.toNat r18), r19, (IntKind.i64.wrap (i11 + (1 : Int)))) h)
      · intro hj1
        clear h
        have h := e23
        clear e23
        rcases ite_split h with ⟨hc15, h⟩ | ⟨hc15, h⟩
        · refine tr_cond_t (decide (i11 < (4 : Int))) (by kernel_rfl) hc15 ?_
          obtain ⟨hn16, h⟩ := ite_some h
          refine tr_reg hT [] [.s 6, .s 7, .s 8, .s 9, .s 10, .s 11, .h 3, .h 4, .h 5] [sO 6 (.ptr 3 0), sO 7 (.ptr 4 0), sO 8 (.ptr 5 0), sI 9 .u64 carry10, sI 10 .i64 i11, sI 11 .u64 (a7.getD i11.toNat 0), hB 3 22 [.arr .u8 32 (List.replicate 32 0)], hB 4 75 [.arr .u64 8 m9], hB 5 31 [.arr .u64 4 a7]] [0 ≤ i11 ∧ i11 < ((4 : Nat) : Int)] (by kernel_rfl) (hone hn16) ?_
          have h := Option.some.inj h
          subst h
          exact q_less [.s 6, .s 7, .s 8, .s 9, .s 10, .s 11, .h 3, .h 4, .h 5] [sO 6 (.ptr 3 0), sO 7 (.ptr 4 0), sO 8 (.ptr 5 0), sI 9 .u64 carry10, sI 10 .i64 i11, sI 11 .u64 (a7.getD i11.toNat 0), hB 3 22 [.arr .u8 32 (List.replicate 32 0)], hB 4 75 [.arr .u64 8 m9], hB 5 31 [.arr .u64 4 a7]] (by kernel_rfl) hj1
        · refine tr_cond_f (decide (i11 < (4 : Int))) (by kernel_rfl) hc15 ?_
          refine tr_skip ?_
          have h := Option.some.inj h
          subst h
          exact q_fit [] [sO 6 (.ptr 3 0), sO 7 (.ptr 4 0), sO 8 (.ptr 5 0), sI 9 .u64 carry10, sI 10 .i64 i11, sI 11 .u64 (0 : Int), hB 3 22 [.arr .u8 32 (List.replicate 32 0)], hB 4 75 [.arr .u64 8 m9], hB 5 31 [.arr .u64 4 a7]] [(3, .blk 22 [.arr .u8 32 (List.replicate 32 0)]), (4, .blk 75 [.arr .u64 8 m9]), (5, .blk 31 [.arr .u64 4 a7])] (by kernel_rfl) (by kernel_rfl) (by kernel_rfl) rfl ⟨.blk (by kernel_rfl) (by kernel_rfl), .blk (by kernel_rfl) (by kernel_rfl), .blk (by kernel_rfl) (by kernel_rfl), trivial⟩ (by kernel_rfl) hj1
    · refine tr_cond_f (decide (i11 < (8 : Int))) (by kernel_rfl) hc13 ?_
      refine tr_exit ?_
      refine q_k_exit ?_
      refine q_kr_exit ?_
      have h := Option.some.inj h
      subst h
      exact q_less [.s 6, .s 7, .h 3, .h 4] [sO 6 (.ptr 3 0), sO 7 (.ptr 4 0), hB 3 22 [.arr .u8 32 (List.replicate 32 0)], hB 4 75 [.arr .u64 8 m9]] (by kernel_rfl) hx0

theorem limb_Add_ok (a_0 : List Int) (b_1 : List Int) (r : List Int) (h : limb_Add a_0 b_1 = some r) {pre : List (Nat × Ent)} : CallOk P 79 [.v (.agg [.arr .u64 5 a_0]), .v (.agg [.arr .u64 5 b_1])] pre (.v (.agg [.arr .u64 5 r])) [] := by
  refine call0 (N := 20) Try.func79 (by kernel_rfl) rfl rfl rfl pre ?_
  intro _ w
  show Tr P (Ge w) 20 _ _ _ (RetQ P Try.f79 (R0 _ w))
  unfold limb_Add at h
  refine tr_seq ?_
  refine tr_reg hT [(0, .key 0), (1, .key 1), (2, .key 2)] [.s 2, .s 3, .s 4, .h 0, .h 1, .h 2] [sO 2 (.ptr 0 0), sO 3 (.ptr 1 0), sO 4 (.ptr 2 0), hB 0 71 [.arr .u64 5 a_0], hB 1 71 [.arr .u64 5 b_1], hB 2 71 [.arr .u64 5 (List.replicate 5 0)]] [] (by kernel_rfl) trivial ?_
  refine q_k ?_
  refine tr_seq ?_
  refine tr_seq ?_
  refine tr_reg hT [] [.s 2, .s 3, .s 4, .s 6, .h 0, .h 1, .h 2] [sO 2 (.ptr 0 0), sO 3 (.ptr 1 0), sO 4 (.ptr 2 0), sI 6 .i64 (0 : Int), hB 0 71 [.arr .u64 5 a_0], hB 1 71 [.arr .u64 5 b_1], hB 2 71 [.arr .u64 5 (List.replicate 5 0)]] [] (by kernel_rfl) trivial ?_
  refine q_k ?_
  refine tr_block ?_
  obtain ⟨m3, e8, h⟩ := bind_some h
  refine tr_fit [] [sO 2 (.ptr 0 0), sO 3 (.ptr 1 0), sO 4 (.ptr 2 0), sI 6 .i64 (0 : Int), hB 0 71 [.arr .u64 5 a_0], hB 1 71 [.arr .u64 5 b_1], hB 2 71 [.arr .u64 5 (List.replicate 5 0)]] [(0, .blk 71 [.arr .u64 5 a_0]), (1, .blk 71 [.arr .u64 5 b_1]), (2, .blk 71 [.arr .u64 5 (List.replicate 5 0)])] (by kernel_rfl) (by kernel_rfl) (by kernel_rfl) rfl ⟨.blk (by kernel_rfl) (by kernel_rfl), .blk (by kernel_rfl) (by kernel_rfl), .blk (by kernel_rfl) (by kernel_rfl), trivial⟩ (by kernel_rfl) ?_
  refine tr_loop_fuel (id := 0) (α := List Int × Int) (β := List Int) (fun z => [sO 2 (.ptr 0 0), sO 3 (.ptr 1 0), sO 4 (.ptr 2 0), sI 6 .i64 z.2, hB 0 71 [.arr .u64 5 z.1], hB 1 71 [.arr .u64 5 b_1], hB 2 71 [.arr .u64 5 (List.replicate 5 0)]]) (fun z => [sO 2 (.ptr 0 0), sO 4 (.ptr 2 0), hB 0 71 [.arr .u64 5 z], hB 2 71 [.arr .u64 5 (List.replicate 5 0)]]) (fun k z => limb_Add_l0 b_1 k z.1 z.2) m3 (fun _ => rfl) (((5 : Int) - (0 : Int)).toNat + 1) (a_0, (0 : Int)) e8 ?_ ?_
  · skip
    replace h : ((limb_carried m3).bind (fun a9 => some a9)) = _ := h
    refine q_b_this ?_
    refine q_k ?_
    refine tr_seq ?_
    obtain ⟨a9, e10, h⟩ := bind_some h
    refine tr_reg hT [(1, .call [] (.v (.agg [.arr .u64 5 a9])) [])] [.s 4, .h 2] [sO 4 (.ptr 2 0), hB 2 71 [.arr .u64 5 a9]] [CallOk P 102 [.v (.agg [.arr .u64 5 m3])] [] (.v (.agg [.arr .u64 5 a9])) []] (by kernel_rfl) (hone (limb_carried_ok m3 a9 e10)) ?_
    refine q_k ?_
    refine tr_ret ?_
    have h := Option.some.inj h
    subst h
    exact q_ret0 hT (.v (.agg [.arr .u64 5 a9])) rfl (by kernel_rfl)
  · clear h e8
    intro k ih0 hx0 z h
    obtain ⟨m1, x2⟩ := z
    replace h : (if (decide (x2 < (5 : Int))) = true then if 0 ≤ x2 ∧ x2 < ((5 : Nat) : Int) then if 0 ≤ x2 ∧ x2 < ((5 : Nat) : Int) then if 0 ≤ x2 ∧ x2 < ((5 : Nat) : Int) then limb_Add_l0 b_1 k (m1.set x2.toNat (IntKind.u64.wrap ((m1.getD x2.toNat 0) + (b_1.getD x2.toNat 0)))) (IntKind.i64.wrap (x2 + (1 : Int))) else none else none else none else some m1) = _ := h
    refine tr_seq ?_
    refine tr_reg hT [] [.s 2, .s 3, .s 4, .s 6, .s 7, .h 0, .h 1, .h 2] [sO 2 (.ptr 0 0), sO 3 (.ptr 1 0), sO 4 (.ptr 2 0), sI 6 .i64 x2, sB 7 (decide (x2 < (5 : Int))), hB 0 71 [.arr .u64 5 m1], hB 1 71 [.arr .u64 5 b_1], hB 2 71 [.arr .u64 5 (List.replicate 5 0)]] [] (by kernel_rfl) trivial ?_
    refine q_k ?_
    refine tr_seq ?_
    rcases ite_split h with ⟨hc4, h⟩ | ⟨hc4, h⟩
    · refine tr_cond_t (decide (x2 < (5 : Int))) (by kernel_rfl) hc4 ?_
      refine tr_skip ?_
      refine q_k ?_
      refine tr_seq ?_
      refine tr_block ?_
      refine tr_seq ?_
      refine tr_reg hT [] [.s 2, .s 3, .s 4, .s 5, .s 6, .h 0, .h 1, .h 2] [sO 2 (.ptr 0 0), sO 3 (.ptr 1 0), sO 4 (.ptr 2 0), sI 5 .i64 x2, sI 6 .i64 x2, hB 0 71 [.arr .u64 5 m1], hB 1 71 [.arr .u64 5 b_1], hB 2 71 [.arr .u64 5 (List.replicate 5 0)]] [] (by kernel_rfl) trivial ?_
      refine q_k ?_
      obtain ⟨hn5, h⟩ := ite_some h
      obtain ⟨hn6, h⟩ := ite_some h
      obtain ⟨hn7, h⟩ := ite_some h
      refine tr_regd hT hM [] [.s 2, .s 3, .s 4, .s 6, .h 0, .h 1, .h 2] [sO 2 (.ptr 0 0), sO 3 (.ptr 1 0), sO 4 (.ptr 2 0), sI 6 .i64 x2, hB 0 71 [.arr .u64 5 (m1.set x2.toNat (IntKind.u64.wrap ((m1.getD x2.toNat 0) + (b_1.getD x2.toNat 0))))], hB 1 71 [.arr .u64 5 b_1], hB 2 71 [.arr .u64 5 (List.replicate 5 0)]] [0 ≤ x2 ∧ x2 < ((5 : Nat) : Int), 0 ≤ x2 ∧ x2 < ((5 : Nat) : Int), 0 ≤ x2 ∧ x2 < ((5 : Nat) : Int)] (by kernel_rfl) (hcons hn5 (hcons hn6 (hone hn7))) ?_
      refine q_b 1 ?_
      refine q_k ?_
      refine tr_reg hT [] [.s 2, .s 3, .s 4, .s 6, .h 0, .h 1, .h 2] [sO 2 (.ptr 0 0), sO 3 (.ptr 1 0), sO 4 (.ptr 2 0), sI 6 .i64 (IntKind.i64.wrap (x2 + (1 : Int))), hB 0 71 [.arr .u64 5 (m1.set x2.toNat (IntKind.u64.wrap ((m1.getD x2.toNat 0) + (b_1.getD x2.toNat 0))))], hB 1 71 [.arr .u64 5 b_1], hB 2 71 [.arr .u64 5 (List.replicate 5 0)]] [] (by kernel_rfl) trivial ?_
      refine q_kr ?_
      exact trR_less [.s 2, .s 3, .s 4, .s 6, .h 0, .h 1, .h 2] [sO 2 (.ptr 0 0), sO 3 (.ptr 1 0), sO 4 (.ptr 2 0), sI 6 .i64 (IntKind.i64.wrap (x2 + (1 : Int))), hB 0 71 [.arr .u64 5 (m1.set x2.toNat (IntKind.u64.wrap ((m1.getD x2.toNat 0) + (b_1.getD x2.toNat 0))))], hB 1 71 [.arr .u64 5 b_1], hB 2 71 [.arr .u64 5 (List.replicate 5 0)]] (by kernel_rfl) (ih0 ((m1.set x2.toNat (IntKind.u64.wrap ((m1.getD x2.toNat 0) + (b_1.getD x2.toNat 0)))), (IntKind.i64.wrap (x2 + (1 : Int)))) h)
    · refine tr_cond_f (decide (x2 < (5 : Int))) (by kernel_rfl) hc4 ?_
      refine tr_exit ?_
      refine q_k_exit ?_
      refine q_kr_exit ?_
      have h := Option.some.inj h
      subst h
      exact q_less [.s 2, .s 4, .h 0, .h 2] [sO 2 (.ptr 0 0), sO 4 (.ptr 2 0), hB 0 71 [.arr .u64 5 m1], hB 2 71 [.arr .u64 5 (List.replicate 5 0)]] (by kernel_rfl) hx0

theorem field_Add_ok (a_0 : List Int) (b_1 : List Int) (r : List Int) (h : field_Add a_0 b_1 = some r) {pre : List (Nat × Ent)} : CallOk P 40 [.v (.agg [.arr .u8 32 a_0]), .v (.agg [.arr .u8 32 b_1])] pre (.v (.agg [.arr .u8 32 r])) [] := by
  refine call0 (N := 11) Try.func40 (by kernel_rfl) rfl rfl rfl pre ?_
  intro _ w
  show Tr P (Ge w) 11 _ _ _ (RetQ P Try.f40 (R0 _ w))
  unfold field_Add at h
  refine tr_seq ?_
  refine tr_reg hT [(0, .key 0), (1, .key 1), (2, .key 2)] [.s 2, .s 3, .s 4, .h 0, .h 1, .h 2] [sO 2 (.ptr 0 0), sO 3 (.ptr 1 0), sO 4 (.ptr 2 0), hB 0 22 [.arr .u8 32 a_0], hB 1 22 [.arr .u8 32 b_1], hB 2 22 [.arr .u8 32 (List.replicate 32 0)]] [] (by kernel_rfl) trivial ?_
  refine q_k ?_
  refine tr_seq ?_
  obtain ⟨a1, e2, h⟩ := bind_some h
  obtain ⟨a3, e4, h⟩ := bind_some h
  obtain ⟨a5, e6, h⟩ := bind_some h
  obtain ⟨a7, e8, h⟩ := bind_some h
  refine tr_regd hT hM [(1, .call [] (.v (.agg [.arr .u64 5 a1])) []), (3, .call [] (.v (.agg [.arr .u64 5 a3])) []), (4, .call [] (.v (.agg [.arr .u64 5 a5])) []), (5, .call [] (.v (.agg [.arr .u8 32 a7])) [])] [.s 4, .h 2] [sO 4 (.ptr 2 0), hB 2 22 [.arr .u8 32 a7]] [CallOk P 72 [.v (.agg [.arr .u8 32 a_0])] [] (.v (.agg [.arr .u64 5 a1])) [], CallOk P 72 [.v (.agg [.arr .u8 32 b_1])] [] (.v (.agg [.arr .u64 5 a3])) [], CallOk P 79 [.v (.agg [.arr .u64 5 a1]), .v (.agg [.arr .u64 5 a3])] [] (.v (.agg [.arr .u64 5 a5])) [], CallOk P 73 [.v (.agg [.arr .u64 5 a5])] [] (.v (.agg [.arr .u8 32 a7])) []] (by kernel_rfl) (hcons (limb_Of_ok a_0 a1 e2) (hcons (limb_Of_ok b_1 a3 e4) (hcons (limb_Add_ok a1 a3 a5 e6) (hone (limb_N_Bytes_ok a5 a7 e8))))) ?_
  refine q_k ?_
  refine tr_ret ?_
  have h := Option.some.inj h
  subst h
  exact q_ret0 hT (.v (.agg [.arr .u8 32 a7])) rfl (by kernel_rfl)

end Go.Proofs.Sb
