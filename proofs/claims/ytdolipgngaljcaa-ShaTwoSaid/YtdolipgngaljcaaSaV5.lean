/- Walks, printed by a program of this session (gowalk.py): each Go function comes to its plain function's answer. -/
import Derived.Test.YtdolipgngaljcaaSaA
import Derived.Test.YtdolipgngaljcaaSaD
import Derived.Test.YtdolipgngaljcaaGwI
import Derived.Test.YtdolipgngaljcaaSaV3
import Derived.Test.YtdolipgngaljcaaSaV4
namespace Go.Proofs.Sa
open Go Go.Gw D
set_option linter.unusedVariables false
set_option maxRecDepth 20000

theorem law01_ShaParts_ok (b_0 : List Int) (at_1 : Int) (mid_2 : Int) (r : Bool) (h : law01_ShaParts b_0 at_1 mid_2 = some r) : CallOk P 20 [.v (.one (.slc 9000)), .v (.one (.int .i64 at_1)), .v (.one (.int .i64 mid_2))] [(9000, .rd .u8 b_0)] (.v (.one (.bool r))) [] := by
  refine call1 (N := 100) Try.func20 (by kernel_rfl) rfl rfl rfl [(9000, .rd .u8 b_0)] (by kernel_rfl) ?_
  intro _ B w0
  show Tr P B 100 w0 _ _ (RetQ P Try.f20 (R1 _ _ B w0))
  unfold law01_ShaParts at h
  refine tr_seq ?_
  refine tr_reg hT [] [.s 0, .s 1, .s 2, .h 9000] [sO 0 (.slc 9000), sI 1 .i64 at_1, sI 2 .i64 mid_2, hR 9000 .u8 b_0] [] (by kernel_rfl) trivial ?_
  refine q_k ?_
  refine tr_seq ?_
  refine tr_seq ?_
  refine tr_reg hT [] [.s 0, .s 1, .s 2, .s 13, .h 9000] [sO 0 (.slc 9000), sI 1 .i64 at_1, sI 2 .i64 mid_2, sB 13 (decide ((↑(List.length b_0) : Int) > (400 : Int))), hR 9000 .u8 b_0] [] (by kernel_rfl) trivial ?_
  refine q_k ?_
  rcases ite_split h with ⟨hc1, h⟩ | ⟨hc1, h⟩
  · refine tr_cond_t (decide ((↑(List.length b_0) : Int) > (400 : Int))) (by kernel_rfl) hc1 ?_
    refine tr_seq ?_
    refine tr_reg hT [] [.s 6] [sB 6 true] [] (by kernel_rfl) trivial ?_
    refine q_k ?_
    refine tr_ret ?_
    refine q_k_ret ?_
    have h := Option.some.inj h
    subst h
    refine q_less [.s 6] [sB 6 true] (by kernel_rfl) ?_
    exact q_ret1 hT (.v (.one (.bool true))) [] (by kernel_rfl) (by kernel_rfl) (by kernel_rfl)
  · refine tr_cond_f (decide ((↑(List.length b_0) : Int) > (400 : Int))) (by kernel_rfl) hc1 ?_
    refine tr_skip ?_
    refine q_k ?_
    refine tr_seq ?_
    obtain ⟨hn2, h⟩ := ite_some h
    refine tr_reg hT [] [.s 0, .s 1, .s 2, .h 9000] [sO 0 (.slc 9000), sI 1 .i64 (IntKind.i64.wrap ((IntKind.u64.wrap at_1).tmod (IntKind.u64.wrap (IntKind.i64.wrap ((↑(List.length b_0) : Int) + (1 : Int)))))), sI 2 .i64 mid_2, hR 9000 .u8 b_0] [(IntKind.u64.wrap (IntKind.i64.wrap ((↑(List.length b_0) : Int) + (1 : Int)))) ≠ 0] (by kernel_rfl) (hone hn2) ?_
    refine q_k ?_
    refine tr_seq ?_
    obtain ⟨hn3, h⟩ := ite_some h
    refine tr_reg hT [] [.s 0, .s 1, .s 2, .h 9000] [sO 0 (.slc 9000), sI 1 .i64 (IntKind.i64.wrap ((IntKind.u64.wrap at_1).tmod (IntKind.u64.wrap (IntKind.i64.wrap ((↑(List.length b_0) : Int) + (1 : Int)))))), sI 2 .i64 (IntKind.i64.wrap ((IntKind.u64.wrap mid_2).tmod (IntKind.u64.wrap (IntKind.i64.wrap ((IntKind.i64.wrap ((IntKind.u64.wrap at_1).tmod (IntKind.u64.wrap (IntKind.i64.wrap ((↑(List.length b_0) : Int) + (1 : Int)))))) + (1 : Int)))))), hR 9000 .u8 b_0] [(IntKind.u64.wrap (IntKind.i64.wrap ((IntKind.i64.wrap ((IntKind.u64.wrap at_1).tmod (IntKind.u64.wrap (IntKind.i64.wrap ((↑(List.length b_0) : Int) + (1 : Int)))))) + (1 : Int)))) ≠ 0] (by kernel_rfl) (hone hn3) ?_
    refine q_k ?_
    refine tr_seq ?_
    obtain ⟨⟨a4, r5⟩, e6, h⟩ := bind_some h
    obtain ⟨⟨a8, r9⟩, e10, h⟩ := bind_some h
    refine tr_reg hT [(0, .call [] (.v (.one (.ptr 0 0))) [(0, .blk 90 [.arr .u32 8 a4, .nils, .int .i64 r5])]), (1, .call [] (.v (.one (.ptr 1 0))) [(1, .blk 90 [.arr .u32 8 a8, .nils, .int .i64 r9])])] [.s 0, .s 1, .s 2, .s 7, .s 8, .h 0, .h 1, .h 9000] [sO 0 (.slc 9000), sI 1 .i64 (IntKind.i64.wrap ((IntKind.u64.wrap at_1).tmod (IntKind.u64.wrap (IntKind.i64.wrap ((↑(List.length b_0) : Int) + (1 : Int)))))), sI 2 .i64 (IntKind.i64.wrap ((IntKind.u64.wrap mid_2).tmod (IntKind.u64.wrap (IntKind.i64.wrap ((IntKind.i64.wrap ((IntKind.u64.wrap at_1).tmod (IntKind.u64.wrap (IntKind.i64.wrap ((↑(List.length b_0) : Int) + (1 : Int)))))) + (1 : Int)))))), sO 7 (.ptr 0 0), sO 8 (.ptr 1 0), hB 0 90 [.arr .u32 8 a4, .nils, .int .i64 r5], hB 1 90 [.arr .u32 8 a8, .nils, .int .i64 r9], hR 9000 .u8 b_0] [CallOk P 45 [] [] (.v (.one (.ptr 0 0))) [(0, .blk 90 [.arr .u32 8 a4, .nils, .int .i64 r5])], CallOk P 45 [] [] (.v (.one (.ptr 1 0))) [(1, .blk 90 [.arr .u32 8 a8, .nils, .int .i64 r9])]] (by kernel_rfl) (hcons ((sha_New_ok  (a4, r5) e6).tr [(8900, .slc 0)] rfl (by kernel_rfl) trivial (by kernel_rfl) (by kernel_rfl) rfl rfl) (hone ((sha_New_ok  (a8, r9) e10).tr [(8900, .slc 1)] rfl (by kernel_rfl) trivial (by kernel_rfl) (by kernel_rfl) rfl rfl))) ?_
    refine q_k ?_
    refine tr_seq ?_
    refine tr_seq ?_
    refine tr_reg hT [] [.s 0, .s 1, .s 2, .s 7, .s 8, .s 36, .h 0, .h 1, .h 9000] [sO 0 (.slc 9000), sI 1 .i64 (IntKind.i64.wrap ((IntKind.u64.wrap at_1).tmod (IntKind.u64.wrap (IntKind.i64.wrap ((↑(List.length b_0) : Int) + (1 : Int)))))), sI 2 .i64 (IntKind.i64.wrap ((IntKind.u64.wrap mid_2).tmod (IntKind.u64.wrap (IntKind.i64.wrap ((IntKind.i64.wrap ((IntKind.u64.wrap at_1).tmod (IntKind.u64.wrap (IntKind.i64.wrap ((↑(List.length b_0) : Int) + (1 : Int)))))) + (1 : Int)))))), sO 7 (.ptr 0 0), sO 8 (.ptr 1 0), sB 36 false, hB 0 90 [.arr .u32 8 a4, .nils, .int .i64 r5], hB 1 90 [.arr .u32 8 a8, .nils, .int .i64 r9], hR 9000 .u8 b_0] [] (by kernel_rfl) trivial ?_
    refine q_k ?_
    refine tr_cond_f false (by kernel_rfl) rfl ?_
    refine tr_skip ?_
    refine q_k ?_
    refine tr_seq ?_
    obtain ⟨hn12, h⟩ := ite_some h
    obtain ⟨⟨a13, a14, r15⟩, e16, h⟩ := bind_some h
    refine tr_reg hT [(3, .key 2), (4, .call [0, 2] (.tup []) [(3, .own 5 .u8 a14), (0, .blk 90 [.arr .u32 8 a13, .slc 3, .int .i64 r15])])] [.s 0, .s 1, .s 2, .s 7, .s 8, .h 0, .h 1, .h 3, .h 9000] [sO 0 (.slc 9000), sI 1 .i64 (IntKind.i64.wrap ((IntKind.u64.wrap at_1).tmod (IntKind.u64.wrap (IntKind.i64.wrap ((↑(List.length b_0) : Int) + (1 : Int)))))), sI 2 .i64 (IntKind.i64.wrap ((IntKind.u64.wrap mid_2).tmod (IntKind.u64.wrap (IntKind.i64.wrap ((IntKind.i64.wrap ((IntKind.u64.wrap at_1).tmod (IntKind.u64.wrap (IntKind.i64.wrap ((↑(List.length b_0) : Int) + (1 : Int)))))) + (1 : Int)))))), sO 7 (.ptr 0 0), sO 8 (.ptr 1 0), hB 0 90 [.arr .u32 8 a13, .slc 3, .int .i64 r15], hB 1 90 [.arr .u32 8 a8, .nils, .int .i64 r9], hO 3 5 .u8 a14, hR 9000 .u8 b_0] [0 ≤ (0 : Int) ∧ (0 : Int) ≤ (IntKind.i64.wrap ((IntKind.u64.wrap mid_2).tmod (IntKind.u64.wrap (IntKind.i64.wrap ((IntKind.i64.wrap ((IntKind.u64.wrap at_1).tmod (IntKind.u64.wrap (IntKind.i64.wrap ((↑(List.length b_0) : Int) + (1 : Int)))))) + (1 : Int)))))) ∧ (IntKind.i64.wrap ((IntKind.u64.wrap mid_2).tmod (IntKind.u64.wrap (IntKind.i64.wrap ((IntKind.i64.wrap ((IntKind.u64.wrap at_1).tmod (IntKind.u64.wrap (IntKind.i64.wrap ((↑(List.length b_0) : Int) + (1 : Int)))))) + (1 : Int)))))) ≤ (↑(List.length b_0) : Int), CallOk P 46 [.v (.one (.ptr 0 0)), .v (.one (.slc 2))] [(0, .blk 90 [.arr .u32 8 a4, .nils, .int .i64 r5]), (2, .rd .u8 ((b_0.take ((IntKind.i64.wrap ((IntKind.u64.wrap mid_2).tmod (IntKind.u64.wrap (IntKind.i64.wrap ((IntKind.i64.wrap ((IntKind.u64.wrap at_1).tmod (IntKind.u64.wrap (IntKind.i64.wrap ((↑(List.length b_0) : Int) + (1 : Int)))))) + (1 : Int)))))).toNat)).drop 0))] (.tup []) [(3, .own 5 .u8 a14), (0, .blk 90 [.arr .u32 8 a13, .slc 3, .int .i64 r15])]] (by kernel_rfl) (hcons hn12 (hone ((sha_Sha_Write_ok a4 [] r5 ((b_0.take ((IntKind.i64.wrap ((IntKind.u64.wrap mid_2).tmod (IntKind.u64.wrap (IntKind.i64.wrap ((IntKind.i64.wrap ((IntKind.u64.wrap at_1).tmod (IntKind.u64.wrap (IntKind.i64.wrap ((↑(List.length b_0) : Int) + (1 : Int)))))) + (1 : Int)))))).toNat)).drop 0) (a13, a14, r15) e16).tr [(9000, .slc 0), (9001, .nils), (9002, .slc 2), (8900, .slc 3)] rfl (by kernel_rfl) ⟨.blk (by kernel_rfl) (by kernel_rfl), .nilrd, .rd (by kernel_rfl), trivial⟩ (by kernel_rfl) (by kernel_rfl) rfl rfl))) ?_
    refine q_k ?_
    refine tr_seq ?_
    obtain ⟨a18, e19, h⟩ := bind_some h
    refine tr_reg hT [(1, .call [0, 3] (.v (.agg [.arr .u8 32 a18])) []), (2, .key 4)] [.s 0, .s 1, .s 2, .s 7, .s 8, .s 9, .h 0, .h 1, .h 3, .h 4, .h 9000] [sO 0 (.slc 9000), sI 1 .i64 (IntKind.i64.wrap ((IntKind.u64.wrap at_1).tmod (IntKind.u64.wrap (IntKind.i64.wrap ((↑(List.length b_0) : Int) + (1 : Int)))))), sI 2 .i64 (IntKind.i64.wrap ((IntKind.u64.wrap mid_2).tmod (IntKind.u64.wrap (IntKind.i64.wrap ((IntKind.i64.wrap ((IntKind.u64.wrap at_1).tmod (IntKind.u64.wrap (IntKind.i64.wrap ((↑(List.length b_0) : Int) + (1 : Int)))))) + (1 : Int)))))), sO 7 (.ptr 0 0), sO 8 (.ptr 1 0), sO 9 (.ptr 4 0), hB 0 90 [.arr .u32 8 a13, .slc 3, .int .i64 r15], hB 1 90 [.arr .u32 8 a8, .nils, .int .i64 r9], hO 3 5 .u8 a14, hB 4 62 [.arr .u8 32 a18], hR 9000 .u8 b_0] [CallOk P 48 [.v (.one (.ptr 0 0))] [(0, .blk 90 [.arr .u32 8 a13, .slc 3, .int .i64 r15]), (3, .own 5 .u8 a14)] (.v (.agg [.arr .u8 32 a18])) []] (by kernel_rfl) (hone ((sha_Sha_Sum_ok a13 a14 r15 a18 e19).tr [(9000, .slc 0), (9001, .slc 3)] rfl (by kernel_rfl) ⟨.blkr (by kernel_rfl) (by kernel_rfl), .ownrd (e := 5) (by kernel_rfl), trivial⟩ (by kernel_rfl) (by kernel_rfl) rfl rfl)) ?_
    refine q_k ?_
    refine tr_seq ?_
    obtain ⟨hn20, h⟩ := ite_some h
    obtain ⟨⟨a21, a22, r23⟩, e24, h⟩ := bind_some h
    refine tr_reg hT [(4, .key 5), (5, .call [0, 3, 5] (.tup []) [(6, .own 5 .u8 a22), (0, .blk 90 [.arr .u32 8 a21, .slc 6, .int .i64 r23])])] [.s 0, .s 1, .s 2, .s 7, .s 8, .s 9, .h 0, .h 1, .h 4, .h 6, .h 9000] [sO 0 (.slc 9000), sI 1 .i64 (IntKind.i64.wrap ((IntKind.u64.wrap at_1).tmod (IntKind.u64.wrap (IntKind.i64.wrap ((↑(List.length b_0) : Int) + (1 : Int)))))), sI 2 .i64 (IntKind.i64.wrap ((IntKind.u64.wrap mid_2).tmod (IntKind.u64.wrap (IntKind.i64.wrap ((IntKind.i64.wrap ((IntKind.u64.wrap at_1).tmod (IntKind.u64.wrap (IntKind.i64.wrap ((↑(List.length b_0) : Int) + (1 : Int)))))) + (1 : Int)))))), sO 7 (.ptr 0 0), sO 8 (.ptr 1 0), sO 9 (.ptr 4 0), hB 0 90 [.arr .u32 8 a21, .slc 6, .int .i64 r23], hB 1 90 [.arr .u32 8 a8, .nils, .int .i64 r9], hB 4 62 [.arr .u8 32 a18], hO 6 5 .u8 a22, hR 9000 .u8 b_0] [0 ≤ (IntKind.i64.wrap ((IntKind.u64.wrap mid_2).tmod (IntKind.u64.wrap (IntKind.i64.wrap ((IntKind.i64.wrap ((IntKind.u64.wrap at_1).tmod (IntKind.u64.wrap (IntKind.i64.wrap ((↑(List.length b_0) : Int) + (1 : Int)))))) + (1 : Int)))))) ∧ (IntKind.i64.wrap ((IntKind.u64.wrap mid_2).tmod (IntKind.u64.wrap (IntKind.i64.wrap ((IntKind.i64.wrap ((IntKind.u64.wrap at_1).tmod (IntKind.u64.wrap (IntKind.i64.wrap ((↑(List.length b_0) : Int) + (1 : Int)))))) + (1 : Int)))))) ≤ (IntKind.i64.wrap ((IntKind.u64.wrap at_1).tmod (IntKind.u64.wrap (IntKind.i64.wrap ((↑(List.length b_0) : Int) + (1 : Int)))))) ∧ (IntKind.i64.wrap ((IntKind.u64.wrap at_1).tmod (IntKind.u64.wrap (IntKind.i64.wrap ((↑(List.length b_0) : Int) + (1 : Int)))))) ≤ (↑(List.length b_0) : Int), CallOk P 46 [.v (.one (.ptr 0 0)), .v (.one (.slc 5))] [(0, .blk 90 [.arr .u32 8 a13, .slc 3, .int .i64 r15]), (3, .own 5 .u8 a14), (5, .rd .u8 ((b_0.take ((IntKind.i64.wrap ((IntKind.u64.wrap at_1).tmod (IntKind.u64.wrap (IntKind.i64.wrap ((↑(List.length b_0) : Int) + (1 : Int)))))).toNat)).drop (IntKind.i64.wrap ((IntKind.u64.wrap mid_2).tmod (IntKind.u64.wrap (IntKind.i64.wrap ((IntKind.i64.wrap ((IntKind.u64.wrap at_1).tmod (IntKind.u64.wrap (IntKind.i64.wrap ((↑(List.length b_0) : Int) + (1 : Int)))))) + (1 : Int)))))).toNat))] (.tup []) [(6, .own 5 .u8 a22), (0, .blk 90 [.arr .u32 8 a21, .slc 6, .int .i64 r23])]] (by kernel_rfl) (hcons hn20 (hone ((sha_Sha_Write_ok a13 a14 r15 ((b_0.take ((IntKind.i64.wrap ((IntKind.u64.wrap at_1).tmod (IntKind.u64.wrap (IntKind.i64.wrap ((↑(List.length b_0) : Int) + (1 : Int)))))).toNat)).drop (IntKind.i64.wrap ((IntKind.u64.wrap mid_2).tmod (IntKind.u64.wrap (IntKind.i64.wrap ((IntKind.i64.wrap ((IntKind.u64.wrap at_1).tmod (IntKind.u64.wrap (IntKind.i64.wrap ((↑(List.length b_0) : Int) + (1 : Int)))))) + (1 : Int)))))).toNat) (a21, a22, r23) e24).tr [(9000, .slc 0), (9001, .slc 3), (9002, .slc 5), (8900, .slc 6)] rfl (by kernel_rfl) ⟨.blk (by kernel_rfl) (by kernel_rfl), .ownrd (e := 5) (by kernel_rfl), .rd (by kernel_rfl), trivial⟩ (by kernel_rfl) (by kernel_rfl) rfl rfl))) ?_
    refine q_k ?_
    refine tr_seq ?_
    obtain ⟨⟨a26, a27, r28⟩, e29, h⟩ := bind_some h
    refine tr_reg hT [(1, .call [0, 6] (.tup []) [(7, .own 5 .u8 a27), (0, .blk 90 [.arr .u32 8 a26, .slc 7, .int .i64 r28])])] [.s 0, .s 1, .s 2, .s 7, .s 8, .s 9, .h 0, .h 1, .h 4, .h 7, .h 9000] [sO 0 (.slc 9000), sI 1 .i64 (IntKind.i64.wrap ((IntKind.u64.wrap at_1).tmod (IntKind.u64.wrap (IntKind.i64.wrap ((↑(List.length b_0) : Int) + (1 : Int)))))), sI 2 .i64 (IntKind.i64.wrap ((IntKind.u64.wrap mid_2).tmod (IntKind.u64.wrap (IntKind.i64.wrap ((IntKind.i64.wrap ((IntKind.u64.wrap at_1).tmod (IntKind.u64.wrap (IntKind.i64.wrap ((↑(List.length b_0) : Int) + (1 : Int)))))) + (1 : Int)))))), sO 7 (.ptr 0 0), sO 8 (.ptr 1 0), sO 9 (.ptr 4 0), hB 0 90 [.arr .u32 8 a26, .slc 7, .int .i64 r28], hB 1 90 [.arr .u32 8 a8, .nils, .int .i64 r9], hB 4 62 [.arr .u8 32 a18], hO 7 5 .u8 a27, hR 9000 .u8 b_0] [CallOk P 46 [.v (.one (.ptr 0 0)), .v (.one (.nils))] [(0, .blk 90 [.arr .u32 8 a21, .slc 6, .int .i64 r23]), (6, .own 5 .u8 a22)] (.tup []) [(7, .own 5 .u8 a27), (0, .blk 90 [.arr .u32 8 a26, .slc 7, .int .i64 r28])]] (by kernel_rfl) (hone ((sha_Sha_Write_ok a21 a22 r23 [] (a26, a27, r28) e29).tr [(9000, .slc 0), (9001, .slc 6), (9002, .nils), (8900, .slc 7)] rfl (by kernel_rfl) ⟨.blk (by kernel_rfl) (by kernel_rfl), .ownrd (e := 5) (by kernel_rfl), .nilrd, trivial⟩ (by kernel_rfl) (by kernel_rfl) rfl rfl)) ?_
    refine q_k ?_
    refine tr_seq ?_
    obtain ⟨a31, e32, h⟩ := bind_some h
    refine tr_reg hT [(1, .call [0, 7] (.v (.agg [.arr .u8 32 a31])) []), (2, .key 8)] [.s 0, .s 1, .s 2, .s 7, .s 8, .s 9, .s 10, .h 0, .h 1, .h 4, .h 7, .h 8, .h 9000] [sO 0 (.slc 9000), sI 1 .i64 (IntKind.i64.wrap ((IntKind.u64.wrap at_1).tmod (IntKind.u64.wrap (IntKind.i64.wrap ((↑(List.length b_0) : Int) + (1 : Int)))))), sI 2 .i64 (IntKind.i64.wrap ((IntKind.u64.wrap mid_2).tmod (IntKind.u64.wrap (IntKind.i64.wrap ((IntKind.i64.wrap ((IntKind.u64.wrap at_1).tmod (IntKind.u64.wrap (IntKind.i64.wrap ((↑(List.length b_0) : Int) + (1 : Int)))))) + (1 : Int)))))), sO 7 (.ptr 0 0), sO 8 (.ptr 1 0), sO 9 (.ptr 4 0), sO 10 (.ptr 8 0), hB 0 90 [.arr .u32 8 a26, .slc 7, .int .i64 r28], hB 1 90 [.arr .u32 8 a8, .nils, .int .i64 r9], hB 4 62 [.arr .u8 32 a18], hO 7 5 .u8 a27, hB 8 62 [.arr .u8 32 a31], hR 9000 .u8 b_0] [CallOk P 48 [.v (.one (.ptr 0 0))] [(0, .blk 90 [.arr .u32 8 a26, .slc 7, .int .i64 r28]), (7, .own 5 .u8 a27)] (.v (.agg [.arr .u8 32 a31])) []] (by kernel_rfl) (hone ((sha_Sha_Sum_ok a26 a27 r28 a31 e32).tr [(9000, .slc 0), (9001, .slc 7)] rfl (by kernel_rfl) ⟨.blkr (by kernel_rfl) (by kernel_rfl), .ownrd (e := 5) (by kernel_rfl), trivial⟩ (by kernel_rfl) (by kernel_rfl) rfl rfl)) ?_
    refine q_k ?_
    refine tr_seq ?_
    obtain ⟨hn33, h⟩ := ite_some h
    obtain ⟨⟨a34, a35, r36⟩, e37, h⟩ := bind_some h
    refine tr_reg hT [(3, .key 9), (4, .call [0, 7, 9] (.tup []) [(10, .own 5 .u8 a35), (0, .blk 90 [.arr .u32 8 a34, .slc 10, .int .i64 r36])])] [.s 0, .s 1, .s 2, .s 7, .s 8, .s 9, .s 10, .h 0, .h 1, .h 4, .h 8, .h 10, .h 9000] [sO 0 (.slc 9000), sI 1 .i64 (IntKind.i64.wrap ((IntKind.u64.wrap at_1).tmod (IntKind.u64.wrap (IntKind.i64.wrap ((↑(List.length b_0) : Int) + (1 : Int)))))), sI 2 .i64 (IntKind.i64.wrap ((IntKind.u64.wrap mid_2).tmod (IntKind.u64.wrap (IntKind.i64.wrap ((IntKind.i64.wrap ((IntKind.u64.wrap at_1).tmod (IntKind.u64.wrap (IntKind.i64.wrap ((↑(List.length b_0) : Int) + (1 : Int)))))) + (1 : Int)))))), sO 7 (.ptr 0 0), sO 8 (.ptr 1 0), sO 9 (.ptr 4 0), sO 10 (.ptr 8 0), hB 0 90 [.arr .u32 8 a34, .slc 10, .int .i64 r36], hB 1 90 [.arr .u32 8 a8, .nils, .int .i64 r9], hB 4 62 [.arr .u8 32 a18], hB 8 62 [.arr .u8 32 a31], hO 10 5 .u8 a35, hR 9000 .u8 b_0] [0 ≤ (IntKind.i64.wrap ((IntKind.u64.wrap at_1).tmod (IntKind.u64.wrap (IntKind.i64.wrap ((↑(List.length b_0) : Int) + (1 : Int)))))) ∧ (IntKind.i64.wrap ((IntKind.u64.wrap at_1).tmod (IntKind.u64.wrap (IntKind.i64.wrap ((↑(List.length b_0) : Int) + (1 : Int)))))) ≤ (↑(List.length b_0) : Int) ∧ (↑(List.length b_0) : Int) ≤ (↑(List.length b_0) : Int), CallOk P 46 [.v (.one (.ptr 0 0)), .v (.one (.slc 9))] [(0, .blk 90 [.arr .u32 8 a26, .slc 7, .int .i64 r28]), (7, .own 5 .u8 a27), (9, .rd .u8 ((b_0.take (((↑(List.length b_0) : Int)).toNat)).drop (IntKind.i64.wrap ((IntKind.u64.wrap at_1).tmod (IntKind.u64.wrap (IntKind.i64.wrap ((↑(List.length b_0) : Int) + (1 : Int)))))).toNat))] (.tup []) [(10, .own 5 .u8 a35), (0, .blk 90 [.arr .u32 8 a34, .slc 10, .int .i64 r36])]] (by kernel_rfl) (hcons hn33 (hone ((sha_Sha_Write_ok a26 a27 r28 ((b_0.take (((↑(List.length b_0) : Int)).toNat)).drop (IntKind.i64.wrap ((IntKind.u64.wrap at_1).tmod (IntKind.u64.wrap (IntKind.i64.wrap ((↑(List.length b_0) : Int) + (1 : Int)))))).toNat) (a34, a35, r36) e37).tr [(9000, .slc 0), (9001, .slc 7), (9002, .slc 9), (8900, .slc 10)] rfl (by kernel_rfl) ⟨.blk (by kernel_rfl) (by kernel_rfl), .ownrd (e := 5) (by kernel_rfl), .rd (by kernel_rfl), trivial⟩ (by kernel_rfl) (by kernel_rfl) rfl rfl))) ?_
    refine q_k ?_
    refine tr_seq ?_
    obtain ⟨⟨a39, a40, r41⟩, e42, h⟩ := bind_some h
    refine tr_reg hT [(2, .call [1, 9000] (.tup []) [(11, .own 5 .u8 a40), (1, .blk 90 [.arr .u32 8 a39, .slc 11, .int .i64 r41])])] [.s 0, .s 1, .s 2, .s 7, .s 8, .s 9, .s 10, .h 0, .h 1, .h 4, .h 8, .h 10, .h 11, .h 9000] [sO 0 (.slc 9000), sI 1 .i64 (IntKind.i64.wrap ((IntKind.u64.wrap at_1).tmod (IntKind.u64.wrap (IntKind.i64.wrap ((↑(List.length b_0) : Int) + (1 : Int)))))), sI 2 .i64 (IntKind.i64.wrap ((IntKind.u64.wrap mid_2).tmod (IntKind.u64.wrap (IntKind.i64.wrap ((IntKind.i64.wrap ((IntKind.u64.wrap at_1).tmod (IntKind.u64.wrap (IntKind.i64.wrap ((↑(List.length b_0) : Int) + (1 : Int)))))) + (1 : Int)))))), sO 7 (.ptr 0 0), sO 8 (.ptr 1 0), sO 9 (.ptr 4 0), sO 10 (.ptr 8 0), hB 0 90 [.arr .u32 8 a34, .slc 10, .int .i64 r36], hB 1 90 [.arr .u32 8 a39, .slc 11, .int .i64 r41], hB 4 62 [.arr .u8 32 a18], hB 8 62 [.arr .u8 32 a31], hO 10 5 .u8 a35, hO 11 5 .u8 a40, hR 9000 .u8 b_0] [CallOk P 46 [.v (.one (.ptr 1 0)), .v (.one (.slc 9000))] [(1, .blk 90 [.arr .u32 8 a8, .nils, .int .i64 r9]), (9000, .rd .u8 b_0)] (.tup []) [(11, .own 5 .u8 a40), (1, .blk 90 [.arr .u32 8 a39, .slc 11, .int .i64 r41])]] (by kernel_rfl) (hone ((sha_Sha_Write_ok a8 [] r9 b_0 (a39, a40, r41) e42).tr [(9000, .slc 1), (9001, .nils), (9002, .slc 9000), (8900, .slc 11)] rfl (by kernel_rfl) ⟨.blk (by kernel_rfl) (by kernel_rfl), .nilrd, .rd (by kernel_rfl), trivial⟩ (by kernel_rfl) (by kernel_rfl) rfl rfl)) ?_
    refine q_k ?_
    refine tr_seq ?_
    obtain ⟨hn44, h⟩ := ite_some h
    obtain ⟨a45, e46, h⟩ := bind_some h
    rcases ite_split h with ⟨hb47, h⟩ | ⟨hb73, h⟩
    · obtain ⟨hn48, h⟩ := ite_some h
      obtain ⟨a49, e50, h⟩ := bind_some h
      rcases ite_split h with ⟨hb51, h⟩ | ⟨hb72, h⟩
      · obtain ⟨a52, e53, h⟩ := bind_some h
        obtain ⟨a54, e55, h⟩ := bind_some h
        rcases ite_split h with ⟨hb56, h⟩ | ⟨hb71, h⟩
        · obtain ⟨a57, e58, h⟩ := bind_some h
          obtain ⟨a59, e60, h⟩ := bind_some h
          rcases ite_split h with ⟨hb61, h⟩ | ⟨hb70, h⟩
          · obtain ⟨r62, e63, h⟩ := bind_some h
            obtain ⟨r64, e65, h⟩ := bind_some h
            rcases ite_split h with ⟨hb66, h⟩ | ⟨hb69, h⟩
            · obtain ⟨b67, e68, h⟩ := bind_some h
              refine tr_regd hT hM [(3, .key 12), (4, .call [12] (.v (.agg [.arr .u8 32 a45])) []), (6, .dec true), (10, .key 13), (11, .call [13] (.v (.agg [.arr .u8 32 a49])) []), (14, .dec true), (16, .call [0, 10] (.v (.agg [.arr .u8 32 a52])) []), (18, .call [1, 11] (.v (.agg [.arr .u8 32 a54])) []), (21, .dec true), (23, .call [0, 10] (.v (.agg [.arr .u8 32 a57])) []), (25, .call [9000] (.v (.agg [.arr .u8 32 a59])) []), (28, .dec true), (30, .call [0, 10] (.v (.one (.int .i64 r62))) []), (32, .call [1, 11] (.v (.one (.int .i64 r64))) []), (35, .dec true), (36, .call [] (.v (.one (.bool b67))) [])] [.s 6] [sB 6 b67] [0 ≤ (0 : Int) ∧ (0 : Int) ≤ (IntKind.i64.wrap ((IntKind.u64.wrap mid_2).tmod (IntKind.u64.wrap (IntKind.i64.wrap ((IntKind.i64.wrap ((IntKind.u64.wrap at_1).tmod (IntKind.u64.wrap (IntKind.i64.wrap ((↑(List.length b_0) : Int) + (1 : Int)))))) + (1 : Int)))))) ∧ (IntKind.i64.wrap ((IntKind.u64.wrap mid_2).tmod (IntKind.u64.wrap (IntKind.i64.wrap ((IntKind.i64.wrap ((IntKind.u64.wrap at_1).tmod (IntKind.u64.wrap (IntKind.i64.wrap ((↑(List.length b_0) : Int) + (1 : Int)))))) + (1 : Int)))))) ≤ (↑(List.length b_0) : Int), CallOk P 42 [.v (.one (.slc 12))] [(12, .rd .u8 ((b_0.take ((IntKind.i64.wrap ((IntKind.u64.wrap mid_2).tmod (IntKind.u64.wrap (IntKind.i64.wrap ((IntKind.i64.wrap ((IntKind.u64.wrap at_1).tmod (IntKind.u64.wrap (IntKind.i64.wrap ((↑(List.length b_0) : Int) + (1 : Int)))))) + (1 : Int)))))).toNat)).drop 0))] (.v (.agg [.arr .u8 32 a45])) [], (decide (a18 = a45)) = true, 0 ≤ (0 : Int) ∧ (0 : Int) ≤ (IntKind.i64.wrap ((IntKind.u64.wrap at_1).tmod (IntKind.u64.wrap (IntKind.i64.wrap ((↑(List.length b_0) : Int) + (1 : Int)))))) ∧ (IntKind.i64.wrap ((IntKind.u64.wrap at_1).tmod (IntKind.u64.wrap (IntKind.i64.wrap ((↑(List.length b_0) : Int) + (1 : Int)))))) ≤ (↑(List.length b_0) : Int), CallOk P 42 [.v (.one (.slc 13))] [(13, .rd .u8 ((b_0.take ((IntKind.i64.wrap ((IntKind.u64.wrap at_1).tmod (IntKind.u64.wrap (IntKind.i64.wrap ((↑(List.length b_0) : Int) + (1 : Int)))))).toNat)).drop 0))] (.v (.agg [.arr .u8 32 a49])) [], (decide (a31 = a49)) = true, CallOk P 48 [.v (.one (.ptr 0 0))] [(0, .blk 90 [.arr .u32 8 a34, .slc 10, .int .i64 r36]), (10, .own 5 .u8 a35)] (.v (.agg [.arr .u8 32 a52])) [], CallOk P 48 [.v (.one (.ptr 1 0))] [(1, .blk 90 [.arr .u32 8 a39, .slc 11, .int .i64 r41]), (11, .own 5 .u8 a40)] (.v (.agg [.arr .u8 32 a54])) [], (decide (a52 = a54)) = true, CallOk P 48 [.v (.one (.ptr 0 0))] [(0, .blk 90 [.arr .u32 8 a34, .slc 10, .int .i64 r36]), (10, .own 5 .u8 a35)] (.v (.agg [.arr .u8 32 a57])) [], CallOk P 42 [.v (.one (.slc 9000))] [(9000, .rd .u8 b_0)] (.v (.agg [.arr .u8 32 a59])) [], (decide (a57 = a59)) = true, CallOk P 47 [.v (.one (.ptr 0 0))] [(0, .blk 90 [.arr .u32 8 a34, .slc 10, .int .i64 r36]), (10, .own 5 .u8 a35)] (.v (.one (.int .i64 r62))) [], CallOk P 47 [.v (.one (.ptr 1 0))] [(1, .blk 90 [.arr .u32 8 a39, .slc 11, .int .i64 r41]), (11, .own 5 .u8 a40)] (.v (.one (.int .i64 r64))) [], (r62 == r64) = true, CallOk P 44 [] [] (.v (.one (.bool b67))) []] (by kernel_rfl) (hcons hn44 (hcons ((sha_Sum_ok ((b_0.take ((IntKind.i64.wrap ((IntKind.u64.wrap mid_2).tmod (IntKind.u64.wrap (IntKind.i64.wrap ((IntKind.i64.wrap ((IntKind.u64.wrap at_1).tmod (IntKind.u64.wrap (IntKind.i64.wrap ((↑(List.length b_0) : Int) + (1 : Int)))))) + (1 : Int)))))).toNat)).drop 0) a45 e46).tr [(9000, .slc 12)] rfl (by kernel_rfl) ⟨.rd (by kernel_rfl), trivial⟩ (by kernel_rfl) (by kernel_rfl) rfl rfl) (hcons hb47 (hcons hn48 (hcons ((sha_Sum_ok ((b_0.take ((IntKind.i64.wrap ((IntKind.u64.wrap at_1).tmod (IntKind.u64.wrap (IntKind.i64.wrap ((↑(List.length b_0) : Int) + (1 : Int)))))).toNat)).drop 0) a49 e50).tr [(9000, .slc 13)] rfl (by kernel_rfl) ⟨.rd (by kernel_rfl), trivial⟩ (by kernel_rfl) (by kernel_rfl) rfl rfl) (hcons hb51 (hcons ((sha_Sha_Sum_ok a34 a35 r36 a52 e53).tr [(9000, .slc 0), (9001, .slc 10)] rfl (by kernel_rfl) ⟨.blkr (by kernel_rfl) (by kernel_rfl), .ownrd (e := 5) (by kernel_rfl), trivial⟩ (by kernel_rfl) (by kernel_rfl) rfl rfl) (hcons ((sha_Sha_Sum_ok a39 a40 r41 a54 e55).tr [(9000, .slc 1), (9001, .slc 11)] rfl (by kernel_rfl) ⟨.blkr (by kernel_rfl) (by kernel_rfl), .ownrd (e := 5) (by kernel_rfl), trivial⟩ (by kernel_rfl) (by kernel_rfl) rfl rfl) (hcons hb56 (hcons ((sha_Sha_Sum_ok a34 a35 r36 a57 e58).tr [(9000, .slc 0), (9001, .slc 10)] rfl (by kernel_rfl) ⟨.blkr (by kernel_rfl) (by kernel_rfl), .ownrd (e := 5) (by kernel_rfl), trivial⟩ (by kernel_rfl) (by kernel_rfl) rfl rfl) (hcons ((sha_Sum_ok b_0 a59 e60).tr [(9000, .slc 9000)] rfl (by kernel_rfl) ⟨.rd (by kernel_rfl), trivial⟩ (by kernel_rfl) (by kernel_rfl) rfl rfl) (hcons hb61 (hcons ((sha_Sha_Len_ok a34 a35 r36 r62 e63).tr [(9000, .slc 0), (9001, .slc 10)] rfl (by kernel_rfl) ⟨.blkr (by kernel_rfl) (by kernel_rfl), .ownrd (e := 5) (by kernel_rfl), trivial⟩ (by kernel_rfl) (by kernel_rfl) rfl rfl) (hcons ((sha_Sha_Len_ok a39 a40 r41 r64 e65).tr [(9000, .slc 1), (9001, .slc 11)] rfl (by kernel_rfl) ⟨.blkr (by kernel_rfl) (by kernel_rfl), .ownrd (e := 5) (by kernel_rfl), trivial⟩ (by kernel_rfl) (by kernel_rfl) rfl rfl) (hcons hb66 (hone (law01_wakes_ok  b67 e68))))))))))))))))) ?_
              refine q_k ?_
              refine tr_ret ?_
              have h := Option.some.inj h
              subst h
              refine q_less [.s 6] [sB 6 b67] (by kernel_rfl) ?_
              exact q_ret1 hT (.v (.one (.bool b67))) [] (by kernel_rfl) (by kernel_rfl) (by kernel_rfl)
            · refine tr_regd hT hM [(3, .key 12), (4, .call [12] (.v (.agg [.arr .u8 32 a45])) []), (6, .dec true), (10, .key 13), (11, .call [13] (.v (.agg [.arr .u8 32 a49])) []), (14, .dec true), (16, .call [0, 10] (.v (.agg [.arr .u8 32 a52])) []), (18, .call [1, 11] (.v (.agg [.arr .u8 32 a54])) []), (21, .dec true), (23, .call [0, 10] (.v (.agg [.arr .u8 32 a57])) []), (25, .call [9000] (.v (.agg [.arr .u8 32 a59])) []), (28, .dec true), (30, .call [0, 10] (.v (.one (.int .i64 r62))) []), (32, .call [1, 11] (.v (.one (.int .i64 r64))) []), (35, .dec false)] [.s 6] [sB 6 false] [0 ≤ (0 : Int) ∧ (0 : Int) ≤ (IntKind.i64.wrap ((IntKind.u64.wrap mid_2).tmod (IntKind.u64.wrap (IntKind.i64.wrap ((IntKind.i64.wrap ((IntKind.u64.wrap at_1).tmod (IntKind.u64.wrap (IntKind.i64.wrap ((↑(List.length b_0) : Int) + (1 : Int)))))) + (1 : Int)))))) ∧ (IntKind.i64.wrap ((IntKind.u64.wrap mid_2).tmod (IntKind.u64.wrap (IntKind.i64.wrap ((IntKind.i64.wrap ((IntKind.u64.wrap at_1).tmod (IntKind.u64.wrap (IntKind.i64.wrap ((↑(List.length b_0) : Int) + (1 : Int)))))) + (1 : Int)))))) ≤ (↑(List.length b_0) : Int), CallOk P 42 [.v (.one (.slc 12))] [(12, .rd .u8 ((b_0.take ((IntKind.i64.wrap ((IntKind.u64.wrap mid_2).tmod (IntKind.u64.wrap (IntKind.i64.wrap ((IntKind.i64.wrap ((IntKind.u64.wrap at_1).tmod (IntKind.u64.wrap (IntKind.i64.wrap ((↑(List.length b_0) : Int) + (1 : Int)))))) + (1 : Int)))))).toNat)).drop 0))] (.v (.agg [.arr .u8 32 a45])) [], (decide (a18 = a45)) = true, 0 ≤ (0 : Int) ∧ (0 : Int) ≤ (IntKind.i64.wrap ((IntKind.u64.wrap at_1).tmod (IntKind.u64.wrap (IntKind.i64.wrap ((↑(List.length b_0) : Int) + (1 : Int)))))) ∧ (IntKind.i64.wrap ((IntKind.u64.wrap at_1).tmod (IntKind.u64.wrap (IntKind.i64.wrap ((↑(List.length b_0) : Int) + (1 : Int)))))) ≤ (↑(List.length b_0) : Int), CallOk P 42 [.v (.one (.slc 13))] [(13, .rd .u8 ((b_0.take ((IntKind.i64.wrap ((IntKind.u64.wrap at_1).tmod (IntKind.u64.wrap (IntKind.i64.wrap ((↑(List.length b_0) : Int) + (1 : Int)))))).toNat)).drop 0))] (.v (.agg [.arr .u8 32 a49])) [], (decide (a31 = a49)) = true, CallOk P 48 [.v (.one (.ptr 0 0))] [(0, .blk 90 [.arr .u32 8 a34, .slc 10, .int .i64 r36]), (10, .own 5 .u8 a35)] (.v (.agg [.arr .u8 32 a52])) [], CallOk P 48 [.v (.one (.ptr 1 0))] [(1, .blk 90 [.arr .u32 8 a39, .slc 11, .int .i64 r41]), (11, .own 5 .u8 a40)] (.v (.agg [.arr .u8 32 a54])) [], (decide (a52 = a54)) = true, CallOk P 48 [.v (.one (.ptr 0 0))] [(0, .blk 90 [.arr .u32 8 a34, .slc 10, .int .i64 r36]), (10, .own 5 .u8 a35)] (.v (.agg [.arr .u8 32 a57])) [], CallOk P 42 [.v (.one (.slc 9000))] [(9000, .rd .u8 b_0)] (.v (.agg [.arr .u8 32 a59])) [], (decide (a57 = a59)) = true, CallOk P 47 [.v (.one (.ptr 0 0))] [(0, .blk 90 [.arr .u32 8 a34, .slc 10, .int .i64 r36]), (10, .own 5 .u8 a35)] (.v (.one (.int .i64 r62))) [], CallOk P 47 [.v (.one (.ptr 1 0))] [(1, .blk 90 [.arr .u32 8 a39, .slc 11, .int .i64 r41]), (11, .own 5 .u8 a40)] (.v (.one (.int .i64 r64))) [], (r62 == r64) = false] (by kernel_rfl) (hcons hn44 (hcons ((sha_Sum_ok ((b_0.take ((IntKind.i64.wrap ((IntKind.u64.wrap mid_2).tmod (IntKind.u64.wrap (IntKind.i64.wrap ((IntKind.i64.wrap ((IntKind.u64.wrap at_1).tmod (IntKind.u64.wrap (IntKind.i64.wrap ((↑(List.length b_0) : Int) + (1 : Int)))))) + (1 : Int)))))).toNat)).drop 0) a45 e46).tr [(9000, .slc 12)] rfl (by kernel_rfl) ⟨.rd (by kernel_rfl), trivial⟩ (by kernel_rfl) (by kernel_rfl) rfl rfl) (hcons hb47 (hcons hn48 (hcons ((sha_Sum_ok ((b_0.take ((IntKind.i64.wrap ((IntKind.u64.wrap at_1).tmod (IntKind.u64.wrap (IntKind.i64.wrap ((↑(List.length b_0) : Int) + (1 : Int)))))).toNat)).drop 0) a49 e50).tr [(9000, .slc 13)] rfl (by kernel_rfl) ⟨.rd (by kernel_rfl), trivial⟩ (by kernel_rfl) (by kernel_rfl) rfl rfl) (hcons hb51 (hcons ((sha_Sha_Sum_ok a34 a35 r36 a52 e53).tr [(9000, .slc 0), (9001, .slc 10)] rfl (by kernel_rfl) ⟨.blkr (by kernel_rfl) (by kernel_rfl), .ownrd (e := 5) (by kernel_rfl), trivial⟩ (by kernel_rfl) (by kernel_rfl) rfl rfl) (hcons ((sha_Sha_Sum_ok a39 a40 r41 a54 e55).tr [(9000, .slc 1), (9001, .slc 11)] rfl (by kernel_rfl) ⟨.blkr (by kernel_rfl) (by kernel_rfl), .ownrd (e := 5) (by kernel_rfl), trivial⟩ (by kernel_rfl) (by kernel_rfl) rfl rfl) (hcons hb56 (hcons ((sha_Sha_Sum_ok a34 a35 r36 a57 e58).tr [(9000, .slc 0), (9001, .slc 10)] rfl (by kernel_rfl) ⟨.blkr (by kernel_rfl) (by kernel_rfl), .ownrd (e := 5) (by kernel_rfl), trivial⟩ (by kernel_rfl) (by kernel_rfl) rfl rfl) (hcons ((sha_Sum_ok b_0 a59 e60).tr [(9000, .slc 9000)] rfl (by kernel_rfl) ⟨.rd (by kernel_rfl), trivial⟩ (by kernel_rfl) (by kernel_rfl) rfl rfl) (hcons hb61 (hcons ((sha_Sha_Len_ok a34 a35 r36 r62 e63).tr [(9000, .slc 0), (9001, .slc 10)] rfl (by kernel_rfl) ⟨.blkr (by kernel_rfl) (by kernel_rfl), .ownrd (e := 5) (by kernel_rfl), trivial⟩ (by kernel_rfl) (by kernel_rfl) rfl rfl) (hcons ((sha_Sha_Len_ok a39 a40 r41 r64 e65).tr [(9000, .slc 1), (9001, .slc 11)] rfl (by kernel_rfl) ⟨.blkr (by kernel_rfl) (by kernel_rfl), .ownrd (e := 5) (by kernel_rfl), trivial⟩ (by kernel_rfl) (by kernel_rfl) rfl rfl) (hone hb69))))))))))))))) ?_
              refine q_k ?_
              refine tr_ret ?_
              have h := Option.some.inj h
              subst h
              refine q_less [.s 6] [sB 6 false] (by kernel_rfl) ?_
              exact q_ret1 hT (.v (.one (.bool false))) [] (by kernel_rfl) (by kernel_rfl) (by kernel_rfl)
          · refine tr_regd hT hM [(3, .key 12), (4, .call [12] (.v (.agg [.arr .u8 32 a45])) []), (6, .dec true), (10, .key 13), (11, .call [13] (.v (.agg [.arr .u8 32 a49])) []), (14, .dec true), (16, .call [0, 10] (.v (.agg [.arr .u8 32 a52])) []), (18, .call [1, 11] (.v (.agg [.arr .u8 32 a54])) []), (21, .dec true), (23, .call [0, 10] (.v (.agg [.arr .u8 32 a57])) []), (25, .call [9000] (.v (.agg [.arr .u8 32 a59])) []), (28, .dec false)] [.s 6] [sB 6 false] [0 ≤ (0 : Int) ∧ (0 : Int) ≤ (IntKind.i64.wrap ((IntKind.u64.wrap mid_2).tmod (IntKind.u64.wrap (IntKind.i64.wrap ((IntKind.i64.wrap ((IntKind.u64.wrap at_1).tmod (IntKind.u64.wrap (IntKind.i64.wrap ((↑(List.length b_0) : Int) + (1 : Int)))))) + (1 : Int)))))) ∧ (IntKind.i64.wrap ((IntKind.u64.wrap mid_2).tmod (IntKind.u64.wrap (IntKind.i64.wrap ((IntKind.i64.wrap ((IntKind.u64.wrap at_1).tmod (IntKind.u64.wrap (IntKind.i64.wrap ((↑(List.length b_0) : Int) + (1 : Int)))))) + (1 : Int)))))) ≤ (↑(List.length b_0) : Int), CallOk P 42 [.v (.one (.slc 12))] [(12, .rd .u8 ((b_0.take ((IntKind.i64.wrap ((IntKind.u64.wrap mid_2).tmod (IntKind.u64.wrap (IntKind.i64.wrap ((IntKind.i64.wrap ((IntKind.u64.wrap at_1).tmod (IntKind.u64.wrap (IntKind.i64.wrap ((↑(List.length b_0) : Int) + (1 : Int)))))) + (1 : Int)))))).toNat)).drop 0))] (.v (.agg [.arr .u8 32 a45])) [], (decide (a18 = a45)) = true, 0 ≤ (0 : Int) ∧ (0 : Int) ≤ (IntKind.i64.wrap ((IntKind.u64.wrap at_1).tmod (IntKind.u64.wrap (IntKind.i64.wrap ((↑(List.length b_0) : Int) + (1 : Int)))))) ∧ (IntKind.i64.wrap ((IntKind.u64.wrap at_1).tmod (IntKind.u64.wrap (IntKind.i64.wrap ((↑(List.length b_0) : Int) + (1 : Int)))))) ≤ (↑(List.length b_0) : Int), CallOk P 42 [.v (.one (.slc 13))] [(13, .rd .u8 ((b_0.take ((IntKind.i64.wrap ((IntKind.u64.wrap at_1).tmod (IntKind.u64.wrap (IntKind.i64.wrap ((↑(List.length b_0) : Int) + (1 : Int)))))).toNat)).drop 0))] (.v (.agg [.arr .u8 32 a49])) [], (decide (a31 = a49)) = true, CallOk P 48 [.v (.one (.ptr 0 0))] [(0, .blk 90 [.arr .u32 8 a34, .slc 10, .int .i64 r36]), (10, .own 5 .u8 a35)] (.v (.agg [.arr .u8 32 a52])) [], CallOk P 48 [.v (.one (.ptr 1 0))] [(1, .blk 90 [.arr .u32 8 a39, .slc 11, .int .i64 r41]), (11, .own 5 .u8 a40)] (.v (.agg [.arr .u8 32 a54])) [], (decide (a52 = a54)) = true, CallOk P 48 [.v (.one (.ptr 0 0))] [(0, .blk 90 [.arr .u32 8 a34, .slc 10, .int .i64 r36]), (10, .own 5 .u8 a35)] (.v (.agg [.arr .u8 32 a57])) [], CallOk P 42 [.v (.one (.slc 9000))] [(9000, .rd .u8 b_0)] (.v (.agg [.arr .u8 32 a59])) [], (decide (a57 = a59)) = false] (by kernel_rfl) (hcons hn44 (hcons ((sha_Sum_ok ((b_0.take ((IntKind.i64.wrap ((IntKind.u64.wrap mid_2).tmod (IntKind.u64.wrap (IntKind.i64.wrap ((IntKind.i64.wrap ((IntKind.u64.wrap at_1).tmod (IntKind.u64.wrap (IntKind.i64.wrap ((↑(List.length b_0) : Int) + (1 : Int)))))) + (1 : Int)))))).toNat)).drop 0) a45 e46).tr [(9000, .slc 12)] rfl (by kernel_rfl) ⟨.rd (by kernel_rfl), trivial⟩ (by kernel_rfl) (by kernel_rfl) rfl rfl) (hcons hb47 (hcons hn48 (hcons ((sha_Sum_ok ((b_0.take ((IntKind.i64.wrap ((IntKind.u64.wrap at_1).tmod (IntKind.u64.wrap (IntKind.i64.wrap ((↑(List.length b_0) : Int) + (1 : Int)))))).toNat)).drop 0) a49 e50).tr [(9000, .slc 13)] rfl (by kernel_rfl) ⟨.rd (by kernel_rfl), trivial⟩ (by kernel_rfl) (by kernel_rfl) rfl rfl) (hcons hb51 (hcons ((sha_Sha_Sum_ok a34 a35 r36 a52 e53).tr [(9000, .slc 0), (9001, .slc 10)] rfl (by kernel_rfl) ⟨.blkr (by kernel_rfl) (by kernel_rfl), .ownrd (e := 5) (by kernel_rfl), trivial⟩ (by kernel_rfl) (by kernel_rfl) rfl rfl) (hcons ((sha_Sha_Sum_ok a39 a40 r41 a54 e55).tr [(9000, .slc 1), (9001, .slc 11)] rfl (by kernel_rfl) ⟨.blkr (by kernel_rfl) (by kernel_rfl), .ownrd (e := 5) (by kernel_rfl), trivial⟩ (by kernel_rfl) (by kernel_rfl) rfl rfl) (hcons hb56 (hcons ((sha_Sha_Sum_ok a34 a35 r36 a57 e58).tr [(9000, .slc 0), (9001, .slc 10)] rfl (by kernel_rfl) ⟨.blkr (by kernel_rfl) (by kernel_rfl), .ownrd (e := 5) (by kernel_rfl), trivial⟩ (by kernel_rfl) (by kernel_rfl) rfl rfl) (hcons ((sha_Sum_ok b_0 a59 e60).tr [(9000, .slc 9000)] rfl (by kernel_rfl) ⟨.rd (by kernel_rfl), trivial⟩ (by kernel_rfl) (by kernel_rfl) rfl rfl) (hone hb70)))))))))))) ?_
            refine q_k ?_
            refine tr_ret ?_
            have h := Option.some.inj h
            subst h
            refine q_less [.s 6] [sB 6 false] (by kernel_rfl) ?_
            exact q_ret1 hT (.v (.one (.bool false))) [] (by kernel_rfl) (by kernel_rfl) (by kernel_rfl)
        · refine tr_regd hT hM [(3, .key 12), (4, .call [12] (.v (.agg [.arr .u8 32 a45])) []), (6, .dec true), (10, .key 13), (11, .call [13] (.v (.agg [.arr .u8 32 a49])) []), (14, .dec true), (16, .call [0, 10] (.v (.agg [.arr .u8 32 a52])) []), (18, .call [1, 11] (.v (.agg [.arr .u8 32 a54])) []), (21, .dec false)] [.s 6] [sB 6 false] [0 ≤ (0 : Int) ∧ (0 : Int) ≤ (IntKind.i64.wrap ((IntKind.u64.wrap mid_2).tmod (IntKind.u64.wrap (IntKind.i64.wrap ((IntKind.i64.wrap ((IntKind.u64.wrap at_1).tmod (IntKind.u64.wrap (IntKind.i64.wrap ((↑(List.length b_0) : Int) + (1 : Int)))))) + (1 : Int)))))) ∧ (IntKind.i64.wrap ((IntKind.u64.wrap mid_2).tmod (IntKind.u64.wrap (IntKind.i64.wrap ((IntKind.i64.wrap ((IntKind.u64.wrap at_1).tmod (IntKind.u64.wrap (IntKind.i64.wrap ((↑(List.length b_0) : Int) + (1 : Int)))))) + (1 : Int)))))) ≤ (↑(List.length b_0) : Int), CallOk P 42 [.v (.one (.slc 12))] [(12, .rd .u8 ((b_0.take ((IntKind.i64.wrap ((IntKind.u64.wrap mid_2).tmod (IntKind.u64.wrap (IntKind.i64.wrap ((IntKind.i64.wrap ((IntKind.u64.wrap at_1).tmod (IntKind.u64.wrap (IntKind.i64.wrap ((↑(List.length b_0) : Int) + (1 : Int)))))) + (1 : Int)))))).toNat)).drop 0))] (.v (.agg [.arr .u8 32 a45])) [], (decide (a18 = a45)) = true, 0 ≤ (0 : Int) ∧ (0 : Int) ≤ (IntKind.i64.wrap ((IntKind.u64.wrap at_1).tmod (IntKind.u64.wrap (IntKind.i64.wrap ((↑(List.length b_0) : Int) + (1 : Int)))))) ∧ (IntKind.i64.wrap ((IntKind.u64.wrap at_1).tmod (IntKind.u64.wrap (IntKind.i64.wrap ((↑(List.length b_0) : Int) + (1 : Int)))))) ≤ (↑(List.length b_0) : Int), CallOk P 42 [.v (.one (.slc 13))] [(13, .rd .u8 ((b_0.take ((IntKind.i64.wrap ((IntKind.u64.wrap at_1).tmod (IntKind.u64.wrap (IntKind.i64.wrap ((↑(List.length b_0) : Int) + (1 : Int)))))).toNat)).drop 0))] (.v (.agg [.arr .u8 32 a49])) [], (decide (a31 = a49)) = true, CallOk P 48 [.v (.one (.ptr 0 0))] [(0, .blk 90 [.arr .u32 8 a34, .slc 10, .int .i64 r36]), (10, .own 5 .u8 a35)] (.v (.agg [.arr .u8 32 a52])) [], CallOk P 48 [.v (.one (.ptr 1 0))] [(1, .blk 90 [.arr .u32 8 a39, .slc 11, .int .i64 r41]), (11, .own 5 .u8 a40)] (.v (.agg [.arr .u8 32 a54])) [], (decide (a52 = a54)) = false] (by kernel_rfl) (hcons hn44 (hcons ((sha_Sum_ok ((b_0.take ((IntKind.i64.wrap ((IntKind.u64.wrap mid_2).tmod (IntKind.u64.wrap (IntKind.i64.wrap ((IntKind.i64.wrap ((IntKind.u64.wrap at_1).tmod (IntKind.u64.wrap (IntKind.i64.wrap ((↑(List.length b_0) : Int) + (1 : Int)))))) + (1 : Int)))))).toNat)).drop 0) a45 e46).tr [(9000, .slc 12)] rfl (by kernel_rfl) ⟨.rd (by kernel_rfl), trivial⟩ (by kernel_rfl) (by kernel_rfl) rfl rfl) (hcons hb47 (hcons hn48 (hcons ((sha_Sum_ok ((b_0.take ((IntKind.i64.wrap ((IntKind.u64.wrap at_1).tmod (IntKind.u64.wrap (IntKind.i64.wrap ((↑(List.length b_0) : Int) + (1 : Int)))))).toNat)).drop 0) a49 e50).tr [(9000, .slc 13)] rfl (by kernel_rfl) ⟨.rd (by kernel_rfl), trivial⟩ (by kernel_rfl) (by kernel_rfl) rfl rfl) (hcons hb51 (hcons ((sha_Sha_Sum_ok a34 a35 r36 a52 e53).tr [(9000, .slc 0), (9001, .slc 10)] rfl (by kernel_rfl) ⟨.blkr (by kernel_rfl) (by kernel_rfl), .ownrd (e := 5) (by kernel_rfl), trivial⟩ (by kernel_rfl) (by kernel_rfl) rfl rfl) (hcons ((sha_Sha_Sum_ok a39 a40 r41 a54 e55).tr [(9000, .slc 1), (9001, .slc 11)] rfl (by kernel_rfl) ⟨.blkr (by kernel_rfl) (by kernel_rfl), .ownrd (e := 5) (by kernel_rfl), trivial⟩ (by kernel_rfl) (by kernel_rfl) rfl rfl) (hone hb71))))))))) ?_
          refine q_k ?_
          refine tr_ret ?_
          have h := Option.some.inj h
          subst h
          refine q_less [.s 6] [sB 6 false] (by kernel_rfl) ?_
          exact q_ret1 hT (.v (.one (.bool false))) [] (by kernel_rfl) (by kernel_rfl) (by kernel_rfl)
      · refine tr_regd hT hM [(3, .key 12), (4, .call [12] (.v (.agg [.arr .u8 32 a45])) []), (6, .dec true), (10, .key 13), (11, .call [13] (.v (.agg [.arr .u8 32 a49])) []), (14, .dec false)] [.s 6] [sB 6 false] [0 ≤ (0 : Int) ∧ (0 : Int) ≤ (IntKind.i64.wrap ((IntKind.u64.wrap mid_2).tmod (IntKind.u64.wrap (IntKind.i64.wrap ((IntKind.i64.wrap ((IntKind.u64.wrap at_1).tmod (IntKind.u64.wrap (IntKind.i64.wrap ((↑(List.length b_0) : Int) + (1 : Int)))))) + (1 : Int)))))) ∧ (IntKind.i64.wrap ((IntKind.u64.wrap mid_2).tmod (IntKind.u64.wrap (IntKind.i64.wrap ((IntKind.i64.wrap ((IntKind.u64.wrap at_1).tmod (IntKind.u64.wrap (IntKind.i64.wrap ((↑(List.length b_0) : Int) + (1 : Int)))))) + (1 : Int)))))) ≤ (↑(List.length b_0) : Int), CallOk P 42 [.v (.one (.slc 12))] [(12, .rd .u8 ((b_0.take ((IntKind.i64.wrap ((IntKind.u64.wrap mid_2).tmod (IntKind.u64.wrap (IntKind.i64.wrap ((IntKind.i64.wrap ((IntKind.u64.wrap at_1).tmod (IntKind.u64.wrap (IntKind.i64.wrap ((↑(List.length b_0) : Int) + (1 : Int)))))) + (1 : Int)))))).toNat)).drop 0))] (.v (.agg [.arr .u8 32 a45])) [], (decide (a18 = a45)) = true, 0 ≤ (0 : Int) ∧ (0 : Int) ≤ (IntKind.i64.wrap ((IntKind.u64.wrap at_1).tmod (IntKind.u64.wrap (IntKind.i64.wrap ((↑(List.length b_0) : Int) + (1 : Int)))))) ∧ (IntKind.i64.wrap ((IntKind.u64.wrap at_1).tmod (IntKind.u64.wrap (IntKind.i64.wrap ((↑(List.length b_0) : Int) + (1 : Int)))))) ≤ (↑(List.length b_0) : Int), CallOk P 42 [.v (.one (.slc 13))] [(13, .rd .u8 ((b_0.take ((IntKind.i64.wrap ((IntKind.u64.wrap at_1).tmod (IntKind.u64.wrap (IntKind.i64.wrap ((↑(List.length b_0) : Int) + (1 : Int)))))).toNat)).drop 0))] (.v (.agg [.arr .u8 32 a49])) [], (decide (a31 = a49)) = false] (by kernel_rfl) (hcons hn44 (hcons ((sha_Sum_ok ((b_0.take ((IntKind.i64.wrap ((IntKind.u64.wrap mid_2).tmod (IntKind.u64.wrap (IntKind.i64.wrap ((IntKind.i64.wrap ((IntKind.u64.wrap at_1).tmod (IntKind.u64.wrap (IntKind.i64.wrap ((↑(List.length b_0) : Int) + (1 : Int)))))) + (1 : Int)))))).toNat)).drop 0) a45 e46).tr [(9000, .slc 12)] rfl (by kernel_rfl) ⟨.rd (by kernel_rfl), trivial⟩ (by kernel_rfl) (by kernel_rfl) rfl rfl) (hcons hb47 (hcons hn48 (hcons ((sha_Sum_ok ((b_0.take ((IntKind.i64.wrap ((IntKind.u64.wrap at_1).tmod (IntKind.u64.wrap (IntKind.i64.wrap ((↑(List.length b_0) : Int) + (1 : Int)))))).toNat)).drop 0) a49 e50).tr [(9000, .slc 13)] rfl (by kernel_rfl) ⟨.rd (by kernel_rfl), trivial⟩ (by kernel_rfl) (by kernel_rfl) rfl rfl) (hone hb72)))))) ?_
        refine q_k ?_
        refine tr_ret ?_
        have h := Option.some.inj h
        subst h
        refine q_less [.s 6] [sB 6 false] (by kernel_rfl) ?_
        exact q_ret1 hT (.v (.one (.bool false))) [] (by kernel_rfl) (by kernel_rfl) (by kernel_rfl)
    · refine tr_regd hT hM [(3, .key 12), (4, .call [12] (.v (.agg [.arr .u8 32 a45])) []), (6, .dec false)] [.s 6] [sB 6 false] [0 ≤ (0 : Int) ∧ (0 : Int) ≤ (IntKind.i64.wrap ((IntKind.u64.wrap mid_2).tmod (IntKind.u64.wrap (IntKind.i64.wrap ((IntKind.i64.wrap ((IntKind.u64.wrap at_1).tmod (IntKind.u64.wrap (IntKind.i64.wrap ((↑(List.length b_0) : Int) + (1 : Int)))))) + (1 : Int)))))) ∧ (IntKind.i64.wrap ((IntKind.u64.wrap mid_2).tmod (IntKind.u64.wrap (IntKind.i64.wrap ((IntKind.i64.wrap ((IntKind.u64.wrap at_1).tmod (IntKind.u64.wrap (IntKind.i64.wrap ((↑(List.length b_0) : Int) + (1 : Int)))))) + (1 : Int)))))) ≤ (↑(List.length b_0) : Int), CallOk P 42 [.v (.one (.slc 12))] [(12, .rd .u8 ((b_0.take ((IntKind.i64.wrap ((IntKind.u64.wrap mid_2).tmod (IntKind.u64.wrap (IntKind.i64.wrap ((IntKind.i64.wrap ((IntKind.u64.wrap at_1).tmod (IntKind.u64.wrap (IntKind.i64.wrap ((↑(List.length b_0) : Int) + (1 : Int)))))) + (1 : Int)))))).toNat)).drop 0))] (.v (.agg [.arr .u8 32 a45])) [], (decide (a18 = a45)) = false] (by kernel_rfl) (hcons hn44 (hcons ((sha_Sum_ok ((b_0.take ((IntKind.i64.wrap ((IntKind.u64.wrap mid_2).tmod (IntKind.u64.wrap (IntKind.i64.wrap ((IntKind.i64.wrap ((IntKind.u64.wrap at_1).tmod (IntKind.u64.wrap (IntKind.i64.wrap ((↑(List.length b_0) : Int) + (1 : Int)))))) + (1 : Int)))))).toNat)).drop 0) a45 e46).tr [(9000, .slc 12)] rfl (by kernel_rfl) ⟨.rd (by kernel_rfl), trivial⟩ (by kernel_rfl) (by kernel_rfl) rfl rfl) (hone hb73))) ?_
      refine q_k ?_
      refine tr_ret ?_
      have h := Option.some.inj h
      subst h
      refine q_less [.s 6] [sB 6 false] (by kernel_rfl) ?_
      exact q_ret1 hT (.v (.one (.bool false))) [] (by kernel_rfl) (by kernel_rfl) (by kernel_rfl)

theorem law01_ShaLong_ok (part_0 : List Int) (n_1 : Int) (r : Bool) (h : law01_ShaLong part_0 n_1 = some r) : CallOk P 21 [.v (.one (.slc 9000)), .v (.one (.int .i64 n_1))] [(9000, .rd .u8 part_0)] (.v (.one (.bool r))) [] := by
  refine call1 (N := 44) Try.func21 (by kernel_rfl) rfl rfl rfl [(9000, .rd .u8 part_0)] (by kernel_rfl) ?_
  intro _ B w0
  show Tr P B 44 w0 _ _ (RetQ P Try.f21 (R1 _ _ B w0))
  unfold law01_ShaLong at h
  refine tr_seq ?_
  refine tr_reg hT [] [.s 0, .s 1, .h 9000] [sO 0 (.slc 9000), sI 1 .i64 n_1, hR 9000 .u8 part_0] [] (by kernel_rfl) trivial ?_
  refine q_k ?_
  refine tr_seq ?_
  refine tr_seq ?_
  refine tr_reg hT [] [.s 0, .s 1, .s 10, .h 9000] [sO 0 (.slc 9000), sI 1 .i64 n_1, sB 10 (decide ((↑(List.length part_0) : Int) > (100 : Int))), hR 9000 .u8 part_0] [] (by kernel_rfl) trivial ?_
  refine q_k ?_
  rcases ite_split h with ⟨hc1, h⟩ | ⟨hc1, h⟩
  · refine tr_cond_t (decide ((↑(List.length part_0) : Int) > (100 : Int))) (by kernel_rfl) hc1 ?_
    refine tr_seq ?_
    refine tr_reg hT [] [.s 4] [sB 4 true] [] (by kernel_rfl) trivial ?_
    refine q_k ?_
    refine tr_ret ?_
    refine q_k_ret ?_
    have h := Option.some.inj h
    subst h
    refine q_less [.s 4] [sB 4 true] (by kernel_rfl) ?_
    exact q_ret1 hT (.v (.one (.bool true))) [] (by kernel_rfl) (by kernel_rfl) (by kernel_rfl)
  · refine tr_cond_f (decide ((↑(List.length part_0) : Int) > (100 : Int))) (by kernel_rfl) hc1 ?_
    refine tr_skip ?_
    refine q_k ?_
    refine tr_seq ?_
    refine tr_reg hT [] [.s 0, .s 1, .h 9000] [sO 0 (.slc 9000), sI 1 .i64 (IntKind.i64.wrap ((IntKind.u64.wrap n_1).tmod (100 : Int))), hR 9000 .u8 part_0] [(100 : Int) ≠ 0] (by kernel_rfl) (hone (by decide)) ?_
    refine q_k ?_
    refine tr_seq ?_
    obtain ⟨⟨a2, r3⟩, e4, h⟩ := bind_some h
    refine tr_reg hT [(0, .call [] (.v (.one (.ptr 0 0))) [(0, .blk 90 [.arr .u32 8 a2, .nils, .int .i64 r3])])] [.s 0, .s 1, .s 5, .h 0, .h 9000] [sO 0 (.slc 9000), sI 1 .i64 (IntKind.i64.wrap ((IntKind.u64.wrap n_1).tmod (100 : Int))), sO 5 (.ptr 0 0), hB 0 90 [.arr .u32 8 a2, .nils, .int .i64 r3], hR 9000 .u8 part_0] [CallOk P 45 [] [] (.v (.one (.ptr 0 0))) [(0, .blk 90 [.arr .u32 8 a2, .nils, .int .i64 r3])]] (by kernel_rfl) (hone ((sha_New_ok  (a2, r3) e4).tr [(8900, .slc 0)] rfl (by kernel_rfl) trivial (by kernel_rfl) (by kernel_rfl) rfl rfl)) ?_
    refine q_k ?_
    refine tr_seq ?_
    refine tr_seq ?_
    refine tr_reg hT [] [.s 0, .s 1, .s 5, .s 17, .h 0, .h 9000] [sO 0 (.slc 9000), sI 1 .i64 (IntKind.i64.wrap ((IntKind.u64.wrap n_1).tmod (100 : Int))), sO 5 (.ptr 0 0), sB 17 false, hB 0 90 [.arr .u32 8 a2, .nils, .int .i64 r3], hR 9000 .u8 part_0] [] (by kernel_rfl) trivial ?_
    refine q_k ?_
    refine tr_cond_f false (by kernel_rfl) rfl ?_
    refine tr_skip ?_
    refine q_k ?_
    refine tr_seq ?_
    refine tr_reg hT [] [.s 0, .s 1, .s 5, .s 6, .h 0, .h 9000] [sO 0 (.slc 9000), sI 1 .i64 (IntKind.i64.wrap ((IntKind.u64.wrap n_1).tmod (100 : Int))), sO 5 (.ptr 0 0), sO 6 (.nils), hB 0 90 [.arr .u32 8 a2, .nils, .int .i64 r3], hR 9000 .u8 part_0] [] (by kernel_rfl) trivial ?_
    refine q_k ?_
    refine tr_seq ?_
    refine tr_seq ?_
    refine tr_reg hT [] [.s 0, .s 1, .s 5, .s 6, .s 7, .h 0, .h 9000] [sO 0 (.slc 9000), sI 1 .i64 (IntKind.i64.wrap ((IntKind.u64.wrap n_1).tmod (100 : Int))), sO 5 (.ptr 0 0), sO 6 (.nils), sI 7 .i64 (0 : Int), hB 0 90 [.arr .u32 8 a2, .nils, .int .i64 r3], hR 9000 .u8 part_0] [] (by kernel_rfl) trivial ?_
    refine q_k ?_
    refine tr_block ?_
    obtain ⟨rr0, e22, h⟩ := bind_some h
    refine tr_fit [(1, .nils), (2, .nils)] [sO 0 (.slc 9000), sI 1 .i64 (IntKind.i64.wrap ((IntKind.u64.wrap n_1).tmod (100 : Int))), sO 5 (.ptr 0 0), sO 6 (.slc 2), sI 7 .i64 (0 : Int), hB 0 90 [.arr .u32 8 a2, .slc 1, .int .i64 r3], hO 1 5 .u8 [], hO 2 5 .u8 [], hR 9000 .u8 part_0] [(0, .blk 90 [.arr .u32 8 a2, .slc 1, .int .i64 r3]), (1, .own 5 .u8 []), (2, .own 5 .u8 []), (9000, .rd .u8 part_0)] (by kernel_rfl) (by kernel_rfl) (by kernel_rfl) rfl ⟨.blk (by kernel_rfl) (by kernel_rfl), .nilown, .nilown, .rd (by kernel_rfl), trivial⟩ (by kernel_rfl) ?_
    refine tr_loop_fuel (id := 0) (α := List Int × List Int × Int × List Int × Int) (β := List Int × List Int × Int × List Int) (fun z => [sO 0 (.slc 9000), sI 1 .i64 (IntKind.i64.wrap ((IntKind.u64.wrap n_1).tmod (100 : Int))), sO 5 (.ptr 0 0), sO 6 (.slc 2), sI 7 .i64 z.2.2.2.2, hB 0 90 [.arr .u32 8 z.1, .slc 1, .int .i64 z.2.2.1], hO 1 5 .u8 z.2.1, hO 2 5 .u8 z.2.2.2.1, hR 9000 .u8 part_0]) (fun z => [sO 5 (.ptr 0 0), sO 6 (.slc 4), hB 0 90 [.arr .u32 8 z.1, .slc 3, .int .i64 z.2.2.1], hO 3 5 .u8 z.2.1, hO 4 5 .u8 z.2.2.2]) (fun k z => law01_ShaLong_l0 part_0 n_1 k z.1 z.2.1 z.2.2.1 z.2.2.2.1 z.2.2.2.2) rr0 (fun _ => rfl) (((IntKind.i64.wrap ((IntKind.u64.wrap n_1).tmod (100 : Int))) - (0 : Int)).toNat + 1) (a2, [], r3, [], (0 : Int)) e22 ?_ ?_
    · rcases rr0 with ⟨m11, m12, m13, all14⟩
      replace h : ((sha_Sha_Len m11 m12 m13).bind (fun r23 => if (r23 == (↑(List.length all14) : Int)) = true then (sha_Sha_Sum m11 m12 m13).bind (fun a26 => (sha_Sum all14).bind (fun a28 => if (decide (a26 = a28)) = true then (law01_wakes).bind (fun b31 => some b31) else some false)) else some false)) = _ := h
      refine q_b_this ?_
      refine q_k ?_
      refine tr_seq ?_
      obtain ⟨r23, e24, h⟩ := bind_some h
      rcases ite_split h with ⟨hb25, h⟩ | ⟨hb34, h⟩
      · obtain ⟨a26, e27, h⟩ := bind_some h
        obtain ⟨a28, e29, h⟩ := bind_some h
        rcases ite_split h with ⟨hb30, h⟩ | ⟨hb33, h⟩
        · obtain ⟨b31, e32, h⟩ := bind_some h
          refine tr_reg hT [(1, .call [0, 3] (.v (.one (.int .i64 r23))) []), (5, .dec true), (7, .call [0, 3] (.v (.agg [.arr .u8 32 a26])) []), (9, .call [4] (.v (.agg [.arr .u8 32 a28])) []), (12, .dec true), (13, .call [] (.v (.one (.bool b31))) [])] [.s 4] [sB 4 b31] [CallOk P 47 [.v (.one (.ptr 0 0))] [(0, .blk 90 [.arr .u32 8 m11, .slc 3, .int .i64 m13]), (3, .own 5 .u8 m12)] (.v (.one (.int .i64 r23))) [], (r23 == (↑(List.length all14) : Int)) = true, CallOk P 48 [.v (.one (.ptr 0 0))] [(0, .blk 90 [.arr .u32 8 m11, .slc 3, .int .i64 m13]), (3, .own 5 .u8 m12)] (.v (.agg [.arr .u8 32 a26])) [], CallOk P 42 [.v (.one (.slc 4))] [(4, .own 5 .u8 all14)] (.v (.agg [.arr .u8 32 a28])) [], (decide (a26 = a28)) = true, CallOk P 44 [] [] (.v (.one (.bool b31))) []] (by kernel_rfl) (hcons ((sha_Sha_Len_ok m11 m12 m13 r23 e24).tr [(9000, .slc 0), (9001, .slc 3)] rfl (by kernel_rfl) ⟨.blkr (by kernel_rfl) (by kernel_rfl), .ownrd (e := 5) (by kernel_rfl), trivial⟩ (by kernel_rfl) (by kernel_rfl) rfl rfl) (hcons hb25 (hcons ((sha_Sha_Sum_ok m11 m12 m13 a26 e27).tr [(9000, .slc 0), (9001, .slc 3)] rfl (by kernel_rfl) ⟨.blkr (by kernel_rfl) (by kernel_rfl), .ownrd (e := 5) (by kernel_rfl), trivial⟩ (by kernel_rfl) (by kernel_rfl) rfl rfl) (hcons ((sha_Sum_ok all14 a28 e29).tr [(9000, .slc 4)] rfl (by kernel_rfl) ⟨.ownrd (e := 5) (by kernel_rfl), trivial⟩ (by kernel_rfl) (by kernel_rfl) rfl rfl) (hcons hb30 (hone (law01_wakes_ok  b31 e32))))))) ?_
          refine q_k ?_
          refine tr_ret ?_
          have h := Option.some.inj h
          subst h
          refine q_less [.s 4] [sB 4 b31] (by kernel_rfl) ?_
          exact q_ret1 hT (.v (.one (.bool b31))) [] (by kernel_rfl) (by kernel_rfl) (by kernel_rfl)
        · refine tr_reg hT [(1, .call [0, 3] (.v (.one (.int .i64 r23))) []), (5, .dec true), (7, .call [0, 3] (.v (.agg [.arr .u8 32 a26])) []), (9, .call [4] (.v (.agg [.arr .u8 32 a28])) []), (12, .dec false)] [.s 4] [sB 4 false] [CallOk P 47 [.v (.one (.ptr 0 0))] [(0, .blk 90 [.arr .u32 8 m11, .slc 3, .int .i64 m13]), (3, .own 5 .u8 m12)] (.v (.one (.int .i64 r23))) [], (r23 == (↑(List.length all14) : Int)) = true, CallOk P 48 [.v (.one (.ptr 0 0))] [(0, .blk 90 [.arr .u32 8 m11, .slc 3, .int .i64 m13]), (3, .own 5 .u8 m12)] (.v (.agg [.arr .u8 32 a26])) [], CallOk P 42 [.v (.one (.slc 4))] [(4, .own 5 .u8 all14)] (.v (.agg [.arr .u8 32 a28])) [], (decide (a26 = a28)) = false] (by kernel_rfl) (hcons ((sha_Sha_Len_ok m11 m12 m13 r23 e24).tr [(9000, .slc 0), (9001, .slc 3)] rfl (by kernel_rfl) ⟨.blkr (by kernel_rfl) (by kernel_rfl), .ownrd (e := 5) (by kernel_rfl), trivial⟩ (by kernel_rfl) (by kernel_rfl) rfl rfl) (hcons hb25 (hcons ((sha_Sha_Sum_ok m11 m12 m13 a26 e27).tr [(9000, .slc 0), (9001, .slc 3)] rfl (by kernel_rfl) ⟨.blkr (by kernel_rfl) (by kernel_rfl), .ownrd (e := 5) (by kernel_rfl), trivial⟩ (by kernel_rfl) (by kernel_rfl) rfl rfl) (hcons ((sha_Sum_ok all14 a28 e29).tr [(9000, .slc 4)] rfl (by kernel_rfl) ⟨.ownrd (e := 5) (by kernel_rfl), trivial⟩ (by kernel_rfl) (by kernel_rfl) rfl rfl) (hone hb33))))) ?_
          refine q_k ?_
          refine tr_ret ?_
          have h := Option.some.inj h
          subst h
          refine q_less [.s 4] [sB 4 false] (by kernel_rfl) ?_
          exact q_ret1 hT (.v (.one (.bool false))) [] (by kernel_rfl) (by kernel_rfl) (by kernel_rfl)
      · refine tr_reg hT [(1, .call [0, 3] (.v (.one (.int .i64 r23))) []), (5, .dec false)] [.s 4] [sB 4 false] [CallOk P 47 [.v (.one (.ptr 0 0))] [(0, .blk 90 [.arr .u32 8 m11, .slc 3, .int .i64 m13]), (3, .own 5 .u8 m12)] (.v (.one (.int .i64 r23))) [], (r23 == (↑(List.length all14) : Int)) = false] (by kernel_rfl) (hcons ((sha_Sha_Len_ok m11 m12 m13 r23 e24).tr [(9000, .slc 0), (9001, .slc 3)] rfl (by kernel_rfl) ⟨.blkr (by kernel_rfl) (by kernel_rfl), .ownrd (e := 5) (by kernel_rfl), trivial⟩ (by kernel_rfl) (by kernel_rfl) rfl rfl) (hone hb34)) ?_
        refine q_k ?_
        refine tr_ret ?_
        have h := Option.some.inj h
        subst h
        refine q_less [.s 4] [sB 4 false] (by kernel_rfl) ?_
        exact q_ret1 hT (.v (.one (.bool false))) [] (by kernel_rfl) (by kernel_rfl) (by kernel_rfl)
    · clear h e22
      intro k ih0 hx0 z h
      obtain ⟨m6, m7, m8, all9, i10⟩ := z
      replace h : (if (decide (i10 < (IntKind.i64.wrap ((IntKind.u64.wrap n_1).tmod (100 : Int))))) = true then (sha_Sha_Write m6 m7 m8 part_0).bind (fun (a16, a17, r18) => if List.length (all9 ++ part_0) ≤ maxN then law01_ShaLong_l0 part_0 n_1 k a16 a17 r18 (all9 ++ part_0) (IntKind.i64.wrap (i10 + (1 : Int))) else none) else some (m6, m7, m8, all9)) = _ := h
      refine tr_seq ?_
      refine tr_seq ?_
      refine tr_reg hT [] [.s 0, .s 1, .s 5, .s 6, .s 7, .s 20, .h 0, .h 1, .h 2, .h 9000] [sO 0 (.slc 9000), sI 1 .i64 (IntKind.i64.wrap ((IntKind.u64.wrap n_1).tmod (100 : Int))), sO 5 (.ptr 0 0), sO 6 (.slc 2), sI 7 .i64 i10, sB 20 (decide (i10 < (IntKind.i64.wrap ((IntKind.u64.wrap n_1).tmod (100 : Int))))), hB 0 90 [.arr .u32 8 m6, .slc 1, .int .i64 m8], hO 1 5 .u8 m7, hO 2 5 .u8 all9, hR 9000 .u8 part_0] [] (by kernel_rfl) trivial ?_
      refine q_k ?_
      rcases ite_split h with ⟨hc15, h⟩ | ⟨hc15, h⟩
      · refine tr_cond_t (decide (i10 < (IntKind.i64.wrap ((IntKind.u64.wrap n_1).tmod (100 : Int))))) (by kernel_rfl) hc15 ?_
        refine tr_skip ?_
        refine q_k ?_
        refine tr_seq ?_
        refine tr_block ?_
        refine tr_seq ?_
        obtain ⟨⟨a16, a17, r18⟩, e19, h⟩ := bind_some h
        refine tr_reg hT [(2, .call [0, 1, 9000] (.tup []) [(5, .own 5 .u8 a17), (0, .blk 90 [.arr .u32 8 a16, .slc 5, .int .i64 r18])])] [.s 0, .s 1, .s 5, .s 6, .s 7, .h 0, .h 2, .h 5, .h 9000] [sO 0 (.slc 9000), sI 1 .i64 (IntKind.i64.wrap ((IntKind.u64.wrap n_1).tmod (100 : Int))), sO 5 (.ptr 0 0), sO 6 (.slc 2), sI 7 .i64 i10, hB 0 90 [.arr .u32 8 a16, .slc 5, .int .i64 r18], hO 2 5 .u8 all9, hO 5 5 .u8 a17, hR 9000 .u8 part_0] [CallOk P 46 [.v (.one (.ptr 0 0)), .v (.one (.slc 9000))] [(0, .blk 90 [.arr .u32 8 m6, .slc 1, .int .i64 m8]), (1, .own 5 .u8 m7), (9000, .rd .u8 part_0)] (.tup []) [(5, .own 5 .u8 a17), (0, .blk 90 [.arr .u32 8 a16, .slc 5, .int .i64 r18])]] (by kernel_rfl) (hone ((sha_Sha_Write_ok m6 m7 m8 part_0 (a16, a17, r18) e19).tr [(9000, .slc 0), (9001, .slc 1), (9002, .slc 9000), (8900, .slc 5)] rfl (by kernel_rfl) ⟨.blk (by kernel_rfl) (by kernel_rfl), .ownrd (e := 5) (by kernel_rfl), .rd (by kernel_rfl), trivial⟩ (by kernel_rfl) (by kernel_rfl) rfl rfl)) ?_
        refine q_k ?_
        obtain ⟨hn21, h⟩ := ite_some h
        refine tr_reg hT [(2, .key 6)] [.s 0, .s 1, .s 5, .s 6, .s 7, .h 0, .h 5, .h 6, .h 9000] [sO 0 (.slc 9000), sI 1 .i64 (IntKind.i64.wrap ((IntKind.u64.wrap n_1).tmod (100 : Int))), sO 5 (.ptr 0 0), sO 6 (.slc 6), sI 7 .i64 i10, hB 0 90 [.arr .u32 8 a16, .slc 5, .int .i64 r18], hO 5 5 .u8 a17, hO 6 5 .u8 (all9 ++ part_0), hR 9000 .u8 part_0] [List.length (all9 ++ part_0) ≤ maxN] (by kernel_rfl) (hone hn21) ?_
        refine q_b 1 ?_
        refine q_k ?_
        refine tr_reg hT [] [.s 0, .s 1, .s 5, .s 6, .s 7, .h 0, .h 5, .h 6, .h 9000] [sO 0 (.slc 9000), sI 1 .i64 (IntKind.i64.wrap ((IntKind.u64.wrap n_1).tmod (100 : Int))), sO 5 (.ptr 0 0), sO 6 (.slc 6), sI 7 .i64 (IntKind.i64.wrap (i10 + (1 : Int))), hB 0 90 [.arr .u32 8 a16, .slc 5, .int .i64 r18], hO 5 5 .u8 a17, hO 6 5 .u8 (all9 ++ part_0), hR 9000 .u8 part_0] [] (by kernel_rfl) trivial ?_
        refine q_kr ?_
        exact trR_fit [(1, .slc 5), (2, .slc 6)] [sO 0 (.slc 9000), sI 1 .i64 (IntKind.i64.wrap ((IntKind.u64.wrap n_1).tmod (100 : Int))), sO 5 (.ptr 0 0), sO 6 (.slc 2), sI 7 .i64 (IntKind.i64.wrap (i10 + (1 : Int))), hB 0 90 [.arr .u32 8 a16, .slc 1, .int .i64 r18], hO 1 5 .u8 a17, hO 2 5 .u8 (all9 ++ part_0), hR 9000 .u8 part_0] [(0, .blk 90 [.arr .u32 8 a16, .slc 1, .int .i64 r18]), (1, .own 5 .u8 a17), (2, .own 5 .u8 (all9 ++ part_0)), (9000, .rd .u8 part_0)] (by kernel_rfl) (by kernel_rfl) (by kernel_rfl) rfl ⟨.blk (by kernel_rfl) (by kernel_rfl), .own (by kernel_rfl), .own (by kernel_rfl), .rd (by kernel_rfl), trivial⟩ (by kernel_rfl) (ih0 (a16, a17, r18, (all9 ++ part_0), (IntKind.i64.wrap (i10 + (1 : Int)))) h)
      · refine tr_cond_f (decide (i10 < (IntKind.i64.wrap ((IntKind.u64.wrap n_1).tmod (100 : Int))))) (by kernel_rfl) hc15 ?_
        refine tr_exit ?_
        refine q_k_exit ?_
        refine q_kr_exit ?_
        have h := Option.some.inj h
        subst h
        exact q_fit [(3, .slc 1), (4, .slc 2)] [sO 5 (.ptr 0 0), sO 6 (.slc 4), hB 0 90 [.arr .u32 8 m6, .slc 3, .int .i64 m8], hO 3 5 .u8 m7, hO 4 5 .u8 all9] [(0, .blk 90 [.arr .u32 8 m6, .slc 3, .int .i64 m8]), (3, .own 5 .u8 m7), (4, .own 5 .u8 all9)] (by kernel_rfl) (by kernel_rfl) (by kernel_rfl) rfl ⟨.blk (by kernel_rfl) (by kernel_rfl), .own (by kernel_rfl), .own (by kernel_rfl), trivial⟩ (by kernel_rfl) hx0

theorem law01_ShaTwo_ok (a_0 : List Int) (b_1 : List Int) (r : Bool) (h : law01_ShaTwo a_0 b_1 = some r) : CallOk P 22 [.v (.one (.slc 9000)), .v (.one (.slc 9001))] [(9000, .rd .u8 a_0), (9001, .rd .u8 b_1)] (.v (.one (.bool r))) [] := by
  refine call1 (N := 87) Try.func22 (by kernel_rfl) rfl rfl rfl [(9000, .rd .u8 a_0), (9001, .rd .u8 b_1)] (by kernel_rfl) ?_
  intro _ B w0
  show Tr P B 87 w0 _ _ (RetQ P Try.f22 (R1 _ _ B w0))
  unfold law01_ShaTwo at h
  refine tr_seq ?_
  refine tr_reg hT [] [.s 0, .s 1, .h 9000, .h 9001] [sO 0 (.slc 9000), sO 1 (.slc 9001), hR 9000 .u8 a_0, hR 9001 .u8 b_1] [] (by kernel_rfl) trivial ?_
  refine q_k ?_
  refine tr_seq ?_
  refine tr_seq ?_
  rcases ite_split h with ⟨hb1, h⟩ | ⟨hb2, h⟩
  · refine tr_reg hT [(3, .dec true)] [.s 0, .s 1, .s 15, .h 9000, .h 9001] [sO 0 (.slc 9000), sO 1 (.slc 9001), sB 15 true, hR 9000 .u8 a_0, hR 9001 .u8 b_1] [(decide ((↑(List.length a_0) : Int) > (400 : Int))) = true] (by kernel_rfl) (hone hb1) ?_
    refine q_k ?_
    refine tr_cond_t true (by kernel_rfl) rfl ?_
    refine tr_seq ?_
    refine tr_reg hT [] [.s 4] [sB 4 true] [] (by kernel_rfl) trivial ?_
    refine q_k ?_
    refine tr_ret ?_
    refine q_k_ret ?_
    have h := Option.some.inj h
    subst h
    refine q_less [.s 4] [sB 4 true] (by kernel_rfl) ?_
    exact q_ret1 hT (.v (.one (.bool true))) [] (by kernel_rfl) (by kernel_rfl) (by kernel_rfl)
  · refine tr_reg hT [(3, .dec false)] [.s 0, .s 1, .s 15, .h 9000, .h 9001] [sO 0 (.slc 9000), sO 1 (.slc 9001), sB 15 (decide ((↑(List.length b_1) : Int) > (400 : Int))), hR 9000 .u8 a_0, hR 9001 .u8 b_1] [(decide ((↑(List.length a_0) : Int) > (400 : Int))) = false] (by kernel_rfl) (hone hb2) ?_
    refine q_k ?_
    rcases ite_split h with ⟨hc3, h⟩ | ⟨hc3, h⟩
    · refine tr_cond_t (decide ((↑(List.length b_1) : Int) > (400 : Int))) (by kernel_rfl) hc3 ?_
      refine tr_seq ?_
      refine tr_reg hT [] [.s 4] [sB 4 true] [] (by kernel_rfl) trivial ?_
      refine q_k ?_
      refine tr_ret ?_
      refine q_k_ret ?_
      have h := Option.some.inj h
      subst h
      refine q_less [.s 4] [sB 4 true] (by kernel_rfl) ?_
      exact q_ret1 hT (.v (.one (.bool true))) [] (by kernel_rfl) (by kernel_rfl) (by kernel_rfl)
    · refine tr_cond_f (decide ((↑(List.length b_1) : Int) > (400 : Int))) (by kernel_rfl) hc3 ?_
      refine tr_skip ?_
      refine q_k ?_
      refine tr_seq ?_
      obtain ⟨⟨a4, r5⟩, e6, h⟩ := bind_some h
      obtain ⟨⟨a8, r9⟩, e10, h⟩ := bind_some h
      refine tr_reg hT [(0, .call [] (.v (.one (.ptr 0 0))) [(0, .blk 90 [.arr .u32 8 a4, .nils, .int .i64 r5])]), (1, .call [] (.v (.one (.ptr 1 0))) [(1, .blk 90 [.arr .u32 8 a8, .nils, .int .i64 r9])])] [.s 0, .s 1, .s 5, .s 6, .h 0, .h 1, .h 9000, .h 9001] [sO 0 (.slc 9000), sO 1 (.slc 9001), sO 5 (.ptr 0 0), sO 6 (.ptr 1 0), hB 0 90 [.arr .u32 8 a4, .nils, .int .i64 r5], hB 1 90 [.arr .u32 8 a8, .nils, .int .i64 r9], hR 9000 .u8 a_0, hR 9001 .u8 b_1] [CallOk P 45 [] [] (.v (.one (.ptr 0 0))) [(0, .blk 90 [.arr .u32 8 a4, .nils, .int .i64 r5])], CallOk P 45 [] [] (.v (.one (.ptr 1 0))) [(1, .blk 90 [.arr .u32 8 a8, .nils, .int .i64 r9])]] (by kernel_rfl) (hcons ((sha_New_ok  (a4, r5) e6).tr [(8900, .slc 0)] rfl (by kernel_rfl) trivial (by kernel_rfl) (by kernel_rfl) rfl rfl) (hone ((sha_New_ok  (a8, r9) e10).tr [(8900, .slc 1)] rfl (by kernel_rfl) trivial (by kernel_rfl) (by kernel_rfl) rfl rfl))) ?_
      refine q_k ?_
      refine tr_seq ?_
      refine tr_seq ?_
      obtain ⟨a12, e13, h⟩ := bind_some h
      obtain ⟨a14, e15, h⟩ := bind_some h
      rcases ite_split h with ⟨hb16, h⟩ | ⟨hb17, h⟩
      · refine tr_reg hT [(8, .call [0] (.v (.agg [.arr .u8 32 a12])) []), (9, .call [] (.v (.agg [.arr .u8 32 a14])) []), (12, .dec true)] [.s 0, .s 1, .s 5, .s 6, .s 34, .h 0, .h 1, .h 9000, .h 9001] [sO 0 (.slc 9000), sO 1 (.slc 9001), sO 5 (.ptr 0 0), sO 6 (.ptr 1 0), sB 34 true, hB 0 90 [.arr .u32 8 a4, .nils, .int .i64 r5], hB 1 90 [.arr .u32 8 a8, .nils, .int .i64 r9], hR 9000 .u8 a_0, hR 9001 .u8 b_1] [CallOk P 48 [.v (.one (.ptr 0 0))] [(0, .blk 90 [.arr .u32 8 a4, .nils, .int .i64 r5])] (.v (.agg [.arr .u8 32 a12])) [], CallOk P 42 [.v (.one (.nils))] [] (.v (.agg [.arr .u8 32 a14])) [], (!(decide (a12 = a14))) = true] (by kernel_rfl) (hcons ((sha_Sha_Sum_ok a4 [] r5 a12 e13).tr [(9000, .slc 0), (9001, .nils)] rfl (by kernel_rfl) ⟨.blkr (by kernel_rfl) (by kernel_rfl), .nilrd, trivial⟩ (by kernel_rfl) (by kernel_rfl) rfl rfl) (hcons ((sha_Sum_ok [] a14 e15).tr [(9000, .nils)] rfl (by kernel_rfl) ⟨.nilrd, trivial⟩ (by kernel_rfl) (by kernel_rfl) rfl rfl) (hone hb16))) ?_
        refine q_k ?_
        refine tr_cond_t true (by kernel_rfl) rfl ?_
        refine tr_seq ?_
        refine tr_reg hT [] [.s 4] [sB 4 false] [] (by kernel_rfl) trivial ?_
        refine q_k ?_
        refine tr_ret ?_
        refine q_k_ret ?_
        have h := Option.some.inj h
        subst h
        refine q_less [.s 4] [sB 4 false] (by kernel_rfl) ?_
        exact q_ret1 hT (.v (.one (.bool false))) [] (by kernel_rfl) (by kernel_rfl) (by kernel_rfl)
      · obtain ⟨r18, e19, h⟩ := bind_some h
        refine tr_reg hT [(8, .call [0] (.v (.agg [.arr .u8 32 a12])) []), (9, .call [] (.v (.agg [.arr .u8 32 a14])) []), (12, .dec false), (14, .call [0] (.v (.one (.int .i64 r18))) [])] [.s 0, .s 1, .s 5, .s 6, .s 34, .h 0, .h 1, .h 9000, .h 9001] [sO 0 (.slc 9000), sO 1 (.slc 9001), sO 5 (.ptr 0 0), sO 6 (.ptr 1 0), sB 34 (r18 != (0 : Int)), hB 0 90 [.arr .u32 8 a4, .nils, .int .i64 r5], hB 1 90 [.arr .u32 8 a8, .nils, .int .i64 r9], hR 9000 .u8 a_0, hR 9001 .u8 b_1] [CallOk P 48 [.v (.one (.ptr 0 0))] [(0, .blk 90 [.arr .u32 8 a4, .nils, .int .i64 r5])] (.v (.agg [.arr .u8 32 a12])) [], CallOk P 42 [.v (.one (.nils))] [] (.v (.agg [.arr .u8 32 a14])) [], (!(decide (a12 = a14))) = false, CallOk P 47 [.v (.one (.ptr 0 0))] [(0, .blk 90 [.arr .u32 8 a4, .nils, .int .i64 r5])] (.v (.one (.int .i64 r18))) []] (by kernel_rfl) (hcons ((sha_Sha_Sum_ok a4 [] r5 a12 e13).tr [(9000, .slc 0), (9001, .nils)] rfl (by kernel_rfl) ⟨.blkr (by kernel_rfl) (by kernel_rfl), .nilrd, trivial⟩ (by kernel_rfl) (by kernel_rfl) rfl rfl) (hcons ((sha_Sum_ok [] a14 e15).tr [(9000, .nils)] rfl (by kernel_rfl) ⟨.nilrd, trivial⟩ (by kernel_rfl) (by kernel_rfl) rfl rfl) (hcons hb17 (hone ((sha_Sha_Len_ok a4 [] r5 r18 e19).tr [(9000, .slc 0), (9001, .nils)] rfl (by kernel_rfl) ⟨.blkr (by kernel_rfl) (by kernel_rfl), .nilrd, trivial⟩ (by kernel_rfl) (by kernel_rfl) rfl rfl))))) ?_
        refine q_k ?_
        rcases ite_split h with ⟨hc20, h⟩ | ⟨hc20, h⟩
        · refine tr_cond_t (r18 != (0 : Int)) (by kernel_rfl) hc20 ?_
          refine tr_seq ?_
          refine tr_reg hT [] [.s 4] [sB 4 false] [] (by kernel_rfl) trivial ?_
          refine q_k ?_
          refine tr_ret ?_
          refine q_k_ret ?_
          have h := Option.some.inj h
          subst h
          refine q_less [.s 4] [sB 4 false] (by kernel_rfl) ?_
          exact q_ret1 hT (.v (.one (.bool false))) [] (by kernel_rfl) (by kernel_rfl) (by kernel_rfl)
        · refine tr_cond_f (r18 != (0 : Int)) (by kernel_rfl) hc20 ?_
          refine tr_skip ?_
          refine q_k ?_
          refine tr_seq ?_
          obtain ⟨⟨a21, a22, r23⟩, e24, h⟩ := bind_some h
          refine tr_reg hT [(2, .call [0, 9000] (.tup []) [(2, .own 5 .u8 a22), (0, .blk 90 [.arr .u32 8 a21, .slc 2, .int .i64 r23])])] [.s 0, .s 1, .s 5, .s 6, .h 0, .h 1, .h 2, .h 9000, .h 9001] [sO 0 (.slc 9000), sO 1 (.slc 9001), sO 5 (.ptr 0 0), sO 6 (.ptr 1 0), hB 0 90 [.arr .u32 8 a21, .slc 2, .int .i64 r23], hB 1 90 [.arr .u32 8 a8, .nils, .int .i64 r9], hO 2 5 .u8 a22, hR 9000 .u8 a_0, hR 9001 .u8 b_1] [CallOk P 46 [.v (.one (.ptr 0 0)), .v (.one (.slc 9000))] [(0, .blk 90 [.arr .u32 8 a4, .nils, .int .i64 r5]), (9000, .rd .u8 a_0)] (.tup []) [(2, .own 5 .u8 a22), (0, .blk 90 [.arr .u32 8 a21, .slc 2, .int .i64 r23])]] (by kernel_rfl) (hone ((sha_Sha_Write_ok a4 [] r5 a_0 (a21, a22, r23) e24).tr [(9000, .slc 0), (9001, .nils), (9002, .slc 9000), (8900, .slc 2)] rfl (by kernel_rfl) ⟨.blk (by kernel_rfl) (by kernel_rfl), .nilrd, .rd (by kernel_rfl), trivial⟩ (by kernel_rfl) (by kernel_rfl) rfl rfl)) ?_
          refine q_k ?_
          refine tr_seq ?_
          obtain ⟨⟨a26, a27, r28⟩, e29, h⟩ := bind_some h
          refine tr_reg hT [(2, .call [1, 9001] (.tup []) [(3, .own 5 .u8 a27), (1, .blk 90 [.arr .u32 8 a26, .slc 3, .int .i64 r28])])] [.s 0, .s 1, .s 5, .s 6, .h 0, .h 1, .h 2, .h 3, .h 9000, .h 9001] [sO 0 (.slc 9000), sO 1 (.slc 9001), sO 5 (.ptr 0 0), sO 6 (.ptr 1 0), hB 0 90 [.arr .u32 8 a21, .slc 2, .int .i64 r23], hB 1 90 [.arr .u32 8 a26, .slc 3, .int .i64 r28], hO 2 5 .u8 a22, hO 3 5 .u8 a27, hR 9000 .u8 a_0, hR 9001 .u8 b_1] [CallOk P 46 [.v (.one (.ptr 1 0)), .v (.one (.slc 9001))] [(1, .blk 90 [.arr .u32 8 a8, .nils, .int .i64 r9]), (9001, .rd .u8 b_1)] (.tup []) [(3, .own 5 .u8 a27), (1, .blk 90 [.arr .u32 8 a26, .slc 3, .int .i64 r28])]] (by kernel_rfl) (hone ((sha_Sha_Write_ok a8 [] r9 b_1 (a26, a27, r28) e29).tr [(9000, .slc 1), (9001, .nils), (9002, .slc 9001), (8900, .slc 3)] rfl (by kernel_rfl) ⟨.blk (by kernel_rfl) (by kernel_rfl), .nilrd, .rd (by kernel_rfl), trivial⟩ (by kernel_rfl) (by kernel_rfl) rfl rfl)) ?_
          refine q_k ?_
          refine tr_seq ?_
          obtain ⟨a31, e32, h⟩ := bind_some h
          refine tr_reg hT [(1, .call [0, 2] (.v (.agg [.arr .u8 32 a31])) []), (2, .key 4)] [.s 0, .s 1, .s 5, .s 6, .s 7, .h 0, .h 1, .h 2, .h 3, .h 4, .h 9000, .h 9001] [sO 0 (.slc 9000), sO 1 (.slc 9001), sO 5 (.ptr 0 0), sO 6 (.ptr 1 0), sO 7 (.ptr 4 0), hB 0 90 [.arr .u32 8 a21, .slc 2, .int .i64 r23], hB 1 90 [.arr .u32 8 a26, .slc 3, .int .i64 r28], hO 2 5 .u8 a22, hO 3 5 .u8 a27, hB 4 62 [.arr .u8 32 a31], hR 9000 .u8 a_0, hR 9001 .u8 b_1] [CallOk P 48 [.v (.one (.ptr 0 0))] [(0, .blk 90 [.arr .u32 8 a21, .slc 2, .int .i64 r23]), (2, .own 5 .u8 a22)] (.v (.agg [.arr .u8 32 a31])) []] (by kernel_rfl) (hone ((sha_Sha_Sum_ok a21 a22 r23 a31 e32).tr [(9000, .slc 0), (9001, .slc 2)] rfl (by kernel_rfl) ⟨.blkr (by kernel_rfl) (by kernel_rfl), .ownrd (e := 5) (by kernel_rfl), trivial⟩ (by kernel_rfl) (by kernel_rfl) rfl rfl)) ?_
          refine q_k ?_
          refine tr_seq ?_
          obtain ⟨⟨a33, a34, r35⟩, e36, h⟩ := bind_some h
          refine tr_reg hT [(2, .call [1, 3, 9000] (.tup []) [(5, .own 5 .u8 a34), (1, .blk 90 [.arr .u32 8 a33, .slc 5, .int .i64 r35])])] [.s 0, .s 1, .s 5, .s 6, .s 7, .h 0, .h 1, .h 2, .h 4, .h 5, .h 9000, .h 9001] [sO 0 (.slc 9000), sO 1 (.slc 9001), sO 5 (.ptr 0 0), sO 6 (.ptr 1 0), sO 7 (.ptr 4 0), hB 0 90 [.arr .u32 8 a21, .slc 2, .int .i64 r23], hB 1 90 [.arr .u32 8 a33, .slc 5, .int .i64 r35], hO 2 5 .u8 a22, hB 4 62 [.arr .u8 32 a31], hO 5 5 .u8 a34, hR 9000 .u8 a_0, hR 9001 .u8 b_1] [CallOk P 46 [.v (.one (.ptr 1 0)), .v (.one (.slc 9000))] [(1, .blk 90 [.arr .u32 8 a26, .slc 3, .int .i64 r28]), (3, .own 5 .u8 a27), (9000, .rd .u8 a_0)] (.tup []) [(5, .own 5 .u8 a34), (1, .blk 90 [.arr .u32 8 a33, .slc 5, .int .i64 r35])]] (by kernel_rfl) (hone ((sha_Sha_Write_ok a26 a27 r28 a_0 (a33, a34, r35) e36).tr [(9000, .slc 1), (9001, .slc 3), (9002, .slc 9000), (8900, .slc 5)] rfl (by kernel_rfl) ⟨.blk (by kernel_rfl) (by kernel_rfl), .ownrd (e := 5) (by kernel_rfl), .rd (by kernel_rfl), trivial⟩ (by kernel_rfl) (by kernel_rfl) rfl rfl)) ?_
          refine q_k ?_
          refine tr_seq ?_
          obtain ⟨a38, e39, h⟩ := bind_some h
          rcases ite_split h with ⟨hb40, h⟩ | ⟨hb63, h⟩
          · obtain ⟨a41, e42, h⟩ := bind_some h
            rcases ite_split h with ⟨hb43, h⟩ | ⟨hb62, h⟩
            · obtain ⟨a44, e45, h⟩ := bind_some h
              obtain ⟨hn46, h⟩ := ite_some h
              obtain ⟨hn47, h⟩ := ite_some h
              obtain ⟨a48, e49, h⟩ := bind_some h
              rcases ite_split h with ⟨hb50, h⟩ | ⟨hb61, h⟩
              · obtain ⟨r51, e52, h⟩ := bind_some h
                rcases ite_split h with ⟨hb53, h⟩ | ⟨hb60, h⟩
                · obtain ⟨r54, e55, h⟩ := bind_some h
                  rcases ite_split h with ⟨hb56, h⟩ | ⟨hb59, h⟩
                  · obtain ⟨b57, e58, h⟩ := bind_some h
                    refine tr_regd hT hM [(1, .call [0, 2] (.v (.agg [.arr .u8 32 a38])) []), (4, .dec true), (7, .call [9000] (.v (.agg [.arr .u8 32 a41])) []), (10, .dec true), (12, .call [1, 5] (.v (.agg [.arr .u8 32 a44])) []), (13, .key 6), (15, .key 7), (17, .key 8), (18, .call [8] (.v (.agg [.arr .u8 32 a48])) []), (21, .dec true), (23, .call [0, 2] (.v (.one (.int .i64 r51))) []), (28, .dec true), (30, .call [1, 5] (.v (.one (.int .i64 r54))) []), (38, .dec true), (39, .call [] (.v (.one (.bool b57))) [])] [.s 4] [sB 4 b57] [CallOk P 48 [.v (.one (.ptr 0 0))] [(0, .blk 90 [.arr .u32 8 a21, .slc 2, .int .i64 r23]), (2, .own 5 .u8 a22)] (.v (.agg [.arr .u8 32 a38])) [], (decide (a38 = a31)) = true, CallOk P 42 [.v (.one (.slc 9000))] [(9000, .rd .u8 a_0)] (.v (.agg [.arr .u8 32 a41])) [], (decide (a31 = a41)) = true, CallOk P 48 [.v (.one (.ptr 1 0))] [(1, .blk 90 [.arr .u32 8 a33, .slc 5, .int .i64 r35]), (5, .own 5 .u8 a34)] (.v (.agg [.arr .u8 32 a44])) [], List.length ([] ++ b_1) ≤ maxN, List.length (([] ++ b_1) ++ a_0) ≤ maxN, CallOk P 42 [.v (.one (.slc 8))] [(8, .own 5 .u8 (([] ++ b_1) ++ a_0))] (.v (.agg [.arr .u8 32 a48])) [], (decide (a44 = a48)) = true, CallOk P 47 [.v (.one (.ptr 0 0))] [(0, .blk 90 [.arr .u32 8 a21, .slc 2, .int .i64 r23]), (2, .own 5 .u8 a22)] (.v (.one (.int .i64 r51))) [], (r51 == (↑(List.length a_0) : Int)) = true, CallOk P 47 [.v (.one (.ptr 1 0))] [(1, .blk 90 [.arr .u32 8 a33, .slc 5, .int .i64 r35]), (5, .own 5 .u8 a34)] (.v (.one (.int .i64 r54))) [], (r54 == (IntKind.i64.wrap ((↑(List.length a_0) : Int) + (↑(List.length b_1) : Int)))) = true, CallOk P 44 [] [] (.v (.one (.bool b57))) []] (by kernel_rfl) (hcons ((sha_Sha_Sum_ok a21 a22 r23 a38 e39).tr [(9000, .slc 0), (9001, .slc 2)] rfl (by kernel_rfl) ⟨.blkr (by kernel_rfl) (by kernel_rfl), .ownrd (e := 5) (by kernel_rfl), trivial⟩ (by kernel_rfl) (by kernel_rfl) rfl rfl) (hcons hb40 (hcons ((sha_Sum_ok a_0 a41 e42).tr [(9000, .slc 9000)] rfl (by kernel_rfl) ⟨.rd (by kernel_rfl), trivial⟩ (by kernel_rfl) (by kernel_rfl) rfl rfl) (hcons hb43 (hcons ((sha_Sha_Sum_ok a33 a34 r35 a44 e45).tr [(9000, .slc 1), (9001, .slc 5)] rfl (by kernel_rfl) ⟨.blkr (by kernel_rfl) (by kernel_rfl), .ownrd (e := 5) (by kernel_rfl), trivial⟩ (by kernel_rfl) (by kernel_rfl) rfl rfl) (hcons hn46 (hcons hn47 (hcons ((sha_Sum_ok (([] ++ b_1) ++ a_0) a48 e49).tr [(9000, .slc 8)] rfl (by kernel_rfl) ⟨.ownrd (e := 5) (by kernel_rfl), trivial⟩ (by kernel_rfl) (by kernel_rfl) rfl rfl) (hcons hb50 (hcons ((sha_Sha_Len_ok a21 a22 r23 r51 e52).tr [(9000, .slc 0), (9001, .slc 2)] rfl (by kernel_rfl) ⟨.blkr (by kernel_rfl) (by kernel_rfl), .ownrd (e := 5) (by kernel_rfl), trivial⟩ (by kernel_rfl) (by kernel_rfl) rfl rfl) (hcons hb53 (hcons ((sha_Sha_Len_ok a33 a34 r35 r54 e55).tr [(9000, .slc 1), (9001, .slc 5)] rfl (by kernel_rfl) ⟨.blkr (by kernel_rfl) (by kernel_rfl), .ownrd (e := 5) (by kernel_rfl), trivial⟩ (by kernel_rfl) (by kernel_rfl) rfl rfl) (hcons hb56 (hone (law01_wakes_ok  b57 e58))))))))))))))) ?_
                    refine q_k ?_
                    refine tr_ret ?_
                    have h := Option.some.inj h
                    subst h
                    refine q_less [.s 4] [sB 4 b57] (by kernel_rfl) ?_
                    exact q_ret1 hT (.v (.one (.bool b57))) [] (by kernel_rfl) (by kernel_rfl) (by kernel_rfl)
                  · refine tr_regd hT hM [(1, .call [0, 2] (.v (.agg [.arr .u8 32 a38])) []), (4, .dec true), (7, .call [9000] (.v (.agg [.arr .u8 32 a41])) []), (10, .dec true), (12, .call [1, 5] (.v (.agg [.arr .u8 32 a44])) []), (13, .key 6), (15, .key 7), (17, .key 8), (18, .call [8] (.v (.agg [.arr .u8 32 a48])) []), (21, .dec true), (23, .call [0, 2] (.v (.one (.int .i64 r51))) []), (28, .dec true), (30, .call [1, 5] (.v (.one (.int .i64 r54))) []), (38, .dec false)] [.s 4] [sB 4 false] [CallOk P 48 [.v (.one (.ptr 0 0))] [(0, .blk 90 [.arr .u32 8 a21, .slc 2, .int .i64 r23]), (2, .own 5 .u8 a22)] (.v (.agg [.arr .u8 32 a38])) [], (decide (a38 = a31)) = true, CallOk P 42 [.v (.one (.slc 9000))] [(9000, .rd .u8 a_0)] (.v (.agg [.arr .u8 32 a41])) [], (decide (a31 = a41)) = true, CallOk P 48 [.v (.one (.ptr 1 0))] [(1, .blk 90 [.arr .u32 8 a33, .slc 5, .int .i64 r35]), (5, .own 5 .u8 a34)] (.v (.agg [.arr .u8 32 a44])) [], List.length ([] ++ b_1) ≤ maxN, List.length (([] ++ b_1) ++ a_0) ≤ maxN, CallOk P 42 [.v (.one (.slc 8))] [(8, .own 5 .u8 (([] ++ b_1) ++ a_0))] (.v (.agg [.arr .u8 32 a48])) [], (decide (a44 = a48)) = true, CallOk P 47 [.v (.one (.ptr 0 0))] [(0, .blk 90 [.arr .u32 8 a21, .slc 2, .int .i64 r23]), (2, .own 5 .u8 a22)] (.v (.one (.int .i64 r51))) [], (r51 == (↑(List.length a_0) : Int)) = true, CallOk P 47 [.v (.one (.ptr 1 0))] [(1, .blk 90 [.arr .u32 8 a33, .slc 5, .int .i64 r35]), (5, .own 5 .u8 a34)] (.v (.one (.int .i64 r54))) [], (r54 == (IntKind.i64.wrap ((↑(List.length a_0) : Int) + (↑(List.length b_1) : Int)))) = false] (by kernel_rfl) (hcons ((sha_Sha_Sum_ok a21 a22 r23 a38 e39).tr [(9000, .slc 0), (9001, .slc 2)] rfl (by kernel_rfl) ⟨.blkr (by kernel_rfl) (by kernel_rfl), .ownrd (e := 5) (by kernel_rfl), trivial⟩ (by kernel_rfl) (by kernel_rfl) rfl rfl) (hcons hb40 (hcons ((sha_Sum_ok a_0 a41 e42).tr [(9000, .slc 9000)] rfl (by kernel_rfl) ⟨.rd (by kernel_rfl), trivial⟩ (by kernel_rfl) (by kernel_rfl) rfl rfl) (hcons hb43 (hcons ((sha_Sha_Sum_ok a33 a34 r35 a44 e45).tr [(9000, .slc 1), (9001, .slc 5)] rfl (by kernel_rfl) ⟨.blkr (by kernel_rfl) (by kernel_rfl), .ownrd (e := 5) (by kernel_rfl), trivial⟩ (by kernel_rfl) (by kernel_rfl) rfl rfl) (hcons hn46 (hcons hn47 (hcons ((sha_Sum_ok (([] ++ b_1) ++ a_0) a48 e49).tr [(9000, .slc 8)] rfl (by kernel_rfl) ⟨.ownrd (e := 5) (by kernel_rfl), trivial⟩ (by kernel_rfl) (by kernel_rfl) rfl rfl) (hcons hb50 (hcons ((sha_Sha_Len_ok a21 a22 r23 r51 e52).tr [(9000, .slc 0), (9001, .slc 2)] rfl (by kernel_rfl) ⟨.blkr (by kernel_rfl) (by kernel_rfl), .ownrd (e := 5) (by kernel_rfl), trivial⟩ (by kernel_rfl) (by kernel_rfl) rfl rfl) (hcons hb53 (hcons ((sha_Sha_Len_ok a33 a34 r35 r54 e55).tr [(9000, .slc 1), (9001, .slc 5)] rfl (by kernel_rfl) ⟨.blkr (by kernel_rfl) (by kernel_rfl), .ownrd (e := 5) (by kernel_rfl), trivial⟩ (by kernel_rfl) (by kernel_rfl) rfl rfl) (hone hb59))))))))))))) ?_
                    refine q_k ?_
                    refine tr_ret ?_
                    have h := Option.some.inj h
                    subst h
                    refine q_less [.s 4] [sB 4 false] (by kernel_rfl) ?_
                    exact q_ret1 hT (.v (.one (.bool false))) [] (by kernel_rfl) (by kernel_rfl) (by kernel_rfl)
                · refine tr_regd hT hM [(1, .call [0, 2] (.v (.agg [.arr .u8 32 a38])) []), (4, .dec true), (7, .call [9000] (.v (.agg [.arr .u8 32 a41])) []), (10, .dec true), (12, .call [1, 5] (.v (.agg [.arr .u8 32 a44])) []), (13, .key 6), (15, .key 7), (17, .key 8), (18, .call [8] (.v (.agg [.arr .u8 32 a48])) []), (21, .dec true), (23, .call [0, 2] (.v (.one (.int .i64 r51))) []), (28, .dec false)] [.s 4] [sB 4 false] [CallOk P 48 [.v (.one (.ptr 0 0))] [(0, .blk 90 [.arr .u32 8 a21, .slc 2, .int .i64 r23]), (2, .own 5 .u8 a22)] (.v (.agg [.arr .u8 32 a38])) [], (decide (a38 = a31)) = true, CallOk P 42 [.v (.one (.slc 9000))] [(9000, .rd .u8 a_0)] (.v (.agg [.arr .u8 32 a41])) [], (decide (a31 = a41)) = true, CallOk P 48 [.v (.one (.ptr 1 0))] [(1, .blk 90 [.arr .u32 8 a33, .slc 5, .int .i64 r35]), (5, .own 5 .u8 a34)] (.v (.agg [.arr .u8 32 a44])) [], List.length ([] ++ b_1) ≤ maxN, List.length (([] ++ b_1) ++ a_0) ≤ maxN, CallOk P 42 [.v (.one (.slc 8))] [(8, .own 5 .u8 (([] ++ b_1) ++ a_0))] (.v (.agg [.arr .u8 32 a48])) [], (decide (a44 = a48)) = true, CallOk P 47 [.v (.one (.ptr 0 0))] [(0, .blk 90 [.arr .u32 8 a21, .slc 2, .int .i64 r23]), (2, .own 5 .u8 a22)] (.v (.one (.int .i64 r51))) [], (r51 == (↑(List.length a_0) : Int)) = false] (by kernel_rfl) (hcons ((sha_Sha_Sum_ok a21 a22 r23 a38 e39).tr [(9000, .slc 0), (9001, .slc 2)] rfl (by kernel_rfl) ⟨.blkr (by kernel_rfl) (by kernel_rfl), .ownrd (e := 5) (by kernel_rfl), trivial⟩ (by kernel_rfl) (by kernel_rfl) rfl rfl) (hcons hb40 (hcons ((sha_Sum_ok a_0 a41 e42).tr [(9000, .slc 9000)] rfl (by kernel_rfl) ⟨.rd (by kernel_rfl), trivial⟩ (by kernel_rfl) (by kernel_rfl) rfl rfl) (hcons hb43 (hcons ((sha_Sha_Sum_ok a33 a34 r35 a44 e45).tr [(9000, .slc 1), (9001, .slc 5)] rfl (by kernel_rfl) ⟨.blkr (by kernel_rfl) (by kernel_rfl), .ownrd (e := 5) (by kernel_rfl), trivial⟩ (by kernel_rfl) (by kernel_rfl) rfl rfl) (hcons hn46 (hcons hn47 (hcons ((sha_Sum_ok (([] ++ b_1) ++ a_0) a48 e49).tr [(9000, .slc 8)] rfl (by kernel_rfl) ⟨.ownrd (e := 5) (by kernel_rfl), trivial⟩ (by kernel_rfl) (by kernel_rfl) rfl rfl) (hcons hb50 (hcons ((sha_Sha_Len_ok a21 a22 r23 r51 e52).tr [(9000, .slc 0), (9001, .slc 2)] rfl (by kernel_rfl) ⟨.blkr (by kernel_rfl) (by kernel_rfl), .ownrd (e := 5) (by kernel_rfl), trivial⟩ (by kernel_rfl) (by kernel_rfl) rfl rfl) (hone hb60))))))))))) ?_
                  refine q_k ?_
                  refine tr_ret ?_
                  have h := Option.some.inj h
                  subst h
                  refine q_less [.s 4] [sB 4 false] (by kernel_rfl) ?_
                  exact q_ret1 hT (.v (.one (.bool false))) [] (by kernel_rfl) (by kernel_rfl) (by kernel_rfl)
              · refine tr_regd hT hM [(1, .call [0, 2] (.v (.agg [.arr .u8 32 a38])) []), (4, .dec true), (7, .call [9000] (.v (.agg [.arr .u8 32 a41])) []), (10, .dec true), (12, .call [1, 5] (.v (.agg [.arr .u8 32 a44])) []), (13, .key 6), (15, .key 7), (17, .key 8), (18, .call [8] (.v (.agg [.arr .u8 32 a48])) []), (21, .dec false)] [.s 4] [sB 4 false] [CallOk P 48 [.v (.one (.ptr 0 0))] [(0, .blk 90 [.arr .u32 8 a21, .slc 2, .int .i64 r23]), (2, .own 5 .u8 a22)] (.v (.agg [.arr .u8 32 a38])) [], (decide (a38 = a31)) = true, CallOk P 42 [.v (.one (.slc 9000))] [(9000, .rd .u8 a_0)] (.v (.agg [.arr .u8 32 a41])) [], (decide (a31 = a41)) = true, CallOk P 48 [.v (.one (.ptr 1 0))] [(1, .blk 90 [.arr .u32 8 a33, .slc 5, .int .i64 r35]), (5, .own 5 .u8 a34)] (.v (.agg [.arr .u8 32 a44])) [], List.length ([] ++ b_1) ≤ maxN, List.length (([] ++ b_1) ++ a_0) ≤ maxN, CallOk P 42 [.v (.one (.slc 8))] [(8, .own 5 .u8 (([] ++ b_1) ++ a_0))] (.v (.agg [.arr .u8 32 a48])) [], (decide (a44 = a48)) = false] (by kernel_rfl) (hcons ((sha_Sha_Sum_ok a21 a22 r23 a38 e39).tr [(9000, .slc 0), (9001, .slc 2)] rfl (by kernel_rfl) ⟨.blkr (by kernel_rfl) (by kernel_rfl), .ownrd (e := 5) (by kernel_rfl), trivial⟩ (by kernel_rfl) (by kernel_rfl) rfl rfl) (hcons hb40 (hcons ((sha_Sum_ok a_0 a41 e42).tr [(9000, .slc 9000)] rfl (by kernel_rfl) ⟨.rd (by kernel_rfl), trivial⟩ (by kernel_rfl) (by kernel_rfl) rfl rfl) (hcons hb43 (hcons ((sha_Sha_Sum_ok a33 a34 r35 a44 e45).tr [(9000, .slc 1), (9001, .slc 5)] rfl (by kernel_rfl) ⟨.blkr (by kernel_rfl) (by kernel_rfl), .ownrd (e := 5) (by kernel_rfl), trivial⟩ (by kernel_rfl) (by kernel_rfl) rfl rfl) (hcons hn46 (hcons hn47 (hcons ((sha_Sum_ok (([] ++ b_1) ++ a_0) a48 e49).tr [(9000, .slc 8)] rfl (by kernel_rfl) ⟨.ownrd (e := 5) (by kernel_rfl), trivial⟩ (by kernel_rfl) (by kernel_rfl) rfl rfl) (hone hb61))))))))) ?_
                refine q_k ?_
                refine tr_ret ?_
                have h := Option.some.inj h
                subst h
                refine q_less [.s 4] [sB 4 false] (by kernel_rfl) ?_
                exact q_ret1 hT (.v (.one (.bool false))) [] (by kernel_rfl) (by kernel_rfl) (by kernel_rfl)
            · refine tr_regd hT hM [(1, .call [0, 2] (.v (.agg [.arr .u8 32 a38])) []), (4, .dec true), (7, .call [9000] (.v (.agg [.arr .u8 32 a41])) []), (10, .dec false)] [.s 4] [sB 4 false] [CallOk P 48 [.v (.one (.ptr 0 0))] [(0, .blk 90 [.arr .u32 8 a21, .slc 2, .int .i64 r23]), (2, .own 5 .u8 a22)] (.v (.agg [.arr .u8 32 a38])) [], (decide (a38 = a31)) = true, CallOk P 42 [.v (.one (.slc 9000))] [(9000, .rd .u8 a_0)] (.v (.agg [.arr .u8 32 a41])) [], (decide (a31 = a41)) = false] (by kernel_rfl) (hcons ((sha_Sha_Sum_ok a21 a22 r23 a38 e39).tr [(9000, .slc 0), (9001, .slc 2)] rfl (by kernel_rfl) ⟨.blkr (by kernel_rfl) (by kernel_rfl), .ownrd (e := 5) (by kernel_rfl), trivial⟩ (by kernel_rfl) (by kernel_rfl) rfl rfl) (hcons hb40 (hcons ((sha_Sum_ok a_0 a41 e42).tr [(9000, .slc 9000)] rfl (by kernel_rfl) ⟨.rd (by kernel_rfl), trivial⟩ (by kernel_rfl) (by kernel_rfl) rfl rfl) (hone hb62)))) ?_
              refine q_k ?_
              refine tr_ret ?_
              have h := Option.some.inj h
              subst h
              refine q_less [.s 4] [sB 4 false] (by kernel_rfl) ?_
              exact q_ret1 hT (.v (.one (.bool false))) [] (by kernel_rfl) (by kernel_rfl) (by kernel_rfl)
          · refine tr_regd hT hM [(1, .call [0, 2] (.v (.agg [.arr .u8 32 a38])) []), (4, .dec false)] [.s 4] [sB 4 false] [CallOk P 48 [.v (.one (.ptr 0 0))] [(0, .blk 90 [.arr .u32 8 a21, .slc 2, .int .i64 r23]), (2, .own 5 .u8 a22)] (.v (.agg [.arr .u8 32 a38])) [], (decide (a38 = a31)) = false] (by kernel_rfl) (hcons ((sha_Sha_Sum_ok a21 a22 r23 a38 e39).tr [(9000, .slc 0), (9001, .slc 2)] rfl (by kernel_rfl) ⟨.blkr (by kernel_rfl) (by kernel_rfl), .ownrd (e := 5) (by kernel_rfl), trivial⟩ (by kernel_rfl) (by kernel_rfl) rfl rfl) (hone hb63)) ?_
            refine q_k ?_
            refine tr_ret ?_
            have h := Option.some.inj h
            subst h
            refine q_less [.s 4] [sB 4 false] (by kernel_rfl) ?_
            exact q_ret1 hT (.v (.one (.bool false))) [] (by kernel_rfl) (by kernel_rfl) (by kernel_rfl)

end Go.Proofs.Sa
