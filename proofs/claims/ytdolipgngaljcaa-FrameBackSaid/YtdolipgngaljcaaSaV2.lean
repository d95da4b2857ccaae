/- Walks, printed by a program of this session (gowalk.py): each Go function comes to its plain function's answer. -/
import Derived.Test.YtdolipgngaljcaaSaA
import Derived.Test.YtdolipgngaljcaaSaD
import Derived.Test.YtdolipgngaljcaaGwI
import Derived.Test.YtdolipgngaljcaaSaV0
import Derived.Test.YtdolipgngaljcaaSaV1
namespace Go.Proofs.Sa
open Go Go.Gw D
set_option linter.unusedVariables false
set_option maxRecDepth 20000

theorem ref01_padded_ok (b_0 : List Int) (block_1 : Int) (size_2 : Int) (r : List Int) (h : ref01_padded b_0 block_1 size_2 = some r) : CallOk P 54 [.v (.one (.slc 9000)), .v (.one (.int .i64 block_1)), .v (.one (.int .i64 size_2))] [(9000, .rd .u8 b_0)] (.v (.one (.slc 8900))) [(8900, .own 5 .u8 r)] := by
  refine call1 (N := 50) Try.func54 (by kernel_rfl) rfl rfl rfl [(9000, .rd .u8 b_0)] (by kernel_rfl) ?_
  intro _ B w0
  show Tr P B 50 w0 _ _ (RetQ P Try.f54 (R1 _ _ B w0))
  unfold ref01_padded at h
  refine tr_seq ?_
  refine tr_reg hT [] [.s 0, .s 1, .s 2, .h 9000] [sO 0 (.slc 9000), sI 1 .i64 block_1, sI 2 .i64 size_2, hR 9000 .u8 b_0] [] (by kernel_rfl) trivial ?_
  refine q_k ?_
  refine tr_seq ?_
  refine tr_reg hT [] [.s 0, .s 1, .s 2, .s 7, .h 9000] [sO 0 (.slc 9000), sI 1 .i64 block_1, sI 2 .i64 size_2, sO 7 (.nils), hR 9000 .u8 b_0] [] (by kernel_rfl) trivial ?_
  refine q_k ?_
  refine tr_seq ?_
  obtain ⟨hn1, h⟩ := ite_some h
  obtain ⟨hn2, h⟩ := ite_some h
  refine tr_reg hT [(2, .key 0), (3, .key 1), (4, .key 2)] [.s 0, .s 1, .s 2, .s 7, .h 2, .h 9000] [sO 0 (.slc 9000), sI 1 .i64 block_1, sI 2 .i64 size_2, sO 7 (.slc 2), hO 2 5 .u8 (b_0 ++ [(128 : Int)]), hR 9000 .u8 b_0] [List.length b_0 ≤ maxN, List.length (b_0 ++ [(128 : Int)]) ≤ maxN] (by kernel_rfl) (hcons hn1 (hone hn2)) ?_
  refine q_k ?_
  refine tr_seq ?_
  refine tr_block ?_
  obtain ⟨out4, e8, h⟩ := bind_some h
  refine tr_fit [(3, .slc 2)] [sO 0 (.slc 9000), sI 1 .i64 block_1, sI 2 .i64 size_2, sO 7 (.slc 3), hO 3 5 .u8 (b_0 ++ [(128 : Int)]), hR 9000 .u8 b_0] [(3, .own 5 .u8 (b_0 ++ [(128 : Int)])), (9000, .rd .u8 b_0)] (by kernel_rfl) (by kernel_rfl) (by kernel_rfl) rfl ⟨.own (by kernel_rfl), .rd (by kernel_rfl), trivial⟩ (by kernel_rfl) ?_
  refine tr_loop_fuel (id := 0) (α := List Int) (β := List Int) (fun z => [sO 0 (.slc 9000), sI 1 .i64 block_1, sI 2 .i64 size_2, sO 7 (.slc 3), hO 3 5 .u8 z, hR 9000 .u8 b_0]) (fun z => [sO 0 (.slc 9000), sI 2 .i64 size_2, sO 7 (.slc 4), hO 4 5 .u8 z, hR 9000 .u8 b_0]) (fun k z => ref01_padded_l0 b_0 block_1 size_2 k z) out4 (fun _ => rfl) ((Int.toNat block_1) + 1) (b_0 ++ [(128 : Int)]) e8 ?_ ?_
  · skip
    replace h : ((ref01_padded_l1 b_0 (((IntKind.i64.wrap (size_2 - (1 : Int))) - (0 : Int) + 1).toNat + 1) out4 (IntKind.i64.wrap (size_2 - (1 : Int)))).bind (fun out11 => some out11)) = _ := h
    refine q_b_this ?_
    refine q_k ?_
    refine tr_seq ?_
    refine tr_reg hT [] [.s 2, .s 7, .s 8, .h 4] [sI 2 .i64 size_2, sO 7 (.slc 4), sI 8 .u64 (IntKind.u64.wrap ((IntKind.u64.wrap (↑(List.length b_0) : Int)) * (8 : Int))), hO 4 5 .u8 out4] [] (by kernel_rfl) trivial ?_
    refine q_k ?_
    refine tr_seq ?_
    refine tr_seq ?_
    refine tr_reg hT [] [.s 7, .s 8, .s 9, .h 4] [sO 7 (.slc 4), sI 8 .u64 (IntKind.u64.wrap ((IntKind.u64.wrap (↑(List.length b_0) : Int)) * (8 : Int))), sI 9 .i64 (IntKind.i64.wrap (size_2 - (1 : Int))), hO 4 5 .u8 out4] [] (by kernel_rfl) trivial ?_
    refine q_k ?_
    refine tr_block ?_
    obtain ⟨out11, e17, h⟩ := bind_some h
    refine tr_fit [(7, .slc 4)] [sO 7 (.slc 7), sI 8 .u64 (IntKind.u64.wrap ((IntKind.u64.wrap (↑(List.length b_0) : Int)) * (8 : Int))), sI 9 .i64 (IntKind.i64.wrap (size_2 - (1 : Int))), hO 7 5 .u8 out4] [(7, .own 5 .u8 out4)] (by kernel_rfl) (by kernel_rfl) (by kernel_rfl) rfl ⟨.own (by kernel_rfl), trivial⟩ (by kernel_rfl) ?_
    refine tr_loop_fuel (id := 2) (α := List Int × Int) (β := List Int) (fun z => [sO 7 (.slc 7), sI 8 .u64 (IntKind.u64.wrap ((IntKind.u64.wrap (↑(List.length b_0) : Int)) * (8 : Int))), sI 9 .i64 z.2, hO 7 5 .u8 z.1]) (fun z => [sO 7 (.slc 8), hO 8 5 .u8 z]) (fun k z => ref01_padded_l1 b_0 k z.1 z.2) out11 (fun _ => rfl) (((IntKind.i64.wrap (size_2 - (1 : Int))) - (0 : Int) + 1).toNat + 1) (out4, (IntKind.i64.wrap (size_2 - (1 : Int)))) e17 ?_ ?_
    · skip
      replace h : (some out11) = _ := h
      refine q_b_this ?_
      refine q_k ?_
      refine tr_seq ?_
      refine tr_reg hT [] [.s 6, .h 8] [sO 6 (.slc 8), hO 8 5 .u8 out11] [] (by kernel_rfl) trivial ?_
      refine q_k ?_
      refine tr_ret ?_
      have h := Option.some.inj h
      subst h
      refine q_fit [(8900, .slc 8)] [sO 6 (.slc 8900), hO 8900 5 .u8 out11] [(8900, .own 5 .u8 out11)] (by kernel_rfl) (by kernel_rfl) (by kernel_rfl) rfl ⟨.own (by kernel_rfl), trivial⟩ (by kernel_rfl) ?_
      exact q_ret1 hT (.v (.one (.slc 8900))) [(8900, .own 5 .u8 out11)] (by kernel_rfl) (by kernel_rfl) (by kernel_rfl)
    · clear h e17
      intro k ih1 hx1 z h
      obtain ⟨out9, i10⟩ := z
      replace h : (if (decide (i10 ≥ (0 : Int))) = true then if (decide (i10 ≥ (8 : Int))) = true then if List.length (out9 ++ [(0 : Int)]) ≤ maxN then ref01_padded_l1 b_0 k (out9 ++ [(0 : Int)]) (IntKind.i64.wrap (i10 - (1 : Int))) else none else if 0 ≤ (IntKind.u64.wrap ((8 : Int) * (IntKind.u64.wrap i10))) then if List.length (out9 ++ [(IntKind.u8.wrap (shr .u64 (IntKind.u64.wrap ((IntKind.u64.wrap (↑(List.length b_0) : Int)) * (8 : Int))) (IntKind.u64.wrap ((8 : Int) * (IntKind.u64.wrap i10)))))]) ≤ maxN then ref01_padded_l1 b_0 k (out9 ++ [(IntKind.u8.wrap (shr .u64 (IntKind.u64.wrap ((IntKind.u64.wrap (↑(List.length b_0) : Int)) * (8 : Int))) (IntKind.u64.wrap ((8 : Int) * (IntKind.u64.wrap i10)))))]) (IntKind.i64.wrap (i10 - (1 : Int))) else none else none else some out9) = _ := h
      refine tr_seq ?_
      refine tr_seq ?_
      refine tr_reg hT [] [.s 7, .s 8, .s 9, .s 32, .h 7] [sO 7 (.slc 7), sI 8 .u64 (IntKind.u64.wrap ((IntKind.u64.wrap (↑(List.length b_0) : Int)) * (8 : Int))), sI 9 .i64 i10, sB 32 (decide (i10 ≥ (0 : Int))), hO 7 5 .u8 out9] [] (by kernel_rfl) trivial ?_
      refine q_k ?_
      rcases ite_split h with ⟨hc12, h⟩ | ⟨hc12, h⟩
      · refine tr_cond_t (decide (i10 ≥ (0 : Int))) (by kernel_rfl) hc12 ?_
        refine tr_skip ?_
        refine q_k ?_
        refine tr_seq ?_
        refine tr_block ?_
        refine tr_seq ?_
        refine tr_reg hT [] [.s 7, .s 8, .s 9, .s 36, .h 7] [sO 7 (.slc 7), sI 8 .u64 (IntKind.u64.wrap ((IntKind.u64.wrap (↑(List.length b_0) : Int)) * (8 : Int))), sI 9 .i64 i10, sB 36 (decide (i10 ≥ (8 : Int))), hO 7 5 .u8 out9] [] (by kernel_rfl) trivial ?_
        refine q_k ?_
        rcases ite_split h with ⟨hc13, h⟩ | ⟨hc13, h⟩
        · refine tr_cond_t (decide (i10 ≥ (8 : Int))) (by kernel_rfl) hc13 ?_
          obtain ⟨hn14, h⟩ := ite_some h
          refine tr_reg hT [(1, .key 9), (2, .key 10)] [.s 7, .s 8, .s 9, .h 10] [sO 7 (.slc 10), sI 8 .u64 (IntKind.u64.wrap ((IntKind.u64.wrap (↑(List.length b_0) : Int)) * (8 : Int))), sI 9 .i64 i10, hO 10 5 .u8 (out9 ++ [(0 : Int)])] [List.length (out9 ++ [(0 : Int)]) ≤ maxN] (by kernel_rfl) (hone hn14) ?_
          refine q_b 3 ?_
          refine q_k ?_
          refine tr_reg hT [] [.s 7, .s 8, .s 9, .h 10] [sO 7 (.slc 10), sI 8 .u64 (IntKind.u64.wrap ((IntKind.u64.wrap (↑(List.length b_0) : Int)) * (8 : Int))), sI 9 .i64 (IntKind.i64.wrap (i10 - (1 : Int))), hO 10 5 .u8 (out9 ++ [(0 : Int)])] [] (by kernel_rfl) trivial ?_
          refine q_kr ?_
          exact trR_fit [(7, .slc 10)] [sO 7 (.slc 7), sI 8 .u64 (IntKind.u64.wrap ((IntKind.u64.wrap (↑(List.length b_0) : Int)) * (8 : Int))), sI 9 .i64 (IntKind.i64.wrap (i10 - (1 : Int))), hO 7 5 .u8 (out9 ++ [(0 : Int)])] [(7, .own 5 .u8 (out9 ++ [(0 : Int)]))] (by kernel_rfl) (by kernel_rfl) (by kernel_rfl) rfl ⟨.own (by kernel_rfl), trivial⟩ (by kernel_rfl) (ih1 ((out9 ++ [(0 : Int)]), (IntKind.i64.wrap (i10 - (1 : Int)))) h)
        · refine tr_cond_f (decide (i10 ≥ (8 : Int))) (by kernel_rfl) hc13 ?_
          obtain ⟨hn15, h⟩ := ite_some h
          obtain ⟨hn16, h⟩ := ite_some h
          refine tr_reg hT [(7, .key 11), (8, .key 12)] [.s 7, .s 8, .s 9, .h 12] [sO 7 (.slc 12), sI 8 .u64 (IntKind.u64.wrap ((IntKind.u64.wrap (↑(List.length b_0) : Int)) * (8 : Int))), sI 9 .i64 i10, hO 12 5 .u8 (out9 ++ [(IntKind.u8.wrap (shr .u64 (IntKind.u64.wrap ((IntKind.u64.wrap (↑(List.length b_0) : Int)) * (8 : Int))) (IntKind.u64.wrap ((8 : Int) * (IntKind.u64.wrap i10)))))])] [0 ≤ (IntKind.u64.wrap ((8 : Int) * (IntKind.u64.wrap i10))), List.length (out9 ++ [(IntKind.u8.wrap (shr .u64 (IntKind.u64.wrap ((IntKind.u64.wrap (↑(List.length b_0) : Int)) * (8 : Int))) (IntKind.u64.wrap ((8 : Int) * (IntKind.u64.wrap i10)))))]) ≤ maxN] (by kernel_rfl) (hcons hn15 (hone hn16)) ?_
          refine q_b 3 ?_
          refine q_k ?_
          refine tr_reg hT [] [.s 7, .s 8, .s 9, .h 12] [sO 7 (.slc 12), sI 8 .u64 (IntKind.u64.wrap ((IntKind.u64.wrap (↑(List.length b_0) : Int)) * (8 : Int))), sI 9 .i64 (IntKind.i64.wrap (i10 - (1 : Int))), hO 12 5 .u8 (out9 ++ [(IntKind.u8.wrap (shr .u64 (IntKind.u64.wrap ((IntKind.u64.wrap (↑(List.length b_0) : Int)) * (8 : Int))) (IntKind.u64.wrap ((8 : Int) * (IntKind.u64.wrap i10)))))])] [] (by kernel_rfl) trivial ?_
          refine q_kr ?_
          exact trR_fit [(7, .slc 12)] [sO 7 (.slc 7), sI 8 .u64 (IntKind.u64.wrap ((IntKind.u64.wrap (↑(List.length b_0) : Int)) * (8 : Int))), sI 9 .i64 (IntKind.i64.wrap (i10 - (1 : Int))), hO 7 5 .u8 (out9 ++ [(IntKind.u8.wrap (shr .u64 (IntKind.u64.wrap ((IntKind.u64.wrap (↑(List.length b_0) : Int)) * (8 : Int))) (IntKind.u64.wrap ((8 : Int) * (IntKind.u64.wrap i10)))))])] [(7, .own 5 .u8 (out9 ++ [(IntKind.u8.wrap (shr .u64 (IntKind.u64.wrap ((IntKind.u64.wrap (↑(List.length b_0) : Int)) * (8 : Int))) (IntKind.u64.wrap ((8 : Int) * (IntKind.u64.wrap i10)))))]))] (by kernel_rfl) (by kernel_rfl) (by kernel_rfl) rfl ⟨.own (by kernel_rfl), trivial⟩ (by kernel_rfl) (ih1 ((out9 ++ [(IntKind.u8.wrap (shr .u64 (IntKind.u64.wrap ((IntKind.u64.wrap (↑(List.length b_0) : Int)) * (8 : Int))) (IntKind.u64.wrap ((8 : Int) * (IntKind.u64.wrap i10)))))]), (IntKind.i64.wrap (i10 - (1 : Int)))) h)
      · refine tr_cond_f (decide (i10 ≥ (0 : Int))) (by kernel_rfl) hc12 ?_
        refine tr_exit ?_
        refine q_k_exit ?_
        refine q_kr_exit ?_
        have h := Option.some.inj h
        subst h
        exact q_fit [(8, .slc 7)] [sO 7 (.slc 8), hO 8 5 .u8 out9] [(8, .own 5 .u8 out9)] (by kernel_rfl) (by kernel_rfl) (by kernel_rfl) rfl ⟨.own (by kernel_rfl), trivial⟩ (by kernel_rfl) hx1
  · clear h e8
    intro k ih0 hx0 out3 h
    replace h : (if block_1 ≠ 0 then if (((IntKind.i64.wrap ((↑(List.length out3) : Int) + size_2)).tmod block_1) != (0 : Int)) = true then if List.length (out3 ++ [(0 : Int)]) ≤ maxN then ref01_padded_l0 b_0 block_1 size_2 k (out3 ++ [(0 : Int)]) else none else some out3 else none) = _ := h
    refine tr_seq ?_
    refine tr_seq ?_
    obtain ⟨hn5, h⟩ := ite_some h
    refine tr_reg hT [] [.s 0, .s 1, .s 2, .s 7, .s 21, .h 3, .h 9000] [sO 0 (.slc 9000), sI 1 .i64 block_1, sI 2 .i64 size_2, sO 7 (.slc 3), sB 21 (((IntKind.i64.wrap ((↑(List.length out3) : Int) + size_2)).tmod block_1) != (0 : Int)), hO 3 5 .u8 out3, hR 9000 .u8 b_0] [block_1 ≠ 0] (by kernel_rfl) (hone hn5) ?_
    refine q_k ?_
    rcases ite_split h with ⟨hc6, h⟩ | ⟨hc6, h⟩
    · refine tr_cond_t (((IntKind.i64.wrap ((↑(List.length out3) : Int) + size_2)).tmod block_1) != (0 : Int)) (by kernel_rfl) hc6 ?_
      refine tr_skip ?_
      refine q_k ?_
      refine tr_block ?_
      obtain ⟨hn7, h⟩ := ite_some h
      refine tr_reg hT [(1, .key 5), (2, .key 6)] [.s 0, .s 1, .s 2, .s 7, .h 6, .h 9000] [sO 0 (.slc 9000), sI 1 .i64 block_1, sI 2 .i64 size_2, sO 7 (.slc 6), hO 6 5 .u8 (out3 ++ [(0 : Int)]), hR 9000 .u8 b_0] [List.length (out3 ++ [(0 : Int)]) ≤ maxN] (by kernel_rfl) (hone hn7) ?_
      refine q_b 1 ?_
      refine q_kr ?_
      exact trR_fit [(3, .slc 6)] [sO 0 (.slc 9000), sI 1 .i64 block_1, sI 2 .i64 size_2, sO 7 (.slc 3), hO 3 5 .u8 (out3 ++ [(0 : Int)]), hR 9000 .u8 b_0] [(3, .own 5 .u8 (out3 ++ [(0 : Int)])), (9000, .rd .u8 b_0)] (by kernel_rfl) (by kernel_rfl) (by kernel_rfl) rfl ⟨.own (by kernel_rfl), .rd (by kernel_rfl), trivial⟩ (by kernel_rfl) (ih0 (out3 ++ [(0 : Int)]) h)
    · refine tr_cond_f (((IntKind.i64.wrap ((↑(List.length out3) : Int) + size_2)).tmod block_1) != (0 : Int)) (by kernel_rfl) hc6 ?_
      refine tr_exit ?_
      refine q_k_exit ?_
      refine q_kr_exit ?_
      have h := Option.some.inj h
      subst h
      exact q_fit [(4, .slc 3)] [sO 0 (.slc 9000), sI 2 .i64 size_2, sO 7 (.slc 4), hO 4 5 .u8 out3, hR 9000 .u8 b_0] [(4, .own 5 .u8 out3), (9000, .rd .u8 b_0)] (by kernel_rfl) (by kernel_rfl) (by kernel_rfl) rfl ⟨.own (by kernel_rfl), .rd (by kernel_rfl), trivial⟩ (by kernel_rfl) hx0

theorem ref01_rot64_ok (x_0 : Int) (n_1 : Int) (r : Int) (h : ref01_rot64 x_0 n_1 = some r) {pre : List (Nat × Ent)} : CallOk P 55 [.v (.one (.int .u64 x_0)), .v (.one (.int .i64 n_1))] pre (.v (.one (.int .u64 r))) [] := by
  refine call0 (N := 9) Try.func55 (by kernel_rfl) rfl rfl rfl pre ?_
  intro _ w
  show Tr P (Ge w) 9 _ _ _ (RetQ P Try.f55 (R0 _ w))
  unfold ref01_rot64 at h
  refine tr_seq ?_
  refine tr_reg hT [] [.s 0, .s 1] [sI 0 .u64 x_0, sI 1 .i64 n_1] [] (by kernel_rfl) trivial ?_
  refine q_k ?_
  refine tr_seq ?_
  obtain ⟨r1, e2, h⟩ := bind_some h
  refine tr_reg hT [(3, .call [] (.v (.one (.int .u64 r1))) [])] [.s 4] [sI 4 .u64 r1] [CallOk P 69 [.v (.one (.int .u64 x_0)), .v (.one (.int .i64 (IntKind.i64.wrap (0 - n_1))))] [] (.v (.one (.int .u64 r1))) []] (by kernel_rfl) (hone (math_bits_RotateLeft64_ok x_0 (IntKind.i64.wrap (0 - n_1)) r1 e2)) ?_
  refine q_k ?_
  refine tr_ret ?_
  have h := Option.some.inj h
  subst h
  exact q_ret0 hT (.v (.one (.int .u64 r1))) rfl (by kernel_rfl)

theorem ref01_Sum512_ok (b_0 : List Int) (r : List Int) (h : ref01_Sum512 b_0 = some r) : CallOk P 30 [.v (.one (.slc 9000))] [(9000, .rd .u8 b_0)] (.v (.agg [.arr .u8 64 r])) [] := by
  refine call1 (N := 208) Try.func30 (by kernel_rfl) rfl rfl rfl [(9000, .rd .u8 b_0)] (by kernel_rfl) ?_
  intro _ B w0
  show Tr P B 208 w0 _ _ (RetQ P Try.f30 (R1 _ _ B w0))
  unfold ref01_Sum512 at h
  refine tr_seq ?_
  refine tr_reg hT [(0, .key 0)] [.s 0, .s 2, .h 0, .h 9000] [sO 0 (.slc 9000), sO 2 (.ptr 0 0), hB 0 34 [.arr .u8 64 (List.replicate 64 0)], hR 9000 .u8 b_0] [] (by kernel_rfl) trivial ?_
  refine q_k ?_
  refine tr_seq ?_
  obtain ⟨a1, e2, h⟩ := bind_some h
  refine tr_reg hT [(0, .call [] (.v (.agg [.arr .u64 80 a1])) []), (1, .key 1)] [.s 0, .s 2, .s 3, .h 0, .h 1, .h 9000] [sO 0 (.slc 9000), sO 2 (.ptr 0 0), sO 3 (.ptr 1 0), hB 0 34 [.arr .u8 64 (List.replicate 64 0)], hB 1 76 [.arr .u64 80 a1], hR 9000 .u8 b_0] [CallOk P 53 [] [] (.v (.agg [.arr .u64 80 a1])) []] (by kernel_rfl) (hone (ref01_k512_ok  a1 e2)) ?_
  refine q_k ?_
  refine tr_seq ?_
  refine tr_reg hT [(1, .key 2)] [.s 0, .s 2, .s 3, .s 4, .h 0, .h 1, .h 2, .h 9000] [sO 0 (.slc 9000), sO 2 (.ptr 0 0), sO 3 (.ptr 1 0), sO 4 (.ptr 2 0), hB 0 34 [.arr .u8 64 (List.replicate 64 0)], hB 1 76 [.arr .u64 80 a1], hB 2 73 [.arr .u64 8 [(7640891576956012808 : Int), (13503953896175478587 : Int), (4354685564936845355 : Int), (11912009170470909681 : Int), (5840696475078001361 : Int), (11170449401992604703 : Int), (2270897969802886507 : Int), (6620516959819538809 : Int)]], hR 9000 .u8 b_0] [] (by kernel_rfl) trivial ?_
  refine q_k ?_
  refine tr_seq ?_
  obtain ⟨a3, e4, h⟩ := bind_some h
  refine tr_reg hT [(1, .call [9000] (.v (.one (.slc 3))) [(3, .own 5 .u8 a3)])] [.s 2, .s 3, .s 4, .s 5, .h 0, .h 1, .h 2, .h 3] [sO 2 (.ptr 0 0), sO 3 (.ptr 1 0), sO 4 (.ptr 2 0), sO 5 (.slc 3), hB 0 34 [.arr .u8 64 (List.replicate 64 0)], hB 1 76 [.arr .u64 80 a1], hB 2 73 [.arr .u64 8 [(7640891576956012808 : Int), (13503953896175478587 : Int), (4354685564936845355 : Int), (11912009170470909681 : Int), (5840696475078001361 : Int), (11170449401992604703 : Int), (2270897969802886507 : Int), (6620516959819538809 : Int)]], hO 3 5 .u8 a3] [CallOk P 54 [.v (.one (.slc 9000)), .v (.one (.int .i64 (128 : Int))), .v (.one (.int .i64 (16 : Int)))] [(9000, .rd .u8 b_0)] (.v (.one (.slc 3))) [(3, .own 5 .u8 a3)]] (by kernel_rfl) (hone ((ref01_padded_ok b_0 (128 : Int) (16 : Int) a3 e4).tr [(9000, .slc 9000), (8900, .slc 3)] rfl (by kernel_rfl) ⟨.rd (by kernel_rfl), trivial⟩ (by kernel_rfl) (by kernel_rfl) rfl rfl)) ?_
  refine q_k ?_
  refine tr_seq ?_
  refine tr_seq ?_
  refine tr_reg hT [] [.s 2, .s 3, .s 4, .s 5, .s 6, .h 0, .h 1, .h 2, .h 3] [sO 2 (.ptr 0 0), sO 3 (.ptr 1 0), sO 4 (.ptr 2 0), sO 5 (.slc 3), sI 6 .i64 (0 : Int), hB 0 34 [.arr .u8 64 (List.replicate 64 0)], hB 1 76 [.arr .u64 80 a1], hB 2 73 [.arr .u64 8 [(7640891576956012808 : Int), (13503953896175478587 : Int), (4354685564936845355 : Int), (11912009170470909681 : Int), (5840696475078001361 : Int), (11170449401992604703 : Int), (2270897969802886507 : Int), (6620516959819538809 : Int)]], hO 3 5 .u8 a3] [] (by kernel_rfl) trivial ?_
  refine q_k ?_
  refine tr_block ?_
  obtain ⟨m7, e63, h⟩ := bind_some h
  refine tr_fit [] [sO 2 (.ptr 0 0), sO 3 (.ptr 1 0), sO 4 (.ptr 2 0), sO 5 (.slc 3), sI 6 .i64 (0 : Int), hB 0 34 [.arr .u8 64 (List.replicate 64 0)], hB 1 76 [.arr .u64 80 a1], hB 2 73 [.arr .u64 8 [(7640891576956012808 : Int), (13503953896175478587 : Int), (4354685564936845355 : Int), (11912009170470909681 : Int), (5840696475078001361 : Int), (11170449401992604703 : Int), (2270897969802886507 : Int), (6620516959819538809 : Int)]], hO 3 5 .u8 a3] [(0, .blk 34 [.arr .u8 64 (List.replicate 64 0)]), (1, .blk 76 [.arr .u64 80 a1]), (2, .blk 73 [.arr .u64 8 [(7640891576956012808 : Int), (13503953896175478587 : Int), (4354685564936845355 : Int), (11912009170470909681 : Int), (5840696475078001361 : Int), (11170449401992604703 : Int), (2270897969802886507 : Int), (6620516959819538809 : Int)]]), (3, .own 5 .u8 a3)] (by kernel_rfl) (by kernel_rfl) (by kernel_rfl) rfl ⟨.blk (by kernel_rfl) (by kernel_rfl), .blk (by kernel_rfl) (by kernel_rfl), .blk (by kernel_rfl) (by kernel_rfl), .own (by kernel_rfl), trivial⟩ (by kernel_rfl) ?_
  refine tr_loop_fuel (id := 0) (α := List Int × Int) (β := List Int) (fun z => [sO 2 (.ptr 0 0), sO 3 (.ptr 1 0), sO 4 (.ptr 2 0), sO 5 (.slc 3), sI 6 .i64 z.2, hB 0 34 [.arr .u8 64 (List.replicate 64 0)], hB 1 76 [.arr .u64 80 a1], hB 2 73 [.arr .u64 8 z.1], hO 3 5 .u8 a3]) (fun z => [sO 2 (.ptr 0 0), sO 4 (.ptr 2 0), hB 0 34 [.arr .u8 64 (List.replicate 64 0)], hB 2 73 [.arr .u64 8 z]]) (fun k z => ref01_Sum512_l0 a1 a3 k z.1 z.2) m7 (fun _ => rfl) (((↑(List.length a3) : Int) - (0 : Int)).toNat + 1) ([(7640891576956012808 : Int), (13503953896175478587 : Int), (4354685564936845355 : Int), (11912009170470909681 : Int), (5840696475078001361 : Int), (11170449401992604703 : Int), (2270897969802886507 : Int), (6620516959819538809 : Int)], (0 : Int)) e63 ?_ ?_
  · skip
    replace h : ((ref01_Sum512_l5 m7 (((64 : Int) - (0 : Int)).toNat + 1) (List.replicate 64 0) (0 : Int)).bind (fun m66 => some m66)) = _ := h
    refine q_b_this ?_
    refine q_k ?_
    refine tr_seq ?_
    refine tr_reg hT [(0, .key 6)] [.s 2, .s 4, .s 19, .h 0, .h 2, .h 6] [sO 2 (.ptr 0 0), sO 4 (.ptr 2 0), sO 19 (.ptr 6 0), hB 0 34 [.arr .u8 64 (List.replicate 64 0)], hB 2 73 [.arr .u64 8 m7], hB 6 34 [.arr .u8 64 (List.replicate 64 0)]] [] (by kernel_rfl) trivial ?_
    refine q_k ?_
    refine tr_seq ?_
    refine tr_seq ?_
    refine tr_reg hT [] [.s 2, .s 4, .s 19, .s 20, .h 0, .h 2, .h 6] [sO 2 (.ptr 0 0), sO 4 (.ptr 2 0), sO 19 (.ptr 6 0), sI 20 .i64 (0 : Int), hB 0 34 [.arr .u8 64 (List.replicate 64 0)], hB 2 73 [.arr .u64 8 m7], hB 6 34 [.arr .u8 64 (List.replicate 64 0)]] [] (by kernel_rfl) trivial ?_
    refine q_k ?_
    refine tr_block ?_
    obtain ⟨m66, e71, h⟩ := bind_some h
    refine tr_fit [] [sO 2 (.ptr 0 0), sO 4 (.ptr 2 0), sO 19 (.ptr 6 0), sI 20 .i64 (0 : Int), hB 0 34 [.arr .u8 64 (List.replicate 64 0)], hB 2 73 [.arr .u64 8 m7], hB 6 34 [.arr .u8 64 (List.replicate 64 0)]] [(0, .blk 34 [.arr .u8 64 (List.replicate 64 0)]), (2, .blk 73 [.arr .u64 8 m7]), (6, .blk 34 [.arr .u8 64 (List.replicate 64 0)])] (by kernel_rfl) (by kernel_rfl) (by kernel_rfl) rfl ⟨.blk (by kernel_rfl) (by kernel_rfl), .blk (by kernel_rfl) (by kernel_rfl), .blk (by kernel_rfl) (by kernel_rfl), trivial⟩ (by kernel_rfl) ?_
    refine tr_loop_fuel (id := 10) (α := List Int × Int) (β := List Int) (fun z => [sO 2 (.ptr 0 0), sO 4 (.ptr 2 0), sO 19 (.ptr 6 0), sI 20 .i64 z.2, hB 0 34 [.arr .u8 64 (List.replicate 64 0)], hB 2 73 [.arr .u64 8 m7], hB 6 34 [.arr .u8 64 z.1]]) (fun z => [sO 2 (.ptr 0 0), sO 19 (.ptr 6 0), hB 0 34 [.arr .u8 64 (List.replicate 64 0)], hB 6 34 [.arr .u8 64 z]]) (fun k z => ref01_Sum512_l5 m7 k z.1 z.2) m66 (fun _ => rfl) (((64 : Int) - (0 : Int)).toNat + 1) ((List.replicate 64 0), (0 : Int)) e71 ?_ ?_
    · skip
      replace h : (some m66) = _ := h
      refine q_b_this ?_
      refine q_k ?_
      refine tr_seq ?_
      refine tr_reg hT [] [.s 2, .h 0] [sO 2 (.ptr 0 0), hB 0 34 [.arr .u8 64 m66]] [] (by kernel_rfl) trivial ?_
      refine q_k ?_
      refine tr_ret ?_
      have h := Option.some.inj h
      subst h
      refine q_less [.s 2, .h 0] [sO 2 (.ptr 0 0), hB 0 34 [.arr .u8 64 m66]] (by kernel_rfl) ?_
      exact q_ret1 hT (.v (.agg [.arr .u8 64 m66])) [] (by kernel_rfl) (by kernel_rfl) (by kernel_rfl)
    · clear h e71
      intro k ih5 hx5 z h
      obtain ⟨m64, i65⟩ := z
      replace h : (if (decide (i65 < (64 : Int))) = true then if 0 ≤ (IntKind.i64.wrap (i65.tdiv (8 : Int))) ∧ (IntKind.i64.wrap (i65.tdiv (8 : Int))) < ((8 : Nat) : Int) then if 0 ≤ (IntKind.u64.wrap (IntKind.i64.wrap ((56 : Int) - (IntKind.i64.wrap ((8 : Int) * (i65.tmod (8 : Int))))))) then if 0 ≤ i65 ∧ i65 < ((64 : Nat) : Int) then ref01_Sum512_l5 m7 k (m64.set i65.toNat (IntKind.u8.wrap (shr .u64 (m7.getD (IntKind.i64.wrap (i65.tdiv (8 : Int))).toNat 0) (IntKind.u64.wrap (IntKind.i64.wrap ((56 : Int) - (IntKind.i64.wrap ((8 : Int) * (i65.tmod (8 : Int)))))))))) (IntKind.i64.wrap (i65 + (1 : Int))) else none else none else none else some m64) = _ := h
      refine tr_seq ?_
      refine tr_seq ?_
      refine tr_reg hT [] [.s 2, .s 4, .s 19, .s 20, .s 191, .h 0, .h 2, .h 6] [sO 2 (.ptr 0 0), sO 4 (.ptr 2 0), sO 19 (.ptr 6 0), sI 20 .i64 i65, sB 191 (decide (i65 < (64 : Int))), hB 0 34 [.arr .u8 64 (List.replicate 64 0)], hB 2 73 [.arr .u64 8 m7], hB 6 34 [.arr .u8 64 m64]] [] (by kernel_rfl) trivial ?_
      refine q_k ?_
      rcases ite_split h with ⟨hc67, h⟩ | ⟨hc67, h⟩
      · refine tr_cond_t (decide (i65 < (64 : Int))) (by kernel_rfl) hc67 ?_
        refine tr_skip ?_
        refine q_k ?_
        refine tr_seq ?_
        refine tr_block ?_
        obtain ⟨hn68, h⟩ := ite_some h
        obtain ⟨hn69, h⟩ := ite_some h
        obtain ⟨hn70, h⟩ := ite_some h
        refine tr_reg hT [] [.s 2, .s 4, .s 19, .s 20, .h 0, .h 2, .h 6] [sO 2 (.ptr 0 0), sO 4 (.ptr 2 0), sO 19 (.ptr 6 0), sI 20 .i64 i65, hB 0 34 [.arr .u8 64 (List.replicate 64 0)], hB 2 73 [.arr .u64 8 m7], hB 6 34 [.arr .u8 64 (m64.set i65.toNat (IntKind.u8.wrap (shr .u64 (m7.getD (IntKind.i64.wrap (i65.tdiv (8 : Int))).toNat 0) (IntKind.u64.wrap (IntKind.i64.wrap ((56 : Int) - (IntKind.i64.wrap ((8 : Int) * (i65.tmod (8 : Int))))))))))]] [(8 : Int) ≠ 0, 0 ≤ (IntKind.i64.wrap (i65.tdiv (8 : Int))) ∧ (IntKind.i64.wrap (i65.tdiv (8 : Int))) < ((8 : Nat) : Int), (8 : Int) ≠ 0, 0 ≤ (IntKind.u64.wrap (IntKind.i64.wrap ((56 : Int) - (IntKind.i64.wrap ((8 : Int) * (i65.tmod (8 : Int))))))), 0 ≤ i65 ∧ i65 < ((64 : Nat) : Int)] (by kernel_rfl) (hcons (by decide) (hcons hn68 (hcons (by decide) (hcons hn69 (hone hn70))))) ?_
        refine q_b 11 ?_
        refine q_k ?_
        refine tr_reg hT [] [.s 2, .s 4, .s 19, .s 20, .h 0, .h 2, .h 6] [sO 2 (.ptr 0 0), sO 4 (.ptr 2 0), sO 19 (.ptr 6 0), sI 20 .i64 (IntKind.i64.wrap (i65 + (1 : Int))), hB 0 34 [.arr .u8 64 (List.replicate 64 0)], hB 2 73 [.arr .u64 8 m7], hB 6 34 [.arr .u8 64 (m64.set i65.toNat (IntKind.u8.wrap (shr .u64 (m7.getD (IntKind.i64.wrap (i65.tdiv (8 : Int))).toNat 0) (IntKind.u64.wrap (IntKind.i64.wrap ((56 : Int) - (IntKind.i64.wrap ((8 : Int) * (i65.tmod (8 : Int))))))))))]] [] (by kernel_rfl) trivial ?_
        refine q_kr ?_
        exact trR_less [.s 2, .s 4, .s 19, .s 20, .h 0, .h 2, .h 6] [sO 2 (.ptr 0 0), sO 4 (.ptr 2 0), sO 19 (.ptr 6 0), sI 20 .i64 (IntKind.i64.wrap (i65 + (1 : Int))), hB 0 34 [.arr .u8 64 (List.replicate 64 0)], hB 2 73 [.arr .u64 8 m7], hB 6 34 [.arr .u8 64 (m64.set i65.toNat (IntKind.u8.wrap (shr .u64 (m7.getD (IntKind.i64.wrap (i65.tdiv (8 : Int))).toNat 0) (IntKind.u64.wrap (IntKind.i64.wrap ((56 : Int) - (IntKind.i64.wrap ((8 : Int) * (i65.tmod (8 : Int))))))))))]] (by kernel_rfl) (ih5 ((m64.set i65.toNat (IntKind.u8.wrap (shr .u64 (m7.getD (IntKind.i64.wrap (i65.tdiv (8 : Int))).toNat 0) (IntKind.u64.wrap (IntKind.i64.wrap ((56 : Int) - (IntKind.i64.wrap ((8 : Int) * (i65.tmod (8 : Int)))))))))), (IntKind.i64.wrap (i65 + (1 : Int)))) h)
      · refine tr_cond_f (decide (i65 < (64 : Int))) (by kernel_rfl) hc67 ?_
        refine tr_exit ?_
        refine q_k_exit ?_
        refine q_kr_exit ?_
        have h := Option.some.inj h
        subst h
        exact q_less [.s 2, .s 19, .h 0, .h 6] [sO 2 (.ptr 0 0), sO 19 (.ptr 6 0), hB 0 34 [.arr .u8 64 (List.replicate 64 0)], hB 6 34 [.arr .u8 64 m64]] (by kernel_rfl) hx5
  · clear h e63
    intro k ih0 hx0 z h
    obtain ⟨m5, at6⟩ := z
    replace h : (if (decide (at6 < (↑(List.length a3) : Int))) = true then (ref01_Sum512_l1 a1 a3 m5 at6 (((80 : Int) - (0 : Int)).toNat + 1) (List.replicate 80 0) (0 : Int)).bind (fun m11 => (ref01_Sum512_l3 a1 a3 m5 at6 m11 (((80 : Int) - (0 : Int)).toNat + 1) m5 (0 : Int)).bind (fun m38 => (ref01_Sum512_l4 a1 a3 at6 m38 (((8 : Int) - (0 : Int)).toNat + 1) m5 (0 : Int)).bind (fun m57 => ref01_Sum512_l0 a1 a3 k m57 (IntKind.i64.wrap (at6 + (128 : Int)))))) else some m5) = _ := h
    refine tr_seq ?_
    refine tr_seq ?_
    refine tr_reg hT [] [.s 2, .s 3, .s 4, .s 5, .s 6, .s 28, .h 0, .h 1, .h 2, .h 3] [sO 2 (.ptr 0 0), sO 3 (.ptr 1 0), sO 4 (.ptr 2 0), sO 5 (.slc 3), sI 6 .i64 at6, sB 28 (decide (at6 < (↑(List.length a3) : Int))), hB 0 34 [.arr .u8 64 (List.replicate 64 0)], hB 1 76 [.arr .u64 80 a1], hB 2 73 [.arr .u64 8 m5], hO 3 5 .u8 a3] [] (by kernel_rfl) trivial ?_
    refine q_k ?_
    rcases ite_split h with ⟨hc8, h⟩ | ⟨hc8, h⟩
    · refine tr_cond_t (decide (at6 < (↑(List.length a3) : Int))) (by kernel_rfl) hc8 ?_
      refine tr_skip ?_
      refine q_k ?_
      refine tr_seq ?_
      refine tr_block ?_
      refine tr_seq ?_
      refine tr_reg hT [(0, .key 4)] [.s 2, .s 3, .s 4, .s 5, .s 6, .s 7, .h 0, .h 1, .h 2, .h 3, .h 4] [sO 2 (.ptr 0 0), sO 3 (.ptr 1 0), sO 4 (.ptr 2 0), sO 5 (.slc 3), sI 6 .i64 at6, sO 7 (.ptr 4 0), hB 0 34 [.arr .u8 64 (List.replicate 64 0)], hB 1 76 [.arr .u64 80 a1], hB 2 73 [.arr .u64 8 m5], hO 3 5 .u8 a3, hB 4 76 [.arr .u64 80 (List.replicate 80 0)]] [] (by kernel_rfl) trivial ?_
      refine q_k ?_
      refine tr_seq ?_
      refine tr_seq ?_
      refine tr_reg hT [] [.s 2, .s 3, .s 4, .s 5, .s 6, .s 7, .s 8, .h 0, .h 1, .h 2, .h 3, .h 4] [sO 2 (.ptr 0 0), sO 3 (.ptr 1 0), sO 4 (.ptr 2 0), sO 5 (.slc 3), sI 6 .i64 at6, sO 7 (.ptr 4 0), sI 8 .i64 (0 : Int), hB 0 34 [.arr .u8 64 (List.replicate 64 0)], hB 1 76 [.arr .u64 80 a1], hB 2 73 [.arr .u64 8 m5], hO 3 5 .u8 a3, hB 4 76 [.arr .u64 80 (List.replicate 80 0)]] [] (by kernel_rfl) trivial ?_
      refine q_k ?_
      refine tr_block ?_
      obtain ⟨m11, e35, h⟩ := bind_some h
      refine tr_fit [] [sO 2 (.ptr 0 0), sO 3 (.ptr 1 0), sO 4 (.ptr 2 0), sO 5 (.slc 3), sI 6 .i64 at6, sO 7 (.ptr 4 0), sI 8 .i64 (0 : Int), hB 0 34 [.arr .u8 64 (List.replicate 64 0)], hB 1 76 [.arr .u64 80 a1], hB 2 73 [.arr .u64 8 m5], hO 3 5 .u8 a3, hB 4 76 [.arr .u64 80 (List.replicate 80 0)]] [(0, .blk 34 [.arr .u8 64 (List.replicate 64 0)]), (1, .blk 76 [.arr .u64 80 a1]), (2, .blk 73 [.arr .u64 8 m5]), (3, .own 5 .u8 a3), (4, .blk 76 [.arr .u64 80 (List.replicate 80 0)])] (by kernel_rfl) (by kernel_rfl) (by kernel_rfl) rfl ⟨.blk (by kernel_rfl) (by kernel_rfl), .blk (by kernel_rfl) (by kernel_rfl), .blk (by kernel_rfl) (by kernel_rfl), .own (by kernel_rfl), .blk (by kernel_rfl) (by kernel_rfl), trivial⟩ (by kernel_rfl) ?_
      refine tr_loop_fuel (id := 2) (α := List Int × Int) (β := List Int) (fun z => [sO 2 (.ptr 0 0), sO 3 (.ptr 1 0), sO 4 (.ptr 2 0), sO 5 (.slc 3), sI 6 .i64 at6, sO 7 (.ptr 4 0), sI 8 .i64 z.2, hB 0 34 [.arr .u8 64 (List.replicate 64 0)], hB 1 76 [.arr .u64 80 a1], hB 2 73 [.arr .u64 8 m5], hO 3 5 .u8 a3, hB 4 76 [.arr .u64 80 z.1]]) (fun z => [sO 2 (.ptr 0 0), sO 3 (.ptr 1 0), sO 4 (.ptr 2 0), sO 5 (.slc 3), sI 6 .i64 at6, sO 7 (.ptr 4 0), hB 0 34 [.arr .u8 64 (List.replicate 64 0)], hB 1 76 [.arr .u64 80 a1], hB 2 73 [.arr .u64 8 m5], hO 3 5 .u8 a3, hB 4 76 [.arr .u64 80 z]]) (fun k z => ref01_Sum512_l1 a1 a3 m5 at6 k z.1 z.2) m11 (fun _ => rfl) (((80 : Int) - (0 : Int)).toNat + 1) ((List.replicate 80 0), (0 : Int)) e35 ?_ ?_
      · skip
        replace h : ((ref01_Sum512_l3 a1 a3 m5 at6 m11 (((80 : Int) - (0 : Int)).toNat + 1) m5 (0 : Int)).bind (fun m38 => (ref01_Sum512_l4 a1 a3 at6 m38 (((8 : Int) - (0 : Int)).toNat + 1) m5 (0 : Int)).bind (fun m57 => ref01_Sum512_l0 a1 a3 k m57 (IntKind.i64.wrap (at6 + (128 : Int)))))) = _ := h
        refine q_b_this ?_
        refine q_k ?_
        refine tr_seq ?_
        refine tr_reg hT [(1, .key 5)] [.s 2, .s 3, .s 4, .s 5, .s 6, .s 7, .s 12, .h 0, .h 1, .h 2, .h 3, .h 4, .h 5] [sO 2 (.ptr 0 0), sO 3 (.ptr 1 0), sO 4 (.ptr 2 0), sO 5 (.slc 3), sI 6 .i64 at6, sO 7 (.ptr 4 0), sO 12 (.ptr 5 0), hB 0 34 [.arr .u8 64 (List.replicate 64 0)], hB 1 76 [.arr .u64 80 a1], hB 2 73 [.arr .u64 8 m5], hO 3 5 .u8 a3, hB 4 76 [.arr .u64 80 m11], hB 5 73 [.arr .u64 8 m5]] [] (by kernel_rfl) trivial ?_
        refine q_k ?_
        refine tr_seq ?_
        refine tr_seq ?_
        refine tr_reg hT [] [.s 2, .s 3, .s 4, .s 5, .s 6, .s 7, .s 12, .s 13, .h 0, .h 1, .h 2, .h 3, .h 4, .h 5] [sO 2 (.ptr 0 0), sO 3 (.ptr 1 0), sO 4 (.ptr 2 0), sO 5 (.slc 3), sI 6 .i64 at6, sO 7 (.ptr 4 0), sO 12 (.ptr 5 0), sI 13 .i64 (0 : Int), hB 0 34 [.arr .u8 64 (List.replicate 64 0)], hB 1 76 [.arr .u64 80 a1], hB 2 73 [.arr .u64 8 m5], hO 3 5 .u8 a3, hB 4 76 [.arr .u64 80 m11], hB 5 73 [.arr .u64 8 m5]] [] (by kernel_rfl) trivial ?_
        refine q_k ?_
        refine tr_block ?_
        obtain ⟨m38, e54, h⟩ := bind_some h
        refine tr_fit [] [sO 2 (.ptr 0 0), sO 3 (.ptr 1 0), sO 4 (.ptr 2 0), sO 5 (.slc 3), sI 6 .i64 at6, sO 7 (.ptr 4 0), sO 12 (.ptr 5 0), sI 13 .i64 (0 : Int), hB 0 34 [.arr .u8 64 (List.replicate 64 0)], hB 1 76 [.arr .u64 80 a1], hB 2 73 [.arr .u64 8 m5], hO 3 5 .u8 a3, hB 4 76 [.arr .u64 80 m11], hB 5 73 [.arr .u64 8 m5]] [(0, .blk 34 [.arr .u8 64 (List.replicate 64 0)]), (1, .blk 76 [.arr .u64 80 a1]), (2, .blk 73 [.arr .u64 8 m5]), (3, .own 5 .u8 a3), (4, .blk 76 [.arr .u64 80 m11]), (5, .blk 73 [.arr .u64 8 m5])] (by kernel_rfl) (by kernel_rfl) (by kernel_rfl) rfl ⟨.blk (by kernel_rfl) (by kernel_rfl), .blk (by kernel_rfl) (by kernel_rfl), .blk (by kernel_rfl) (by kernel_rfl), .own (by kernel_rfl), .blk (by kernel_rfl) (by kernel_rfl), .blk (by kernel_rfl) (by kernel_rfl), trivial⟩ (by kernel_rfl) ?_
        refine tr_loop_fuel (id := 6) (α := List Int × Int) (β := List Int) (fun z => [sO 2 (.ptr 0 0), sO 3 (.ptr 1 0), sO 4 (.ptr 2 0), sO 5 (.slc 3), sI 6 .i64 at6, sO 7 (.ptr 4 0), sO 12 (.ptr 5 0), sI 13 .i64 z.2, hB 0 34 [.arr .u8 64 (List.replicate 64 0)], hB 1 76 [.arr .u64 80 a1], hB 2 73 [.arr .u64 8 m5], hO 3 5 .u8 a3, hB 4 76 [.arr .u64 80 m11], hB 5 73 [.arr .u64 8 z.1]]) (fun z => [sO 2 (.ptr 0 0), sO 3 (.ptr 1 0), sO 4 (.ptr 2 0), sO 5 (.slc 3), sI 6 .i64 at6, sO 12 (.ptr 5 0), hB 0 34 [.arr .u8 64 (List.replicate 64 0)], hB 1 76 [.arr .u64 80 a1], hB 2 73 [.arr .u64 8 m5], hO 3 5 .u8 a3, hB 5 73 [.arr .u64 8 z]]) (fun k z => ref01_Sum512_l3 a1 a3 m5 at6 m11 k z.1 z.2) m38 (fun _ => rfl) (((80 : Int) - (0 : Int)).toNat + 1) (m5, (0 : Int)) e54 ?_ ?_
        · skip
          replace h : ((ref01_Sum512_l4 a1 a3 at6 m38 (((8 : Int) - (0 : Int)).toNat + 1) m5 (0 : Int)).bind (fun m57 => ref01_Sum512_l0 a1 a3 k m57 (IntKind.i64.wrap (at6 + (128 : Int))))) = _ := h
          refine q_b_this ?_
          refine q_k ?_
          refine tr_seq ?_
          refine tr_reg hT [] [.s 2, .s 3, .s 4, .s 5, .s 6, .s 12, .s 18, .h 0, .h 1, .h 2, .h 3, .h 5] [sO 2 (.ptr 0 0), sO 3 (.ptr 1 0), sO 4 (.ptr 2 0), sO 5 (.slc 3), sI 6 .i64 at6, sO 12 (.ptr 5 0), sI 18 .i64 (0 : Int), hB 0 34 [.arr .u8 64 (List.replicate 64 0)], hB 1 76 [.arr .u64 80 a1], hB 2 73 [.arr .u64 8 m5], hO 3 5 .u8 a3, hB 5 73 [.arr .u64 8 m38]] [] (by kernel_rfl) trivial ?_
          refine q_k ?_
          refine tr_block ?_
          obtain ⟨m57, e62, h⟩ := bind_some h
          refine tr_fit [] [sO 2 (.ptr 0 0), sO 3 (.ptr 1 0), sO 4 (.ptr 2 0), sO 5 (.slc 3), sI 6 .i64 at6, sO 12 (.ptr 5 0), sI 18 .i64 (0 : Int), hB 0 34 [.arr .u8 64 (List.replicate 64 0)], hB 1 76 [.arr .u64 80 a1], hB 2 73 [.arr .u64 8 m5], hO 3 5 .u8 a3, hB 5 73 [.arr .u64 8 m38]] [(0, .blk 34 [.arr .u8 64 (List.replicate 64 0)]), (1, .blk 76 [.arr .u64 80 a1]), (2, .blk 73 [.arr .u64 8 m5]), (3, .own 5 .u8 a3), (5, .blk 73 [.arr .u64 8 m38])] (by kernel_rfl) (by kernel_rfl) (by kernel_rfl) rfl ⟨.blk (by kernel_rfl) (by kernel_rfl), .blk (by kernel_rfl) (by kernel_rfl), .blk (by kernel_rfl) (by kernel_rfl), .own (by kernel_rfl), .blk (by kernel_rfl) (by kernel_rfl), trivial⟩ (by kernel_rfl) ?_
          refine tr_loop_fuel (id := 8) (α := List Int × Int) (β := List Int) (fun z => [sO 2 (.ptr 0 0), sO 3 (.ptr 1 0), sO 4 (.ptr 2 0), sO 5 (.slc 3), sI 6 .i64 at6, sO 12 (.ptr 5 0), sI 18 .i64 z.2, hB 0 34 [.arr .u8 64 (List.replicate 64 0)], hB 1 76 [.arr .u64 80 a1], hB 2 73 [.arr .u64 8 z.1], hO 3 5 .u8 a3, hB 5 73 [.arr .u64 8 m38]]) (fun z => [sO 2 (.ptr 0 0), sO 3 (.ptr 1 0), sO 4 (.ptr 2 0), sO 5 (.slc 3), sI 6 .i64 at6, hB 0 34 [.arr .u8 64 (List.replicate 64 0)], hB 1 76 [.arr .u64 80 a1], hB 2 73 [.arr .u64 8 z], hO 3 5 .u8 a3]) (fun k z => ref01_Sum512_l4 a1 a3 at6 m38 k z.1 z.2) m57 (fun _ => rfl) (((8 : Int) - (0 : Int)).toNat + 1) (m5, (0 : Int)) e62 ?_ ?_
          · skip
            replace h : (ref01_Sum512_l0 a1 a3 k m57 (IntKind.i64.wrap (at6 + (128 : Int)))) = _ := h
            refine q_b_this ?_
            refine q_b 1 ?_
            refine q_k ?_
            refine tr_reg hT [] [.s 2, .s 3, .s 4, .s 5, .s 6, .h 0, .h 1, .h 2, .h 3] [sO 2 (.ptr 0 0), sO 3 (.ptr 1 0), sO 4 (.ptr 2 0), sO 5 (.slc 3), sI 6 .i64 (IntKind.i64.wrap (at6 + (128 : Int))), hB 0 34 [.arr .u8 64 (List.replicate 64 0)], hB 1 76 [.arr .u64 80 a1], hB 2 73 [.arr .u64 8 m57], hO 3 5 .u8 a3] [] (by kernel_rfl) trivial ?_
            refine q_kr ?_
            exact trR_less [.s 2, .s 3, .s 4, .s 5, .s 6, .h 0, .h 1, .h 2, .h 3] [sO 2 (.ptr 0 0), sO 3 (.ptr 1 0), sO 4 (.ptr 2 0), sO 5 (.slc 3), sI 6 .i64 (IntKind.i64.wrap (at6 + (128 : Int))), hB 0 34 [.arr .u8 64 (List.replicate 64 0)], hB 1 76 [.arr .u64 80 a1], hB 2 73 [.arr .u64 8 m57], hO 3 5 .u8 a3] (by kernel_rfl) (ih0 (m57, (IntKind.i64.wrap (at6 + (128 : Int)))) h)
          · clear h e62
            intro k ih4 hx4 z h
            obtain ⟨m55, i56⟩ := z
            replace h : (if (decide (i56 < (8 : Int))) = true then if 0 ≤ i56 ∧ i56 < ((8 : Nat) : Int) then if 0 ≤ i56 ∧ i56 < ((8 : Nat) : Int) then if 0 ≤ i56 ∧ i56 < ((8 : Nat) : Int) then ref01_Sum512_l4 a1 a3 at6 m38 k (m55.set i56.toNat (IntKind.u64.wrap ((m55.getD i56.toNat 0) + (m38.getD i56.toNat 0)))) (IntKind.i64.wrap (i56 + (1 : Int))) else none else none else none else some m55) = _ := h
            refine tr_seq ?_
            refine tr_seq ?_
            refine tr_reg hT [] [.s 2, .s 3, .s 4, .s 5, .s 6, .s 12, .s 18, .s 179, .h 0, .h 1, .h 2, .h 3, .h 5] [sO 2 (.ptr 0 0), sO 3 (.ptr 1 0), sO 4 (.ptr 2 0), sO 5 (.slc 3), sI 6 .i64 at6, sO 12 (.ptr 5 0), sI 18 .i64 i56, sB 179 (decide (i56 < (8 : Int))), hB 0 34 [.arr .u8 64 (List.replicate 64 0)], hB 1 76 [.arr .u64 80 a1], hB 2 73 [.arr .u64 8 m55], hO 3 5 .u8 a3, hB 5 73 [.arr .u64 8 m38]] [] (by kernel_rfl) trivial ?_
            refine q_k ?_
            rcases ite_split h with ⟨hc58, h⟩ | ⟨hc58, h⟩
            · refine tr_cond_t (decide (i56 < (8 : Int))) (by kernel_rfl) hc58 ?_
              refine tr_skip ?_
              refine q_k ?_
              refine tr_seq ?_
              refine tr_block ?_
              obtain ⟨hn59, h⟩ := ite_some h
              obtain ⟨hn60, h⟩ := ite_some h
              obtain ⟨hn61, h⟩ := ite_some h
              refine tr_regd hT hM [] [.s 2, .s 3, .s 4, .s 5, .s 6, .s 12, .s 18, .h 0, .h 1, .h 2, .h 3, .h 5] [sO 2 (.ptr 0 0), sO 3 (.ptr 1 0), sO 4 (.ptr 2 0), sO 5 (.slc 3), sI 6 .i64 at6, sO 12 (.ptr 5 0), sI 18 .i64 i56, hB 0 34 [.arr .u8 64 (List.replicate 64 0)], hB 1 76 [.arr .u64 80 a1], hB 2 73 [.arr .u64 8 (m55.set i56.toNat (IntKind.u64.wrap ((m55.getD i56.toNat 0) + (m38.getD i56.toNat 0))))], hO 3 5 .u8 a3, hB 5 73 [.arr .u64 8 m38]] [0 ≤ i56 ∧ i56 < ((8 : Nat) : Int), 0 ≤ i56 ∧ i56 < ((8 : Nat) : Int), 0 ≤ i56 ∧ i56 < ((8 : Nat) : Int)] (by kernel_rfl) (hcons hn59 (hcons hn60 (hone hn61))) ?_
              refine q_b 9 ?_
              refine q_k ?_
              refine tr_reg hT [] [.s 2, .s 3, .s 4, .s 5, .s 6, .s 12, .s 18, .h 0, .h 1, .h 2, .h 3, .h 5] [sO 2 (.ptr 0 0), sO 3 (.ptr 1 0), sO 4 (.ptr 2 0), sO 5 (.slc 3), sI 6 .i64 at6, sO 12 (.ptr 5 0), sI 18 .i64 (IntKind.i64.wrap (i56 + (1 : Int))), hB 0 34 [.arr .u8 64 (List.replicate 64 0)], hB 1 76 [.arr .u64 80 a1], hB 2 73 [.arr .u64 8 (m55.set i56.toNat (IntKind.u64.wrap ((m55.getD i56.toNat 0) + (m38.getD i56.toNat 0))))], hO 3 5 .u8 a3, hB 5 73 [.arr .u64 8 m38]] [] (by kernel_rfl) trivial ?_
              refine q_kr ?_
              exact trR_less [.s 2, .s 3, .s 4, .s 5, .s 6, .s 12, .s 18, .h 0, .h 1, .h 2, .h 3, .h 5] [sO 2 (.ptr 0 0), sO 3 (.ptr 1 0), sO 4 (.ptr 2 0), sO 5 (.slc 3), sI 6 .i64 at6, sO 12 (.ptr 5 0), sI 18 .i64 (IntKind.i64.wrap (i56 + (1 : Int))), hB 0 34 [.arr .u8 64 (List.replicate 64 0)], hB 1 76 [.arr .u64 80 a1], hB 2 73 [.arr .u64 8 (m55.set i56.toNat (IntKind.u64.wrap ((m55.getD i56.toNat 0) + (m38.getD i56.toNat 0))))], hO 3 5 .u8 a3, hB 5 73 [.arr .u64 8 m38]] (by kernel_rfl) (ih4 ((m55.set i56.toNat (IntKind.u64.wrap ((m55.getD i56.toNat 0) + (m38.getD i56.toNat 0)))), (IntKind.i64.wrap (i56 + (1 : Int)))) h)
            · refine tr_cond_f (decide (i56 < (8 : Int))) (by kernel_rfl) hc58 ?_
              refine tr_exit ?_
              refine q_k_exit ?_
              refine q_kr_exit ?_
              have h := Option.some.inj h
              subst h
              exact q_less [.s 2, .s 3, .s 4, .s 5, .s 6, .h 0, .h 1, .h 2, .h 3] [sO 2 (.ptr 0 0), sO 3 (.ptr 1 0), sO 4 (.ptr 2 0), sO 5 (.slc 3), sI 6 .i64 at6, hB 0 34 [.arr .u8 64 (List.replicate 64 0)], hB 1 76 [.arr .u64 80 a1], hB 2 73 [.arr .u64 8 m55], hO 3 5 .u8 a3] (by kernel_rfl) hx4
        · clear h e54
          intro k ih3 hx3 z h
          obtain ⟨m36, t37⟩ := z
          replace h : (if (decide (t37 < (80 : Int))) = true then (ref01_rot64 (m36.getD 4 0) (14 : Int)).bind (fun r40 => (ref01_rot64 (m36.getD 4 0) (18 : Int)).bind (fun r42 => (ref01_rot64 (m36.getD 4 0) (41 : Int)).bind (fun r44 => if 0 ≤ t37 ∧ t37 < ((80 : Nat) : Int) then if 0 ≤ t37 ∧ t37 < ((80 : Nat) : Int) then (ref01_rot64 (m36.getD 0 0) (28 : Int)).bind (fun r48 => (ref01_rot64 (m36.getD 0 0) (34 : Int)).bind (fun r50 => (ref01_rot64 (m36.getD 0 0) (39 : Int)).bind (fun r52 => ref01_Sum512_l3 a1 a3 m5 at6 m11 k [(IntKind.u64.wrap ((IntKind.u64.wrap ((IntKind.u64.wrap ((IntKind.u64.wrap ((IntKind.u64.wrap ((m36.getD 7 0) + (bxor .u64 (bxor .u64 r40 r42) r44))) + (bxor .u64 (band .u64 (m36.getD 4 0) (m36.getD 5 0)) (band .u64 (bxor .u64 (if IntKind.u64.signed then -1 else IntKind.u64.max) (m36.getD 4 0)) (m36.getD 6 0))))) + (a1.getD t37.toNat 0))) + (m11.getD t37.toNat 0))) + (IntKind.u64.wrap ((bxor .u64 (bxor .u64 r48 r50) r52) + (bxor .u64 (bxor .u64 (band .u64 (m36.getD 0 0) (m36.getD 1 0)) (band .u64 (m36.getD 0 0) (m36.getD 2 0))) (band .u64 (m36.getD 1 0) (m36.getD 2 0))))))), (m36.getD 0 0), (m36.getD 1 0), (m36.getD 2 0), (IntKind.u64.wrap ((m36.getD 3 0) + (IntKind.u64.wrap ((IntKind.u64.wrap ((IntKind.u64.wrap ((IntKind.u64.wrap ((m36.getD 7 0) + (bxor .u64 (bxor .u64 r40 r42) r44))) + (bxor .u64 (band .u64 (m36.getD 4 0) (m36.getD 5 0)) (band .u64 (bxor .u64 (if IntKind.u64.signed then -1 else IntKind.u64.max) (m36.getD 4 0)) (m36.getD 6 0))))) + (a1.getD t37.toNat 0))) + (m11.getD t37.toNat 0))))), (m36.getD 4 0), (m36.getD 5 0), (m36.getD 6 0)] (IntKind.i64.wrap (t37 + (1 : Int)))))) else none else none))) else some m36) = _ := h
          refine tr_seq ?_
          refine tr_seq ?_
          refine tr_reg hT [] [.s 2, .s 3, .s 4, .s 5, .s 6, .s 7, .s 12, .s 13, .s 97, .h 0, .h 1, .h 2, .h 3, .h 4, .h 5] [sO 2 (.ptr 0 0), sO 3 (.ptr 1 0), sO 4 (.ptr 2 0), sO 5 (.slc 3), sI 6 .i64 at6, sO 7 (.ptr 4 0), sO 12 (.ptr 5 0), sI 13 .i64 t37, sB 97 (decide (t37 < (80 : Int))), hB 0 34 [.arr .u8 64 (List.replicate 64 0)], hB 1 76 [.arr .u64 80 a1], hB 2 73 [.arr .u64 8 m5], hO 3 5 .u8 a3, hB 4 76 [.arr .u64 80 m11], hB 5 73 [.arr .u64 8 m36]] [] (by kernel_rfl) trivial ?_
          refine q_k ?_
          rcases ite_split h with ⟨hc39, h⟩ | ⟨hc39, h⟩
          · refine tr_cond_t (decide (t37 < (80 : Int))) (by kernel_rfl) hc39 ?_
            refine tr_skip ?_
            refine q_k ?_
            refine tr_seq ?_
            refine tr_block ?_
            refine tr_seq ?_
            refine tr_regd hT hM [] [.s 2, .s 3, .s 4, .s 5, .s 6, .s 7, .s 12, .s 13, .s 14, .s 15, .h 0, .h 1, .h 2, .h 3, .h 4, .h 5] [sO 2 (.ptr 0 0), sO 3 (.ptr 1 0), sO 4 (.ptr 2 0), sO 5 (.slc 3), sI 6 .i64 at6, sO 7 (.ptr 4 0), sO 12 (.ptr 5 0), sI 13 .i64 t37, sI 14 .u64 (m36.getD 0 0), sI 15 .u64 (m36.getD 4 0), hB 0 34 [.arr .u8 64 (List.replicate 64 0)], hB 1 76 [.arr .u64 80 a1], hB 2 73 [.arr .u64 8 m5], hO 3 5 .u8 a3, hB 4 76 [.arr .u64 80 m11], hB 5 73 [.arr .u64 8 m36]] [0 ≤ (0 : Int) ∧ (0 : Int) < ((8 : Nat) : Int), 0 ≤ (4 : Int) ∧ (4 : Int) < ((8 : Nat) : Int)] (by kernel_rfl) (hcons (by decide) (hone (by decide))) ?_
            refine q_k ?_
            refine tr_seq ?_
            obtain ⟨r40, e41, h⟩ := bind_some h
            obtain ⟨r42, e43, h⟩ := bind_some h
            obtain ⟨r44, e45, h⟩ := bind_some h
            obtain ⟨hn46, h⟩ := ite_some h
            obtain ⟨hn47, h⟩ := ite_some h
            refine tr_regd hT hM [(3, .call [] (.v (.one (.int .u64 r40))) []), (5, .call [] (.v (.one (.int .u64 r42))) []), (8, .call [] (.v (.one (.int .u64 r44))) [])] [.s 2, .s 3, .s 4, .s 5, .s 6, .s 7, .s 12, .s 13, .s 14, .s 16, .h 0, .h 1, .h 2, .h 3, .h 4, .h 5] [sO 2 (.ptr 0 0), sO 3 (.ptr 1 0), sO 4 (.ptr 2 0), sO 5 (.slc 3), sI 6 .i64 at6, sO 7 (.ptr 4 0), sO 12 (.ptr 5 0), sI 13 .i64 t37, sI 14 .u64 (m36.getD 0 0), sI 16 .u64 (IntKind.u64.wrap ((IntKind.u64.wrap ((IntKind.u64.wrap ((IntKind.u64.wrap ((m36.getD 7 0) + (bxor .u64 (bxor .u64 r40 r42) r44))) + (bxor .u64 (band .u64 (m36.getD 4 0) (m36.getD 5 0)) (band .u64 (bxor .u64 (if IntKind.u64.signed then -1 else IntKind.u64.max) (m36.getD 4 0)) (m36.getD 6 0))))) + (a1.getD t37.toNat 0))) + (m11.getD t37.toNat 0))), hB 0 34 [.arr .u8 64 (List.replicate 64 0)], hB 1 76 [.arr .u64 80 a1], hB 2 73 [.arr .u64 8 m5], hO 3 5 .u8 a3, hB 4 76 [.arr .u64 80 m11], hB 5 73 [.arr .u64 8 m36]] [0 ≤ (7 : Int) ∧ (7 : Int) < ((8 : Nat) : Int), CallOk P 55 [.v (.one (.int .u64 (m36.getD 4 0))), .v (.one (.int .i64 (14 : Int)))] [] (.v (.one (.int .u64 r40))) [], CallOk P 55 [.v (.one (.int .u64 (m36.getD 4 0))), .v (.one (.int .i64 (18 : Int)))] [] (.v (.one (.int .u64 r42))) [], CallOk P 55 [.v (.one (.int .u64 (m36.getD 4 0))), .v (.one (.int .i64 (41 : Int)))] [] (.v (.one (.int .u64 r44))) [], 0 ≤ (5 : Int) ∧ (5 : Int) < ((8 : Nat) : Int), 0 ≤ (6 : Int) ∧ (6 : Int) < ((8 : Nat) : Int), 0 ≤ t37 ∧ t37 < ((80 : Nat) : Int), 0 ≤ t37 ∧ t37 < ((80 : Nat) : Int)] (by kernel_rfl) (hcons (by decide) (hcons (ref01_rot64_ok (m36.getD 4 0) (14 : Int) r40 e41) (hcons (ref01_rot64_ok (m36.getD 4 0) (18 : Int) r42 e43) (hcons (ref01_rot64_ok (m36.getD 4 0) (41 : Int) r44 e45) (hcons (by decide) (hcons (by decide) (hcons hn46 (hone hn47)))))))) ?_
            refine q_k ?_
            refine tr_seq ?_
            obtain ⟨r48, e49, h⟩ := bind_some h
            obtain ⟨r50, e51, h⟩ := bind_some h
            obtain ⟨r52, e53, h⟩ := bind_some h
            refine tr_regd hT hM [(1, .call [] (.v (.one (.int .u64 r48))) []), (3, .call [] (.v (.one (.int .u64 r50))) []), (6, .call [] (.v (.one (.int .u64 r52))) [])] [.s 2, .s 3, .s 4, .s 5, .s 6, .s 7, .s 12, .s 13, .s 16, .s 17, .h 0, .h 1, .h 2, .h 3, .h 4, .h 5] [sO 2 (.ptr 0 0), sO 3 (.ptr 1 0), sO 4 (.ptr 2 0), sO 5 (.slc 3), sI 6 .i64 at6, sO 7 (.ptr 4 0), sO 12 (.ptr 5 0), sI 13 .i64 t37, sI 16 .u64 (IntKind.u64.wrap ((IntKind.u64.wrap ((IntKind.u64.wrap ((IntKind.u64.wrap ((m36.getD 7 0) + (bxor .u64 (bxor .u64 r40 r42) r44))) + (bxor .u64 (band .u64 (m36.getD 4 0) (m36.getD 5 0)) (band .u64 (bxor .u64 (if IntKind.u64.signed then -1 else IntKind.u64.max) (m36.getD 4 0)) (m36.getD 6 0))))) + (a1.getD t37.toNat 0))) + (m11.getD t37.toNat 0))), sI 17 .u64 (IntKind.u64.wrap ((bxor .u64 (bxor .u64 r48 r50) r52) + (bxor .u64 (bxor .u64 (band .u64 (m36.getD 0 0) (m36.getD 1 0)) (band .u64 (m36.getD 0 0) (m36.getD 2 0))) (band .u64 (m36.getD 1 0) (m36.getD 2 0))))), hB 0 34 [.arr .u8 64 (List.replicate 64 0)], hB 1 76 [.arr .u64 80 a1], hB 2 73 [.arr .u64 8 m5], hO 3 5 .u8 a3, hB 4 76 [.arr .u64 80 m11], hB 5 73 [.arr .u64 8 m36]] [CallOk P 55 [.v (.one (.int .u64 (m36.getD 0 0))), .v (.one (.int .i64 (28 : Int)))] [] (.v (.one (.int .u64 r48))) [], CallOk P 55 [.v (.one (.int .u64 (m36.getD 0 0))), .v (.one (.int .i64 (34 : Int)))] [] (.v (.one (.int .u64 r50))) [], CallOk P 55 [.v (.one (.int .u64 (m36.getD 0 0))), .v (.one (.int .i64 (39 : Int)))] [] (.v (.one (.int .u64 r52))) [], 0 ≤ (1 : Int) ∧ (1 : Int) < ((8 : Nat) : Int), 0 ≤ (2 : Int) ∧ (2 : Int) < ((8 : Nat) : Int), 0 ≤ (1 : Int) ∧ (1 : Int) < ((8 : Nat) : Int), 0 ≤ (2 : Int) ∧ (2 : Int) < ((8 : Nat) : Int)] (by kernel_rfl) (hcons (ref01_rot64_ok (m36.getD 0 0) (28 : Int) r48 e49) (hcons (ref01_rot64_ok (m36.getD 0 0) (34 : Int) r50 e51) (hcons (ref01_rot64_ok (m36.getD 0 0) (39 : Int) r52 e53) (hcons (by decide) (hcons (by decide) (hcons (by decide) (hone (by decide)))))))) ?_
            refine q_k ?_
            refine tr_reg hT [] [.s 2, .s 3, .s 4, .s 5, .s 6, .s 7, .s 12, .s 13, .h 0, .h 1, .h 2, .h 3, .h 4, .h 5] [sO 2 (.ptr 0 0), sO 3 (.ptr 1 0), sO 4 (.ptr 2 0), sO 5 (.slc 3), sI 6 .i64 at6, sO 7 (.ptr 4 0), sO 12 (.ptr 5 0), sI 13 .i64 t37, hB 0 34 [.arr .u8 64 (List.replicate 64 0)], hB 1 76 [.arr .u64 80 a1], hB 2 73 [.arr .u64 8 m5], hO 3 5 .u8 a3, hB 4 76 [.arr .u64 80 m11], hB 5 73 [.arr .u64 8 [(IntKind.u64.wrap ((IntKind.u64.wrap ((IntKind.u64.wrap ((IntKind.u64.wrap ((IntKind.u64.wrap ((m36.getD 7 0) + (bxor .u64 (bxor .u64 r40 r42) r44))) + (bxor .u64 (band .u64 (m36.getD 4 0) (m36.getD 5 0)) (band .u64 (bxor .u64 (if IntKind.u64.signed then -1 else IntKind.u64.max) (m36.getD 4 0)) (m36.getD 6 0))))) + (a1.getD t37.toNat 0))) + (m11.getD t37.toNat 0))) + (IntKind.u64.wrap ((bxor .u64 (bxor .u64 r48 r50) r52) + (bxor .u64 (bxor .u64 (band .u64 (m36.getD 0 0) (m36.getD 1 0)) (band .u64 (m36.getD 0 0) (m36.getD 2 0))) (band .u64 (m36.getD 1 0) (m36.getD 2 0))))))), (m36.getD 0 0), (m36.getD 1 0), (m36.getD 2 0), (IntKind.u64.wrap ((m36.getD 3 0) + (IntKind.u64.wrap ((IntKind.u64.wrap ((IntKind.u64.wrap ((IntKind.u64.wrap ((m36.getD 7 0) + (bxor .u64 (bxor .u64 r40 r42) r44))) + (bxor .u64 (band .u64 (m36.getD 4 0) (m36.getD 5 0)) (band .u64 (bxor .u64 (if IntKind.u64.signed then -1 else IntKind.u64.max) (m36.getD 4 0)) (m36.getD 6 0))))) + (a1.getD t37.toNat 0))) + (m11.getD t37.toNat 0))))), (m36.getD 4 0), (m36.getD 5 0), (m36.getD 6 0)]]] [0 ≤ (0 : Int) ∧ (0 : Int) < ((8 : Nat) : Int), 0 ≤ (1 : Int) ∧ (1 : Int) < ((8 : Nat) : Int), 0 ≤ (2 : Int) ∧ (2 : Int) < ((8 : Nat) : Int), 0 ≤ (3 : Int) ∧ (3 : Int) < ((8 : Nat) : Int), 0 ≤ (4 : Int) ∧ (4 : Int) < ((8 : Nat) : Int), 0 ≤ (5 : Int) ∧ (5 : Int) < ((8 : Nat) : Int), 0 ≤ (6 : Int) ∧ (6 : Int) < ((8 : Nat) : Int)] (by kernel_rfl) (hcons (by decide) (hcons (by decide) (hcons (by decide) (hcons (by decide) (hcons (by decide) (hcons (by decide) (hone (by decide)))))))) ?_
            refine q_b 7 ?_
            refine q_k ?_
            refine tr_reg hT [] [.s 2, .s 3, .s 4, .s 5, .s 6, .s 7, .s 12, .s 13, .h 0, .h 1, .h 2, .h 3, .h 4, .h 5] [sO 2 (.ptr 0 0), sO 3 (.ptr 1 0), sO 4 (.ptr 2 0), sO 5 (.slc 3), sI 6 .i64 at6, sO 7 (.ptr 4 0), sO 12 (.ptr 5 0), sI 13 .i64 (IntKind.i64.wrap (t37 + (1 : Int))), hB 0 34 [.arr .u8 64 (List.replicate 64 0)], hB 1 76 [.arr .u64 80 a1], hB 2 73 [.arr .u64 8 m5], hO 3 5 .u8 a3, hB 4 76 [.arr .u64 80 m11], hB 5 73 [.arr .u64 8 [(IntKind.u64.wrap ((IntKind.u64.wrap ((IntKind.u64.wrap ((IntKind.u64.wrap ((IntKind.u64.wrap ((m36.getD 7 0) + (bxor .u64 (bxor .u64 r40 r42) r44))) + (bxor .u64 (band .u64 (m36.getD 4 0) (m36.getD 5 0)) (band .u64 (bxor .u64 (if IntKind.u64.signed then -1 else IntKind.u64.max) (m36.getD 4 0)) (m36.getD 6 0))))) + (a1.getD t37.toNat 0))) + (m11.getD t37.toNat 0))) + (IntKind.u64.wrap ((bxor .u64 (bxor .u64 r48 r50) r52) + (bxor .u64 (bxor .u64 (band .u64 (m36.getD 0 0) (m36.getD 1 0)) (band .u64 (m36.getD 0 0) (m36.getD 2 0))) (band .u64 (m36.getD 1 0) (m36.getD 2 0))))))), (m36.getD 0 0), (m36.getD 1 0), (m36.getD 2 0), (IntKind.u64.wrap ((m36.getD 3 0) + (IntKind.u64.wrap ((IntKind.u64.wrap ((IntKind.u64.wrap ((IntKind.u64.wrap ((m36.getD 7 0) + (bxor .u64 (bxor .u64 r40 r42) r44))) + (bxor .u64 (band .u64 (m36.getD 4 0) (m36.getD 5 0)) (band .u64 (bxor .u64 (if IntKind.u64.signed then -1 else IntKind.u64.max) (m36.getD 4 0)) (m36.getD 6 0))))) + (a1.getD t37.toNat 0))) + (m11.getD t37.toNat 0))))), (m36.getD 4 0), (m36.getD 5 0), (m36.getD 6 0)]]] [] (by kernel_rfl) trivial ?_
            refine q_kr ?_
            exact trR_less [.s 2, .s 3, .s 4, .s 5, .s 6, .s 7, .s 12, .s 13, .h 0, .h 1, .h 2, .h 3, .h 4, .h 5] [sO 2 (.ptr 0 0), sO 3 (.ptr 1 0), sO 4 (.ptr 2 0), sO 5 (.slc 3), sI 6 .i64 at6, sO 7 (.ptr 4 0), sO 12 (.ptr 5 0), sI 13 .i64 (IntKind.i64.wrap (t37 + (1 : Int))), hB 0 34 [.arr .u8 64 (List.replicate 64 0)], hB 1 76 [.arr .u64 80 a1], hB 2 73 [.arr .u64 8 m5], hO 3 5 .u8 a3, hB 4 76 [.arr .u64 80 m11], hB 5 73 [.arr .u64 8 [(IntKind.u64.wrap ((IntKind.u64.wrap ((IntKind.u64.wrap ((IntKind.u64.wrap ((IntKind.u64.wrap ((m36.getD 7 0) + (bxor .u64 (bxor .u64 r40 r42) r44))) + (bxor .u64 (band .u64 (m36.getD 4 0) (m36.getD 5 0)) (band .u64 (bxor .u64 (if IntKind.u64.signed then -1 else IntKind.u64.max) (m36.getD 4 0)) (m36.getD 6 0))))) + (a1.getD t37.toNat 0))) + (m11.getD t37.toNat 0))) + (IntKind.u64.wrap ((bxor .u64 (bxor .u64 r48 r50) r52) + (bxor .u64 (bxor .u64 (band .u64 (m36.getD 0 0) (m36.getD 1 0)) (band .u64 (m36.getD 0 0) (m36.getD 2 0))) (band .u64 (m36.getD 1 0) (m36.getD 2 0))))))), (m36.getD 0 0), (m36.getD 1 0), (m36.getD 2 0), (IntKind.u64.wrap ((m36.getD 3 0) + (IntKind.u64.wrap ((IntKind.u64.wrap ((IntKind.u64.wrap ((IntKind.u64.wrap ((m36.getD 7 0) + (bxor .u64 (bxor .u64 r40 r42) r44))) + (bxor .u64 (band .u64 (m36.getD 4 0) (m36.getD 5 0)) (band .u64 (bxor .u64 (if IntKind.u64.signed then -1 else IntKind.u64.max) (m36.getD 4 0)) (m36.getD 6 0))))) + (a1.getD t37.toNat 0))) + (m11.getD t37.toNat 0))))), (m36.getD 4 0), (m36.getD 5 0), (m36.getD 6 0)]]] (by kernel_rfl) (ih3 ([(IntKind.u64.wrap ((IntKind.u64.wrap ((IntKind.u64.wrap ((IntKind.u64.wrap ((IntKind.u64.wrap ((m36.getD 7 0) + (bxor .u64 (bxor .u64 r40 r42) r44))) + (bxor .u64 (band .u64 (m36.getD 4 0) (m36.getD 5 0)) (band .u64 (bxor .u64 (if IntKind.u64.signed then -1 else IntKind.u64.max) (m36.getD 4 0)) (m36.getD 6 0))))) + (a1.getD t37.toNat 0))) + (m11.getD t37.toNat 0))) + (IntKind.u64.wrap ((bxor .u64 (bxor .u64 r48 r50) r52) + (bxor .u64 (bxor .u64 (band .u64 (m36.getD 0 0) (m36.getD 1 0)) (band .u64 (m36.getD 0 0) (m36.getD 2 0))) (band .u64 (m36.getD 1 0) (m36.getD 2 0))))))), (m36.getD 0 0), (m36.getD 1 0), (m36.getD 2 0), (IntKind.u64.wrap ((m36.getD 3 0) + (IntKind.u64.wrap ((IntKind.u64.wrap ((IntKind.u64.wrap ((IntKind.u64.wrap ((m36.getD 7 0) + (bxor .u64 (bxor .u64 r40 r42) r44))) + (bxor .u64 (band .u64 (m36.getD 4 0) (m36.getD 5 0)) (band .u64 (bxor .u64 (if IntKind.u64.signed then -1 else IntKind.u64.max) (m36.getD 4 0)) (m36.getD 6 0))))) + (a1.getD t37.toNat 0))) + (m11.getD t37.toNat 0))))), (m36.getD 4 0), (m36.getD 5 0), (m36.getD 6 0)], (IntKind.i64.wrap (t37 + (1 : Int)))) h)
          · refine tr_cond_f (decide (t37 < (80 : Int))) (by kernel_rfl) hc39 ?_
            refine tr_exit ?_
            refine q_k_exit ?_
            refine q_kr_exit ?_
            have h := Option.some.inj h
            subst h
            exact q_less [.s 2, .s 3, .s 4, .s 5, .s 6, .s 12, .h 0, .h 1, .h 2, .h 3, .h 5] [sO 2 (.ptr 0 0), sO 3 (.ptr 1 0), sO 4 (.ptr 2 0), sO 5 (.slc 3), sI 6 .i64 at6, sO 12 (.ptr 5 0), hB 0 34 [.arr .u8 64 (List.replicate 64 0)], hB 1 76 [.arr .u64 80 a1], hB 2 73 [.arr .u64 8 m5], hO 3 5 .u8 a3, hB 5 73 [.arr .u64 8 m36]] (by kernel_rfl) hx3
      · clear h e35
        intro k ih1 hx1 z h
        obtain ⟨m9, t10⟩ := z
        replace h : (if (decide (t10 < (80 : Int))) = true then if (decide (t10 < (16 : Int))) = true then (ref01_Sum512_l2 a1 a3 m5 at6 t10 (((8 : Int) - (0 : Int)).toNat + 1) m9 (0 : Int)).bind (fun m16 => ref01_Sum512_l1 a1 a3 m5 at6 k m16 (IntKind.i64.wrap (t10 + (1 : Int)))) else if 0 ≤ (IntKind.i64.wrap (t10 - (15 : Int))) ∧ (IntKind.i64.wrap (t10 - (15 : Int))) < ((80 : Nat) : Int) then if 0 ≤ (IntKind.i64.wrap (t10 - (2 : Int))) ∧ (IntKind.i64.wrap (t10 - (2 : Int))) < ((80 : Nat) : Int) then if 0 ≤ (IntKind.i64.wrap (t10 - (16 : Int))) ∧ (IntKind.i64.wrap (t10 - (16 : Int))) < ((80 : Nat) : Int) then if 0 ≤ (IntKind.i64.wrap (t10 - (7 : Int))) ∧ (IntKind.i64.wrap (t10 - (7 : Int))) < ((80 : Nat) : Int) then (ref01_rot64 (m9.getD (IntKind.i64.wrap (t10 - (15 : Int))).toNat 0) (1 : Int)).bind (fun r26 => (ref01_rot64 (m9.getD (IntKind.i64.wrap (t10 - (15 : Int))).toNat 0) (8 : Int)).bind (fun r28 => (ref01_rot64 (m9.getD (IntKind.i64.wrap (t10 - (2 : Int))).toNat 0) (19 : Int)).bind (fun r30 => (ref01_rot64 (m9.getD (IntKind.i64.wrap (t10 - (2 : Int))).toNat 0) (61 : Int)).bind (fun r32 => if 0 ≤ t10 ∧ t10 < ((80 : Nat) : Int) then ref01_Sum512_l1 a1 a3 m5 at6 k (m9.set t10.toNat (IntKind.u64.wrap ((IntKind.u64.wrap ((IntKind.u64.wrap ((m9.getD (IntKind.i64.wrap (t10 - (16 : Int))).toNat 0) + (m9.getD (IntKind.i64.wrap (t10 - (7 : Int))).toNat 0))) + (bxor .u64 (bxor .u64 r26 r28) (shr .u64 (m9.getD (IntKind.i64.wrap (t10 - (15 : Int))).toNat 0) (7 : Int))))) + (bxor .u64 (bxor .u64 r30 r32) (shr .u64 (m9.getD (IntKind.i64.wrap (t10 - (2 : Int))).toNat 0) (6 : Int)))))) (IntKind.i64.wrap (t10 + (1 : Int))) else none)))) else none else none else none else none else some m9) = _ := h
        refine tr_seq ?_
        refine tr_seq ?_
        refine tr_reg hT [] [.s 2, .s 3, .s 4, .s 5, .s 6, .s 7, .s 8, .s 32, .h 0, .h 1, .h 2, .h 3, .h 4] [sO 2 (.ptr 0 0), sO 3 (.ptr 1 0), sO 4 (.ptr 2 0), sO 5 (.slc 3), sI 6 .i64 at6, sO 7 (.ptr 4 0), sI 8 .i64 t10, sB 32 (decide (t10 < (80 : Int))), hB 0 34 [.arr .u8 64 (List.replicate 64 0)], hB 1 76 [.arr .u64 80 a1], hB 2 73 [.arr .u64 8 m5], hO 3 5 .u8 a3, hB 4 76 [.arr .u64 80 m9]] [] (by kernel_rfl) trivial ?_
        refine q_k ?_
        rcases ite_split h with ⟨hc12, h⟩ | ⟨hc12, h⟩
        · refine tr_cond_t (decide (t10 < (80 : Int))) (by kernel_rfl) hc12 ?_
          refine tr_skip ?_
          refine q_k ?_
          refine tr_seq ?_
          refine tr_block ?_
          refine tr_seq ?_
          refine tr_seq ?_
          refine tr_reg hT [] [.s 2, .s 3, .s 4, .s 5, .s 6, .s 7, .s 8, .s 36, .h 0, .h 1, .h 2, .h 3, .h 4] [sO 2 (.ptr 0 0), sO 3 (.ptr 1 0), sO 4 (.ptr 2 0), sO 5 (.slc 3), sI 6 .i64 at6, sO 7 (.ptr 4 0), sI 8 .i64 t10, sB 36 (decide (t10 < (16 : Int))), hB 0 34 [.arr .u8 64 (List.replicate 64 0)], hB 1 76 [.arr .u64 80 a1], hB 2 73 [.arr .u64 8 m5], hO 3 5 .u8 a3, hB 4 76 [.arr .u64 80 m9]] [] (by kernel_rfl) trivial ?_
          refine q_k ?_
          rcases ite_split h with ⟨hc13, h⟩ | ⟨hc13, h⟩
          · refine tr_cond_t (decide (t10 < (16 : Int))) (by kernel_rfl) hc13 ?_
            refine tr_seq ?_
            refine tr_seq ?_
            refine tr_reg hT [] [.s 2, .s 3, .s 4, .s 5, .s 6, .s 7, .s 8, .s 9, .h 0, .h 1, .h 2, .h 3, .h 4] [sO 2 (.ptr 0 0), sO 3 (.ptr 1 0), sO 4 (.ptr 2 0), sO 5 (.slc 3), sI 6 .i64 at6, sO 7 (.ptr 4 0), sI 8 .i64 t10, sI 9 .i64 (0 : Int), hB 0 34 [.arr .u8 64 (List.replicate 64 0)], hB 1 76 [.arr .u64 80 a1], hB 2 73 [.arr .u64 8 m5], hO 3 5 .u8 a3, hB 4 76 [.arr .u64 80 m9]] [] (by kernel_rfl) trivial ?_
            refine q_k ?_
            refine tr_block ?_
            obtain ⟨m16, e21, h⟩ := bind_some h
            refine tr_fit [] [sO 2 (.ptr 0 0), sO 3 (.ptr 1 0), sO 4 (.ptr 2 0), sO 5 (.slc 3), sI 6 .i64 at6, sO 7 (.ptr 4 0), sI 8 .i64 t10, sI 9 .i64 (0 : Int), hB 0 34 [.arr .u8 64 (List.replicate 64 0)], hB 1 76 [.arr .u64 80 a1], hB 2 73 [.arr .u64 8 m5], hO 3 5 .u8 a3, hB 4 76 [.arr .u64 80 m9]] [(0, .blk 34 [.arr .u8 64 (List.replicate 64 0)]), (1, .blk 76 [.arr .u64 80 a1]), (2, .blk 73 [.arr .u64 8 m5]), (3, .own 5 .u8 a3), (4, .blk 76 [.arr .u64 80 m9])] (by kernel_rfl) (by kernel_rfl) (by kernel_rfl) rfl ⟨.blk (by kernel_rfl) (by kernel_rfl), .blk (by kernel_rfl) (by kernel_rfl), .blk (by kernel_rfl) (by kernel_rfl), .own (by kernel_rfl), .blk (by kernel_rfl) (by kernel_rfl), trivial⟩ (by kernel_rfl) ?_
            refine tr_loop_fuel (id := 4) (α := List Int × Int) (β := List Int) (fun z => [sO 2 (.ptr 0 0), sO 3 (.ptr 1 0), sO 4 (.ptr 2 0), sO 5 (.slc 3), sI 6 .i64 at6, sO 7 (.ptr 4 0), sI 8 .i64 t10, sI 9 .i64 z.2, hB 0 34 [.arr .u8 64 (List.replicate 64 0)], hB 1 76 [.arr .u64 80 a1], hB 2 73 [.arr .u64 8 m5], hO 3 5 .u8 a3, hB 4 76 [.arr .u64 80 z.1]]) (fun z => [sO 2 (.ptr 0 0), sO 3 (.ptr 1 0), sO 4 (.ptr 2 0), sO 5 (.slc 3), sI 6 .i64 at6, sO 7 (.ptr 4 0), sI 8 .i64 t10, hB 0 34 [.arr .u8 64 (List.replicate 64 0)], hB 1 76 [.arr .u64 80 a1], hB 2 73 [.arr .u64 8 m5], hO 3 5 .u8 a3, hB 4 76 [.arr .u64 80 z]]) (fun k z => ref01_Sum512_l2 a1 a3 m5 at6 t10 k z.1 z.2) m16 (fun _ => rfl) (((8 : Int) - (0 : Int)).toNat + 1) (m9, (0 : Int)) e21 ?_ ?_
            · skip
              replace h : (ref01_Sum512_l1 a1 a3 m5 at6 k m16 (IntKind.i64.wrap (t10 + (1 : Int)))) = _ := h
              refine q_b_this ?_
              refine q_k ?_
              refine tr_exit ?_
              refine q_k_exit ?_
              refine q_b_this ?_
              refine q_k ?_
              refine tr_reg hT [] [.s 2, .s 3, .s 4, .s 5, .s 6, .s 7, .s 8, .h 0, .h 1, .h 2, .h 3, .h 4] [sO 2 (.ptr 0 0), sO 3 (.ptr 1 0), sO 4 (.ptr 2 0), sO 5 (.slc 3), sI 6 .i64 at6, sO 7 (.ptr 4 0), sI 8 .i64 (IntKind.i64.wrap (t10 + (1 : Int))), hB 0 34 [.arr .u8 64 (List.replicate 64 0)], hB 1 76 [.arr .u64 80 a1], hB 2 73 [.arr .u64 8 m5], hO 3 5 .u8 a3, hB 4 76 [.arr .u64 80 m16]] [] (by kernel_rfl) trivial ?_
              refine q_kr ?_
              exact trR_less [.s 2, .s 3, .s 4, .s 5, .s 6, .s 7, .s 8, .h 0, .h 1, .h 2, .h 3, .h 4] [sO 2 (.ptr 0 0), sO 3 (.ptr 1 0), sO 4 (.ptr 2 0), sO 5 (.slc 3), sI 6 .i64 at6, sO 7 (.ptr 4 0), sI 8 .i64 (IntKind.i64.wrap (t10 + (1 : Int))), hB 0 34 [.arr .u8 64 (List.replicate 64 0)], hB 1 76 [.arr .u64 80 a1], hB 2 73 [.arr .u64 8 m5], hO 3 5 .u8 a3, hB 4 76 [.arr .u64 80 m16]] (by kernel_rfl) (ih1 (m16, (IntKind.i64.wrap (t10 + (1 : Int)))) h)
            · clear h e21
              intro k ih2 hx2 z h
              obtain ⟨m14, i15⟩ := z
              replace h : (if (decide (i15 < (8 : Int))) = true then if 0 ≤ t10 ∧ t10 < ((80 : Nat) : Int) then if 0 ≤ (IntKind.i64.wrap ((IntKind.i64.wrap (at6 + (IntKind.i64.wrap ((8 : Int) * t10)))) + i15)) ∧ (IntKind.i64.wrap ((IntKind.i64.wrap (at6 + (IntKind.i64.wrap ((8 : Int) * t10)))) + i15)) < ↑(List.length a3) then if 0 ≤ t10 ∧ t10 < ((80 : Nat) : Int) then ref01_Sum512_l2 a1 a3 m5 at6 t10 k (m14.set t10.toNat (bor .u64 (shl .u64 (m14.getD t10.toNat 0) (8 : Int)) (IntKind.u64.wrap (a3.getD (IntKind.i64.wrap ((IntKind.i64.wrap (at6 + (IntKind.i64.wrap ((8 : Int) * t10)))) + i15)).toNat 0)))) (IntKind.i64.wrap (i15 + (1 : Int))) else none else none else none else some m14) = _ := h
              refine tr_seq ?_
              refine tr_seq ?_
              refine tr_reg hT [] [.s 2, .s 3, .s 4, .s 5, .s 6, .s 7, .s 8, .s 9, .s 38, .h 0, .h 1, .h 2, .h 3, .h 4] [sO 2 (.ptr 0 0), sO 3 (.ptr 1 0), sO 4 (.ptr 2 0), sO 5 (.slc 3), sI 6 .i64 at6, sO 7 (.ptr 4 0), sI 8 .i64 t10, sI 9 .i64 i15, sB 38 (decide (i15 < (8 : Int))), hB 0 34 [.arr .u8 64 (List.replicate 64 0)], hB 1 76 [.arr .u64 80 a1], hB 2 73 [.arr .u64 8 m5], hO 3 5 .u8 a3, hB 4 76 [.arr .u64 80 m14]] [] (by kernel_rfl) trivial ?_
              refine q_k ?_
              rcases ite_split h with ⟨hc17, h⟩ | ⟨hc17, h⟩
              · refine tr_cond_t (decide (i15 < (8 : Int))) (by kernel_rfl) hc17 ?_
                refine tr_skip ?_
                refine q_k ?_
                refine tr_seq ?_
                refine tr_block ?_
                obtain ⟨hn18, h⟩ := ite_some h
                obtain ⟨hn19, h⟩ := ite_some h
                obtain ⟨hn20, h⟩ := ite_some h
                refine tr_regd hT hM [] [.s 2, .s 3, .s 4, .s 5, .s 6, .s 7, .s 8, .s 9, .h 0, .h 1, .h 2, .h 3, .h 4] [sO 2 (.ptr 0 0), sO 3 (.ptr 1 0), sO 4 (.ptr 2 0), sO 5 (.slc 3), sI 6 .i64 at6, sO 7 (.ptr 4 0), sI 8 .i64 t10, sI 9 .i64 i15, hB 0 34 [.arr .u8 64 (List.replicate 64 0)], hB 1 76 [.arr .u64 80 a1], hB 2 73 [.arr .u64 8 m5], hO 3 5 .u8 a3, hB 4 76 [.arr .u64 80 (m14.set t10.toNat (bor .u64 (shl .u64 (m14.getD t10.toNat 0) (8 : Int)) (IntKind.u64.wrap (a3.getD (IntKind.i64.wrap ((IntKind.i64.wrap (at6 + (IntKind.i64.wrap ((8 : Int) * t10)))) + i15)).toNat 0))))]] [0 ≤ t10 ∧ t10 < ((80 : Nat) : Int), 0 ≤ (8 : Int), 0 ≤ (IntKind.i64.wrap ((IntKind.i64.wrap (at6 + (IntKind.i64.wrap ((8 : Int) * t10)))) + i15)) ∧ (IntKind.i64.wrap ((IntKind.i64.wrap (at6 + (IntKind.i64.wrap ((8 : Int) * t10)))) + i15)) < ↑(List.length a3), (IntKind.i64.wrap ((IntKind.i64.wrap (at6 + (IntKind.i64.wrap ((8 : Int) * t10)))) + i15)) < ↑(List.length a3), 0 ≤ t10 ∧ t10 < ((80 : Nat) : Int)] (by kernel_rfl) (hcons hn18 (hcons (by decide) (hcons hn19 (hcons hn19.2 (hone hn20))))) ?_
                refine q_b 5 ?_
                refine q_k ?_
                refine tr_reg hT [] [.s 2, .s 3, .s 4, .s 5, .s 6, .s 7, .s 8, .s 9, .h 0, .h 1, .h 2, .h 3, .h 4] [sO 2 (.ptr 0 0), sO 3 (.ptr 1 0), sO 4 (.ptr 2 0), sO 5 (.slc 3), sI 6 .i64 at6, sO 7 (.ptr 4 0), sI 8 .i64 t10, sI 9 .i64 (IntKind.i64.wrap (i15 + (1 : Int))), hB 0 34 [.arr .u8 64 (List.replicate 64 0)], hB 1 76 [.arr .u64 80 a1], hB 2 73 [.arr .u64 8 m5], hO 3 5 .u8 a3, hB 4 76 [.arr .u64 80 (m14.set t10.toNat (bor .u64 (shl .u64 (m14.getD t10.toNat 0) (8 : Int)) (IntKind.u64.wrap (a3.getD (IntKind.i64.wrap ((IntKind.i64.wrap (at6 + (IntKind.i64.wrap ((8 : Int) * t10)))) + i15)).toNat 0))))]] [] (by kernel_rfl) trivial ?_
                refine q_kr ?_
                exact trR_less [.s 2, .s 3, .s 4, .s 5, .s 6, .s 7, .s 8, .s 9, .h 0, .h 1, .h 2, .h 3, .h 4] [sO 2 (.ptr 0 0), sO 3 (.ptr 1 0), sO 4 (.ptr 2 0), sO 5 (.slc 3), sI 6 .i64 at6, sO 7 (.ptr 4 0), sI 8 .i64 t10, sI 9 .i64 (IntKind.i64.wrap (i15 + (1 : Int))), hB 0 34 [.arr .u8 64 (List.replicate 64 0)], hB 1 76 [.arr .u64 80 a1], hB 2 73 [.arr .u64 8 m5], hO 3 5 .u8 a3, hB 4 76 [.arr .u64 80 (m14.set t10.toNat (bor .u64 (shl .u64 (m14.getD t10.toNat 0) (8 : Int)) (IntKind.u64.wrap (a3.getD (IntKind.i64.wrap ((IntKind.i64.wrap (at6 + (IntKind.i64.wrap ((8 : Int) * t10)))) + i15)).toNat 0))))]] (by kernel_rfl) (ih2 ((m14.set t10.toNat (bor .u64 (shl .u64 (m14.getD t10.toNat 0) (8 : Int)) (IntKind.u64.wrap (a3.getD (IntKind.i64.wrap ((IntKind.i64.wrap (at6 + (IntKind.i64.wrap ((8 : Int) * t10)))) + i15)).toNat 0)))), (IntKind.i64.wrap (i15 + (1 : Int)))) h)
              · refine tr_cond_f (decide (i15 < (8 : Int))) (by kernel_rfl) hc17 ?_
                refine tr_exit ?_
                refine q_k_exit ?_
                refine q_kr_exit ?_
                have h := Option.some.inj h
                subst h
                exact q_less [.s 2, .s 3, .s 4, .s 5, .s 6, .s 7, .s 8, .h 0, .h 1, .h 2, .h 3, .h 4] [sO 2 (.ptr 0 0), sO 3 (.ptr 1 0), sO 4 (.ptr 2 0), sO 5 (.slc 3), sI 6 .i64 at6, sO 7 (.ptr 4 0), sI 8 .i64 t10, hB 0 34 [.arr .u8 64 (List.replicate 64 0)], hB 1 76 [.arr .u64 80 a1], hB 2 73 [.arr .u64 8 m5], hO 3 5 .u8 a3, hB 4 76 [.arr .u64 80 m14]] (by kernel_rfl) hx2
          · refine tr_cond_f (decide (t10 < (16 : Int))) (by kernel_rfl) hc13 ?_
            refine tr_skip ?_
            refine q_k ?_
            refine tr_seq ?_
            obtain ⟨hn22, h⟩ := ite_some h
            obtain ⟨hn23, h⟩ := ite_some h
            refine tr_regd hT hM [] [.s 2, .s 3, .s 4, .s 5, .s 6, .s 7, .s 8, .s 10, .s 11, .h 0, .h 1, .h 2, .h 3, .h 4] [sO 2 (.ptr 0 0), sO 3 (.ptr 1 0), sO 4 (.ptr 2 0), sO 5 (.slc 3), sI 6 .i64 at6, sO 7 (.ptr 4 0), sI 8 .i64 t10, sI 10 .u64 (m9.getD (IntKind.i64.wrap (t10 - (15 : Int))).toNat 0), sI 11 .u64 (m9.getD (IntKind.i64.wrap (t10 - (2 : Int))).toNat 0), hB 0 34 [.arr .u8 64 (List.replicate 64 0)], hB 1 76 [.arr .u64 80 a1], hB 2 73 [.arr .u64 8 m5], hO 3 5 .u8 a3, hB 4 76 [.arr .u64 80 m9]] [0 ≤ (IntKind.i64.wrap (t10 - (15 : Int))) ∧ (IntKind.i64.wrap (t10 - (15 : Int))) < ((80 : Nat) : Int), 0 ≤ (IntKind.i64.wrap (t10 - (2 : Int))) ∧ (IntKind.i64.wrap (t10 - (2 : Int))) < ((80 : Nat) : Int)] (by kernel_rfl) (hcons hn22 (hone hn23)) ?_
            refine q_k ?_
            obtain ⟨hn24, h⟩ := ite_some h
            obtain ⟨hn25, h⟩ := ite_some h
            obtain ⟨r26, e27, h⟩ := bind_some h
            obtain ⟨r28, e29, h⟩ := bind_some h
            obtain ⟨r30, e31, h⟩ := bind_some h
            obtain ⟨r32, e33, h⟩ := bind_some h
            obtain ⟨hn34, h⟩ := ite_some h
            refine tr_regd hT hM [(11, .call [] (.v (.one (.int .u64 r26))) []), (13, .call [] (.v (.one (.int .u64 r28))) []), (20, .call [] (.v (.one (.int .u64 r30))) []), (22, .call [] (.v (.one (.int .u64 r32))) [])] [.s 2, .s 3, .s 4, .s 5, .s 6, .s 7, .s 8, .h 0, .h 1, .h 2, .h 3, .h 4] [sO 2 (.ptr 0 0), sO 3 (.ptr 1 0), sO 4 (.ptr 2 0), sO 5 (.slc 3), sI 6 .i64 at6, sO 7 (.ptr 4 0), sI 8 .i64 t10, hB 0 34 [.arr .u8 64 (List.replicate 64 0)], hB 1 76 [.arr .u64 80 a1], hB 2 73 [.arr .u64 8 m5], hO 3 5 .u8 a3, hB 4 76 [.arr .u64 80 (m9.set t10.toNat (IntKind.u64.wrap ((IntKind.u64.wrap ((IntKind.u64.wrap ((m9.getD (IntKind.i64.wrap (t10 - (16 : Int))).toNat 0) + (m9.getD (IntKind.i64.wrap (t10 - (7 : Int))).toNat 0))) + (bxor .u64 (bxor .u64 r26 r28) (shr .u64 (m9.getD (IntKind.i64.wrap (t10 - (15 : Int))).toNat 0) (7 : Int))))) + (bxor .u64 (bxor .u64 r30 r32) (shr .u64 (m9.getD (IntKind.i64.wrap (t10 - (2 : Int))).toNat 0) (6 : Int))))))]] [0 ≤ (IntKind.i64.wrap (t10 - (16 : Int))) ∧ (IntKind.i64.wrap (t10 - (16 : Int))) < ((80 : Nat) : Int), 0 ≤ (IntKind.i64.wrap (t10 - (7 : Int))) ∧ (IntKind.i64.wrap (t10 - (7 : Int))) < ((80 : Nat) : Int), CallOk P 55 [.v (.one (.int .u64 (m9.getD (IntKind.i64.wrap (t10 - (15 : Int))).toNat 0))), .v (.one (.int .i64 (1 : Int)))] [] (.v (.one (.int .u64 r26))) [], CallOk P 55 [.v (.one (.int .u64 (m9.getD (IntKind.i64.wrap (t10 - (15 : Int))).toNat 0))), .v (.one (.int .i64 (8 : Int)))] [] (.v (.one (.int .u64 r28))) [], 0 ≤ (7 : Int), CallOk P 55 [.v (.one (.int .u64 (m9.getD (IntKind.i64.wrap (t10 - (2 : Int))).toNat 0))), .v (.one (.int .i64 (19 : Int)))] [] (.v (.one (.int .u64 r30))) [], CallOk P 55 [.v (.one (.int .u64 (m9.getD (IntKind.i64.wrap (t10 - (2 : Int))).toNat 0))), .v (.one (.int .i64 (61 : Int)))] [] (.v (.one (.int .u64 r32))) [], 0 ≤ (6 : Int), 0 ≤ t10 ∧ t10 < ((80 : Nat) : Int)] (by kernel_rfl) (hcons hn24 (hcons hn25 (hcons (ref01_rot64_ok (m9.getD (IntKind.i64.wrap (t10 - (15 : Int))).toNat 0) (1 : Int) r26 e27) (hcons (ref01_rot64_ok (m9.getD (IntKind.i64.wrap (t10 - (15 : Int))).toNat 0) (8 : Int) r28 e29) (hcons (by decide) (hcons (ref01_rot64_ok (m9.getD (IntKind.i64.wrap (t10 - (2 : Int))).toNat 0) (19 : Int) r30 e31) (hcons (ref01_rot64_ok (m9.getD (IntKind.i64.wrap (t10 - (2 : Int))).toNat 0) (61 : Int) r32 e33) (hcons (by decide) (hone hn34))))))))) ?_
            refine q_b 3 ?_
            refine q_k ?_
            refine tr_reg hT [] [.s 2, .s 3, .s 4, .s 5, .s 6, .s 7, .s 8, .h 0, .h 1, .h 2, .h 3, .h 4] [sO 2 (.ptr 0 0), sO 3 (.ptr 1 0), sO 4 (.ptr 2 0), sO 5 (.slc 3), sI 6 .i64 at6, sO 7 (.ptr 4 0), sI 8 .i64 (IntKind.i64.wrap (t10 + (1 : Int))), hB 0 34 [.arr .u8 64 (List.replicate 64 0)], hB 1 76 [.arr .u64 80 a1], hB 2 73 [.arr .u64 8 m5], hO 3 5 .u8 a3, hB 4 76 [.arr .u64 80 (m9.set t10.toNat (IntKind.u64.wrap ((IntKind.u64.wrap ((IntKind.u64.wrap ((m9.getD (IntKind.i64.wrap (t10 - (16 : Int))).toNat 0) + (m9.getD (IntKind.i64.wrap (t10 - (7 : Int))).toNat 0))) + (bxor .u64 (bxor .u64 r26 r28) (shr .u64 (m9.getD (IntKind.i64.wrap (t10 - (15 : Int))).toNat 0) (7 : Int))))) + (bxor .u64 (bxor .u64 r30 r32) (shr .u64 (m9.getD (IntKind.i64.wrap (t10 - (2 : Int))).toNat 0) (6 : Int))))))]] [] (by kernel_rfl) trivial ?_
            refine q_kr ?_
            exact trR_less [.s 2, .s 3, .s 4, .s 5, .s 6, .s 7, .s 8, .h 0, .h 1, .h 2, .h 3, .h 4] [sO 2 (.ptr 0 0), sO 3 (.ptr 1 0), sO 4 (.ptr 2 0), sO 5 (.slc 3), sI 6 .i64 at6, sO 7 (.ptr 4 0), sI 8 .i64 (IntKind.i64.wrap (t10 + (1 : Int))), hB 0 34 [.arr .u8 64 (List.replicate 64 0)], hB 1 76 [.arr .u64 80 a1], hB 2 73 [.arr .u64 8 m5], hO 3 5 .u8 a3, hB 4 76 [.arr .u64 80 (m9.set t10.toNat (IntKind.u64.wrap ((IntKind.u64.wrap ((IntKind.u64.wrap ((m9.getD (IntKind.i64.wrap (t10 - (16 : Int))).toNat 0) + (m9.getD (IntKind.i64.wrap (t10 - (7 : Int))).toNat 0))) + (bxor .u64 (bxor .u64 r26 r28) (shr .u64 (m9.getD (IntKind.i64.wrap (t10 - (15 : Int))).toNat 0) (7 : Int))))) + (bxor .u64 (bxor .u64 r30 r32) (shr .u64 (m9.getD (IntKind.i64.wrap (t10 - (2 : Int))).toNat 0) (6 : Int))))))]] (by kernel_rfl) (ih1 ((m9.set t10.toNat (IntKind.u64.wrap ((IntKind.u64.wrap ((IntKind.u64.wrap ((m9.getD (IntKind.i64.wrap (t10 - (16 : Int))).toNat 0) + (m9.getD (IntKind.i64.wrap (t10 - (7 : Int))).toNat 0))) + (bxor .u64 (bxor .u64 r26 r28) (shr .u64 (m9.getD (IntKind.i64.wrap (t10 - (15 : Int))).toNat 0) (7 : Int))))) + (bxor .u64 (bxor .u64 r30 r32) (shr .u64 (m9.getD (IntKind.i64.wrap (t10 - (2 : Int))).toNat 0) (6 : Int)))))), (IntKind.i64.wrap (t10 + (1 : Int)))) h)
        · refine tr_cond_f (decide (t10 < (80 : Int))) (by kernel_rfl) hc12 ?_
          refine tr_exit ?_
          refine q_k_exit ?_
          refine q_kr_exit ?_
          have h := Option.some.inj h
          subst h
          exact q_less [.s 2, .s 3, .s 4, .s 5, .s 6, .s 7, .h 0, .h 1, .h 2, .h 3, .h 4] [sO 2 (.ptr 0 0), sO 3 (.ptr 1 0), sO 4 (.ptr 2 0), sO 5 (.slc 3), sI 6 .i64 at6, sO 7 (.ptr 4 0), hB 0 34 [.arr .u8 64 (List.replicate 64 0)], hB 1 76 [.arr .u64 80 a1], hB 2 73 [.arr .u64 8 m5], hO 3 5 .u8 a3, hB 4 76 [.arr .u64 80 m9]] (by kernel_rfl) hx1
    · refine tr_cond_f (decide (at6 < (↑(List.length a3) : Int))) (by kernel_rfl) hc8 ?_
      refine tr_exit ?_
      refine q_k_exit ?_
      refine q_kr_exit ?_
      have h := Option.some.inj h
      subst h
      exact q_less [.s 2, .s 4, .h 0, .h 2] [sO 2 (.ptr 0 0), sO 4 (.ptr 2 0), hB 0 34 [.arr .u8 64 (List.replicate 64 0)], hB 2 73 [.arr .u64 8 m5]] (by kernel_rfl) hx0

theorem law02_wakes_ok (r : Bool) (h : law02_wakes = some r) {pre : List (Nat × Ent)} : CallOk P 31 [] pre (.v (.one (.bool r))) [] := by
  refine call0 (N := 36) Try.func31 (by kernel_rfl) rfl rfl rfl pre ?_
  intro _ w
  show Tr P (Ge w) 36 _ _ _ (RetQ P Try.f31 (R0 _ w))
  unfold law02_wakes at h
  refine tr_seq ?_
  refine tr_reg hT [] [] [] [] (by kernel_rfl) trivial ?_
  refine q_k ?_
  refine tr_seq ?_
  obtain ⟨a1, e2, h⟩ := bind_some h
  refine tr_reg hT [(0, .key 0), (1, .key 1), (2, .key 2), (3, .key 3), (4, .key 4), (5, .call [4] (.v (.agg [.arr .u8 64 a1])) []), (6, .key 5)] [.s 1, .h 5] [sO 1 (.ptr 5 0), hB 5 34 [.arr .u8 64 a1]] [0 < List.length [(97 : Int)], 0 < List.length [(98 : Int), (99 : Int)], CallOk P 29 [.v (.one (.slc 4))] [(4, .rows (.bs .u8 [[(97 : Int)], [], [(98 : Int), (99 : Int)]]))] (.v (.agg [.arr .u8 64 a1])) []] (by kernel_rfl) (hcons (by decide) (hcons (by decide) (hone ((wide_Sum_ok [[(97 : Int)], [], [(98 : Int), (99 : Int)]] a1 e2).tr [(9000, .slc 4)] rfl (by kernel_rfl) ⟨.rows (by kernel_rfl), trivial⟩ (by kernel_rfl) (by kernel_rfl) rfl rfl)))) ?_
  refine q_k ?_
  refine tr_seq ?_
  rcases ite_split h with ⟨hb3, h⟩ | ⟨hb12, h⟩
  · rcases ite_split h with ⟨hb4, h⟩ | ⟨hb11, h⟩
    · rcases ite_split h with ⟨hb5, h⟩ | ⟨hb10, h⟩
      · rcases ite_split h with ⟨hb6, h⟩ | ⟨hb9, h⟩
        · rcases ite_split h with ⟨hb7, h⟩ | ⟨hb8, h⟩
          · refine tr_reg hT [(3, .dec true), (8, .dec true), (13, .dec true), (18, .dec true), (23, .dec true)] [.s 0] [sB 0 ((a1.getD 63 0) == (159 : Int))] [0 ≤ (0 : Int) ∧ (0 : Int) < ((64 : Nat) : Int), ((a1.getD 0 0) == (221 : Int)) = true, 0 ≤ (1 : Int) ∧ (1 : Int) < ((64 : Nat) : Int), ((a1.getD 1 0) == (175 : Int)) = true, 0 ≤ (2 : Int) ∧ (2 : Int) < ((64 : Nat) : Int), ((a1.getD 2 0) == (53 : Int)) = true, 0 ≤ (3 : Int) ∧ (3 : Int) < ((64 : Nat) : Int), ((a1.getD 3 0) == (161 : Int)) = true, 0 ≤ (62 : Int) ∧ (62 : Int) < ((64 : Nat) : Int), ((a1.getD 62 0) == (164 : Int)) = true, 0 ≤ (63 : Int) ∧ (63 : Int) < ((64 : Nat) : Int)] (by kernel_rfl) (hcons (by decide) (hcons hb3 (hcons (by decide) (hcons hb4 (hcons (by decide) (hcons hb5 (hcons (by decide) (hcons hb6 (hcons (by decide) (hcons hb7 (hone (by decide)))))))))))) ?_
            refine q_k ?_
            refine tr_ret ?_
            have h := Option.some.inj h
            subst h
            exact q_ret0 hT (.v (.one (.bool ((a1.getD 63 0) == (159 : Int))))) rfl (by kernel_rfl)
          · refine tr_reg hT [(3, .dec true), (8, .dec true), (13, .dec true), (18, .dec true), (23, .dec false)] [.s 0] [sB 0 false] [0 ≤ (0 : Int) ∧ (0 : Int) < ((64 : Nat) : Int), ((a1.getD 0 0) == (221 : Int)) = true, 0 ≤ (1 : Int) ∧ (1 : Int) < ((64 : Nat) : Int), ((a1.getD 1 0) == (175 : Int)) = true, 0 ≤ (2 : Int) ∧ (2 : Int) < ((64 : Nat) : Int), ((a1.getD 2 0) == (53 : Int)) = true, 0 ≤ (3 : Int) ∧ (3 : Int) < ((64 : Nat) : Int), ((a1.getD 3 0) == (161 : Int)) = true, 0 ≤ (62 : Int) ∧ (62 : Int) < ((64 : Nat) : Int), ((a1.getD 62 0) == (164 : Int)) = false] (by kernel_rfl) (hcons (by decide) (hcons hb3 (hcons (by decide) (hcons hb4 (hcons (by decide) (hcons hb5 (hcons (by decide) (hcons hb6 (hcons (by decide) (hone hb8)))))))))) ?_
            refine q_k ?_
            refine tr_ret ?_
            have h := Option.some.inj h
            subst h
            exact q_ret0 hT (.v (.one (.bool false))) rfl (by kernel_rfl)
        · refine tr_reg hT [(3, .dec true), (8, .dec true), (13, .dec true), (18, .dec false)] [.s 0] [sB 0 false] [0 ≤ (0 : Int) ∧ (0 : Int) < ((64 : Nat) : Int), ((a1.getD 0 0) == (221 : Int)) = true, 0 ≤ (1 : Int) ∧ (1 : Int) < ((64 : Nat) : Int), ((a1.getD 1 0) == (175 : Int)) = true, 0 ≤ (2 : Int) ∧ (2 : Int) < ((64 : Nat) : Int), ((a1.getD 2 0) == (53 : Int)) = true, 0 ≤ (3 : Int) ∧ (3 : Int) < ((64 : Nat) : Int), ((a1.getD 3 0) == (161 : Int)) = false] (by kernel_rfl) (hcons (by decide) (hcons hb3 (hcons (by decide) (hcons hb4 (hcons (by decide) (hcons hb5 (hcons (by decide) (hone hb9)))))))) ?_
          refine q_k ?_
          refine tr_ret ?_
          have h := Option.some.inj h
          subst h
          exact q_ret0 hT (.v (.one (.bool false))) rfl (by kernel_rfl)
      · refine tr_reg hT [(3, .dec true), (8, .dec true), (13, .dec false)] [.s 0] [sB 0 false] [0 ≤ (0 : Int) ∧ (0 : Int) < ((64 : Nat) : Int), ((a1.getD 0 0) == (221 : Int)) = true, 0 ≤ (1 : Int) ∧ (1 : Int) < ((64 : Nat) : Int), ((a1.getD 1 0) == (175 : Int)) = true, 0 ≤ (2 : Int) ∧ (2 : Int) < ((64 : Nat) : Int), ((a1.getD 2 0) == (53 : Int)) = false] (by kernel_rfl) (hcons (by decide) (hcons hb3 (hcons (by decide) (hcons hb4 (hcons (by decide) (hone hb10)))))) ?_
        refine q_k ?_
        refine tr_ret ?_
        have h := Option.some.inj h
        subst h
        exact q_ret0 hT (.v (.one (.bool false))) rfl (by kernel_rfl)
    · refine tr_reg hT [(3, .dec true), (8, .dec false)] [.s 0] [sB 0 false] [0 ≤ (0 : Int) ∧ (0 : Int) < ((64 : Nat) : Int), ((a1.getD 0 0) == (221 : Int)) = true, 0 ≤ (1 : Int) ∧ (1 : Int) < ((64 : Nat) : Int), ((a1.getD 1 0) == (175 : Int)) = false] (by kernel_rfl) (hcons (by decide) (hcons hb3 (hcons (by decide) (hone hb11)))) ?_
      refine q_k ?_
      refine tr_ret ?_
      have h := Option.some.inj h
      subst h
      exact q_ret0 hT (.v (.one (.bool false))) rfl (by kernel_rfl)
  · refine tr_reg hT [(3, .dec false)] [.s 0] [sB 0 false] [0 ≤ (0 : Int) ∧ (0 : Int) < ((64 : Nat) : Int), ((a1.getD 0 0) == (221 : Int)) = false] (by kernel_rfl) (hcons (by decide) (hone hb12)) ?_
    refine q_k ?_
    refine tr_ret ?_
    have h := Option.some.inj h
    subst h
    exact q_ret0 hT (.v (.one (.bool false))) rfl (by kernel_rfl)

theorem law02_WideExact_ok (parts_0 : List (List Int)) (r : Bool) (h : law02_WideExact parts_0 = some r) : CallOk P 8 [.v (.one (.slc 9000))] [(9000, .rows (.bs .u8 parts_0))] (.v (.one (.bool r))) [] := by
  refine call1 (N := 63) Try.func8 (by kernel_rfl) rfl rfl rfl [(9000, .rows (.bs .u8 parts_0))] (by kernel_rfl) ?_
  intro _ B w0
  show Tr P B 63 w0 _ _ (RetQ P Try.f8 (R1 _ _ B w0))
  unfold law02_WideExact at h
  refine tr_seq ?_
  refine tr_reg hT [] [.s 0, .h 9000] [sO 0 (.slc 9000), hW 9000 (.bs .u8 parts_0)] [] (by kernel_rfl) trivial ?_
  refine q_k ?_
  refine tr_seq ?_
  refine tr_seq ?_
  refine tr_reg hT [] [.s 0, .s 10, .h 9000] [sO 0 (.slc 9000), sB 10 (decide ((↑(List.length parts_0) : Int) > (20 : Int))), hW 9000 (.bs .u8 parts_0)] [] (by kernel_rfl) trivial ?_
  refine q_k ?_
  rcases ite_split h with ⟨hc1, h⟩ | ⟨hc1, h⟩
  · refine tr_cond_t (decide ((↑(List.length parts_0) : Int) > (20 : Int))) (by kernel_rfl) hc1 ?_
    refine tr_seq ?_
    refine tr_reg hT [] [.s 2] [sB 2 true] [] (by kernel_rfl) trivial ?_
    refine q_k ?_
    refine tr_ret ?_
    refine q_k_ret ?_
    have h := Option.some.inj h
    subst h
    refine q_less [.s 2] [sB 2 true] (by kernel_rfl) ?_
    exact q_ret1 hT (.v (.one (.bool true))) [] (by kernel_rfl) (by kernel_rfl) (by kernel_rfl)
  · refine tr_cond_f (decide ((↑(List.length parts_0) : Int) > (20 : Int))) (by kernel_rfl) hc1 ?_
    refine tr_skip ?_
    refine q_k ?_
    refine tr_seq ?_
    refine tr_reg hT [] [.s 0, .s 3, .h 9000] [sO 0 (.slc 9000), sO 3 (.nils), hW 9000 (.bs .u8 parts_0)] [] (by kernel_rfl) trivial ?_
    refine q_k ?_
    refine tr_seq ?_
    refine tr_seq ?_
    refine tr_reg hT [] [.s 0, .s 3, .s 4, .h 9000] [sO 0 (.slc 9000), sO 3 (.nils), sI 4 .i64 (0 : Int), hW 9000 (.bs .u8 parts_0)] [] (by kernel_rfl) trivial ?_
    refine q_k ?_
    refine tr_block ?_
    obtain ⟨rr0, e10, h⟩ := bind_some h
    refine tr_fit [(0, .nils)] [sO 0 (.slc 9000), sO 3 (.slc 0), sI 4 .i64 (0 : Int), hO 0 5 .u8 [], hW 9000 (.bs .u8 parts_0)] [(0, .own 5 .u8 []), (9000, .rows (.bs .u8 parts_0))] (by kernel_rfl) (by kernel_rfl) (by kernel_rfl) rfl ⟨.nilown, .rows (by kernel_rfl), trivial⟩ (by kernel_rfl) ?_
    refine tr_loop_ret (id := 0) (α := List Int × Int) (β := List Int) (ρ := Bool) (fun z => [sO 0 (.slc 9000), sO 3 (.slc 0), sI 4 .i64 z.2, hO 0 5 .u8 z.1, hW 9000 (.bs .u8 parts_0)]) (fun z => [sO 0 (.slc 9000), sO 3 (.slc 1), hO 1 5 .u8 z, hW 9000 (.bs .u8 parts_0)]) (fun v σ => resS T (Gw.look σ) Try.f8.results.toList = some (.v (.one (.bool v))) ∧ Gw.hasAll σ [] = some (Gw.preSS [])) (fun k z => law02_WideExact_l0 parts_0 k z.1 z.2) rr0 (fun _ => rfl) (((↑(List.length parts_0) : Int) - (0 : Int)).toNat + 1) ([], (0 : Int)) e10 ?_ ?_ ?_
    · intro all4 hz
      subst hz
      replace h : ((keep_TwinRows parts_0).bind (fun a11 => (wide_Sum a11).bind (fun a13 => (law02_WideExact_l1 parts_0 all4 a11 a13 (((↑(List.length parts_0) : Int) - (0 : Int)).toNat + 1) (0 : Int)).bind (fun y => match y with | .inl _ => (ref01_Sum512 all4).bind (fun a23 => if (decide (a13 = a23)) = true then (wide_Sum [all4]).bind (fun a26 => if (decide (a13 = a26)) = true then (law02_wakes).bind (fun b29 => some b29) else some false) else some false) | .inr v => some v)))) = _ := h
      refine q_b_this ?_
      refine q_k ?_
      refine tr_seq ?_
      obtain ⟨a11, e12, h⟩ := bind_some h
      refine tr_reg hT [(1, .call [9000] (.v (.one (.slc 5))) [(5, .orows 22 (.bs .u8 a11))])] [.s 0, .s 3, .s 5, .h 1, .h 5, .h 9000] [sO 0 (.slc 9000), sO 3 (.slc 1), sO 5 (.slc 5), hO 1 5 .u8 all4, hV 5 22 (.bs .u8 a11), hW 9000 (.bs .u8 parts_0)] [CallOk P 28 [.v (.one (.slc 9000))] [(9000, .rows (.bs .u8 parts_0))] (.v (.one (.slc 5))) [(5, .orows 22 (.bs .u8 a11))]] (by kernel_rfl) (hone ((keep_TwinRows_ok parts_0 a11 e12).tr [(9000, .slc 9000), (8900, .slc 5)] rfl (by kernel_rfl) ⟨.rows (by kernel_rfl), trivial⟩ (by kernel_rfl) (by kernel_rfl) rfl rfl)) ?_
      refine q_k ?_
      refine tr_seq ?_
      obtain ⟨a13, e14, h⟩ := bind_some h
      refine tr_reg hT [(1, .call [5] (.v (.agg [.arr .u8 64 a13])) []), (2, .key 6)] [.s 0, .s 3, .s 5, .s 6, .h 1, .h 5, .h 6, .h 9000] [sO 0 (.slc 9000), sO 3 (.slc 1), sO 5 (.slc 5), sO 6 (.ptr 6 0), hO 1 5 .u8 all4, hV 5 22 (.bs .u8 a11), hB 6 34 [.arr .u8 64 a13], hW 9000 (.bs .u8 parts_0)] [CallOk P 29 [.v (.one (.slc 5))] [(5, .orows 22 (.bs .u8 a11))] (.v (.agg [.arr .u8 64 a13])) []] (by kernel_rfl) (hone ((wide_Sum_ok a11 a13 e14).tr [(9000, .slc 5)] rfl (by kernel_rfl) ⟨.orowsr (e := 22) (by kernel_rfl), trivial⟩ (by kernel_rfl) (by kernel_rfl) rfl rfl)) ?_
      refine q_k ?_
      refine tr_seq ?_
      refine tr_seq ?_
      refine tr_reg hT [] [.s 0, .s 3, .s 5, .s 6, .s 7, .h 1, .h 5, .h 6, .h 9000] [sO 0 (.slc 9000), sO 3 (.slc 1), sO 5 (.slc 5), sO 6 (.ptr 6 0), sI 7 .i64 (0 : Int), hO 1 5 .u8 all4, hV 5 22 (.bs .u8 a11), hB 6 34 [.arr .u8 64 a13], hW 9000 (.bs .u8 parts_0)] [] (by kernel_rfl) trivial ?_
      refine q_k ?_
      refine tr_block ?_
      obtain ⟨rr1, e22, h⟩ := bind_some h
      refine tr_fit [] [sO 0 (.slc 9000), sO 3 (.slc 1), sO 5 (.slc 5), sO 6 (.ptr 6 0), sI 7 .i64 (0 : Int), hO 1 5 .u8 all4, hV 5 22 (.bs .u8 a11), hB 6 34 [.arr .u8 64 a13], hW 9000 (.bs .u8 parts_0)] [(1, .own 5 .u8 all4), (5, .orows 22 (.bs .u8 a11)), (6, .blk 34 [.arr .u8 64 a13]), (9000, .rows (.bs .u8 parts_0))] (by kernel_rfl) (by kernel_rfl) (by kernel_rfl) rfl ⟨.own (by kernel_rfl), .orows (by kernel_rfl), .blk (by kernel_rfl) (by kernel_rfl), .rows (by kernel_rfl), trivial⟩ (by kernel_rfl) ?_
      refine tr_loop_ret (id := 2) (α := Int) (β := Unit) (ρ := Bool) (fun z => [sO 0 (.slc 9000), sO 3 (.slc 1), sO 5 (.slc 5), sO 6 (.ptr 6 0), sI 7 .i64 z, hO 1 5 .u8 all4, hV 5 22 (.bs .u8 a11), hB 6 34 [.arr .u8 64 a13], hW 9000 (.bs .u8 parts_0)]) (fun z => [sO 3 (.slc 1), sO 6 (.ptr 6 0), hO 1 5 .u8 all4, hB 6 34 [.arr .u8 64 a13]]) (fun v σ => resS T (Gw.look σ) Try.f8.results.toList = some (.v (.one (.bool v))) ∧ Gw.hasAll σ [] = some (Gw.preSS [])) (fun k z => law02_WideExact_l1 parts_0 all4 a11 a13 k z) rr1 (fun _ => rfl) (((↑(List.length parts_0) : Int) - (0 : Int)).toNat + 1) (0 : Int) e22 ?_ ?_ ?_
      · intro z hz
        subst hz
        rcases z with _
        replace h : ((ref01_Sum512 all4).bind (fun a23 => if (decide (a13 = a23)) = true then (wide_Sum [all4]).bind (fun a26 => if (decide (a13 = a26)) = true then (law02_wakes).bind (fun b29 => some b29) else some false) else some false)) = _ := h
        refine q_b_this ?_
        refine q_k ?_
        refine tr_seq ?_
        obtain ⟨a23, e24, h⟩ := bind_some h
        rcases ite_split h with ⟨hb25, h⟩ | ⟨hb32, h⟩
        · obtain ⟨a26, e27, h⟩ := bind_some h
          rcases ite_split h with ⟨hb28, h⟩ | ⟨hb31, h⟩
          · obtain ⟨b29, e30, h⟩ := bind_some h
            refine tr_regd hT hM [(2, .call [1] (.v (.agg [.arr .u8 64 a23])) []), (4, .dec true), (7, .key 9), (8, .call [9] (.v (.agg [.arr .u8 64 a26])) []), (11, .dec true), (12, .call [] (.v (.one (.bool b29))) [])] [.s 2] [sB 2 b29] [CallOk P 30 [.v (.one (.slc 1))] [(1, .own 5 .u8 all4)] (.v (.agg [.arr .u8 64 a23])) [], (decide (a13 = a23)) = true, CallOk P 29 [.v (.one (.slc 9))] [(9, .orows 22 (.bs .u8 [all4]))] (.v (.agg [.arr .u8 64 a26])) [], (decide (a13 = a26)) = true, CallOk P 31 [] [] (.v (.one (.bool b29))) []] (by kernel_rfl) (hcons ((ref01_Sum512_ok all4 a23 e24).tr [(9000, .slc 1)] rfl (by kernel_rfl) ⟨.ownrd (e := 5) (by kernel_rfl), trivial⟩ (by kernel_rfl) (by kernel_rfl) rfl rfl) (hcons hb25 (hcons ((wide_Sum_ok [all4] a26 e27).tr [(9000, .slc 9)] rfl (by kernel_rfl) ⟨.orowsr (e := 22) (by kernel_rfl), trivial⟩ (by kernel_rfl) (by kernel_rfl) rfl rfl) (hcons hb28 (hone (law02_wakes_ok  b29 e30)))))) ?_
            refine q_k ?_
            refine tr_ret ?_
            have h := Option.some.inj h
            subst h
            refine q_less [.s 2] [sB 2 b29] (by kernel_rfl) ?_
            exact q_ret1 hT (.v (.one (.bool b29))) [] (by kernel_rfl) (by kernel_rfl) (by kernel_rfl)
          · refine tr_regd hT hM [(2, .call [1] (.v (.agg [.arr .u8 64 a23])) []), (4, .dec true), (7, .key 9), (8, .call [9] (.v (.agg [.arr .u8 64 a26])) []), (11, .dec false)] [.s 2] [sB 2 false] [CallOk P 30 [.v (.one (.slc 1))] [(1, .own 5 .u8 all4)] (.v (.agg [.arr .u8 64 a23])) [], (decide (a13 = a23)) = true, CallOk P 29 [.v (.one (.slc 9))] [(9, .orows 22 (.bs .u8 [all4]))] (.v (.agg [.arr .u8 64 a26])) [], (decide (a13 = a26)) = false] (by kernel_rfl) (hcons ((ref01_Sum512_ok all4 a23 e24).tr [(9000, .slc 1)] rfl (by kernel_rfl) ⟨.ownrd (e := 5) (by kernel_rfl), trivial⟩ (by kernel_rfl) (by kernel_rfl) rfl rfl) (hcons hb25 (hcons ((wide_Sum_ok [all4] a26 e27).tr [(9000, .slc 9)] rfl (by kernel_rfl) ⟨.orowsr (e := 22) (by kernel_rfl), trivial⟩ (by kernel_rfl) (by kernel_rfl) rfl rfl) (hone hb31)))) ?_
            refine q_k ?_
            refine tr_ret ?_
            have h := Option.some.inj h
            subst h
            refine q_less [.s 2] [sB 2 false] (by kernel_rfl) ?_
            exact q_ret1 hT (.v (.one (.bool false))) [] (by kernel_rfl) (by kernel_rfl) (by kernel_rfl)
        · refine tr_regd hT hM [(2, .call [1] (.v (.agg [.arr .u8 64 a23])) []), (4, .dec false)] [.s 2] [sB 2 false] [CallOk P 30 [.v (.one (.slc 1))] [(1, .own 5 .u8 all4)] (.v (.agg [.arr .u8 64 a23])) [], (decide (a13 = a23)) = false] (by kernel_rfl) (hcons ((ref01_Sum512_ok all4 a23 e24).tr [(9000, .slc 1)] rfl (by kernel_rfl) ⟨.ownrd (e := 5) (by kernel_rfl), trivial⟩ (by kernel_rfl) (by kernel_rfl) rfl rfl) (hone hb32)) ?_
          refine q_k ?_
          refine tr_ret ?_
          have h := Option.some.inj h
          subst h
          refine q_less [.s 2] [sB 2 false] (by kernel_rfl) ?_
          exact q_ret1 hT (.v (.one (.bool false))) [] (by kernel_rfl) (by kernel_rfl) (by kernel_rfl)
      · intro v σ hz hv
        subst hz
        have h := Option.some.inj h
        subst h
        refine q_b_ret ?_
        refine q_k_ret ?_
        exact q_ret1 hT _ _ hv.1 hv.2 (by kernel_rfl)
      · clear h e22
        intro k ih1 hx1 hr1 i15 h
        replace h : (if (decide (i15 < (↑(List.length parts_0) : Int))) = true then if 0 ≤ i15 ∧ i15 < ↑(List.length a11) then if 0 ≤ i15 ∧ i15 < ↑(List.length parts_0) then (keep_Bytes (a11.getD i15.toNat []) (parts_0.getD i15.toNat [])).bind (fun b19 => if (!b19) = true then some (.inr false) else law02_WideExact_l1 parts_0 all4 a11 a13 k (IntKind.i64.wrap (i15 + (1 : Int)))) else none else none else some (.inl ())) = _ := h
        refine tr_seq ?_
        refine tr_seq ?_
        refine tr_reg hT [] [.s 0, .s 3, .s 5, .s 6, .s 7, .s 36, .h 1, .h 5, .h 6, .h 9000] [sO 0 (.slc 9000), sO 3 (.slc 1), sO 5 (.slc 5), sO 6 (.ptr 6 0), sI 7 .i64 i15, sB 36 (decide (i15 < (↑(List.length parts_0) : Int))), hO 1 5 .u8 all4, hV 5 22 (.bs .u8 a11), hB 6 34 [.arr .u8 64 a13], hW 9000 (.bs .u8 parts_0)] [] (by kernel_rfl) trivial ?_
        refine q_k ?_
        rcases ite_split h with ⟨hc16, h⟩ | ⟨hc16, h⟩
        · refine tr_cond_t (decide (i15 < (↑(List.length parts_0) : Int))) (by kernel_rfl) hc16 ?_
          refine tr_skip ?_
          refine q_k ?_
          refine tr_seq ?_
          refine tr_block ?_
          refine tr_seq ?_
          obtain ⟨hn17, h⟩ := ite_some h
          obtain ⟨hn18, h⟩ := ite_some h
          obtain ⟨b19, e20, h⟩ := bind_some h
          refine tr_regd hT hM [(3, .key 7), (7, .key 8), (8, .call [7, 8] (.v (.one (.bool b19))) [])] [.s 0, .s 3, .s 5, .s 6, .s 7, .s 48, .h 1, .h 5, .h 6, .h 9000] [sO 0 (.slc 9000), sO 3 (.slc 1), sO 5 (.slc 5), sO 6 (.ptr 6 0), sI 7 .i64 i15, sB 48 (!b19), hO 1 5 .u8 all4, hV 5 22 (.bs .u8 a11), hB 6 34 [.arr .u8 64 a13], hW 9000 (.bs .u8 parts_0)] [0 ≤ i15 ∧ i15 < ↑(List.length a11), i15 < ↑(List.length a11), 0 ≤ i15 ∧ i15 < ↑(List.length parts_0), i15 < ↑(List.length parts_0), CallOk P 26 [.v (.one (.slc 7)), .v (.one (.slc 8))] [(7, .rd .u8 (a11.getD i15.toNat [])), (8, .rd .u8 (parts_0.getD i15.toNat []))] (.v (.one (.bool b19))) []] (by kernel_rfl) (hcons hn17 (hcons hn17.2 (hcons hn18 (hcons hn18.2 (hone ((keep_Bytes_ok (a11.getD i15.toNat []) (parts_0.getD i15.toNat []) b19 e20).tr [(9000, .slc 7), (9001, .slc 8)] rfl (by kernel_rfl) ⟨.rd (by kernel_rfl), .rd (by kernel_rfl), trivial⟩ (by kernel_rfl) (by kernel_rfl) rfl rfl)))))) ?_
          refine q_k ?_
          rcases ite_split h with ⟨hc21, h⟩ | ⟨hc21, h⟩
          · refine tr_cond_t (!b19) (by kernel_rfl) hc21 ?_
            refine tr_seq ?_
            refine tr_reg hT [] [.s 2] [sB 2 false] [] (by kernel_rfl) trivial ?_
            refine q_k ?_
            refine tr_ret ?_
            refine q_b_ret ?_
            refine q_k_ret ?_
            refine q_kr_ret ?_
            have h := Option.some.inj h
            subst h
            exact q_less [.s 2] [sB 2 false] (by kernel_rfl) (hr1 false _ rfl ⟨by kernel_rfl, by kernel_rfl⟩)
          · refine tr_cond_f (!b19) (by kernel_rfl) hc21 ?_
            refine tr_skip ?_
            refine q_b 3 ?_
            refine q_k ?_
            refine tr_reg hT [] [.s 0, .s 3, .s 5, .s 6, .s 7, .h 1, .h 5, .h 6, .h 9000] [sO 0 (.slc 9000), sO 3 (.slc 1), sO 5 (.slc 5), sO 6 (.ptr 6 0), sI 7 .i64 (IntKind.i64.wrap (i15 + (1 : Int))), hO 1 5 .u8 all4, hV 5 22 (.bs .u8 a11), hB 6 34 [.arr .u8 64 a13], hW 9000 (.bs .u8 parts_0)] [] (by kernel_rfl) trivial ?_
            refine q_kr ?_
            exact trR_less [.s 0, .s 3, .s 5, .s 6, .s 7, .h 1, .h 5, .h 6, .h 9000] [sO 0 (.slc 9000), sO 3 (.slc 1), sO 5 (.slc 5), sO 6 (.ptr 6 0), sI 7 .i64 (IntKind.i64.wrap (i15 + (1 : Int))), hO 1 5 .u8 all4, hV 5 22 (.bs .u8 a11), hB 6 34 [.arr .u8 64 a13], hW 9000 (.bs .u8 parts_0)] (by kernel_rfl) (ih1 (IntKind.i64.wrap (i15 + (1 : Int))) h)
        · refine tr_cond_f (decide (i15 < (↑(List.length parts_0) : Int))) (by kernel_rfl) hc16 ?_
          refine tr_exit ?_
          refine q_k_exit ?_
          refine q_kr_exit ?_
          have h := Option.some.inj h
          subst h
          exact q_less [.s 3, .s 6, .h 1, .h 6] [sO 3 (.slc 1), sO 6 (.ptr 6 0), hO 1 5 .u8 all4, hB 6 34 [.arr .u8 64 a13]] (by kernel_rfl) (hx1 () rfl)
    · intro v σ hz hv
      subst hz
      have h := Option.some.inj h
      subst h
      refine q_b_ret ?_
      refine q_k_ret ?_
      exact q_ret1 hT _ _ hv.1 hv.2 (by kernel_rfl)
    · clear h e10
      intro k ih0 hx0 hr0 z h
      rcases z with ⟨all2, i3⟩
      replace h : (if (decide (i3 < (↑(List.length parts_0) : Int))) = true then if 0 ≤ i3 ∧ i3 < ↑(List.length parts_0) then if (decide ((↑(List.length (parts_0.getD i3.toNat [])) : Int) > (400 : Int))) = true then some (.inr true) else if 0 ≤ i3 ∧ i3 < ↑(List.length parts_0) then if List.length (all2 ++ (parts_0.getD i3.toNat [])) ≤ maxN then law02_WideExact_l0 parts_0 k (all2 ++ (parts_0.getD i3.toNat [])) (IntKind.i64.wrap (i3 + (1 : Int))) else none else none else none else some (.inl all2)) = _ := h
      refine tr_seq ?_
      refine tr_seq ?_
      refine tr_reg hT [] [.s 0, .s 3, .s 4, .s 14, .h 0, .h 9000] [sO 0 (.slc 9000), sO 3 (.slc 0), sI 4 .i64 i3, sB 14 (decide (i3 < (↑(List.length parts_0) : Int))), hO 0 5 .u8 all2, hW 9000 (.bs .u8 parts_0)] [] (by kernel_rfl) trivial ?_
      refine q_k ?_
      rcases ite_split h with ⟨hc5, h⟩ | ⟨hc5, h⟩
      · refine tr_cond_t (decide (i3 < (↑(List.length parts_0) : Int))) (by kernel_rfl) hc5 ?_
        refine tr_skip ?_
        refine q_k ?_
        refine tr_seq ?_
        refine tr_block ?_
        refine tr_seq ?_
        refine tr_seq ?_
        obtain ⟨hn6, h⟩ := ite_some h
        refine tr_reg hT [(3, .key 2)] [.s 0, .s 3, .s 4, .s 22, .h 0, .h 9000] [sO 0 (.slc 9000), sO 3 (.slc 0), sI 4 .i64 i3, sB 22 (decide ((↑(List.length (parts_0.getD i3.toNat [])) : Int) > (400 : Int))), hO 0 5 .u8 all2, hW 9000 (.bs .u8 parts_0)] [0 ≤ i3 ∧ i3 < ↑(List.length parts_0), i3 < ↑(List.length parts_0)] (by kernel_rfl) (hcons hn6 (hone hn6.2)) ?_
        refine q_k ?_
        rcases ite_split h with ⟨hc7, h⟩ | ⟨hc7, h⟩
        · refine tr_cond_t (decide ((↑(List.length (parts_0.getD i3.toNat [])) : Int) > (400 : Int))) (by kernel_rfl) hc7 ?_
          refine tr_seq ?_
          refine tr_reg hT [] [.s 2] [sB 2 true] [] (by kernel_rfl) trivial ?_
          refine q_k ?_
          refine tr_ret ?_
          refine q_k_ret ?_
          refine q_b_ret ?_
          refine q_k_ret ?_
          refine q_kr_ret ?_
          have h := Option.some.inj h
          subst h
          exact q_less [.s 2] [sB 2 true] (by kernel_rfl) (hr0 true _ rfl ⟨by kernel_rfl, by kernel_rfl⟩)
        · refine tr_cond_f (decide ((↑(List.length (parts_0.getD i3.toNat [])) : Int) > (400 : Int))) (by kernel_rfl) hc7 ?_
          refine tr_skip ?_
          refine q_k ?_
          obtain ⟨hn8, h⟩ := ite_some h
          obtain ⟨hn9, h⟩ := ite_some h
          refine tr_reg hT [(4, .key 3), (5, .key 4)] [.s 0, .s 3, .s 4, .h 4, .h 9000] [sO 0 (.slc 9000), sO 3 (.slc 4), sI 4 .i64 i3, hO 4 5 .u8 (all2 ++ (parts_0.getD i3.toNat [])), hW 9000 (.bs .u8 parts_0)] [0 ≤ i3 ∧ i3 < ↑(List.length parts_0), i3 < ↑(List.length parts_0), List.length (all2 ++ (parts_0.getD i3.toNat [])) ≤ maxN] (by kernel_rfl) (hcons hn8 (hcons hn8.2 (hone hn9))) ?_
          refine q_b 1 ?_
          refine q_k ?_
          refine tr_reg hT [] [.s 0, .s 3, .s 4, .h 4, .h 9000] [sO 0 (.slc 9000), sO 3 (.slc 4), sI 4 .i64 (IntKind.i64.wrap (i3 + (1 : Int))), hO 4 5 .u8 (all2 ++ (parts_0.getD i3.toNat [])), hW 9000 (.bs .u8 parts_0)] [] (by kernel_rfl) trivial ?_
          refine q_kr ?_
          exact trR_fit [(0, .slc 4)] [sO 0 (.slc 9000), sO 3 (.slc 0), sI 4 .i64 (IntKind.i64.wrap (i3 + (1 : Int))), hO 0 5 .u8 (all2 ++ (parts_0.getD i3.toNat [])), hW 9000 (.bs .u8 parts_0)] [(0, .own 5 .u8 (all2 ++ (parts_0.getD i3.toNat []))), (9000, .rows (.bs .u8 parts_0))] (by kernel_rfl) (by kernel_rfl) (by kernel_rfl) rfl ⟨.own (by kernel_rfl), .rows (by kernel_rfl), trivial⟩ (by kernel_rfl) (ih0 ((all2 ++ (parts_0.getD i3.toNat [])), (IntKind.i64.wrap (i3 + (1 : Int)))) h)
      · refine tr_cond_f (decide (i3 < (↑(List.length parts_0) : Int))) (by kernel_rfl) hc5 ?_
        refine tr_exit ?_
        refine q_k_exit ?_
        refine q_kr_exit ?_
        have h := Option.some.inj h
        subst h
        exact q_fit [(1, .slc 0)] [sO 0 (.slc 9000), sO 3 (.slc 1), hO 1 5 .u8 all2, hW 9000 (.bs .u8 parts_0)] [(1, .own 5 .u8 all2), (9000, .rows (.bs .u8 parts_0))] (by kernel_rfl) (by kernel_rfl) (by kernel_rfl) rfl ⟨.own (by kernel_rfl), .rows (by kernel_rfl), trivial⟩ (by kernel_rfl) (hx0 all2 rfl)

theorem law02_WideBlocks_ok (n_0 : Int) (c_1 : Int) (r : Bool) (h : law02_WideBlocks n_0 c_1 = some r) {pre : List (Nat × Ent)} : CallOk P 9 [.v (.one (.int .i64 n_0)), .v (.one (.int .u8 c_1))] pre (.v (.one (.bool r))) [] := by
  refine call0 (N := 31) Try.func9 (by kernel_rfl) rfl rfl rfl pre ?_
  intro _ w
  show Tr P (Ge w) 31 _ _ _ (RetQ P Try.f9 (R0 _ w))
  unfold law02_WideBlocks at h
  refine tr_seq ?_
  refine tr_reg hT [] [.s 0, .s 1] [sI 0 .i64 n_0, sI 1 .u8 c_1] [] (by kernel_rfl) trivial ?_
  refine q_k ?_
  refine tr_seq ?_
  refine tr_reg hT [] [.s 0, .s 1] [sI 0 .i64 (IntKind.i64.wrap ((IntKind.u64.wrap n_0).tmod (300 : Int))), sI 1 .u8 c_1] [(300 : Int) ≠ 0] (by kernel_rfl) (hone (by decide)) ?_
  refine q_k ?_
  refine tr_seq ?_
  obtain ⟨hn1, h⟩ := ite_some h
  refine tr_reg hT [(1, .key 0)] [.s 0, .s 1, .s 5, .h 0] [sI 0 .i64 (IntKind.i64.wrap ((IntKind.u64.wrap n_0).tmod (300 : Int))), sI 1 .u8 c_1, sO 5 (.slc 0), hO 0 5 .u8 (List.replicate (IntKind.i64.wrap ((IntKind.u64.wrap n_0).tmod (300 : Int))).toNat (0 : Int))] [(IntKind.i64.wrap ((IntKind.u64.wrap n_0).tmod (300 : Int))) = (IntKind.i64.wrap ((IntKind.u64.wrap n_0).tmod (300 : Int))), 0 ≤ (IntKind.i64.wrap ((IntKind.u64.wrap n_0).tmod (300 : Int))) ∧ (IntKind.i64.wrap ((IntKind.u64.wrap n_0).tmod (300 : Int))) ≤ (↑maxN : Int)] (by kernel_rfl) (hcons rfl (hone hn1)) ?_
  refine q_k ?_
  refine tr_seq ?_
  refine tr_seq ?_
  refine tr_reg hT [] [.s 0, .s 1, .s 5, .s 6, .h 0] [sI 0 .i64 (IntKind.i64.wrap ((IntKind.u64.wrap n_0).tmod (300 : Int))), sI 1 .u8 c_1, sO 5 (.slc 0), sI 6 .i64 (0 : Int), hO 0 5 .u8 (List.replicate (IntKind.i64.wrap ((IntKind.u64.wrap n_0).tmod (300 : Int))).toNat (0 : Int))] [] (by kernel_rfl) trivial ?_
  refine q_k ?_
  refine tr_block ?_
  obtain ⟨m4, e7, h⟩ := bind_some h
  refine tr_fit [] [sI 0 .i64 (IntKind.i64.wrap ((IntKind.u64.wrap n_0).tmod (300 : Int))), sI 1 .u8 c_1, sO 5 (.slc 0), sI 6 .i64 (0 : Int), hO 0 5 .u8 (List.replicate (IntKind.i64.wrap ((IntKind.u64.wrap n_0).tmod (300 : Int))).toNat (0 : Int))] [(0, .own 5 .u8 (List.replicate (IntKind.i64.wrap ((IntKind.u64.wrap n_0).tmod (300 : Int))).toNat (0 : Int)))] (by kernel_rfl) (by kernel_rfl) (by kernel_rfl) rfl ⟨.own (by kernel_rfl), trivial⟩ (by kernel_rfl) ?_
  refine tr_loop_fuel (id := 0) (α := List Int × Int) (β := List Int) (fun z => [sI 0 .i64 (IntKind.i64.wrap ((IntKind.u64.wrap n_0).tmod (300 : Int))), sI 1 .u8 c_1, sO 5 (.slc 0), sI 6 .i64 z.2, hO 0 5 .u8 z.1]) (fun z => [sO 5 (.slc 0), hO 0 5 .u8 z]) (fun k z => law02_WideBlocks_l0 n_0 c_1 k z.1 z.2) m4 (fun _ => rfl) (((IntKind.i64.wrap ((IntKind.u64.wrap n_0).tmod (300 : Int))) - (0 : Int)).toNat + 1) ((List.replicate (IntKind.i64.wrap ((IntKind.u64.wrap n_0).tmod (300 : Int))).toNat (0 : Int)), (0 : Int)) e7 ?_ ?_
  · skip
    replace h : ((wide_Sum [m4]).bind (fun a8 => (ref01_Sum512 m4).bind (fun a10 => if (decide (a8 = a10)) = true then (law02_wakes).bind (fun b13 => some b13) else some false))) = _ := h
    refine q_b_this ?_
    refine q_k ?_
    refine tr_seq ?_
    obtain ⟨a8, e9, h⟩ := bind_some h
    obtain ⟨a10, e11, h⟩ := bind_some h
    rcases ite_split h with ⟨hb12, h⟩ | ⟨hb15, h⟩
    · obtain ⟨b13, e14, h⟩ := bind_some h
      refine tr_reg hT [(1, .key 1), (2, .call [1] (.v (.agg [.arr .u8 64 a8])) []), (4, .call [0] (.v (.agg [.arr .u8 64 a10])) []), (6, .dec true), (7, .call [] (.v (.one (.bool b13))) [])] [.s 4] [sB 4 b13] [CallOk P 29 [.v (.one (.slc 1))] [(1, .orows 22 (.bs .u8 [m4]))] (.v (.agg [.arr .u8 64 a8])) [], CallOk P 30 [.v (.one (.slc 0))] [(0, .rd .u8 m4)] (.v (.agg [.arr .u8 64 a10])) [], (decide (a8 = a10)) = true, CallOk P 31 [] [] (.v (.one (.bool b13))) []] (by kernel_rfl) (hcons ((wide_Sum_ok [m4] a8 e9).tr [(9000, .slc 1)] rfl (by kernel_rfl) ⟨.orowsr (e := 22) (by kernel_rfl), trivial⟩ (by kernel_rfl) (by kernel_rfl) rfl rfl) (hcons ((ref01_Sum512_ok m4 a10 e11).tr [(9000, .slc 0)] rfl (by kernel_rfl) ⟨.rd (by kernel_rfl), trivial⟩ (by kernel_rfl) (by kernel_rfl) rfl rfl) (hcons hb12 (hone (law02_wakes_ok  b13 e14))))) ?_
      refine q_k ?_
      refine tr_ret ?_
      have h := Option.some.inj h
      subst h
      exact q_ret0 hT (.v (.one (.bool b13))) rfl (by kernel_rfl)
    · refine tr_reg hT [(1, .key 1), (2, .call [1] (.v (.agg [.arr .u8 64 a8])) []), (4, .call [0] (.v (.agg [.arr .u8 64 a10])) []), (6, .dec false)] [.s 4] [sB 4 false] [CallOk P 29 [.v (.one (.slc 1))] [(1, .orows 22 (.bs .u8 [m4]))] (.v (.agg [.arr .u8 64 a8])) [], CallOk P 30 [.v (.one (.slc 0))] [(0, .rd .u8 m4)] (.v (.agg [.arr .u8 64 a10])) [], (decide (a8 = a10)) = false] (by kernel_rfl) (hcons ((wide_Sum_ok [m4] a8 e9).tr [(9000, .slc 1)] rfl (by kernel_rfl) ⟨.orowsr (e := 22) (by kernel_rfl), trivial⟩ (by kernel_rfl) (by kernel_rfl) rfl rfl) (hcons ((ref01_Sum512_ok m4 a10 e11).tr [(9000, .slc 0)] rfl (by kernel_rfl) ⟨.rd (by kernel_rfl), trivial⟩ (by kernel_rfl) (by kernel_rfl) rfl rfl) (hone hb15))) ?_
      refine q_k ?_
      refine tr_ret ?_
      have h := Option.some.inj h
      subst h
      exact q_ret0 hT (.v (.one (.bool false))) rfl (by kernel_rfl)
  · clear h e7
    intro k ih0 hx0 z h
    obtain ⟨m2, i3⟩ := z
    replace h : (if (decide (i3 < (IntKind.i64.wrap ((IntKind.u64.wrap n_0).tmod (300 : Int))))) = true then if 0 ≤ i3 ∧ i3 < ↑(List.length m2) then law02_WideBlocks_l0 n_0 c_1 k (m2.set i3.toNat c_1) (IntKind.i64.wrap (i3 + (1 : Int))) else none else some m2) = _ := h
    refine tr_seq ?_
    refine tr_seq ?_
    refine tr_reg hT [] [.s 0, .s 1, .s 5, .s 6, .s 15, .h 0] [sI 0 .i64 (IntKind.i64.wrap ((IntKind.u64.wrap n_0).tmod (300 : Int))), sI 1 .u8 c_1, sO 5 (.slc 0), sI 6 .i64 i3, sB 15 (decide (i3 < (IntKind.i64.wrap ((IntKind.u64.wrap n_0).tmod (300 : Int))))), hO 0 5 .u8 m2] [] (by kernel_rfl) trivial ?_
    refine q_k ?_
    rcases ite_split h with ⟨hc5, h⟩ | ⟨hc5, h⟩
    · refine tr_cond_t (decide (i3 < (IntKind.i64.wrap ((IntKind.u64.wrap n_0).tmod (300 : Int))))) (by kernel_rfl) hc5 ?_
      refine tr_skip ?_
      refine q_k ?_
      refine tr_seq ?_
      refine tr_block ?_
      obtain ⟨hn6, h⟩ := ite_some h
      refine tr_reg hT [] [.s 0, .s 1, .s 5, .s 6, .h 0] [sI 0 .i64 (IntKind.i64.wrap ((IntKind.u64.wrap n_0).tmod (300 : Int))), sI 1 .u8 c_1, sO 5 (.slc 0), sI 6 .i64 i3, hO 0 5 .u8 (m2.set i3.toNat c_1)] [0 ≤ i3 ∧ i3 < ↑(List.length m2), i3 < ↑(List.length m2)] (by kernel_rfl) (hcons hn6 (hone hn6.2)) ?_
      refine q_b 1 ?_
      refine q_k ?_
      refine tr_reg hT [] [.s 0, .s 1, .s 5, .s 6, .h 0] [sI 0 .i64 (IntKind.i64.wrap ((IntKind.u64.wrap n_0).tmod (300 : Int))), sI 1 .u8 c_1, sO 5 (.slc 0), sI 6 .i64 (IntKind.i64.wrap (i3 + (1 : Int))), hO 0 5 .u8 (m2.set i3.toNat c_1)] [] (by kernel_rfl) trivial ?_
      refine q_kr ?_
      exact trR_less [.s 0, .s 1, .s 5, .s 6, .h 0] [sI 0 .i64 (IntKind.i64.wrap ((IntKind.u64.wrap n_0).tmod (300 : Int))), sI 1 .u8 c_1, sO 5 (.slc 0), sI 6 .i64 (IntKind.i64.wrap (i3 + (1 : Int))), hO 0 5 .u8 (m2.set i3.toNat c_1)] (by kernel_rfl) (ih0 ((m2.set i3.toNat c_1), (IntKind.i64.wrap (i3 + (1 : Int)))) h)
    · refine tr_cond_f (decide (i3 < (IntKind.i64.wrap ((IntKind.u64.wrap n_0).tmod (300 : Int))))) (by kernel_rfl) hc5 ?_
      refine tr_exit ?_
      refine q_k_exit ?_
      refine q_kr_exit ?_
      have h := Option.some.inj h
      subst h
      exact q_less [.s 5, .h 0] [sO 5 (.slc 0), hO 0 5 .u8 m2] (by kernel_rfl) hx0

theorem law02_WideParts_ok (b_0 : List Int) (at_1 : Int) (mid_2 : Int) (r : Bool) (h : law02_WideParts b_0 at_1 mid_2 = some r) : CallOk P 10 [.v (.one (.slc 9000)), .v (.one (.int .i64 at_1)), .v (.one (.int .i64 mid_2))] [(9000, .rd .u8 b_0)] (.v (.one (.bool r))) [] := by
  refine call1 (N := 50) Try.func10 (by kernel_rfl) rfl rfl rfl [(9000, .rd .u8 b_0)] (by kernel_rfl) ?_
  intro _ B w0
  show Tr P B 50 w0 _ _ (RetQ P Try.f10 (R1 _ _ B w0))
  unfold law02_WideParts at h
  refine tr_seq ?_
  refine tr_reg hT [] [.s 0, .s 1, .s 2, .h 9000] [sO 0 (.slc 9000), sI 1 .i64 at_1, sI 2 .i64 mid_2, hR 9000 .u8 b_0] [] (by kernel_rfl) trivial ?_
  refine q_k ?_
  refine tr_seq ?_
  refine tr_seq ?_
  refine tr_reg hT [] [.s 0, .s 1, .s 2, .s 9, .h 9000] [sO 0 (.slc 9000), sI 1 .i64 at_1, sI 2 .i64 mid_2, sB 9 (decide ((↑(List.length b_0) : Int) > (400 : Int))), hR 9000 .u8 b_0] [] (by kernel_rfl) trivial ?_
  refine q_k ?_
  rcases ite_split h with ⟨hc1, h⟩ | ⟨hc1, h⟩
  · refine tr_cond_t (decide ((↑(List.length b_0) : Int) > (400 : Int))) (by kernel_rfl) hc1 ?_
    refine tr_seq ?_
    refine tr_reg hT [] [.s 6] [sB 6 true] [] (by kernel_rfl) trivial ?_
    refine q_k ?_
    refine tr_ret ?_
    refine q_k_ret ?_
    have h := Option.some.inj h
    subst h
    refine q_less [.s 6] [sB 6 true] (by kernel_rfl) ?_
    exact q_ret1 hT (.v (.one (.bool true))) [] (by kernel_rfl) (by kernel_rfl) (by kernel_rfl)
  · refine tr_cond_f (decide ((↑(List.length b_0) : Int) > (400 : Int))) (by kernel_rfl) hc1 ?_
    refine tr_skip ?_
    refine q_k ?_
    refine tr_seq ?_
    obtain ⟨hn2, h⟩ := ite_some h
    refine tr_reg hT [] [.s 0, .s 1, .s 2, .h 9000] [sO 0 (.slc 9000), sI 1 .i64 (IntKind.i64.wrap ((IntKind.u64.wrap at_1).tmod (IntKind.u64.wrap (IntKind.i64.wrap ((↑(List.length b_0) : Int) + (1 : Int)))))), sI 2 .i64 mid_2, hR 9000 .u8 b_0] [(IntKind.u64.wrap (IntKind.i64.wrap ((↑(List.length b_0) : Int) + (1 : Int)))) ≠ 0] (by kernel_rfl) (hone hn2) ?_
    refine q_k ?_
    refine tr_seq ?_
    obtain ⟨hn3, h⟩ := ite_some h
    refine tr_reg hT [] [.s 0, .s 1, .s 2, .h 9000] [sO 0 (.slc 9000), sI 1 .i64 (IntKind.i64.wrap ((IntKind.u64.wrap at_1).tmod (IntKind.u64.wrap (IntKind.i64.wrap ((↑(List.length b_0) : Int) + (1 : Int)))))), sI 2 .i64 (IntKind.i64.wrap ((IntKind.u64.wrap mid_2).tmod (IntKind.u64.wrap (IntKind.i64.wrap ((IntKind.i64.wrap ((IntKind.u64.wrap at_1).tmod (IntKind.u64.wrap (IntKind.i64.wrap ((↑(List.length b_0) : Int) + (1 : Int)))))) + (1 : Int)))))), hR 9000 .u8 b_0] [(IntKind.u64.wrap (IntKind.i64.wrap ((IntKind.i64.wrap ((IntKind.u64.wrap at_1).tmod (IntKind.u64.wrap (IntKind.i64.wrap ((↑(List.length b_0) : Int) + (1 : Int)))))) + (1 : Int)))) ≠ 0] (by kernel_rfl) (hone hn3) ?_
    refine q_k ?_
    refine tr_seq ?_
    obtain ⟨a4, e5, h⟩ := bind_some h
    obtain ⟨hn6, h⟩ := ite_some h
    obtain ⟨hn7, h⟩ := ite_some h
    obtain ⟨hn8, h⟩ := ite_some h
    obtain ⟨a9, e10, h⟩ := bind_some h
    rcases ite_split h with ⟨hb11, h⟩ | ⟨hb20, h⟩
    · obtain ⟨a12, e13, h⟩ := bind_some h
      obtain ⟨a14, e15, h⟩ := bind_some h
      rcases ite_split h with ⟨hb16, h⟩ | ⟨hb19, h⟩
      · obtain ⟨b17, e18, h⟩ := bind_some h
        refine tr_regd hT hM [(1, .key 1), (2, .call [1] (.v (.agg [.arr .u8 64 a4])) []), (5, .key 2), (9, .key 3), (12, .key 4), (13, .key 5), (14, .call [5] (.v (.agg [.arr .u8 64 a9])) []), (16, .dec true), (17, .call [] (.v (.agg [.arr .u8 64 a12])) []), (18, .key 6), (19, .call [6] (.v (.agg [.arr .u8 64 a14])) []), (22, .dec true), (23, .call [] (.v (.one (.bool b17))) [])] [.s 6] [sB 6 b17] [CallOk P 29 [.v (.one (.slc 1))] [(1, .rows (.bs .u8 [b_0]))] (.v (.agg [.arr .u8 64 a4])) [], 0 ≤ (0 : Int) ∧ (0 : Int) ≤ (IntKind.i64.wrap ((IntKind.u64.wrap mid_2).tmod (IntKind.u64.wrap (IntKind.i64.wrap ((IntKind.i64.wrap ((IntKind.u64.wrap at_1).tmod (IntKind.u64.wrap (IntKind.i64.wrap ((↑(List.length b_0) : Int) + (1 : Int)))))) + (1 : Int)))))) ∧ (IntKind.i64.wrap ((IntKind.u64.wrap mid_2).tmod (IntKind.u64.wrap (IntKind.i64.wrap ((IntKind.i64.wrap ((IntKind.u64.wrap at_1).tmod (IntKind.u64.wrap (IntKind.i64.wrap ((↑(List.length b_0) : Int) + (1 : Int)))))) + (1 : Int)))))) ≤ (↑(List.length b_0) : Int), 0 ≤ (IntKind.i64.wrap ((IntKind.u64.wrap mid_2).tmod (IntKind.u64.wrap (IntKind.i64.wrap ((IntKind.i64.wrap ((IntKind.u64.wrap at_1).tmod (IntKind.u64.wrap (IntKind.i64.wrap ((↑(List.length b_0) : Int) + (1 : Int)))))) + (1 : Int)))))) ∧ (IntKind.i64.wrap ((IntKind.u64.wrap mid_2).tmod (IntKind.u64.wrap (IntKind.i64.wrap ((IntKind.i64.wrap ((IntKind.u64.wrap at_1).tmod (IntKind.u64.wrap (IntKind.i64.wrap ((↑(List.length b_0) : Int) + (1 : Int)))))) + (1 : Int)))))) ≤ (IntKind.i64.wrap ((IntKind.u64.wrap at_1).tmod (IntKind.u64.wrap (IntKind.i64.wrap ((↑(List.length b_0) : Int) + (1 : Int)))))) ∧ (IntKind.i64.wrap ((IntKind.u64.wrap at_1).tmod (IntKind.u64.wrap (IntKind.i64.wrap ((↑(List.length b_0) : Int) + (1 : Int)))))) ≤ (↑(List.length b_0) : Int), 0 ≤ (IntKind.i64.wrap ((IntKind.u64.wrap at_1).tmod (IntKind.u64.wrap (IntKind.i64.wrap ((↑(List.length b_0) : Int) + (1 : Int)))))) ∧ (IntKind.i64.wrap ((IntKind.u64.wrap at_1).tmod (IntKind.u64.wrap (IntKind.i64.wrap ((↑(List.length b_0) : Int) + (1 : Int)))))) ≤ (↑(List.length b_0) : Int) ∧ (↑(List.length b_0) : Int) ≤ (↑(List.length b_0) : Int), CallOk P 29 [.v (.one (.slc 5))] [(5, .rows (.bs .u8 [((b_0.take ((IntKind.i64.wrap ((IntKind.u64.wrap mid_2).tmod (IntKind.u64.wrap (IntKind.i64.wrap ((IntKind.i64.wrap ((IntKind.u64.wrap at_1).tmod (IntKind.u64.wrap (IntKind.i64.wrap ((↑(List.length b_0) : Int) + (1 : Int)))))) + (1 : Int)))))).toNat)).drop 0), [], ((b_0.take ((IntKind.i64.wrap ((IntKind.u64.wrap at_1).tmod (IntKind.u64.wrap (IntKind.i64.wrap ((↑(List.length b_0) : Int) + (1 : Int)))))).toNat)).drop (IntKind.i64.wrap ((IntKind.u64.wrap mid_2).tmod (IntKind.u64.wrap (IntKind.i64.wrap ((IntKind.i64.wrap ((IntKind.u64.wrap at_1).tmod (IntKind.u64.wrap (IntKind.i64.wrap ((↑(List.length b_0) : Int) + (1 : Int)))))) + (1 : Int)))))).toNat), ((b_0.take (((↑(List.length b_0) : Int)).toNat)).drop (IntKind.i64.wrap ((IntKind.u64.wrap at_1).tmod (IntKind.u64.wrap (IntKind.i64.wrap ((↑(List.length b_0) : Int) + (1 : Int)))))).toNat), []]))] (.v (.agg [.arr .u8 64 a9])) [], (decide (a4 = a9)) = true, CallOk P 29 [.v (.one (.nils))] [] (.v (.agg [.arr .u8 64 a12])) [], CallOk P 29 [.v (.one (.slc 6))] [(6, .rows (.bs .u8 [[], []]))] (.v (.agg [.arr .u8 64 a14])) [], (decide (a12 = a14)) = true, CallOk P 31 [] [] (.v (.one (.bool b17))) []] (by kernel_rfl) (hcons ((wide_Sum_ok [b_0] a4 e5).tr [(9000, .slc 1)] rfl (by kernel_rfl) ⟨.rows (by kernel_rfl), trivial⟩ (by kernel_rfl) (by kernel_rfl) rfl rfl) (hcons hn6 (hcons hn7 (hcons hn8 (hcons ((wide_Sum_ok [((b_0.take ((IntKind.i64.wrap ((IntKind.u64.wrap mid_2).tmod (IntKind.u64.wrap (IntKind.i64.wrap ((IntKind.i64.wrap ((IntKind.u64.wrap at_1).tmod (IntKind.u64.wrap (IntKind.i64.wrap ((↑(List.length b_0) : Int) + (1 : Int)))))) + (1 : Int)))))).toNat)).drop 0), [], ((b_0.take ((IntKind.i64.wrap ((IntKind.u64.wrap at_1).tmod (IntKind.u64.wrap (IntKind.i64.wrap ((↑(List.length b_0) : Int) + (1 : Int)))))).toNat)).drop (IntKind.i64.wrap ((IntKind.u64.wrap mid_2).tmod (IntKind.u64.wrap (IntKind.i64.wrap ((IntKind.i64.wrap ((IntKind.u64.wrap at_1).tmod (IntKind.u64.wrap (IntKind.i64.wrap ((↑(List.length b_0) : Int) + (1 : Int)))))) + (1 : Int)))))).toNat), ((b_0.take (((↑(List.length b_0) : Int)).toNat)).drop (IntKind.i64.wrap ((IntKind.u64.wrap at_1).tmod (IntKind.u64.wrap (IntKind.i64.wrap ((↑(List.length b_0) : Int) + (1 : Int)))))).toNat), []] a9 e10).tr [(9000, .slc 5)] rfl (by kernel_rfl) ⟨.rows (by kernel_rfl), trivial⟩ (by kernel_rfl) (by kernel_rfl) rfl rfl) (hcons hb11 (hcons ((wide_Sum_ok [] a12 e13).tr [(9000, .nils)] rfl (by kernel_rfl) ⟨.nilrows rfl, trivial⟩ (by kernel_rfl) (by kernel_rfl) rfl rfl) (hcons ((wide_Sum_ok [[], []] a14 e15).tr [(9000, .slc 6)] rfl (by kernel_rfl) ⟨.rows (by kernel_rfl), trivial⟩ (by kernel_rfl) (by kernel_rfl) rfl rfl) (hcons hb16 (hone (law02_wakes_ok  b17 e18))))))))))) ?_
        refine q_k ?_
        refine tr_ret ?_
        have h := Option.some.inj h
        subst h
        refine q_less [.s 6] [sB 6 b17] (by kernel_rfl) ?_
        exact q_ret1 hT (.v (.one (.bool b17))) [] (by kernel_rfl) (by kernel_rfl) (by kernel_rfl)
      · refine tr_regd hT hM [(1, .key 1), (2, .call [1] (.v (.agg [.arr .u8 64 a4])) []), (5, .key 2), (9, .key 3), (12, .key 4), (13, .key 5), (14, .call [5] (.v (.agg [.arr .u8 64 a9])) []), (16, .dec true), (17, .call [] (.v (.agg [.arr .u8 64 a12])) []), (18, .key 6), (19, .call [6] (.v (.agg [.arr .u8 64 a14])) []), (22, .dec false)] [.s 6] [sB 6 false] [CallOk P 29 [.v (.one (.slc 1))] [(1, .rows (.bs .u8 [b_0]))] (.v (.agg [.arr .u8 64 a4])) [], 0 ≤ (0 : Int) ∧ (0 : Int) ≤ (IntKind.i64.wrap ((IntKind.u64.wrap mid_2).tmod (IntKind.u64.wrap (IntKind.i64.wrap ((IntKind.i64.wrap ((IntKind.u64.wrap at_1).tmod (IntKind.u64.wrap (IntKind.i64.wrap ((↑(List.length b_0) : Int) + (1 : Int)))))) + (1 : Int)))))) ∧ (IntKind.i64.wrap ((IntKind.u64.wrap mid_2).tmod (IntKind.u64.wrap (IntKind.i64.wrap ((IntKind.i64.wrap ((IntKind.u64.wrap at_1).tmod (IntKind.u64.wrap (IntKind.i64.wrap ((↑(List.length b_0) : Int) + (1 : Int)))))) + (1 : Int)))))) ≤ (↑(List.length b_0) : Int), 0 ≤ (IntKind.i64.wrap ((IntKind.u64.wrap mid_2).tmod (IntKind.u64.wrap (IntKind.i64.wrap ((IntKind.i64.wrap ((IntKind.u64.wrap at_1).tmod (IntKind.u64.wrap (IntKind.i64.wrap ((↑(List.length b_0) : Int) + (1 : Int)))))) + (1 : Int)))))) ∧ (IntKind.i64.wrap ((IntKind.u64.wrap mid_2).tmod (IntKind.u64.wrap (IntKind.i64.wrap ((IntKind.i64.wrap ((IntKind.u64.wrap at_1).tmod (IntKind.u64.wrap (IntKind.i64.wrap ((↑(List.length b_0) : Int) + (1 : Int)))))) + (1 : Int)))))) ≤ (IntKind.i64.wrap ((IntKind.u64.wrap at_1).tmod (IntKind.u64.wrap (IntKind.i64.wrap ((↑(List.length b_0) : Int) + (1 : Int)))))) ∧ (IntKind.i64.wrap ((IntKind.u64.wrap at_1).tmod (IntKind.u64.wrap (IntKind.i64.wrap ((↑(List.length b_0) : Int) + (1 : Int)))))) ≤ (↑(List.length b_0) : Int), 0 ≤ (IntKind.i64.wrap ((IntKind.u64.wrap at_1).tmod (IntKind.u64.wrap (IntKind.i64.wrap ((↑(List.length b_0) : Int) + (1 : Int)))))) ∧ (IntKind.i64.wrap ((IntKind.u64.wrap at_1).tmod (IntKind.u64.wrap (IntKind.i64.wrap ((↑(List.length b_0) : Int) + (1 : Int)))))) ≤ (↑(List.length b_0) : Int) ∧ (↑(List.length b_0) : Int) ≤ (↑(List.length b_0) : Int), CallOk P 29 [.v (.one (.slc 5))] [(5, .rows (.bs .u8 [((b_0.take ((IntKind.i64.wrap ((IntKind.u64.wrap mid_2).tmod (IntKind.u64.wrap (IntKind.i64.wrap ((IntKind.i64.wrap ((IntKind.u64.wrap at_1).tmod (IntKind.u64.wrap (IntKind.i64.wrap ((↑(List.length b_0) : Int) + (1 : Int)))))) + (1 : Int)))))).toNat)).drop 0), [], ((b_0.take ((IntKind.i64.wrap ((IntKind.u64.wrap at_1).tmod (IntKind.u64.wrap (IntKind.i64.wrap ((↑(List.length b_0) : Int) + (1 : Int)))))).toNat)).drop (IntKind.i64.wrap ((IntKind.u64.wrap mid_2).tmod (IntKind.u64.wrap (IntKind.i64.wrap ((IntKind.i64.wrap ((IntKind.u64.wrap at_1).tmod (IntKind.u64.wrap (IntKind.i64.wrap ((↑(List.length b_0) : Int) + (1 : Int)))))) + (1 : Int)))))).toNat), ((b_0.take (((↑(List.length b_0) : Int)).toNat)).drop (IntKind.i64.wrap ((IntKind.u64.wrap at_1).tmod (IntKind.u64.wrap (IntKind.i64.wrap ((↑(List.length b_0) : Int) + (1 : Int)))))).toNat), []]))] (.v (.agg [.arr .u8 64 a9])) [], (decide (a4 = a9)) = true, CallOk P 29 [.v (.one (.nils))] [] (.v (.agg [.arr .u8 64 a12])) [], CallOk P 29 [.v (.one (.slc 6))] [(6, .rows (.bs .u8 [[], []]))] (.v (.agg [.arr .u8 64 a14])) [], (decide (a12 = a14)) = false] (by kernel_rfl) (hcons ((wide_Sum_ok [b_0] a4 e5).tr [(9000, .slc 1)] rfl (by kernel_rfl) ⟨.rows (by kernel_rfl), trivial⟩ (by kernel_rfl) (by kernel_rfl) rfl rfl) (hcons hn6 (hcons hn7 (hcons hn8 (hcons ((wide_Sum_ok [((b_0.take ((IntKind.i64.wrap ((IntKind.u64.wrap mid_2).tmod (IntKind.u64.wrap (IntKind.i64.wrap ((IntKind.i64.wrap ((IntKind.u64.wrap at_1).tmod (IntKind.u64.wrap (IntKind.i64.wrap ((↑(List.length b_0) : Int) + (1 : Int)))))) + (1 : Int)))))).toNat)).drop 0), [], ((b_0.take ((IntKind.i64.wrap ((IntKind.u64.wrap at_1).tmod (IntKind.u64.wrap (IntKind.i64.wrap ((↑(List.length b_0) : Int) + (1 : Int)))))).toNat)).drop (IntKind.i64.wrap ((IntKind.u64.wrap mid_2).tmod (IntKind.u64.wrap (IntKind.i64.wrap ((IntKind.i64.wrap ((IntKind.u64.wrap at_1).tmod (IntKind.u64.wrap (IntKind.i64.wrap ((↑(List.length b_0) : Int) + (1 : Int)))))) + (1 : Int)))))).toNat), ((b_0.take (((↑(List.length b_0) : Int)).toNat)).drop (IntKind.i64.wrap ((IntKind.u64.wrap at_1).tmod (IntKind.u64.wrap (IntKind.i64.wrap ((↑(List.length b_0) : Int) + (1 : Int)))))).toNat), []] a9 e10).tr [(9000, .slc 5)] rfl (by kernel_rfl) ⟨.rows (by kernel_rfl), trivial⟩ (by kernel_rfl) (by kernel_rfl) rfl rfl) (hcons hb11 (hcons ((wide_Sum_ok [] a12 e13).tr [(9000, .nils)] rfl (by kernel_rfl) ⟨.nilrows rfl, trivial⟩ (by kernel_rfl) (by kernel_rfl) rfl rfl) (hcons ((wide_Sum_ok [[], []] a14 e15).tr [(9000, .slc 6)] rfl (by kernel_rfl) ⟨.rows (by kernel_rfl), trivial⟩ (by kernel_rfl) (by kernel_rfl) rfl rfl) (hone hb19))))))))) ?_
        refine q_k ?_
        refine tr_ret ?_
        have h := Option.some.inj h
        subst h
        refine q_less [.s 6] [sB 6 false] (by kernel_rfl) ?_
        exact q_ret1 hT (.v (.one (.bool false))) [] (by kernel_rfl) (by kernel_rfl) (by kernel_rfl)
    · refine tr_regd hT hM [(1, .key 1), (2, .call [1] (.v (.agg [.arr .u8 64 a4])) []), (5, .key 2), (9, .key 3), (12, .key 4), (13, .key 5), (14, .call [5] (.v (.agg [.arr .u8 64 a9])) []), (16, .dec false)] [.s 6] [sB 6 false] [CallOk P 29 [.v (.one (.slc 1))] [(1, .rows (.bs .u8 [b_0]))] (.v (.agg [.arr .u8 64 a4])) [], 0 ≤ (0 : Int) ∧ (0 : Int) ≤ (IntKind.i64.wrap ((IntKind.u64.wrap mid_2).tmod (IntKind.u64.wrap (IntKind.i64.wrap ((IntKind.i64.wrap ((IntKind.u64.wrap at_1).tmod (IntKind.u64.wrap (IntKind.i64.wrap ((↑(List.length b_0) : Int) + (1 : Int)))))) + (1 : Int)))))) ∧ (IntKind.i64.wrap ((IntKind.u64.wrap mid_2).tmod (IntKind.u64.wrap (IntKind.i64.wrap ((IntKind.i64.wrap ((IntKind.u64.wrap at_1).tmod (IntKind.u64.wrap (IntKind.i64.wrap ((↑(List.length b_0) : Int) + (1 : Int)))))) + (1 : Int)))))) ≤ (↑(List.length b_0) : Int), 0 ≤ (IntKind.i64.wrap ((IntKind.u64.wrap mid_2).tmod (IntKind.u64.wrap (IntKind.i64.wrap ((IntKind.i64.wrap ((IntKind.u64.wrap at_1).tmod (IntKind.u64.wrap (IntKind.i64.wrap ((↑(List.length b_0) : Int) + (1 : Int)))))) + (1 : Int)))))) ∧ (IntKind.i64.wrap ((IntKind.u64.wrap mid_2).tmod (IntKind.u64.wrap (IntKind.i64.wrap ((IntKind.i64.wrap ((IntKind.u64.wrap at_1).tmod (IntKind.u64.wrap (IntKind.i64.wrap ((↑(List.length b_0) : Int) + (1 : Int)))))) + (1 : Int)))))) ≤ (IntKind.i64.wrap ((IntKind.u64.wrap at_1).tmod (IntKind.u64.wrap (IntKind.i64.wrap ((↑(List.length b_0) : Int) + (1 : Int)))))) ∧ (IntKind.i64.wrap ((IntKind.u64.wrap at_1).tmod (IntKind.u64.wrap (IntKind.i64.wrap ((↑(List.length b_0) : Int) + (1 : Int)))))) ≤ (↑(List.length b_0) : Int), 0 ≤ (IntKind.i64.wrap ((IntKind.u64.wrap at_1).tmod (IntKind.u64.wrap (IntKind.i64.wrap ((↑(List.length b_0) : Int) + (1 : Int)))))) ∧ (IntKind.i64.wrap ((IntKind.u64.wrap at_1).tmod (IntKind.u64.wrap (IntKind.i64.wrap ((↑(List.length b_0) : Int) + (1 : Int)))))) ≤ (↑(List.length b_0) : Int) ∧ (↑(List.length b_0) : Int) ≤ (↑(List.length b_0) : Int), CallOk P 29 [.v (.one (.slc 5))] [(5, .rows (.bs .u8 [((b_0.take ((IntKind.i64.wrap ((IntKind.u64.wrap mid_2).tmod (IntKind.u64.wrap (IntKind.i64.wrap ((IntKind.i64.wrap ((IntKind.u64.wrap at_1).tmod (IntKind.u64.wrap (IntKind.i64.wrap ((↑(List.length b_0) : Int) + (1 : Int)))))) + (1 : Int)))))).toNat)).drop 0), [], ((b_0.take ((IntKind.i64.wrap ((IntKind.u64.wrap at_1).tmod (IntKind.u64.wrap (IntKind.i64.wrap ((↑(List.length b_0) : Int) + (1 : Int)))))).toNat)).drop (IntKind.i64.wrap ((IntKind.u64.wrap mid_2).tmod (IntKind.u64.wrap (IntKind.i64.wrap ((IntKind.i64.wrap ((IntKind.u64.wrap at_1).tmod (IntKind.u64.wrap (IntKind.i64.wrap ((↑(List.length b_0) : Int) + (1 : Int)))))) + (1 : Int)))))).toNat), ((b_0.take (((↑(List.length b_0) : Int)).toNat)).drop (IntKind.i64.wrap ((IntKind.u64.wrap at_1).tmod (IntKind.u64.wrap (IntKind.i64.wrap ((↑(List.length b_0) : Int) + (1 : Int)))))).toNat), []]))] (.v (.agg [.arr .u8 64 a9])) [], (decide (a4 = a9)) = false] (by kernel_rfl) (hcons ((wide_Sum_ok [b_0] a4 e5).tr [(9000, .slc 1)] rfl (by kernel_rfl) ⟨.rows (by kernel_rfl), trivial⟩ (by kernel_rfl) (by kernel_rfl) rfl rfl) (hcons hn6 (hcons hn7 (hcons hn8 (hcons ((wide_Sum_ok [((b_0.take ((IntKind.i64.wrap ((IntKind.u64.wrap mid_2).tmod (IntKind.u64.wrap (IntKind.i64.wrap ((IntKind.i64.wrap ((IntKind.u64.wrap at_1).tmod (IntKind.u64.wrap (IntKind.i64.wrap ((↑(List.length b_0) : Int) + (1 : Int)))))) + (1 : Int)))))).toNat)).drop 0), [], ((b_0.take ((IntKind.i64.wrap ((IntKind.u64.wrap at_1).tmod (IntKind.u64.wrap (IntKind.i64.wrap ((↑(List.length b_0) : Int) + (1 : Int)))))).toNat)).drop (IntKind.i64.wrap ((IntKind.u64.wrap mid_2).tmod (IntKind.u64.wrap (IntKind.i64.wrap ((IntKind.i64.wrap ((IntKind.u64.wrap at_1).tmod (IntKind.u64.wrap (IntKind.i64.wrap ((↑(List.length b_0) : Int) + (1 : Int)))))) + (1 : Int)))))).toNat), ((b_0.take (((↑(List.length b_0) : Int)).toNat)).drop (IntKind.i64.wrap ((IntKind.u64.wrap at_1).tmod (IntKind.u64.wrap (IntKind.i64.wrap ((↑(List.length b_0) : Int) + (1 : Int)))))).toNat), []] a9 e10).tr [(9000, .slc 5)] rfl (by kernel_rfl) ⟨.rows (by kernel_rfl), trivial⟩ (by kernel_rfl) (by kernel_rfl) rfl rfl) (hone hb20)))))) ?_
      refine q_k ?_
      refine tr_ret ?_
      have h := Option.some.inj h
      subst h
      refine q_less [.s 6] [sB 6 false] (by kernel_rfl) ?_
      exact q_ret1 hT (.v (.one (.bool false))) [] (by kernel_rfl) (by kernel_rfl) (by kernel_rfl)

theorem frame_known_ok (kind_0 : Int) (r : Bool) (h : frame_known kind_0 = some r) {pre : List (Nat × Ent)} : CallOk P 56 [.v (.one (.int .i64 kind_0))] pre (.v (.one (.bool r))) [] := by
  refine call0 (N := 9) Try.func56 (by kernel_rfl) rfl rfl rfl pre ?_
  intro _ w
  show Tr P (Ge w) 9 _ _ _ (RetQ P Try.f56 (R0 _ w))
  unfold frame_known at h
  refine tr_seq ?_
  refine tr_reg hT [] [.s 0] [sI 0 .i64 kind_0] [] (by kernel_rfl) trivial ?_
  refine q_k ?_
  refine tr_seq ?_
  rcases ite_split h with ⟨hb1, h⟩ | ⟨hb2, h⟩
  · refine tr_reg hT [(2, .dec true)] [.s 2] [sB 2 true] [(kind_0 == (1 : Int)) = true] (by kernel_rfl) (hone hb1) ?_
    refine q_k ?_
    refine tr_ret ?_
    have h := Option.some.inj h
    subst h
    exact q_ret0 hT (.v (.one (.bool true))) rfl (by kernel_rfl)
  · refine tr_reg hT [(2, .dec false)] [.s 2] [sB 2 (kind_0 == (2 : Int))] [(kind_0 == (1 : Int)) = false] (by kernel_rfl) (hone hb2) ?_
    refine q_k ?_
    refine tr_ret ?_
    have h := Option.some.inj h
    subst h
    exact q_ret0 hT (.v (.one (.bool (kind_0 == (2 : Int))))) rfl (by kernel_rfl)

theorem frame_sealed_ok (kind_0 : Int) (data_1 : List Int) (r : List Int) (h : frame_sealed kind_0 data_1 = some r) : CallOk P 57 [.v (.one (.int .i64 kind_0)), .v (.one (.slc 9000))] [(9000, .rd .u8 data_1)] (.v (.one (.slc 8900))) [(8900, .own 5 .u8 r)] := by
  refine call1 (N := 39) Try.func57 (by kernel_rfl) rfl rfl rfl [(9000, .rd .u8 data_1)] (by kernel_rfl) ?_
  intro _ B w0
  show Tr P B 39 w0 _ _ (RetQ P Try.f57 (R1 _ _ B w0))
  unfold frame_sealed at h
  refine tr_seq ?_
  refine tr_reg hT [] [.s 0, .s 1, .h 9000] [sI 0 .i64 kind_0, sO 1 (.slc 9000), hR 9000 .u8 data_1] [] (by kernel_rfl) trivial ?_
  refine q_k ?_
  refine tr_seq ?_
  refine tr_reg hT [] [.s 0, .s 1, .s 5, .h 9000] [sI 0 .i64 kind_0, sO 1 (.slc 9000), sI 5 .i64 (↑(List.length data_1) : Int), hR 9000 .u8 data_1] [] (by kernel_rfl) trivial ?_
  refine q_k ?_
  refine tr_seq ?_
  refine tr_reg hT [(7, .key 0)] [.s 1, .s 6, .h 0, .h 9000] [sO 1 (.slc 9000), sO 6 (.slc 0), hO 0 5 .u8 [(IntKind.u8.wrap kind_0), (IntKind.u8.wrap (shr .i64 (↑(List.length data_1) : Int) (8 : Int))), (IntKind.u8.wrap (↑(List.length data_1) : Int))], hR 9000 .u8 data_1] [0 ≤ (8 : Int)] (by kernel_rfl) (hone (by decide)) ?_
  refine q_k ?_
  refine tr_seq ?_
  obtain ⟨a1, e2, h⟩ := bind_some h
  obtain ⟨r3, e4, h⟩ := bind_some h
  refine tr_reg hT [(2, .key 1), (3, .call [1] (.v (.one (.slc 2))) [(2, .own 5 .u8 a1)]), (4, .call [2] (.v (.one (.int .u32 r3))) [])] [.s 1, .s 6, .s 7, .h 0, .h 9000] [sO 1 (.slc 9000), sO 6 (.slc 0), sI 7 .u32 r3, hR 0 .u8 [(IntKind.u8.wrap kind_0), (IntKind.u8.wrap (shr .i64 (↑(List.length data_1) : Int) (8 : Int))), (IntKind.u8.wrap (↑(List.length data_1) : Int))], hR 9000 .u8 data_1] [CallOk P 51 [.v (.one (.slc 1))] [(1, .rows (.bs .u8 [[(IntKind.u8.wrap kind_0), (IntKind.u8.wrap (shr .i64 (↑(List.length data_1) : Int) (8 : Int))), (IntKind.u8.wrap (↑(List.length data_1) : Int))], data_1]))] (.v (.one (.slc 2))) [(2, .own 5 .u8 a1)], CallOk P 24 [.v (.one (.slc 2))] [(2, .own 5 .u8 a1)] (.v (.one (.int .u32 r3))) []] (by kernel_rfl) (hcons ((slices_Concat_byte_byte_ok [[(IntKind.u8.wrap kind_0), (IntKind.u8.wrap (shr .i64 (↑(List.length data_1) : Int) (8 : Int))), (IntKind.u8.wrap (↑(List.length data_1) : Int))], data_1] a1 e2).tr [(9000, .slc 1), (8900, .slc 2)] rfl (by kernel_rfl) ⟨.rows (by kernel_rfl), trivial⟩ (by kernel_rfl) (by kernel_rfl) rfl rfl) (hone ((crc_Sum_ok a1 r3 e4).tr [(9000, .slc 2)] rfl (by kernel_rfl) ⟨.ownrd (e := 5) (by kernel_rfl), trivial⟩ (by kernel_rfl) (by kernel_rfl) rfl rfl))) ?_
  refine q_k ?_
  refine tr_seq ?_
  obtain ⟨a5, e6, h⟩ := bind_some h
  refine tr_reg hT [(12, .key 3), (14, .key 4), (15, .call [4] (.v (.one (.slc 5))) [(5, .own 5 .u8 a5)])] [.s 4, .h 5] [sO 4 (.slc 5), hO 5 5 .u8 a5] [0 ≤ (24 : Int), 0 ≤ (16 : Int), 0 ≤ (8 : Int), CallOk P 51 [.v (.one (.slc 4))] [(4, .rows (.bs .u8 [[(IntKind.u8.wrap kind_0), (IntKind.u8.wrap (shr .i64 (↑(List.length data_1) : Int) (8 : Int))), (IntKind.u8.wrap (↑(List.length data_1) : Int))], [(IntKind.u8.wrap (shr .u32 r3 (24 : Int))), (IntKind.u8.wrap (shr .u32 r3 (16 : Int))), (IntKind.u8.wrap (shr .u32 r3 (8 : Int))), (IntKind.u8.wrap r3)], data_1]))] (.v (.one (.slc 5))) [(5, .own 5 .u8 a5)]] (by kernel_rfl) (hcons (by decide) (hcons (by decide) (hcons (by decide) (hone ((slices_Concat_byte_byte_ok [[(IntKind.u8.wrap kind_0), (IntKind.u8.wrap (shr .i64 (↑(List.length data_1) : Int) (8 : Int))), (IntKind.u8.wrap (↑(List.length data_1) : Int))], [(IntKind.u8.wrap (shr .u32 r3 (24 : Int))), (IntKind.u8.wrap (shr .u32 r3 (16 : Int))), (IntKind.u8.wrap (shr .u32 r3 (8 : Int))), (IntKind.u8.wrap r3)], data_1] a5 e6).tr [(9000, .slc 4), (8900, .slc 5)] rfl (by kernel_rfl) ⟨.rows (by kernel_rfl), trivial⟩ (by kernel_rfl) (by kernel_rfl) rfl rfl))))) ?_
  refine q_k ?_
  refine tr_ret ?_
  have h := Option.some.inj h
  subst h
  refine q_fit [(8900, .slc 5)] [sO 4 (.slc 8900), hO 8900 5 .u8 a5] [(8900, .own 5 .u8 a5)] (by kernel_rfl) (by kernel_rfl) (by kernel_rfl) rfl ⟨.own (by kernel_rfl), trivial⟩ (by kernel_rfl) ?_
  exact q_ret1 hT (.v (.one (.slc 8900))) [(8900, .own 5 .u8 a5)] (by kernel_rfl) (by kernel_rfl) (by kernel_rfl)

theorem frame_Put_ok (b_0 : List Int) (r_1 : Int) (r_2 : List Int) (r : List Int × Int) (h : frame_Put b_0 r_1 r_2 = some r) : CallOk P 32 [.v (.one (.slc 9000)), .v (.agg [.int .i64 r_1, .slc 9001])] [(9000, .rd .u8 b_0), (9001, .rd .u8 r_2)] (.tup [.one (.slc 8900), .one (.int .i64 r.2)]) [(8900, .own 5 .u8 r.1)] := by
  refine call1 (N := 24) Try.func32 (by kernel_rfl) rfl rfl rfl [(9000, .rd .u8 b_0), (9001, .rd .u8 r_2)] (by kernel_rfl) ?_
  intro _ B w0
  show Tr P B 24 w0 _ _ (RetQ P Try.f32 (R1 _ _ B w0))
  unfold frame_Put at h
  refine tr_seq ?_
  refine tr_reg hT [(0, .key 0)] [.s 0, .s 3, .h 0, .h 9000, .h 9001] [sO 0 (.slc 9000), sO 3 (.ptr 0 0), hB 0 41 [.int .i64 r_1, .slc 9001], hR 9000 .u8 b_0, hR 9001 .u8 r_2] [] (by kernel_rfl) trivial ?_
  refine q_k ?_
  refine tr_seq ?_
  refine tr_block ?_
  refine tr_seq ?_
  obtain ⟨b1, e2, h⟩ := bind_some h
  refine tr_reg hT [(2, .call [] (.v (.one (.bool b1))) [])] [.s 0, .s 3, .s 6, .h 0, .h 9000, .h 9001] [sO 0 (.slc 9000), sO 3 (.ptr 0 0), sB 6 (!b1), hB 0 41 [.int .i64 r_1, .slc 9001], hR 9000 .u8 b_0, hR 9001 .u8 r_2] [CallOk P 56 [.v (.one (.int .i64 r_1))] [] (.v (.one (.bool b1))) []] (by kernel_rfl) (hone (frame_known_ok r_1 b1 e2)) ?_
  refine q_k ?_
  rcases ite_split h with ⟨hc3, h⟩ | ⟨hc3, h⟩
  · refine tr_cond_t (!b1) (by kernel_rfl) hc3 ?_
    refine tr_seq ?_
    refine tr_reg hT [] [.s 4, .s 5] [sO 4 (.nils), sI 5 .i64 (1 : Int)] [] (by kernel_rfl) trivial ?_
    refine q_k ?_
    refine tr_ret ?_
    refine q_b_ret ?_
    refine q_k_ret ?_
    have h := Option.some.inj h
    subst h
    refine q_fit [(8900, .nils)] [sO 4 (.slc 8900), sI 5 .i64 (1 : Int), hO 8900 5 .u8 []] [(8900, .own 5 .u8 [])] (by kernel_rfl) (by kernel_rfl) (by kernel_rfl) rfl ⟨.nilown, trivial⟩ (by kernel_rfl) ?_
    exact q_ret1 hT (.tup [.one (.slc 8900), .one (.int .i64 (1 : Int))]) [(8900, .own 5 .u8 [])] (by kernel_rfl) (by kernel_rfl) (by kernel_rfl)
  · refine tr_cond_f (!b1) (by kernel_rfl) hc3 ?_
    refine tr_seq ?_
    refine tr_reg hT [] [.s 0, .s 3, .s 11, .h 0, .h 9000, .h 9001] [sO 0 (.slc 9000), sO 3 (.ptr 0 0), sB 11 (decide ((↑(List.length r_2) : Int) > (2000 : Int))), hB 0 41 [.int .i64 r_1, .slc 9001], hR 9000 .u8 b_0, hR 9001 .u8 r_2] [] (by kernel_rfl) trivial ?_
    refine q_k ?_
    rcases ite_split h with ⟨hc4, h⟩ | ⟨hc4, h⟩
    · refine tr_cond_t (decide ((↑(List.length r_2) : Int) > (2000 : Int))) (by kernel_rfl) hc4 ?_
      refine tr_seq ?_
      refine tr_reg hT [] [.s 4, .s 5] [sO 4 (.nils), sI 5 .i64 (2 : Int)] [] (by kernel_rfl) trivial ?_
      refine q_k ?_
      refine tr_ret ?_
      refine q_b_ret ?_
      refine q_k_ret ?_
      have h := Option.some.inj h
      subst h
      refine q_fit [(8900, .nils)] [sO 4 (.slc 8900), sI 5 .i64 (2 : Int), hO 8900 5 .u8 []] [(8900, .own 5 .u8 [])] (by kernel_rfl) (by kernel_rfl) (by kernel_rfl) rfl ⟨.nilown, trivial⟩ (by kernel_rfl) ?_
      exact q_ret1 hT (.tup [.one (.slc 8900), .one (.int .i64 (2 : Int))]) [(8900, .own 5 .u8 [])] (by kernel_rfl) (by kernel_rfl) (by kernel_rfl)
    · refine tr_cond_f (decide ((↑(List.length r_2) : Int) > (2000 : Int))) (by kernel_rfl) hc4 ?_
      refine tr_skip ?_
      refine q_b 0 ?_
      refine q_k ?_
      refine tr_seq ?_
      obtain ⟨a5, e6, h⟩ := bind_some h
      obtain ⟨a7, e8, h⟩ := bind_some h
      refine tr_reg hT [(5, .call [9001] (.v (.one (.slc 1))) [(1, .own 5 .u8 a5)]), (6, .key 2), (7, .call [2] (.v (.one (.slc 3))) [(3, .own 5 .u8 a7)])] [.s 4, .s 5, .h 3] [sO 4 (.slc 3), sI 5 .i64 (0 : Int), hO 3 5 .u8 a7] [CallOk P 57 [.v (.one (.int .i64 r_1)), .v (.one (.slc 9001))] [(9001, .rd .u8 r_2)] (.v (.one (.slc 1))) [(1, .own 5 .u8 a5)], CallOk P 51 [.v (.one (.slc 2))] [(2, .rows (.bs .u8 [b_0, a5]))] (.v (.one (.slc 3))) [(3, .own 5 .u8 a7)]] (by kernel_rfl) (hcons ((frame_sealed_ok r_1 r_2 a5 e6).tr [(9000, .slc 9001), (8900, .slc 1)] rfl (by kernel_rfl) ⟨.rd (by kernel_rfl), trivial⟩ (by kernel_rfl) (by kernel_rfl) rfl rfl) (hone ((slices_Concat_byte_byte_ok [b_0, a5] a7 e8).tr [(9000, .slc 2), (8900, .slc 3)] rfl (by kernel_rfl) ⟨.rows (by kernel_rfl), trivial⟩ (by kernel_rfl) (by kernel_rfl) rfl rfl))) ?_
      refine q_k ?_
      refine tr_ret ?_
      have h := Option.some.inj h
      subst h
      refine q_fit [(8900, .slc 3)] [sO 4 (.slc 8900), sI 5 .i64 (0 : Int), hO 8900 5 .u8 a7] [(8900, .own 5 .u8 a7)] (by kernel_rfl) (by kernel_rfl) (by kernel_rfl) rfl ⟨.own (by kernel_rfl), trivial⟩ (by kernel_rfl) ?_
      exact q_ret1 hT (.tup [.one (.slc 8900), .one (.int .i64 (0 : Int))]) [(8900, .own 5 .u8 a7)] (by kernel_rfl) (by kernel_rfl) (by kernel_rfl)

theorem ref14_Rec_ok (r_0 : Int) (r_1 : List Int) (r : Int) (h : ref14_Rec r_0 r_1 = some r) : CallOk P 33 [.v (.agg [.int .i64 r_0, .slc 9000])] [(9000, .rd .u8 r_1)] (.v (.one (.int .i64 r))) [] := by
  refine call1 (N := 15) Try.func33 (by kernel_rfl) rfl rfl rfl [(9000, .rd .u8 r_1)] (by kernel_rfl) ?_
  intro _ B w0
  show Tr P B 15 w0 _ _ (RetQ P Try.f33 (R1 _ _ B w0))
  unfold ref14_Rec at h
  refine tr_seq ?_
  refine tr_reg hT [(0, .key 0)] [.s 1, .h 0, .h 9000] [sO 1 (.ptr 0 0), hB 0 41 [.int .i64 r_0, .slc 9000], hR 9000 .u8 r_1] [] (by kernel_rfl) trivial ?_
  refine q_k ?_
  refine tr_seq ?_
  refine tr_seq ?_
  rcases ite_split h with ⟨hb1, h⟩ | ⟨hb4, h⟩
  · refine tr_reg hT [(3, .dec true)] [.s 1, .s 10, .h 0, .h 9000] [sO 1 (.ptr 0 0), sB 10 (r_0 != (2 : Int)), hB 0 41 [.int .i64 r_0, .slc 9000], hR 9000 .u8 r_1] [(r_0 != (1 : Int)) = true] (by kernel_rfl) (hone hb1) ?_
    refine q_k ?_
    rcases ite_split h with ⟨hc2, h⟩ | ⟨hc2, h⟩
    · refine tr_cond_t (r_0 != (2 : Int)) (by kernel_rfl) hc2 ?_
      refine tr_seq ?_
      refine tr_reg hT [] [.s 2] [sI 2 .i64 (1 : Int)] [] (by kernel_rfl) trivial ?_
      refine q_k ?_
      refine tr_ret ?_
      refine q_k_ret ?_
      have h := Option.some.inj h
      subst h
      refine q_less [.s 2] [sI 2 .i64 (1 : Int)] (by kernel_rfl) ?_
      exact q_ret1 hT (.v (.one (.int .i64 (1 : Int)))) [] (by kernel_rfl) (by kernel_rfl) (by kernel_rfl)
    · refine tr_cond_f (r_0 != (2 : Int)) (by kernel_rfl) hc2 ?_
      refine tr_skip ?_
      refine q_k ?_
      refine tr_seq ?_
      refine tr_seq ?_
      refine tr_reg hT [] [.s 14] [sB 14 (decide ((↑(List.length r_1) : Int) > (2000 : Int)))] [] (by kernel_rfl) trivial ?_
      refine q_k ?_
      rcases ite_split h with ⟨hc3, h⟩ | ⟨hc3, h⟩
      · refine tr_cond_t (decide ((↑(List.length r_1) : Int) > (2000 : Int))) (by kernel_rfl) hc3 ?_
        refine tr_seq ?_
        refine tr_reg hT [] [.s 2] [sI 2 .i64 (2 : Int)] [] (by kernel_rfl) trivial ?_
        refine q_k ?_
        refine tr_ret ?_
        refine q_k_ret ?_
        have h := Option.some.inj h
        subst h
        refine q_less [.s 2] [sI 2 .i64 (2 : Int)] (by kernel_rfl) ?_
        exact q_ret1 hT (.v (.one (.int .i64 (2 : Int)))) [] (by kernel_rfl) (by kernel_rfl) (by kernel_rfl)
      · refine tr_cond_f (decide ((↑(List.length r_1) : Int) > (2000 : Int))) (by kernel_rfl) hc3 ?_
        refine tr_skip ?_
        refine q_k ?_
        refine tr_seq ?_
        refine tr_reg hT [] [.s 2] [sI 2 .i64 (0 : Int)] [] (by kernel_rfl) trivial ?_
        refine q_k ?_
        refine tr_ret ?_
        have h := Option.some.inj h
        subst h
        refine q_less [.s 2] [sI 2 .i64 (0 : Int)] (by kernel_rfl) ?_
        exact q_ret1 hT (.v (.one (.int .i64 (0 : Int)))) [] (by kernel_rfl) (by kernel_rfl) (by kernel_rfl)
  · refine tr_reg hT [(3, .dec false)] [.s 1, .s 10, .h 0, .h 9000] [sO 1 (.ptr 0 0), sB 10 false, hB 0 41 [.int .i64 r_0, .slc 9000], hR 9000 .u8 r_1] [(r_0 != (1 : Int)) = false] (by kernel_rfl) (hone hb4) ?_
    refine q_k ?_
    refine tr_cond_f false (by kernel_rfl) rfl ?_
    refine tr_skip ?_
    refine q_k ?_
    refine tr_seq ?_
    refine tr_seq ?_
    refine tr_reg hT [] [.s 14] [sB 14 (decide ((↑(List.length r_1) : Int) > (2000 : Int)))] [] (by kernel_rfl) trivial ?_
    refine q_k ?_
    rcases ite_split h with ⟨hc5, h⟩ | ⟨hc5, h⟩
    · refine tr_cond_t (decide ((↑(List.length r_1) : Int) > (2000 : Int))) (by kernel_rfl) hc5 ?_
      refine tr_seq ?_
      refine tr_reg hT [] [.s 2] [sI 2 .i64 (2 : Int)] [] (by kernel_rfl) trivial ?_
      refine q_k ?_
      refine tr_ret ?_
      refine q_k_ret ?_
      have h := Option.some.inj h
      subst h
      refine q_less [.s 2] [sI 2 .i64 (2 : Int)] (by kernel_rfl) ?_
      exact q_ret1 hT (.v (.one (.int .i64 (2 : Int)))) [] (by kernel_rfl) (by kernel_rfl) (by kernel_rfl)
    · refine tr_cond_f (decide ((↑(List.length r_1) : Int) > (2000 : Int))) (by kernel_rfl) hc5 ?_
      refine tr_skip ?_
      refine q_k ?_
      refine tr_seq ?_
      refine tr_reg hT [] [.s 2] [sI 2 .i64 (0 : Int)] [] (by kernel_rfl) trivial ?_
      refine q_k ?_
      refine tr_ret ?_
      have h := Option.some.inj h
      subst h
      refine q_less [.s 2] [sI 2 .i64 (0 : Int)] (by kernel_rfl) ?_
      exact q_ret1 hT (.v (.one (.int .i64 (0 : Int)))) [] (by kernel_rfl) (by kernel_rfl) (by kernel_rfl)

theorem ref14_Frame_ok (r_0 : Int) (r_1 : List Int) (r : List Int) (h : ref14_Frame r_0 r_1 = some r) : CallOk P 34 [.v (.agg [.int .i64 r_0, .slc 9000])] [(9000, .rd .u8 r_1)] (.v (.one (.slc 8900))) [(8900, .own 5 .u8 r)] := by
  refine call1 (N := 41) Try.func34 (by kernel_rfl) rfl rfl rfl [(9000, .rd .u8 r_1)] (by kernel_rfl) ?_
  intro _ B w0
  show Tr P B 41 w0 _ _ (RetQ P Try.f34 (R1 _ _ B w0))
  unfold ref14_Frame at h
  refine tr_seq ?_
  refine tr_reg hT [(0, .key 0)] [.s 1, .h 0, .h 9000] [sO 1 (.ptr 0 0), hB 0 41 [.int .i64 r_0, .slc 9000], hR 9000 .u8 r_1] [] (by kernel_rfl) trivial ?_
  refine q_k ?_
  refine tr_seq ?_
  refine tr_reg hT [(12, .key 1)] [.s 1, .s 3, .h 0, .h 1, .h 9000] [sO 1 (.ptr 0 0), sO 3 (.slc 1), hB 0 41 [.int .i64 r_0, .slc 9000], hO 1 5 .u8 [(IntKind.u8.wrap r_0), (IntKind.u8.wrap (shr .i64 (↑(List.length r_1) : Int) (8 : Int))), (IntKind.u8.wrap (↑(List.length r_1) : Int))], hR 9000 .u8 r_1] [0 ≤ (8 : Int)] (by kernel_rfl) (hone (by decide)) ?_
  refine q_k ?_
  refine tr_seq ?_
  obtain ⟨a1, e2, h⟩ := bind_some h
  obtain ⟨hn3, h⟩ := ite_some h
  obtain ⟨r4, e5, h⟩ := bind_some h
  refine tr_regd hT hM [(1, .call [1] (.v (.one (.slc 2))) [(2, .own 5 .u8 a1)]), (4, .key 3), (5, .call [3] (.v (.one (.int .u32 r4))) [])] [.s 1, .s 3, .s 4, .h 0, .h 1, .h 9000] [sO 1 (.ptr 0 0), sO 3 (.slc 1), sI 4 .u32 r4, hB 0 41 [.int .i64 r_0, .slc 9000], hO 1 5 .u8 [(IntKind.u8.wrap r_0), (IntKind.u8.wrap (shr .i64 (↑(List.length r_1) : Int) (8 : Int))), (IntKind.u8.wrap (↑(List.length r_1) : Int))], hR 9000 .u8 r_1] [CallOk P 23 [.v (.one (.slc 1))] [(1, .own 5 .u8 [(IntKind.u8.wrap r_0), (IntKind.u8.wrap (shr .i64 (↑(List.length r_1) : Int) (8 : Int))), (IntKind.u8.wrap (↑(List.length r_1) : Int))])] (.v (.one (.slc 2))) [(2, .own 5 .u8 a1)], List.length (a1 ++ r_1) ≤ maxN, CallOk P 25 [.v (.one (.slc 3))] [(3, .own 5 .u8 (a1 ++ r_1))] (.v (.one (.int .u32 r4))) []] (by kernel_rfl) (hcons ((keep_Twin_ok [(IntKind.u8.wrap r_0), (IntKind.u8.wrap (shr .i64 (↑(List.length r_1) : Int) (8 : Int))), (IntKind.u8.wrap (↑(List.length r_1) : Int))] a1 e2).tr [(9000, .slc 1), (8900, .slc 2)] rfl (by kernel_rfl) ⟨.ownrd (e := 5) (by kernel_rfl), trivial⟩ (by kernel_rfl) (by kernel_rfl) rfl rfl) (hcons hn3 (hone ((ref01_Crc_ok (a1 ++ r_1) r4 e5).tr [(9000, .slc 3)] rfl (by kernel_rfl) ⟨.ownrd (e := 5) (by kernel_rfl), trivial⟩ (by kernel_rfl) (by kernel_rfl) rfl rfl)))) ?_
  refine q_k ?_
  refine tr_seq ?_
  obtain ⟨hn6, h⟩ := ite_some h
  obtain ⟨hn7, h⟩ := ite_some h
  refine tr_regd hT hM [(12, .key 4), (13, .key 5), (16, .key 6)] [.s 2, .h 6] [sO 2 (.slc 6), hO 6 5 .u8 (([(IntKind.u8.wrap r_0), (IntKind.u8.wrap (shr .i64 (↑(List.length r_1) : Int) (8 : Int))), (IntKind.u8.wrap (↑(List.length r_1) : Int))] ++ [(IntKind.u8.wrap (shr .u32 r4 (24 : Int))), (IntKind.u8.wrap (shr .u32 r4 (16 : Int))), (IntKind.u8.wrap (shr .u32 r4 (8 : Int))), (IntKind.u8.wrap r4)]) ++ r_1)] [0 ≤ (24 : Int), 0 ≤ (16 : Int), 0 ≤ (8 : Int), List.length ([(IntKind.u8.wrap r_0), (IntKind.u8.wrap (shr .i64 (↑(List.length r_1) : Int) (8 : Int))), (IntKind.u8.wrap (↑(List.length r_1) : Int))] ++ [(IntKind.u8.wrap (shr .u32 r4 (24 : Int))), (IntKind.u8.wrap (shr .u32 r4 (16 : Int))), (IntKind.u8.wrap (shr .u32 r4 (8 : Int))), (IntKind.u8.wrap r4)]) ≤ maxN, List.length (([(IntKind.u8.wrap r_0), (IntKind.u8.wrap (shr .i64 (↑(List.length r_1) : Int) (8 : Int))), (IntKind.u8.wrap (↑(List.length r_1) : Int))] ++ [(IntKind.u8.wrap (shr .u32 r4 (24 : Int))), (IntKind.u8.wrap (shr .u32 r4 (16 : Int))), (IntKind.u8.wrap (shr .u32 r4 (8 : Int))), (IntKind.u8.wrap r4)]) ++ r_1) ≤ maxN] (by kernel_rfl) (hcons (by decide) (hcons (by decide) (hcons (by decide) (hcons hn6 (hone hn7))))) ?_
  refine q_k ?_
  refine tr_ret ?_
  have h := Option.some.inj h
  subst h
  refine q_fit [(8900, .slc 6)] [sO 2 (.slc 8900), hO 8900 5 .u8 (([(IntKind.u8.wrap r_0), (IntKind.u8.wrap (shr .i64 (↑(List.length r_1) : Int) (8 : Int))), (IntKind.u8.wrap (↑(List.length r_1) : Int))] ++ [(IntKind.u8.wrap (shr .u32 r4 (24 : Int))), (IntKind.u8.wrap (shr .u32 r4 (16 : Int))), (IntKind.u8.wrap (shr .u32 r4 (8 : Int))), (IntKind.u8.wrap r4)]) ++ r_1)] [(8900, .own 5 .u8 (([(IntKind.u8.wrap r_0), (IntKind.u8.wrap (shr .i64 (↑(List.length r_1) : Int) (8 : Int))), (IntKind.u8.wrap (↑(List.length r_1) : Int))] ++ [(IntKind.u8.wrap (shr .u32 r4 (24 : Int))), (IntKind.u8.wrap (shr .u32 r4 (16 : Int))), (IntKind.u8.wrap (shr .u32 r4 (8 : Int))), (IntKind.u8.wrap r4)]) ++ r_1))] (by kernel_rfl) (by kernel_rfl) (by kernel_rfl) rfl ⟨.own (by kernel_rfl), trivial⟩ (by kernel_rfl) ?_
  exact q_ret1 hT (.v (.one (.slc 8900))) [(8900, .own 5 .u8 (([(IntKind.u8.wrap r_0), (IntKind.u8.wrap (shr .i64 (↑(List.length r_1) : Int) (8 : Int))), (IntKind.u8.wrap (↑(List.length r_1) : Int))] ++ [(IntKind.u8.wrap (shr .u32 r4 (24 : Int))), (IntKind.u8.wrap (shr .u32 r4 (16 : Int))), (IntKind.u8.wrap (shr .u32 r4 (8 : Int))), (IntKind.u8.wrap r4)]) ++ r_1))] (by kernel_rfl) (by kernel_rfl) (by kernel_rfl)

end Go.Proofs.Sa
