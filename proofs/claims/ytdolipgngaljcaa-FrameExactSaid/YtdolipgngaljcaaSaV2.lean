/- Walks, printed by a program of this session (gowalk.py): each Go function comes to its plain function's answer. -/
import Derived.Test.YtdolipgngaljcaaSaA
import Derived.Test.YtdolipgngaljcaaSaD
import Derived.Test.YtdolipgngaljcaaGwI
import Derived.Test.YtdolipgngaljcaaSaV0
import Derived.Test.YtdolipgngaljcaaSaV1
namespace Go.Proofs.Sa
open Go Go.Gw D
set_option linter.unusedVariables false
set_option maxRecDepth 20000

theorem frame_known_ok (kind_0 : Int) (r : Bool) (h : frame_known kind_0 = some r) {pre : List (Nat × Ent)} : CallOk P 56 [.v (.one (.int .i64 kind_0))] pre (.v (.one (.bool r))) [] := by
  refine call0 (N := 9) Try.func56 (by kernel_rfl) rfl rfl rfl pre ?_
  intro _ w
  show Tr P (Ge w) 9 _ _ _ (RetQ P Try.f56 (R0 _ w))
  unfold frame_known at h
  refine tr_seq ?_
  refine tr_reg hT [] [.s 0] [sI 0 .i64 kind_0] [] (by kernel_rfl) trivial ?_
  refine q_k ?_
  refine tr_seq ?_
  rcases ite_split h with ⟨hb1, h⟩ | ⟨hb2, h⟩
  · refine tr_reg hT [(2, .dec true)] [.s 2] [sB 2 true] [(kind_0 == (1 : Int)) = true] (by kernel_rfl) (hone hb1) ?_
    refine q_k ?_
    refine tr_ret ?_
    have h := Option.some.inj h
    subst h
    exact q_ret0 hT (.v (.one (.bool true))) rfl (by kernel_rfl)
  · refine tr_reg hT [(2, .dec false)] [.s 2] [sB 2 (kind_0 == (2 : Int))] [(kind_0 == (1 : Int)) = false] (by kernel_rfl) (hone hb2) ?_
    refine q_k ?_
    refine tr_ret ?_
    have h := Option.some.inj h
    subst h
    exact q_ret0 hT (.v (.one (.bool (kind_0 == (2 : Int))))) rfl (by kernel_rfl)

theorem frame_sealed_ok (kind_0 : Int) (data_1 : List Int) (r : List Int) (h : frame_sealed kind_0 data_1 = some r) : CallOk P 57 [.v (.one (.int .i64 kind_0)), .v (.one (.slc 9000))] [(9000, .rd .u8 data_1)] (.v (.one (.slc 8900))) [(8900, .own 5 .u8 r)] := by
  refine call1 (N := 39) Try.func57 (by kernel_rfl) rfl rfl rfl [(9000, .rd .u8 data_1)] (by kernel_rfl) ?_
  intro _ B w0
  show Tr P B 39 w0 _ _ (RetQ P Try.f57 (R1 _ _ B w0))
  unfold frame_sealed at h
  refine tr_seq ?_
  refine tr_reg hT [] [.s 0, .s 1, .h 9000] [sI 0 .i64 kind_0, sO 1 (.slc 9000), hR 9000 .u8 data_1] [] (by kernel_rfl) trivial ?_
  refine q_k ?_
  refine tr_seq ?_
  refine tr_reg hT [] [.s 0, .s 1, .s 5, .h 9000] [sI 0 .i64 kind_0, sO 1 (.slc 9000), sI 5 .i64 (↑(List.length data_1) : Int), hR 9000 .u8 data_1] [] (by kernel_rfl) trivial ?_
  refine q_k ?_
  refine tr_seq ?_
  refine tr_reg hT [(7, .key 0)] [.s 1, .s 6, .h 0, .h 9000] [sO 1 (.slc 9000), sO 6 (.slc 0), hO 0 5 .u8 [(IntKind.u8.wrap kind_0), (IntKind.u8.wrap (shr .i64 (↑(List.length data_1) : Int) (8 : Int))), (IntKind.u8.wrap (↑(List.length data_1) : Int))], hR 9000 .u8 data_1] [0 ≤ (8 : Int)] (by kernel_rfl) (hone (by decide)) ?_
  refine q_k ?_
  refine tr_seq ?_
  obtain ⟨a1, e2, h⟩ := bind_some h
  obtain ⟨r3, e4, h⟩ := bind_some h
  refine tr_reg hT [(2, .key 1), (3, .call [1] (.v (.one (.slc 2))) [(2, .own 5 .u8 a1)]), (4, .call [2] (.v (.one (.int .u32 r3))) [])] [.s 1, .s 6, .s 7, .h 0, .h 9000] [sO 1 (.slc 9000), sO 6 (.slc 0), sI 7 .u32 r3, hR 0 .u8 [(IntKind.u8.wrap kind_0), (IntKind.u8.wrap (shr .i64 (↑(List.length data_1) : Int) (8 : Int))), (IntKind.u8.wrap (↑(List.length data_1) : Int))], hR 9000 .u8 data_1] [CallOk P 51 [.v (.one (.slc 1))] [(1, .rows (.bs .u8 [[(IntKind.u8.wrap kind_0), (IntKind.u8.wrap (shr .i64 (↑(List.length data_1) : Int) (8 : Int))), (IntKind.u8.wrap (↑(List.length data_1) : Int))], data_1]))] (.v (.one (.slc 2))) [(2, .own 5 .u8 a1)], CallOk P 24 [.v (.one (.slc 2))] [(2, .own 5 .u8 a1)] (.v (.one (.int .u32 r3))) []] (by kernel_rfl) (hcons ((slices_Concat_byte_byte_ok [[(IntKind.u8.wrap kind_0), (IntKind.u8.wrap (shr .i64 (↑(List.length data_1) : Int) (8 : Int))), (IntKind.u8.wrap (↑(List.length data_1) : Int))], data_1] a1 e2).tr [(9000, .slc 1), (8900, .slc 2)] rfl (by kernel_rfl) ⟨.rows (by kernel_rfl), trivial⟩ (by kernel_rfl) (by kernel_rfl) rfl rfl) (hone ((crc_Sum_ok a1 r3 e4).tr [(9000, .slc 2)] rfl (by kernel_rfl) ⟨.ownrd (e := 5) (by kernel_rfl), trivial⟩ (by kernel_rfl) (by kernel_rfl) rfl rfl))) ?_
  refine q_k ?_
  refine tr_seq ?_
  obtain ⟨a5, e6, h⟩ := bind_some h
  refine tr_reg hT [(12, .key 3), (14, .key 4), (15, .call [4] (.v (.one (.slc 5))) [(5, .own 5 .u8 a5)])] [.s 4, .h 5] [sO 4 (.slc 5), hO 5 5 .u8 a5] [0 ≤ (24 : Int), 0 ≤ (16 : Int), 0 ≤ (8 : Int), CallOk P 51 [.v (.one (.slc 4))] [(4, .rows (.bs .u8 [[(IntKind.u8.wrap kind_0), (IntKind.u8.wrap (shr .i64 (↑(List.length data_1) : Int) (8 : Int))), (IntKind.u8.wrap (↑(List.length data_1) : Int))], [(IntKind.u8.wrap (shr .u32 r3 (24 : Int))), (IntKind.u8.wrap (shr .u32 r3 (16 : Int))), (IntKind.u8.wrap (shr .u32 r3 (8 : Int))), (IntKind.u8.wrap r3)], data_1]))] (.v (.one (.slc 5))) [(5, .own 5 .u8 a5)]] (by kernel_rfl) (hcons (by decide) (hcons (by decide) (hcons (by decide) (hone ((slices_Concat_byte_byte_ok [[(IntKind.u8.wrap kind_0), (IntKind.u8.wrap (shr .i64 (↑(List.length data_1) : Int) (8 : Int))), (IntKind.u8.wrap (↑(List.length data_1) : Int))], [(IntKind.u8.wrap (shr .u32 r3 (24 : Int))), (IntKind.u8.wrap (shr .u32 r3 (16 : Int))), (IntKind.u8.wrap (shr .u32 r3 (8 : Int))), (IntKind.u8.wrap r3)], data_1] a5 e6).tr [(9000, .slc 4), (8900, .slc 5)] rfl (by kernel_rfl) ⟨.rows (by kernel_rfl), trivial⟩ (by kernel_rfl) (by kernel_rfl) rfl rfl))))) ?_
  refine q_k ?_
  refine tr_ret ?_
  have h := Option.some.inj h
  subst h
  refine q_fit [(8900, .slc 5)] [sO 4 (.slc 8900), hO 8900 5 .u8 a5] [(8900, .own 5 .u8 a5)] (by kernel_rfl) (by kernel_rfl) (by kernel_rfl) rfl ⟨.own (by kernel_rfl), trivial⟩ (by kernel_rfl) ?_
  exact q_ret1 hT (.v (.one (.slc 8900))) [(8900, .own 5 .u8 a5)] (by kernel_rfl) (by kernel_rfl) (by kernel_rfl)

theorem frame_Put_ok (b_0 : List Int) (r_1 : Int) (r_2 : List Int) (r : List Int × Int) (h : frame_Put b_0 r_1 r_2 = some r) : CallOk P 32 [.v (.one (.slc 9000)), .v (.agg [.int .i64 r_1, .slc 9001])] [(9000, .rd .u8 b_0), (9001, .rd .u8 r_2)] (.tup [.one (.slc 8900), .one (.int .i64 r.2)]) [(8900, .own 5 .u8 r.1)] := by
  refine call1 (N := 24) Try.func32 (by kernel_rfl) rfl rfl rfl [(9000, .rd .u8 b_0), (9001, .rd .u8 r_2)] (by kernel_rfl) ?_
  intro _ B w0
  show Tr P B 24 w0 _ _ (RetQ P Try.f32 (R1 _ _ B w0))
  unfold frame_Put at h
  refine tr_seq ?_
  refine tr_reg hT [(0, .key 0)] [.s 0, .s 3, .h 0, .h 9000, .h 9001] [sO 0 (.slc 9000), sO 3 (.ptr 0 0), hB 0 41 [.int .i64 r_1, .slc 9001], hR 9000 .u8 b_0, hR 9001 .u8 r_2] [] (by kernel_rfl) trivial ?_
  refine q_k ?_
  refine tr_seq ?_
  refine tr_block ?_
  refine tr_seq ?_
  obtain ⟨b1, e2, h⟩ := bind_some h
  refine tr_reg hT [(2, .call [] (.v (.one (.bool b1))) [])] [.s 0, .s 3, .s 6, .h 0, .h 9000, .h 9001] [sO 0 (.slc 9000), sO 3 (.ptr 0 0), sB 6 (!b1), hB 0 41 [.int .i64 r_1, .slc 9001], hR 9000 .u8 b_0, hR 9001 .u8 r_2] [CallOk P 56 [.v (.one (.int .i64 r_1))] [] (.v (.one (.bool b1))) []] (by kernel_rfl) (hone (frame_known_ok r_1 b1 e2)) ?_
  refine q_k ?_
  rcases ite_split h with ⟨hc3, h⟩ | ⟨hc3, h⟩
  · refine tr_cond_t (!b1) (by kernel_rfl) hc3 ?_
    refine tr_seq ?_
    refine tr_reg hT [] [.s 4, .s 5] [sO 4 (.nils), sI 5 .i64 (1 : Int)] [] (by kernel_rfl) trivial ?_
    refine q_k ?_
    refine tr_ret ?_
    refine q_b_ret ?_
    refine q_k_ret ?_
    have h := Option.some.inj h
    subst h
    refine q_fit [(8900, .nils)] [sO 4 (.slc 8900), sI 5 .i64 (1 : Int), hO 8900 5 .u8 []] [(8900, .own 5 .u8 [])] (by kernel_rfl) (by kernel_rfl) (by kernel_rfl) rfl ⟨.nilown, trivial⟩ (by kernel_rfl) ?_
    exact q_ret1 hT (.tup [.one (.slc 8900), .one (.int .i64 (1 : Int))]) [(8900, .own 5 .u8 [])] (by kernel_rfl) (by kernel_rfl) (by kernel_rfl)
  · refine tr_cond_f (!b1) (by kernel_rfl) hc3 ?_
    refine tr_seq ?_
    refine tr_reg hT [] [.s 0, .s 3, .s 11, .h 0, .h 9000, .h 9001] [sO 0 (.slc 9000), sO 3 (.ptr 0 0), sB 11 (decide ((↑(List.length r_2) : Int) > (2000 : Int))), hB 0 41 [.int .i64 r_1, .slc 9001], hR 9000 .u8 b_0, hR 9001 .u8 r_2] [] (by kernel_rfl) trivial ?_
    refine q_k ?_
    rcases ite_split h with ⟨hc4, h⟩ | ⟨hc4, h⟩
    · refine tr_cond_t (decide ((↑(List.length r_2) : Int) > (2000 : Int))) (by kernel_rfl) hc4 ?_
      refine tr_seq ?_
      refine tr_reg hT [] [.s 4, .s 5] [sO 4 (.nils), sI 5 .i64 (2 : Int)] [] (by kernel_rfl) trivial ?_
      refine q_k ?_
      refine tr_ret ?_
      refine q_b_ret ?_
      refine q_k_ret ?_
      have h := Option.some.inj h
      subst h
      refine q_fit [(8900, .nils)] [sO 4 (.slc 8900), sI 5 .i64 (2 : Int), hO 8900 5 .u8 []] [(8900, .own 5 .u8 [])] (by kernel_rfl) (by kernel_rfl) (by kernel_rfl) rfl ⟨.nilown, trivial⟩ (by kernel_rfl) ?_
      exact q_ret1 hT (.tup [.one (.slc 8900), .one (.int .i64 (2 : Int))]) [(8900, .own 5 .u8 [])] (by kernel_rfl) (by kernel_rfl) (by kernel_rfl)
    · refine tr_cond_f (decide ((↑(List.length r_2) : Int) > (2000 : Int))) (by kernel_rfl) hc4 ?_
      refine tr_skip ?_
      refine q_b 0 ?_
      refine q_k ?_
      refine tr_seq ?_
      obtain ⟨a5, e6, h⟩ := bind_some h
      obtain ⟨a7, e8, h⟩ := bind_some h
      refine tr_reg hT [(5, .call [9001] (.v (.one (.slc 1))) [(1, .own 5 .u8 a5)]), (6, .key 2), (7, .call [2] (.v (.one (.slc 3))) [(3, .own 5 .u8 a7)])] [.s 4, .s 5, .h 3] [sO 4 (.slc 3), sI 5 .i64 (0 : Int), hO 3 5 .u8 a7] [CallOk P 57 [.v (.one (.int .i64 r_1)), .v (.one (.slc 9001))] [(9001, .rd .u8 r_2)] (.v (.one (.slc 1))) [(1, .own 5 .u8 a5)], CallOk P 51 [.v (.one (.slc 2))] [(2, .rows (.bs .u8 [b_0, a5]))] (.v (.one (.slc 3))) [(3, .own 5 .u8 a7)]] (by kernel_rfl) (hcons ((frame_sealed_ok r_1 r_2 a5 e6).tr [(9000, .slc 9001), (8900, .slc 1)] rfl (by kernel_rfl) ⟨.rd (by kernel_rfl), trivial⟩ (by kernel_rfl) (by kernel_rfl) rfl rfl) (hone ((slices_Concat_byte_byte_ok [b_0, a5] a7 e8).tr [(9000, .slc 2), (8900, .slc 3)] rfl (by kernel_rfl) ⟨.rows (by kernel_rfl), trivial⟩ (by kernel_rfl) (by kernel_rfl) rfl rfl))) ?_
      refine q_k ?_
      refine tr_ret ?_
      have h := Option.some.inj h
      subst h
      refine q_fit [(8900, .slc 3)] [sO 4 (.slc 8900), sI 5 .i64 (0 : Int), hO 8900 5 .u8 a7] [(8900, .own 5 .u8 a7)] (by kernel_rfl) (by kernel_rfl) (by kernel_rfl) rfl ⟨.own (by kernel_rfl), trivial⟩ (by kernel_rfl) ?_
      exact q_ret1 hT (.tup [.one (.slc 8900), .one (.int .i64 (0 : Int))]) [(8900, .own 5 .u8 a7)] (by kernel_rfl) (by kernel_rfl) (by kernel_rfl)

theorem ref14_Rec_ok (r_0 : Int) (r_1 : List Int) (r : Int) (h : ref14_Rec r_0 r_1 = some r) : CallOk P 33 [.v (.agg [.int .i64 r_0, .slc 9000])] [(9000, .rd .u8 r_1)] (.v (.one (.int .i64 r))) [] := by
  refine call1 (N := 15) Try.func33 (by kernel_rfl) rfl rfl rfl [(9000, .rd .u8 r_1)] (by kernel_rfl) ?_
  intro _ B w0
  show Tr P B 15 w0 _ _ (RetQ P Try.f33 (R1 _ _ B w0))
  unfold ref14_Rec at h
  refine tr_seq ?_
  refine tr_reg hT [(0, .key 0)] [.s 1, .h 0, .h 9000] [sO 1 (.ptr 0 0), hB 0 41 [.int .i64 r_0, .slc 9000], hR 9000 .u8 r_1] [] (by kernel_rfl) trivial ?_
  refine q_k ?_
  refine tr_seq ?_
  refine tr_seq ?_
  rcases ite_split h with ⟨hb1, h⟩ | ⟨hb4, h⟩
  · refine tr_reg hT [(3, .dec true)] [.s 1, .s 10, .h 0, .h 9000] [sO 1 (.ptr 0 0), sB 10 (r_0 != (2 : Int)), hB 0 41 [.int .i64 r_0, .slc 9000], hR 9000 .u8 r_1] [(r_0 != (1 : Int)) = true] (by kernel_rfl) (hone hb1) ?_
    refine q_k ?_
    rcases ite_split h with ⟨hc2, h⟩ | ⟨hc2, h⟩
    · refine tr_cond_t (r_0 != (2 : Int)) (by kernel_rfl) hc2 ?_
      refine tr_seq ?_
      refine tr_reg hT [] [.s 2] [sI 2 .i64 (1 : Int)] [] (by kernel_rfl) trivial ?_
      refine q_k ?_
      refine tr_ret ?_
      refine q_k_ret ?_
      have h := Option.some.inj h
      subst h
      refine q_less [.s 2] [sI 2 .i64 (1 : Int)] (by kernel_rfl) ?_
      exact q_ret1 hT (.v (.one (.int .i64 (1 : Int)))) [] (by kernel_rfl) (by kernel_rfl) (by kernel_rfl)
    · refine tr_cond_f (r_0 != (2 : Int)) (by kernel_rfl) hc2 ?_
      refine tr_skip ?_
      refine q_k ?_
      refine tr_seq ?_
      refine tr_seq ?_
      refine tr_reg hT [] [.s 14] [sB 14 (decide ((↑(List.length r_1) : Int) > (2000 : Int)))] [] (by kernel_rfl) trivial ?_
      refine q_k ?_
      rcases ite_split h with ⟨hc3, h⟩ | ⟨hc3, h⟩
      · refine tr_cond_t (decide ((↑(List.length r_1) : Int) > (2000 : Int))) (by kernel_rfl) hc3 ?_
        refine tr_seq ?_
        refine tr_reg hT [] [.s 2] [sI 2 .i64 (2 : Int)] [] (by kernel_rfl) trivial ?_
        refine q_k ?_
        refine tr_ret ?_
        refine q_k_ret ?_
        have h := Option.some.inj h
        subst h
        refine q_less [.s 2] [sI 2 .i64 (2 : Int)] (by kernel_rfl) ?_
        exact q_ret1 hT (.v (.one (.int .i64 (2 : Int)))) [] (by kernel_rfl) (by kernel_rfl) (by kernel_rfl)
      · refine tr_cond_f (decide ((↑(List.length r_1) : Int) > (2000 : Int))) (by kernel_rfl) hc3 ?_
        refine tr_skip ?_
        refine q_k ?_
        refine tr_seq ?_
        refine tr_reg hT [] [.s 2] [sI 2 .i64 (0 : Int)] [] (by kernel_rfl) trivial ?_
        refine q_k ?_
        refine tr_ret ?_
        have h := Option.some.inj h
        subst h
        refine q_less [.s 2] [sI 2 .i64 (0 : Int)] (by kernel_rfl) ?_
        exact q_ret1 hT (.v (.one (.int .i64 (0 : Int)))) [] (by kernel_rfl) (by kernel_rfl) (by kernel_rfl)
  · refine tr_reg hT [(3, .dec false)] [.s 1, .s 10, .h 0, .h 9000] [sO 1 (.ptr 0 0), sB 10 false, hB 0 41 [.int .i64 r_0, .slc 9000], hR 9000 .u8 r_1] [(r_0 != (1 : Int)) = false] (by kernel_rfl) (hone hb4) ?_
    refine q_k ?_
    refine tr_cond_f false (by kernel_rfl) rfl ?_
    refine tr_skip ?_
    refine q_k ?_
    refine tr_seq ?_
    refine tr_seq ?_
    refine tr_reg hT [] [.s 14] [sB 14 (decide ((↑(List.length r_1) : Int) > (2000 : Int)))] [] (by kernel_rfl) trivial ?_
    refine q_k ?_
    rcases ite_split h with ⟨hc5, h⟩ | ⟨hc5, h⟩
    · refine tr_cond_t (decide ((↑(List.length r_1) : Int) > (2000 : Int))) (by kernel_rfl) hc5 ?_
      refine tr_seq ?_
      refine tr_reg hT [] [.s 2] [sI 2 .i64 (2 : Int)] [] (by kernel_rfl) trivial ?_
      refine q_k ?_
      refine tr_ret ?_
      refine q_k_ret ?_
      have h := Option.some.inj h
      subst h
      refine q_less [.s 2] [sI 2 .i64 (2 : Int)] (by kernel_rfl) ?_
      exact q_ret1 hT (.v (.one (.int .i64 (2 : Int)))) [] (by kernel_rfl) (by kernel_rfl) (by kernel_rfl)
    · refine tr_cond_f (decide ((↑(List.length r_1) : Int) > (2000 : Int))) (by kernel_rfl) hc5 ?_
      refine tr_skip ?_
      refine q_k ?_
      refine tr_seq ?_
      refine tr_reg hT [] [.s 2] [sI 2 .i64 (0 : Int)] [] (by kernel_rfl) trivial ?_
      refine q_k ?_
      refine tr_ret ?_
      have h := Option.some.inj h
      subst h
      refine q_less [.s 2] [sI 2 .i64 (0 : Int)] (by kernel_rfl) ?_
      exact q_ret1 hT (.v (.one (.int .i64 (0 : Int)))) [] (by kernel_rfl) (by kernel_rfl) (by kernel_rfl)

theorem ref14_Frame_ok (r_0 : Int) (r_1 : List Int) (r : List Int) (h : ref14_Frame r_0 r_1 = some r) : CallOk P 34 [.v (.agg [.int .i64 r_0, .slc 9000])] [(9000, .rd .u8 r_1)] (.v (.one (.slc 8900))) [(8900, .own 5 .u8 r)] := by
  refine call1 (N := 41) Try.func34 (by kernel_rfl) rfl rfl rfl [(9000, .rd .u8 r_1)] (by kernel_rfl) ?_
  intro _ B w0
  show Tr P B 41 w0 _ _ (RetQ P Try.f34 (R1 _ _ B w0))
  unfold ref14_Frame at h
  refine tr_seq ?_
  refine tr_reg hT [(0, .key 0)] [.s 1, .h 0, .h 9000] [sO 1 (.ptr 0 0), hB 0 41 [.int .i64 r_0, .slc 9000], hR 9000 .u8 r_1] [] (by kernel_rfl) trivial ?_
  refine q_k ?_
  refine tr_seq ?_
  refine tr_reg hT [(12, .key 1)] [.s 1, .s 3, .h 0, .h 1, .h 9000] [sO 1 (.ptr 0 0), sO 3 (.slc 1), hB 0 41 [.int .i64 r_0, .slc 9000], hO 1 5 .u8 [(IntKind.u8.wrap r_0), (IntKind.u8.wrap (shr .i64 (↑(List.length r_1) : Int) (8 : Int))), (IntKind.u8.wrap (↑(List.length r_1) : Int))], hR 9000 .u8 r_1] [0 ≤ (8 : Int)] (by kernel_rfl) (hone (by decide)) ?_
  refine q_k ?_
  refine tr_seq ?_
  obtain ⟨a1, e2, h⟩ := bind_some h
  obtain ⟨hn3, h⟩ := ite_some h
  obtain ⟨r4, e5, h⟩ := bind_some h
  refine tr_regd hT hM [(1, .call [1] (.v (.one (.slc 2))) [(2, .own 5 .u8 a1)]), (4, .key 3), (5, .call [3] (.v (.one (.int .u32 r4))) [])] [.s 1, .s 3, .s 4, .h 0, .h 1, .h 9000] [sO 1 (.ptr 0 0), sO 3 (.slc 1), sI 4 .u32 r4, hB 0 41 [.int .i64 r_0, .slc 9000], hO 1 5 .u8 [(IntKind.u8.wrap r_0), (IntKind.u8.wrap (shr .i64 (↑(List.length r_1) : Int) (8 : Int))), (IntKind.u8.wrap (↑(List.length r_1) : Int))], hR 9000 .u8 r_1] [CallOk P 23 [.v (.one (.slc 1))] [(1, .own 5 .u8 [(IntKind.u8.wrap r_0), (IntKind.u8.wrap (shr .i64 (↑(List.length r_1) : Int) (8 : Int))), (IntKind.u8.wrap (↑(List.length r_1) : Int))])] (.v (.one (.slc 2))) [(2, .own 5 .u8 a1)], List.length (a1 ++ r_1) ≤ maxN, CallOk P 25 [.v (.one (.slc 3))] [(3, .own 5 .u8 (a1 ++ r_1))] (.v (.one (.int .u32 r4))) []] (by kernel_rfl) (hcons ((keep_Twin_ok [(IntKind.u8.wrap r_0), (IntKind.u8.wrap (shr .i64 (↑(List.length r_1) : Int) (8 : Int))), (IntKind.u8.wrap (↑(List.length r_1) : Int))] a1 e2).tr [(9000, .slc 1), (8900, .slc 2)] rfl (by kernel_rfl) ⟨.ownrd (e := 5) (by kernel_rfl), trivial⟩ (by kernel_rfl) (by kernel_rfl) rfl rfl) (hcons hn3 (hone ((ref01_Crc_ok (a1 ++ r_1) r4 e5).tr [(9000, .slc 3)] rfl (by kernel_rfl) ⟨.ownrd (e := 5) (by kernel_rfl), trivial⟩ (by kernel_rfl) (by kernel_rfl) rfl rfl)))) ?_
  refine q_k ?_
  refine tr_seq ?_
  obtain ⟨hn6, h⟩ := ite_some h
  obtain ⟨hn7, h⟩ := ite_some h
  refine tr_regd hT hM [(12, .key 4), (13, .key 5), (16, .key 6)] [.s 2, .h 6] [sO 2 (.slc 6), hO 6 5 .u8 (([(IntKind.u8.wrap r_0), (IntKind.u8.wrap (shr .i64 (↑(List.length r_1) : Int) (8 : Int))), (IntKind.u8.wrap (↑(List.length r_1) : Int))] ++ [(IntKind.u8.wrap (shr .u32 r4 (24 : Int))), (IntKind.u8.wrap (shr .u32 r4 (16 : Int))), (IntKind.u8.wrap (shr .u32 r4 (8 : Int))), (IntKind.u8.wrap r4)]) ++ r_1)] [0 ≤ (24 : Int), 0 ≤ (16 : Int), 0 ≤ (8 : Int), List.length ([(IntKind.u8.wrap r_0), (IntKind.u8.wrap (shr .i64 (↑(List.length r_1) : Int) (8 : Int))), (IntKind.u8.wrap (↑(List.length r_1) : Int))] ++ [(IntKind.u8.wrap (shr .u32 r4 (24 : Int))), (IntKind.u8.wrap (shr .u32 r4 (16 : Int))), (IntKind.u8.wrap (shr .u32 r4 (8 : Int))), (IntKind.u8.wrap r4)]) ≤ maxN, List.length (([(IntKind.u8.wrap r_0), (IntKind.u8.wrap (shr .i64 (↑(List.length r_1) : Int) (8 : Int))), (IntKind.u8.wrap (↑(List.length r_1) : Int))] ++ [(IntKind.u8.wrap (shr .u32 r4 (24 : Int))), (IntKind.u8.wrap (shr .u32 r4 (16 : Int))), (IntKind.u8.wrap (shr .u32 r4 (8 : Int))), (IntKind.u8.wrap r4)]) ++ r_1) ≤ maxN] (by kernel_rfl) (hcons (by decide) (hcons (by decide) (hcons (by decide) (hcons hn6 (hone hn7))))) ?_
  refine q_k ?_
  refine tr_ret ?_
  have h := Option.some.inj h
  subst h
  refine q_fit [(8900, .slc 6)] [sO 2 (.slc 8900), hO 8900 5 .u8 (([(IntKind.u8.wrap r_0), (IntKind.u8.wrap (shr .i64 (↑(List.length r_1) : Int) (8 : Int))), (IntKind.u8.wrap (↑(List.length r_1) : Int))] ++ [(IntKind.u8.wrap (shr .u32 r4 (24 : Int))), (IntKind.u8.wrap (shr .u32 r4 (16 : Int))), (IntKind.u8.wrap (shr .u32 r4 (8 : Int))), (IntKind.u8.wrap r4)]) ++ r_1)] [(8900, .own 5 .u8 (([(IntKind.u8.wrap r_0), (IntKind.u8.wrap (shr .i64 (↑(List.length r_1) : Int) (8 : Int))), (IntKind.u8.wrap (↑(List.length r_1) : Int))] ++ [(IntKind.u8.wrap (shr .u32 r4 (24 : Int))), (IntKind.u8.wrap (shr .u32 r4 (16 : Int))), (IntKind.u8.wrap (shr .u32 r4 (8 : Int))), (IntKind.u8.wrap r4)]) ++ r_1))] (by kernel_rfl) (by kernel_rfl) (by kernel_rfl) rfl ⟨.own (by kernel_rfl), trivial⟩ (by kernel_rfl) ?_
  exact q_ret1 hT (.v (.one (.slc 8900))) [(8900, .own 5 .u8 (([(IntKind.u8.wrap r_0), (IntKind.u8.wrap (shr .i64 (↑(List.length r_1) : Int) (8 : Int))), (IntKind.u8.wrap (↑(List.length r_1) : Int))] ++ [(IntKind.u8.wrap (shr .u32 r4 (24 : Int))), (IntKind.u8.wrap (shr .u32 r4 (16 : Int))), (IntKind.u8.wrap (shr .u32 r4 (8 : Int))), (IntKind.u8.wrap r4)]) ++ r_1))] (by kernel_rfl) (by kernel_rfl) (by kernel_rfl)

end Go.Proofs.Sa
