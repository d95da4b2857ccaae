/- Walks, printed by a program of this session (gowalk.py): each Go function comes to its plain function's answer. -/
import Derived.Test.YtdolipgngaljcaaSaA
import Derived.Test.YtdolipgngaljcaaSaD
import Derived.Test.YtdolipgngaljcaaGwI
import Derived.Test.YtdolipgngaljcaaSaV0
import Derived.Test.YtdolipgngaljcaaSaV2
import Derived.Test.YtdolipgngaljcaaSaV3
namespace Go.Proofs.Sa
open Go Go.Gw D
set_option linter.unusedVariables false
set_option maxRecDepth 20000

theorem law15_FrameExact_ok (b_0 : List Int) (r_1 : Int) (r_2 : List Int) (at_3 : Int) (r : Bool) (h : law15_FrameExact b_0 r_1 r_2 at_3 = some r) : CallOk P 11 [.v (.one (.slc 9000)), .v (.agg [.int .i64 r_1, .slc 9001]), .v (.one (.int .i64 at_3))] [(9000, .rd .u8 b_0), (9001, .rd .u8 r_2)] (.v (.one (.bool r))) [] := by
  refine call1 (N := 151) Try.func11 (by kernel_rfl) rfl rfl rfl [(9000, .rd .u8 b_0), (9001, .rd .u8 r_2)] (by kernel_rfl) ?_
  intro _ B w0
  show Tr P B 151 w0 _ _ (RetQ P Try.f11 (R1 _ _ B w0))
  unfold law15_FrameExact at h
  refine tr_seq ?_
  refine tr_reg hT [(0, .key 0)] [.s 0, .s 2, .s 4, .h 0, .h 9000, .h 9001] [sO 0 (.slc 9000), sI 2 .i64 at_3, sO 4 (.ptr 0 0), hB 0 41 [.int .i64 r_1, .slc 9001], hR 9000 .u8 b_0, hR 9001 .u8 r_2] [] (by kernel_rfl) trivial ?_
  refine q_k ?_
  refine tr_seq ?_
  refine tr_seq ?_
  rcases ite_split h with ⟨hb1, h⟩ | ⟨hb2, h⟩
  · refine tr_reg hT [(3, .dec true)] [.s 0, .s 2, .s 4, .s 30, .h 0, .h 9000, .h 9001] [sO 0 (.slc 9000), sI 2 .i64 at_3, sO 4 (.ptr 0 0), sB 30 true, hB 0 41 [.int .i64 r_1, .slc 9001], hR 9000 .u8 b_0, hR 9001 .u8 r_2] [(decide ((↑(List.length b_0) : Int) > (2500 : Int))) = true] (by kernel_rfl) (hone hb1) ?_
    refine q_k ?_
    refine tr_cond_t true (by kernel_rfl) rfl ?_
    refine tr_seq ?_
    refine tr_reg hT [] [.s 6] [sB 6 true] [] (by kernel_rfl) trivial ?_
    refine q_k ?_
    refine tr_ret ?_
    refine q_k_ret ?_
    have h := Option.some.inj h
    subst h
    refine q_less [.s 6] [sB 6 true] (by kernel_rfl) ?_
    exact q_ret1 hT (.v (.one (.bool true))) [] (by kernel_rfl) (by kernel_rfl) (by kernel_rfl)
  · refine tr_reg hT [(3, .dec false)] [.s 0, .s 2, .s 4, .s 30, .h 0, .h 9000, .h 9001] [sO 0 (.slc 9000), sI 2 .i64 at_3, sO 4 (.ptr 0 0), sB 30 (decide ((↑(List.length r_2) : Int) > (2500 : Int))), hB 0 41 [.int .i64 r_1, .slc 9001], hR 9000 .u8 b_0, hR 9001 .u8 r_2] [(decide ((↑(List.length b_0) : Int) > (2500 : Int))) = false] (by kernel_rfl) (hone hb2) ?_
    refine q_k ?_
    rcases ite_split h with ⟨hc3, h⟩ | ⟨hc3, h⟩
    · refine tr_cond_t (decide ((↑(List.length r_2) : Int) > (2500 : Int))) (by kernel_rfl) hc3 ?_
      refine tr_seq ?_
      refine tr_reg hT [] [.s 6] [sB 6 true] [] (by kernel_rfl) trivial ?_
      refine q_k ?_
      refine tr_ret ?_
      refine q_k_ret ?_
      have h := Option.some.inj h
      subst h
      refine q_less [.s 6] [sB 6 true] (by kernel_rfl) ?_
      exact q_ret1 hT (.v (.one (.bool true))) [] (by kernel_rfl) (by kernel_rfl) (by kernel_rfl)
    · refine tr_cond_f (decide ((↑(List.length r_2) : Int) > (2500 : Int))) (by kernel_rfl) hc3 ?_
      refine tr_skip ?_
      refine q_k ?_
      refine tr_seq ?_
      obtain ⟨a4, e5, h⟩ := bind_some h
      obtain ⟨a6, e7, h⟩ := bind_some h
      refine tr_regd hT hM [(1, .call [9000] (.v (.one (.slc 1))) [(1, .own 5 .u8 a4)]), (4, .call [9001] (.v (.one (.slc 2))) [(2, .own 5 .u8 a6)])] [.s 0, .s 2, .s 4, .s 7, .s 8, .h 0, .h 1, .h 2, .h 9000, .h 9001] [sO 0 (.slc 9000), sI 2 .i64 at_3, sO 4 (.ptr 0 0), sO 7 (.slc 1), sO 8 (.slc 2), hB 0 41 [.int .i64 r_1, .slc 9001], hO 1 5 .u8 a4, hO 2 5 .u8 a6, hR 9000 .u8 b_0, hR 9001 .u8 r_2] [CallOk P 23 [.v (.one (.slc 9000))] [(9000, .rd .u8 b_0)] (.v (.one (.slc 1))) [(1, .own 5 .u8 a4)], CallOk P 23 [.v (.one (.slc 9001))] [(9001, .rd .u8 r_2)] (.v (.one (.slc 2))) [(2, .own 5 .u8 a6)]] (by kernel_rfl) (hcons ((keep_Twin_ok b_0 a4 e5).tr [(9000, .slc 9000), (8900, .slc 1)] rfl (by kernel_rfl) ⟨.rd (by kernel_rfl), trivial⟩ (by kernel_rfl) (by kernel_rfl) rfl rfl) (hone ((keep_Twin_ok r_2 a6 e7).tr [(9000, .slc 9001), (8900, .slc 2)] rfl (by kernel_rfl) ⟨.rd (by kernel_rfl), trivial⟩ (by kernel_rfl) (by kernel_rfl) rfl rfl))) ?_
      refine q_k ?_
      refine tr_seq ?_
      obtain ⟨⟨a8, r9⟩, e10, h⟩ := bind_some h
      refine tr_reg hT [(5, .call [1, 2] (.tup [.one (.slc 3), .one (.int .i64 r9)]) [(3, .own 5 .u8 a8)])] [.s 0, .s 2, .s 4, .s 7, .s 8, .s 9, .s 10, .h 0, .h 1, .h 2, .h 3, .h 9000, .h 9001] [sO 0 (.slc 9000), sI 2 .i64 at_3, sO 4 (.ptr 0 0), sO 7 (.slc 1), sO 8 (.slc 2), sO 9 (.slc 3), sI 10 .i64 r9, hB 0 41 [.int .i64 r_1, .slc 9001], hO 1 5 .u8 a4, hO 2 5 .u8 a6, hO 3 5 .u8 a8, hR 9000 .u8 b_0, hR 9001 .u8 r_2] [CallOk P 32 [.v (.one (.slc 1)), .v (.agg [.int .i64 r_1, .slc 2])] [(1, .own 5 .u8 a4), (2, .own 5 .u8 a6)] (.tup [.one (.slc 3), .one (.int .i64 r9)]) [(3, .own 5 .u8 a8)]] (by kernel_rfl) (hone ((frame_Put_ok a4 r_1 a6 (a8, r9) e10).tr [(9000, .slc 1), (9001, .slc 2), (8900, .slc 3)] rfl (by kernel_rfl) ⟨.ownrd (e := 5) (by kernel_rfl), .ownrd (e := 5) (by kernel_rfl), trivial⟩ (by kernel_rfl) (by kernel_rfl) rfl rfl)) ?_
      refine q_k ?_
      refine tr_seq ?_
      obtain ⟨r12, e13, h⟩ := bind_some h
      refine tr_reg hT [(1, .call [9001] (.v (.one (.int .i64 r12))) [])] [.s 0, .s 2, .s 4, .s 7, .s 8, .s 9, .s 10, .s 11, .h 0, .h 1, .h 2, .h 3, .h 9000, .h 9001] [sO 0 (.slc 9000), sI 2 .i64 at_3, sO 4 (.ptr 0 0), sO 7 (.slc 1), sO 8 (.slc 2), sO 9 (.slc 3), sI 10 .i64 r9, sI 11 .i64 r12, hB 0 41 [.int .i64 r_1, .slc 9001], hO 1 5 .u8 a4, hO 2 5 .u8 a6, hO 3 5 .u8 a8, hR 9000 .u8 b_0, hR 9001 .u8 r_2] [CallOk P 33 [.v (.agg [.int .i64 r_1, .slc 9001])] [(9001, .rd .u8 r_2)] (.v (.one (.int .i64 r12))) []] (by kernel_rfl) (hone ((ref14_Rec_ok r_1 r_2 r12 e13).tr [(9000, .slc 9001)] rfl (by kernel_rfl) ⟨.rd (by kernel_rfl), trivial⟩ (by kernel_rfl) (by kernel_rfl) rfl rfl)) ?_
      refine q_k ?_
      refine tr_seq ?_
      refine tr_seq ?_
      rcases ite_split h with ⟨hb14, h⟩ | ⟨hb15, h⟩
      · refine tr_regd hT hM [(3, .dec true)] [.s 0, .s 2, .s 4, .s 7, .s 8, .s 9, .s 72, .h 0, .h 1, .h 2, .h 3, .h 9000, .h 9001] [sO 0 (.slc 9000), sI 2 .i64 at_3, sO 4 (.ptr 0 0), sO 7 (.slc 1), sO 8 (.slc 2), sO 9 (.slc 3), sB 72 true, hB 0 41 [.int .i64 r_1, .slc 9001], hO 1 5 .u8 a4, hO 2 5 .u8 a6, hO 3 5 .u8 a8, hR 9000 .u8 b_0, hR 9001 .u8 r_2] [(r9 != r12) = true] (by kernel_rfl) (hone hb14) ?_
        refine q_k ?_
        refine tr_cond_t true (by kernel_rfl) rfl ?_
        refine tr_seq ?_
        refine tr_reg hT [] [.s 6] [sB 6 false] [] (by kernel_rfl) trivial ?_
        refine q_k ?_
        refine tr_ret ?_
        refine q_k_ret ?_
        have h := Option.some.inj h
        subst h
        refine q_less [.s 6] [sB 6 false] (by kernel_rfl) ?_
        exact q_ret1 hT (.v (.one (.bool false))) [] (by kernel_rfl) (by kernel_rfl) (by kernel_rfl)
      · rcases ite_split h with ⟨hb16, h⟩ | ⟨hb137, h⟩
        · rcases ite_split h with ⟨hb17, h⟩ | ⟨hb18, h⟩
          · refine tr_regd hT hM [(3, .dec false), (6, .dec true), (12, .dec true)] [.s 0, .s 2, .s 4, .s 7, .s 8, .s 9, .s 72, .h 0, .h 1, .h 2, .h 3, .h 9000, .h 9001] [sO 0 (.slc 9000), sI 2 .i64 at_3, sO 4 (.ptr 0 0), sO 7 (.slc 1), sO 8 (.slc 2), sO 9 (.slc 3), sB 72 true, hB 0 41 [.int .i64 r_1, .slc 9001], hO 1 5 .u8 a4, hO 2 5 .u8 a6, hO 3 5 .u8 a8, hR 9000 .u8 b_0, hR 9001 .u8 r_2] [(r9 != r12) = false, (r12 != (0 : Int)) = true, (decide ((↑(List.length a8) : Int) > (0 : Int))) = true] (by kernel_rfl) (hcons hb15 (hcons hb16 (hone hb17))) ?_
            refine q_k ?_
            refine tr_cond_t true (by kernel_rfl) rfl ?_
            refine tr_seq ?_
            refine tr_reg hT [] [.s 6] [sB 6 false] [] (by kernel_rfl) trivial ?_
            refine q_k ?_
            refine tr_ret ?_
            refine q_k_ret ?_
            have h := Option.some.inj h
            subst h
            refine q_less [.s 6] [sB 6 false] (by kernel_rfl) ?_
            exact q_ret1 hT (.v (.one (.bool false))) [] (by kernel_rfl) (by kernel_rfl) (by kernel_rfl)
          · rcases ite_split h with ⟨hb19, h⟩ | ⟨hb82, h⟩
            · obtain ⟨a20, e21, h⟩ := bind_some h
              obtain ⟨a22, e23, h⟩ := bind_some h
              obtain ⟨hn24, h⟩ := ite_some h
              obtain ⟨b25, e26, h⟩ := bind_some h
              refine tr_regd hT hM [(3, .dec false), (6, .dec true), (12, .dec false), (15, .dec true), (18, .call [9000] (.v (.one (.slc 4))) [(4, .own 5 .u8 a20)]), (20, .call [9001] (.v (.one (.slc 5))) [(5, .own 5 .u8 a22)]), (21, .key 6), (22, .call [3, 6] (.v (.one (.bool b25))) [])] [.s 0, .s 2, .s 4, .s 7, .s 8, .s 9, .s 72, .h 0, .h 1, .h 2, .h 3, .h 9000, .h 9001] [sO 0 (.slc 9000), sI 2 .i64 at_3, sO 4 (.ptr 0 0), sO 7 (.slc 1), sO 8 (.slc 2), sO 9 (.slc 3), sB 72 (!b25), hB 0 41 [.int .i64 r_1, .slc 9001], hO 1 5 .u8 a4, hO 2 5 .u8 a6, hO 3 5 .u8 a8, hR 9000 .u8 b_0, hR 9001 .u8 r_2] [(r9 != r12) = false, (r12 != (0 : Int)) = true, (decide ((↑(List.length a8) : Int) > (0 : Int))) = false, (r12 == (0 : Int)) = true, CallOk P 23 [.v (.one (.slc 9000))] [(9000, .rd .u8 b_0)] (.v (.one (.slc 4))) [(4, .own 5 .u8 a20)], CallOk P 34 [.v (.agg [.int .i64 r_1, .slc 9001])] [(9001, .rd .u8 r_2)] (.v (.one (.slc 5))) [(5, .own 5 .u8 a22)], List.length (a20 ++ a22) ≤ maxN, CallOk P 26 [.v (.one (.slc 3)), .v (.one (.slc 6))] [(3, .own 5 .u8 a8), (6, .own 5 .u8 (a20 ++ a22))] (.v (.one (.bool b25))) []] (by kernel_rfl) (hcons hb15 (hcons hb16 (hcons hb18 (hcons hb19 (hcons ((keep_Twin_ok b_0 a20 e21).tr [(9000, .slc 9000), (8900, .slc 4)] rfl (by kernel_rfl) ⟨.rd (by kernel_rfl), trivial⟩ (by kernel_rfl) (by kernel_rfl) rfl rfl) (hcons ((ref14_Frame_ok r_1 r_2 a22 e23).tr [(9000, .slc 9001), (8900, .slc 5)] rfl (by kernel_rfl) ⟨.rd (by kernel_rfl), trivial⟩ (by kernel_rfl) (by kernel_rfl) rfl rfl) (hcons hn24 (hone ((keep_Bytes_ok a8 (a20 ++ a22) b25 e26).tr [(9000, .slc 3), (9001, .slc 6)] rfl (by kernel_rfl) ⟨.ownrd (e := 5) (by kernel_rfl), .ownrd (e := 5) (by kernel_rfl), trivial⟩ (by kernel_rfl) (by kernel_rfl) rfl rfl))))))))) ?_
              refine q_k ?_
              rcases ite_split h with ⟨hc27, h⟩ | ⟨hc27, h⟩
              · refine tr_cond_t (!b25) (by kernel_rfl) hc27 ?_
                refine tr_seq ?_
                refine tr_reg hT [] [.s 6] [sB 6 false] [] (by kernel_rfl) trivial ?_
                refine q_k ?_
                refine tr_ret ?_
                refine q_k_ret ?_
                have h := Option.some.inj h
                subst h
                refine q_less [.s 6] [sB 6 false] (by kernel_rfl) ?_
                exact q_ret1 hT (.v (.one (.bool false))) [] (by kernel_rfl) (by kernel_rfl) (by kernel_rfl)
              · refine tr_cond_f (!b25) (by kernel_rfl) hc27 ?_
                refine tr_skip ?_
                refine q_k ?_
                refine tr_seq ?_
                obtain ⟨a28, e29, h⟩ := bind_some h
                refine tr_reg hT [(1, .call [3] (.tup []) [(3, .own 5 .u8 a28)])] [.s 0, .s 2, .s 4, .s 7, .s 8, .h 0, .h 1, .h 2, .h 9000, .h 9001] [sO 0 (.slc 9000), sI 2 .i64 at_3, sO 4 (.ptr 0 0), sO 7 (.slc 1), sO 8 (.slc 2), hB 0 41 [.int .i64 r_1, .slc 9001], hO 1 5 .u8 a4, hO 2 5 .u8 a6, hR 9000 .u8 b_0, hR 9001 .u8 r_2] [CallOk P 35 [.v (.one (.slc 3))] [(3, .own 5 .u8 a8)] (.tup []) [(3, .own 5 .u8 a28)]] (by kernel_rfl) (hone ((keep_SpoilBytes_ok a8 a28 e29).tr [(9000, .slc 3)] rfl (by kernel_rfl) ⟨.own (by kernel_rfl), trivial⟩ (by kernel_rfl) (by kernel_rfl) rfl rfl)) ?_
                refine q_k ?_
                refine tr_seq ?_
                obtain ⟨⟨r30, a31, r32, r33⟩, e34, h⟩ := bind_some h
                refine tr_reg hT [(2, .call [1] (.tup [.agg [.int .i64 r30, .slc 7], .one (.int .i64 r32), .one (.int .i64 r33)]) [(7, .own 5 .u8 a31)]), (7, .key 8)] [.s 0, .s 2, .s 4, .s 7, .s 8, .s 10, .s 12, .s 13, .h 0, .h 1, .h 2, .h 7, .h 8, .h 9000, .h 9001] [sO 0 (.slc 9000), sI 2 .i64 at_3, sO 4 (.ptr 0 0), sO 7 (.slc 1), sO 8 (.slc 2), sI 10 .i64 r33, sO 12 (.ptr 8 0), sI 13 .i64 r32, hB 0 41 [.int .i64 r_1, .slc 9001], hO 1 5 .u8 a4, hO 2 5 .u8 a6, hO 7 5 .u8 a31, hB 8 41 [.int .i64 r30, .slc 7], hR 9000 .u8 b_0, hR 9001 .u8 r_2] [CallOk P 36 [.v (.one (.slc 1)), .v (.one (.int .i64 at_3))] [(1, .own 5 .u8 a4)] (.tup [.agg [.int .i64 r30, .slc 7], .one (.int .i64 r32), .one (.int .i64 r33)]) [(7, .own 5 .u8 a31)]] (by kernel_rfl) (hone ((frame_Get_ok a4 at_3 (r30, a31, r32, r33) e34).tr [(9000, .slc 1), (8900, .slc 7)] rfl (by kernel_rfl) ⟨.ownrd (e := 5) (by kernel_rfl), trivial⟩ (by kernel_rfl) (by kernel_rfl) rfl rfl)) ?_
                refine q_k ?_
                refine tr_seq ?_
                obtain ⟨⟨r36, a37, r38, r39⟩, e40, h⟩ := bind_some h
                refine tr_reg hT [(2, .call [9000] (.tup [.agg [.int .i64 r36, .slc 9], .one (.int .i64 r38), .one (.int .i64 r39)]) [(9, .own 5 .u8 a37)]), (7, .key 10)] [.s 0, .s 4, .s 7, .s 8, .s 10, .s 12, .s 13, .s 14, .s 15, .s 16, .h 0, .h 1, .h 2, .h 7, .h 8, .h 9, .h 10, .h 9000, .h 9001] [sO 0 (.slc 9000), sO 4 (.ptr 0 0), sO 7 (.slc 1), sO 8 (.slc 2), sI 10 .i64 r33, sO 12 (.ptr 8 0), sI 13 .i64 r32, sO 14 (.ptr 10 0), sI 15 .i64 r38, sI 16 .i64 r39, hB 0 41 [.int .i64 r_1, .slc 9001], hO 1 5 .u8 a4, hO 2 5 .u8 a6, hO 7 5 .u8 a31, hB 8 41 [.int .i64 r30, .slc 7], hO 9 5 .u8 a37, hB 10 41 [.int .i64 r36, .slc 9], hR 9000 .u8 b_0, hR 9001 .u8 r_2] [CallOk P 37 [.v (.one (.slc 9000)), .v (.one (.int .i64 at_3))] [(9000, .rd .u8 b_0)] (.tup [.agg [.int .i64 r36, .slc 9], .one (.int .i64 r38), .one (.int .i64 r39)]) [(9, .own 5 .u8 a37)]] (by kernel_rfl) (hone ((ref14_Get_ok b_0 at_3 (r36, a37, r38, r39) e40).tr [(9000, .slc 9000), (8900, .slc 9)] rfl (by kernel_rfl) ⟨.rd (by kernel_rfl), trivial⟩ (by kernel_rfl) (by kernel_rfl) rfl rfl)) ?_
                refine q_k ?_
                refine tr_seq ?_
                refine tr_seq ?_
                rcases ite_split h with ⟨hb42, h⟩ | ⟨hb43, h⟩
                · refine tr_reg hT [(3, .dec true)] [.s 0, .s 4, .s 7, .s 8, .s 12, .s 104, .h 0, .h 1, .h 2, .h 7, .h 8, .h 9000, .h 9001] [sO 0 (.slc 9000), sO 4 (.ptr 0 0), sO 7 (.slc 1), sO 8 (.slc 2), sO 12 (.ptr 8 0), sB 104 true, hB 0 41 [.int .i64 r_1, .slc 9001], hO 1 5 .u8 a4, hO 2 5 .u8 a6, hO 7 5 .u8 a31, hB 8 41 [.int .i64 r30, .slc 7], hR 9000 .u8 b_0, hR 9001 .u8 r_2] [(r33 != r39) = true] (by kernel_rfl) (hone hb42) ?_
                  refine q_k ?_
                  refine tr_cond_t true (by kernel_rfl) rfl ?_
                  refine tr_seq ?_
                  refine tr_reg hT [] [.s 6] [sB 6 false] [] (by kernel_rfl) trivial ?_
                  refine q_k ?_
                  refine tr_ret ?_
                  refine q_k_ret ?_
                  have h := Option.some.inj h
                  subst h
                  refine q_less [.s 6] [sB 6 false] (by kernel_rfl) ?_
                  exact q_ret1 hT (.v (.one (.bool false))) [] (by kernel_rfl) (by kernel_rfl) (by kernel_rfl)
                · rcases ite_split h with ⟨hb44, h⟩ | ⟨hb45, h⟩
                  · refine tr_reg hT [(3, .dec false), (8, .dec true)] [.s 0, .s 4, .s 7, .s 8, .s 12, .s 104, .h 0, .h 1, .h 2, .h 7, .h 8, .h 9000, .h 9001] [sO 0 (.slc 9000), sO 4 (.ptr 0 0), sO 7 (.slc 1), sO 8 (.slc 2), sO 12 (.ptr 8 0), sB 104 true, hB 0 41 [.int .i64 r_1, .slc 9001], hO 1 5 .u8 a4, hO 2 5 .u8 a6, hO 7 5 .u8 a31, hB 8 41 [.int .i64 r30, .slc 7], hR 9000 .u8 b_0, hR 9001 .u8 r_2] [(r33 != r39) = false, (r32 != r38) = true] (by kernel_rfl) (hcons hb43 (hone hb44)) ?_
                    refine q_k ?_
                    refine tr_cond_t true (by kernel_rfl) rfl ?_
                    refine tr_seq ?_
                    refine tr_reg hT [] [.s 6] [sB 6 false] [] (by kernel_rfl) trivial ?_
                    refine q_k ?_
                    refine tr_ret ?_
                    refine q_k_ret ?_
                    have h := Option.some.inj h
                    subst h
                    refine q_less [.s 6] [sB 6 false] (by kernel_rfl) ?_
                    exact q_ret1 hT (.v (.one (.bool false))) [] (by kernel_rfl) (by kernel_rfl) (by kernel_rfl)
                  · obtain ⟨b46, e47, h⟩ := bind_some h
                    refine tr_reg hT [(3, .dec false), (8, .dec false), (10, .lk 11), (12, .lk 12), (13, .call [11, 12, 7, 9] (.v (.one (.bool b46))) [])] [.s 0, .s 4, .s 7, .s 8, .s 12, .s 104, .h 0, .h 1, .h 2, .h 7, .h 8, .h 9000, .h 9001] [sO 0 (.slc 9000), sO 4 (.ptr 0 0), sO 7 (.slc 1), sO 8 (.slc 2), sO 12 (.ptr 8 0), sB 104 (!b46), hB 0 41 [.int .i64 r_1, .slc 9001], hO 1 5 .u8 a4, hO 2 5 .u8 a6, hO 7 5 .u8 a31, hB 8 41 [.int .i64 r30, .slc 7], hR 9000 .u8 b_0, hR 9001 .u8 r_2] [(r33 != r39) = false, (r32 != r38) = false, CallOk P 38 [.v (.one (.slc 11)), .v (.one (.slc 12))] [(11, .lit 41 1 [.int .i64 r30, .slc 7]), (12, .lit 41 1 [.int .i64 r36, .slc 9]), (7, .own 5 .u8 a31), (9, .own 5 .u8 a37)] (.v (.one (.bool b46))) []] (by kernel_rfl) (hcons hb43 (hcons hb45 (hone ((keep_Recs_ok [(r30, a31)] [(r36, a37)] b46 e47).tr [(9000, .slc 11), (9001, .slc 12)] rfl (by kernel_rfl) ⟨.litrc (κ1 := 7) (e := 41) (e1 := 5) (by kernel_rfl) (by kernel_rfl), .litrc (κ1 := 9) (e := 41) (e1 := 5) (by kernel_rfl) (by kernel_rfl), trivial⟩ (by kernel_rfl) (by kernel_rfl) rfl rfl)))) ?_
                    refine q_k ?_
                    rcases ite_split h with ⟨hc48, h⟩ | ⟨hc48, h⟩
                    · refine tr_cond_t (!b46) (by kernel_rfl) hc48 ?_
                      refine tr_seq ?_
                      refine tr_reg hT [] [.s 6] [sB 6 false] [] (by kernel_rfl) trivial ?_
                      refine q_k ?_
                      refine tr_ret ?_
                      refine q_k_ret ?_
                      have h := Option.some.inj h
                      subst h
                      refine q_less [.s 6] [sB 6 false] (by kernel_rfl) ?_
                      exact q_ret1 hT (.v (.one (.bool false))) [] (by kernel_rfl) (by kernel_rfl) (by kernel_rfl)
                    · refine tr_cond_f (!b46) (by kernel_rfl) hc48 ?_
                      refine tr_skip ?_
                      refine q_k ?_
                      refine tr_seq ?_
                      obtain ⟨a49, e50, h⟩ := bind_some h
                      refine tr_reg hT [(2, .call [7] (.tup []) [(7, .own 5 .u8 a49)])] [.s 0, .s 4, .s 7, .s 8, .h 0, .h 1, .h 2, .h 9000, .h 9001] [sO 0 (.slc 9000), sO 4 (.ptr 0 0), sO 7 (.slc 1), sO 8 (.slc 2), hB 0 41 [.int .i64 r_1, .slc 9001], hO 1 5 .u8 a4, hO 2 5 .u8 a6, hR 9000 .u8 b_0, hR 9001 .u8 r_2] [CallOk P 35 [.v (.one (.slc 7))] [(7, .own 5 .u8 a31)] (.tup []) [(7, .own 5 .u8 a49)]] (by kernel_rfl) (hone ((keep_SpoilBytes_ok a31 a49 e50).tr [(9000, .slc 7)] rfl (by kernel_rfl) ⟨.own (by kernel_rfl), trivial⟩ (by kernel_rfl) (by kernel_rfl) rfl rfl)) ?_
                      refine q_k ?_
                      refine tr_seq ?_
                      obtain ⟨⟨a51, r52⟩, e53, h⟩ := bind_some h
                      refine tr_reg hT [(1, .call [1] (.tup [.one (.slc 13), .one (.int .i64 r52)]) [(13, .frows 41 5 (0 : Int) (.rc a51))])] [.s 0, .s 4, .s 7, .s 8, .s 17, .s 18, .h 0, .h 1, .h 2, .h 13, .h 9000, .h 9001] [sO 0 (.slc 9000), sO 4 (.ptr 0 0), sO 7 (.slc 1), sO 8 (.slc 2), sO 17 (.slc 13), sI 18 .i64 r52, hB 0 41 [.int .i64 r_1, .slc 9001], hO 1 5 .u8 a4, hO 2 5 .u8 a6, hE 13 41 5 (0 : Int) (.rc a51), hR 9000 .u8 b_0, hR 9001 .u8 r_2] [CallOk P 39 [.v (.one (.slc 1))] [(1, .own 5 .u8 a4)] (.tup [.one (.slc 13), .one (.int .i64 r52)]) [(13, .frows 41 5 (0 : Int) (.rc a51))]] (by kernel_rfl) (hone ((frame_Split_ok a4 (a51, r52) e53).tr [(9000, .slc 1), (8900, .slc 13)] rfl (by kernel_rfl) ⟨.ownrd (e := 5) (by kernel_rfl), trivial⟩ (by kernel_rfl) (by kernel_rfl) rfl rfl)) ?_
                      refine q_k ?_
                      refine tr_seq ?_
                      obtain ⟨⟨a55, r56⟩, e57, h⟩ := bind_some h
                      refine tr_reg hT [(1, .call [9000] (.tup [.one (.slc 14), .one (.int .i64 r56)]) [(14, .orows 41 (.rc a55))])] [.s 0, .s 4, .s 7, .s 8, .s 17, .s 18, .s 19, .s 20, .h 0, .h 1, .h 2, .h 13, .h 14, .h 9000, .h 9001] [sO 0 (.slc 9000), sO 4 (.ptr 0 0), sO 7 (.slc 1), sO 8 (.slc 2), sO 17 (.slc 13), sI 18 .i64 r52, sO 19 (.slc 14), sI 20 .i64 r56, hB 0 41 [.int .i64 r_1, .slc 9001], hO 1 5 .u8 a4, hO 2 5 .u8 a6, hE 13 41 5 (0 : Int) (.rc a51), hV 14 41 (.rc a55), hR 9000 .u8 b_0, hR 9001 .u8 r_2] [CallOk P 40 [.v (.one (.slc 9000))] [(9000, .rd .u8 b_0)] (.tup [.one (.slc 14), .one (.int .i64 r56)]) [(14, .orows 41 (.rc a55))]] (by kernel_rfl) (hone ((ref14_Split_ok b_0 (a55, r56) e57).tr [(9000, .slc 9000), (8900, .slc 14)] rfl (by kernel_rfl) ⟨.rd (by kernel_rfl), trivial⟩ (by kernel_rfl) (by kernel_rfl) rfl rfl)) ?_
                      refine q_k ?_
                      refine tr_seq ?_
                      refine tr_seq ?_
                      rcases ite_split h with ⟨hb59, h⟩ | ⟨hb60, h⟩
                      · refine tr_reg hT [(3, .dec true)] [.s 0, .s 4, .s 7, .s 8, .s 17, .s 126, .h 0, .h 1, .h 2, .h 13, .h 9000, .h 9001] [sO 0 (.slc 9000), sO 4 (.ptr 0 0), sO 7 (.slc 1), sO 8 (.slc 2), sO 17 (.slc 13), sB 126 true, hB 0 41 [.int .i64 r_1, .slc 9001], hO 1 5 .u8 a4, hO 2 5 .u8 a6, hE 13 41 5 (0 : Int) (.rc a51), hR 9000 .u8 b_0, hR 9001 .u8 r_2] [(r52 != r56) = true] (by kernel_rfl) (hone hb59) ?_
                        refine q_k ?_
                        refine tr_cond_t true (by kernel_rfl) rfl ?_
                        refine tr_seq ?_
                        refine tr_reg hT [] [.s 6] [sB 6 false] [] (by kernel_rfl) trivial ?_
                        refine q_k ?_
                        refine tr_ret ?_
                        refine q_k_ret ?_
                        have h := Option.some.inj h
                        subst h
                        refine q_less [.s 6] [sB 6 false] (by kernel_rfl) ?_
                        exact q_ret1 hT (.v (.one (.bool false))) [] (by kernel_rfl) (by kernel_rfl) (by kernel_rfl)
                      · obtain ⟨b61, e62, h⟩ := bind_some h
                        refine tr_reg hT [(3, .dec false), (6, .call [13, 14] (.v (.one (.bool b61))) [])] [.s 0, .s 4, .s 7, .s 8, .s 17, .s 126, .h 0, .h 1, .h 2, .h 13, .h 9000, .h 9001] [sO 0 (.slc 9000), sO 4 (.ptr 0 0), sO 7 (.slc 1), sO 8 (.slc 2), sO 17 (.slc 13), sB 126 (!b61), hB 0 41 [.int .i64 r_1, .slc 9001], hO 1 5 .u8 a4, hO 2 5 .u8 a6, hE 13 41 5 (0 : Int) (.rc a51), hR 9000 .u8 b_0, hR 9001 .u8 r_2] [(r52 != r56) = false, CallOk P 38 [.v (.one (.slc 13)), .v (.one (.slc 14))] [(13, .frows 41 5 (0 : Int) (.rc a51)), (14, .orows 41 (.rc a55))] (.v (.one (.bool b61))) []] (by kernel_rfl) (hcons hb60 (hone ((keep_Recs_ok a51 a55 b61 e62).tr [(9000, .slc 13), (9001, .slc 14)] rfl (by kernel_rfl) ⟨.frowsr (e := 41) (eb := 5) (by kernel_rfl), .orowsr (e := 41) (by kernel_rfl), trivial⟩ (by kernel_rfl) (by kernel_rfl) rfl rfl))) ?_
                        refine q_k ?_
                        rcases ite_split h with ⟨hc63, h⟩ | ⟨hc63, h⟩
                        · refine tr_cond_t (!b61) (by kernel_rfl) hc63 ?_
                          refine tr_seq ?_
                          refine tr_reg hT [] [.s 6] [sB 6 false] [] (by kernel_rfl) trivial ?_
                          refine q_k ?_
                          refine tr_ret ?_
                          refine q_k_ret ?_
                          have h := Option.some.inj h
                          subst h
                          refine q_less [.s 6] [sB 6 false] (by kernel_rfl) ?_
                          exact q_ret1 hT (.v (.one (.bool false))) [] (by kernel_rfl) (by kernel_rfl) (by kernel_rfl)
                        · refine tr_cond_f (!b61) (by kernel_rfl) hc63 ?_
                          refine tr_skip ?_
                          refine q_k ?_
                          refine tr_seq ?_
                          refine tr_seq ?_
                          refine tr_reg hT [] [.s 0, .s 4, .s 7, .s 8, .s 17, .s 21, .h 0, .h 1, .h 2, .h 13, .h 9000, .h 9001] [sO 0 (.slc 9000), sO 4 (.ptr 0 0), sO 7 (.slc 1), sO 8 (.slc 2), sO 17 (.slc 13), sI 21 .i64 (0 : Int), hB 0 41 [.int .i64 r_1, .slc 9001], hO 1 5 .u8 a4, hO 2 5 .u8 a6, hE 13 41 5 (0 : Int) (.rc a51), hR 9000 .u8 b_0, hR 9001 .u8 r_2] [] (by kernel_rfl) trivial ?_
                          refine q_k ?_
                          refine tr_block ?_
                          obtain ⟨rr0, e71, h⟩ := bind_some h
                          refine tr_fit [] [sO 0 (.slc 9000), sO 4 (.ptr 0 0), sO 7 (.slc 1), sO 8 (.slc 2), sO 17 (.slc 13), sI 21 .i64 (0 : Int), hB 0 41 [.int .i64 r_1, .slc 9001], hO 1 5 .u8 a4, hO 2 5 .u8 a6, hE 13 41 5 (0 : Int) (.rc a51), hR 9000 .u8 b_0, hR 9001 .u8 r_2] [(0, .blk 41 [.int .i64 r_1, .slc 9001]), (1, .own 5 .u8 a4), (2, .own 5 .u8 a6), (13, .frows 41 5 (0 : Int) (.rc a51)), (9000, .rd .u8 b_0), (9001, .rd .u8 r_2)] (by kernel_rfl) (by kernel_rfl) (by kernel_rfl) rfl ⟨.blk (by kernel_rfl) (by kernel_rfl), .own (by kernel_rfl), .own (by kernel_rfl), .frows (by kernel_rfl), .rd (by kernel_rfl), .rd (by kernel_rfl), trivial⟩ (by kernel_rfl) ?_
                          refine tr_loop_fuel (id := 0) (α := Int × Int) (β := Unit) (fun z => [sO 0 (.slc 9000), sO 4 (.ptr 0 0), sO 7 (.slc 1), sO 8 (.slc 2), sO 17 (.slc 13), sI 21 .i64 z.2, hB 0 41 [.int .i64 r_1, .slc 9001], hO 1 5 .u8 a4, hO 2 5 .u8 a6, hE 13 41 5 z.1 (.rc a51), hR 9000 .u8 b_0, hR 9001 .u8 r_2]) (fun z => [sO 0 (.slc 9000), sO 4 (.ptr 0 0), sO 7 (.slc 1), sO 8 (.slc 2), hB 0 41 [.int .i64 r_1, .slc 9001], hO 1 5 .u8 a4, hO 2 5 .u8 a6, hR 9000 .u8 b_0, hR 9001 .u8 r_2]) (fun k z => law15_FrameExact_l0 b_0 r_1 r_2 a4 a6 a51 k z.1 z.2) rr0 (fun _ => rfl) (((↑(List.length a51) : Int) - (0 : Int)).toNat + 1) ((0 : Int), (0 : Int)) e71 ?_ ?_
                          · rcases rr0 with _
                            replace h : ((keep_Bytes a4 b_0).bind (fun b72 => if b72 = true then (keep_Bytes a6 r_2).bind (fun b75 => if b75 = true then (law15_wakes).bind (fun b78 => some b78) else some false) else some false)) = _ := h
                            refine q_b_this ?_
                            refine q_k ?_
                            refine tr_seq ?_
                            obtain ⟨b72, e73, h⟩ := bind_some h
                            rcases ite_split h with ⟨hb74, h⟩ | ⟨hb81, h⟩
                            · obtain ⟨b75, e76, h⟩ := bind_some h
                              rcases ite_split h with ⟨hb77, h⟩ | ⟨hb80, h⟩
                              · obtain ⟨b78, e79, h⟩ := bind_some h
                                refine tr_reg hT [(2, .call [1, 9000] (.v (.one (.bool b72))) []), (3, .dec true), (7, .call [2, 9001] (.v (.one (.bool b75))) []), (9, .dec true), (10, .call [] (.v (.one (.bool b78))) [])] [.s 6] [sB 6 b78] [CallOk P 26 [.v (.one (.slc 1)), .v (.one (.slc 9000))] [(1, .own 5 .u8 a4), (9000, .rd .u8 b_0)] (.v (.one (.bool b72))) [], b72 = true, CallOk P 26 [.v (.one (.slc 2)), .v (.one (.slc 9001))] [(2, .own 5 .u8 a6), (9001, .rd .u8 r_2)] (.v (.one (.bool b75))) [], b75 = true, CallOk P 41 [] [] (.v (.one (.bool b78))) []] (by kernel_rfl) (hcons ((keep_Bytes_ok a4 b_0 b72 e73).tr [(9000, .slc 1), (9001, .slc 9000)] rfl (by kernel_rfl) ⟨.ownrd (e := 5) (by kernel_rfl), .rd (by kernel_rfl), trivial⟩ (by kernel_rfl) (by kernel_rfl) rfl rfl) (hcons hb74 (hcons ((keep_Bytes_ok a6 r_2 b75 e76).tr [(9000, .slc 2), (9001, .slc 9001)] rfl (by kernel_rfl) ⟨.ownrd (e := 5) (by kernel_rfl), .rd (by kernel_rfl), trivial⟩ (by kernel_rfl) (by kernel_rfl) rfl rfl) (hcons hb77 (hone (law15_wakes_ok  b78 e79)))))) ?_
                                refine q_k ?_
                                refine tr_ret ?_
                                have h := Option.some.inj h
                                subst h
                                refine q_less [.s 6] [sB 6 b78] (by kernel_rfl) ?_
                                exact q_ret1 hT (.v (.one (.bool b78))) [] (by kernel_rfl) (by kernel_rfl) (by kernel_rfl)
                              · refine tr_reg hT [(2, .call [1, 9000] (.v (.one (.bool b72))) []), (3, .dec true), (7, .call [2, 9001] (.v (.one (.bool b75))) []), (9, .dec false)] [.s 6] [sB 6 false] [CallOk P 26 [.v (.one (.slc 1)), .v (.one (.slc 9000))] [(1, .own 5 .u8 a4), (9000, .rd .u8 b_0)] (.v (.one (.bool b72))) [], b72 = true, CallOk P 26 [.v (.one (.slc 2)), .v (.one (.slc 9001))] [(2, .own 5 .u8 a6), (9001, .rd .u8 r_2)] (.v (.one (.bool b75))) [], b75 = false] (by kernel_rfl) (hcons ((keep_Bytes_ok a4 b_0 b72 e73).tr [(9000, .slc 1), (9001, .slc 9000)] rfl (by kernel_rfl) ⟨.ownrd (e := 5) (by kernel_rfl), .rd (by kernel_rfl), trivial⟩ (by kernel_rfl) (by kernel_rfl) rfl rfl) (hcons hb74 (hcons ((keep_Bytes_ok a6 r_2 b75 e76).tr [(9000, .slc 2), (9001, .slc 9001)] rfl (by kernel_rfl) ⟨.ownrd (e := 5) (by kernel_rfl), .rd (by kernel_rfl), trivial⟩ (by kernel_rfl) (by kernel_rfl) rfl rfl) (hone hb80)))) ?_
                                refine q_k ?_
                                refine tr_ret ?_
                                have h := Option.some.inj h
                                subst h
                                refine q_less [.s 6] [sB 6 false] (by kernel_rfl) ?_
                                exact q_ret1 hT (.v (.one (.bool false))) [] (by kernel_rfl) (by kernel_rfl) (by kernel_rfl)
                            · refine tr_reg hT [(2, .call [1, 9000] (.v (.one (.bool b72))) []), (3, .dec false)] [.s 6] [sB 6 false] [CallOk P 26 [.v (.one (.slc 1)), .v (.one (.slc 9000))] [(1, .own 5 .u8 a4), (9000, .rd .u8 b_0)] (.v (.one (.bool b72))) [], b72 = false] (by kernel_rfl) (hcons ((keep_Bytes_ok a4 b_0 b72 e73).tr [(9000, .slc 1), (9001, .slc 9000)] rfl (by kernel_rfl) ⟨.ownrd (e := 5) (by kernel_rfl), .rd (by kernel_rfl), trivial⟩ (by kernel_rfl) (by kernel_rfl) rfl rfl) (hone hb81)) ?_
                              refine q_k ?_
                              refine tr_ret ?_
                              have h := Option.some.inj h
                              subst h
                              refine q_less [.s 6] [sB 6 false] (by kernel_rfl) ?_
                              exact q_ret1 hT (.v (.one (.bool false))) [] (by kernel_rfl) (by kernel_rfl) (by kernel_rfl)
                          · clear h e71
                            intro k ih0 hx0 z h
                            obtain ⟨m64, i65⟩ := z
                            replace h : (if (decide (i65 < (↑(List.length a51) : Int))) = true then if 0 ≤ i65 ∧ i65 < ↑(List.length a51) then if m64 ≤ i65 then (keep_SpoilBytes ((a51.getD i65.toNat (0, [])).2)).bind (fun a69 => law15_FrameExact_l0 b_0 r_1 r_2 a4 a6 a51 k (i65 + 1) (IntKind.i64.wrap (i65 + (1 : Int)))) else none else none else some ()) = _ := h
                            refine tr_seq ?_
                            refine tr_seq ?_
                            refine tr_reg hT [] [.s 0, .s 4, .s 7, .s 8, .s 17, .s 21, .s 130, .h 0, .h 1, .h 2, .h 13, .h 9000, .h 9001] [sO 0 (.slc 9000), sO 4 (.ptr 0 0), sO 7 (.slc 1), sO 8 (.slc 2), sO 17 (.slc 13), sI 21 .i64 i65, sB 130 (decide (i65 < (↑(List.length a51) : Int))), hB 0 41 [.int .i64 r_1, .slc 9001], hO 1 5 .u8 a4, hO 2 5 .u8 a6, hE 13 41 5 m64 (.rc a51), hR 9000 .u8 b_0, hR 9001 .u8 r_2] [] (by kernel_rfl) trivial ?_
                            refine q_k ?_
                            rcases ite_split h with ⟨hc66, h⟩ | ⟨hc66, h⟩
                            · refine tr_cond_t (decide (i65 < (↑(List.length a51) : Int))) (by kernel_rfl) hc66 ?_
                              refine tr_skip ?_
                              refine q_k ?_
                              refine tr_seq ?_
                              refine tr_block ?_
                              obtain ⟨hn67, h⟩ := ite_some h
                              obtain ⟨hn68, h⟩ := ite_some h
                              obtain ⟨a69, e70, h⟩ := bind_some h
                              refine tr_reg hT [(4, .key 15), (5, .call [15] (.tup []) [(15, .own 5 .u8 a69)])] [.s 0, .s 4, .s 7, .s 8, .s 17, .s 21, .h 0, .h 1, .h 2, .h 13, .h 9000, .h 9001] [sO 0 (.slc 9000), sO 4 (.ptr 0 0), sO 7 (.slc 1), sO 8 (.slc 2), sO 17 (.slc 13), sI 21 .i64 i65, hB 0 41 [.int .i64 r_1, .slc 9001], hO 1 5 .u8 a4, hO 2 5 .u8 a6, hE 13 41 5 (i65 + 1) (.rc a51), hR 9000 .u8 b_0, hR 9001 .u8 r_2] [0 ≤ i65 ∧ i65 < ↑(List.length a51), 0 ≤ i65 ∧ i65 < ↑(List.length a51), i65 < ↑(List.length a51), m64 ≤ i65, CallOk P 35 [.v (.one (.slc 15))] [(15, .own 5 .u8 ((a51.getD i65.toNat (0, [])).2))] (.tup []) [(15, .own 5 .u8 a69)]] (by kernel_rfl) (hcons hn67 (hcons hn67 (hcons hn67.2 (hcons hn68 (hone ((keep_SpoilBytes_ok ((a51.getD i65.toNat (0, [])).2) a69 e70).tr [(9000, .slc 15)] rfl (by kernel_rfl) ⟨.own (by kernel_rfl), trivial⟩ (by kernel_rfl) (by kernel_rfl) rfl rfl)))))) ?_
                              refine q_b 1 ?_
                              refine q_k ?_
                              refine tr_reg hT [] [.s 0, .s 4, .s 7, .s 8, .s 17, .s 21, .h 0, .h 1, .h 2, .h 13, .h 9000, .h 9001] [sO 0 (.slc 9000), sO 4 (.ptr 0 0), sO 7 (.slc 1), sO 8 (.slc 2), sO 17 (.slc 13), sI 21 .i64 (IntKind.i64.wrap (i65 + (1 : Int))), hB 0 41 [.int .i64 r_1, .slc 9001], hO 1 5 .u8 a4, hO 2 5 .u8 a6, hE 13 41 5 (i65 + 1) (.rc a51), hR 9000 .u8 b_0, hR 9001 .u8 r_2] [] (by kernel_rfl) trivial ?_
                              refine q_kr ?_
                              exact trR_less [.s 0, .s 4, .s 7, .s 8, .s 17, .s 21, .h 0, .h 1, .h 2, .h 13, .h 9000, .h 9001] [sO 0 (.slc 9000), sO 4 (.ptr 0 0), sO 7 (.slc 1), sO 8 (.slc 2), sO 17 (.slc 13), sI 21 .i64 (IntKind.i64.wrap (i65 + (1 : Int))), hB 0 41 [.int .i64 r_1, .slc 9001], hO 1 5 .u8 a4, hO 2 5 .u8 a6, hE 13 41 5 (i65 + 1) (.rc a51), hR 9000 .u8 b_0, hR 9001 .u8 r_2] (by kernel_rfl) (ih0 ((i65 + 1), (IntKind.i64.wrap (i65 + (1 : Int)))) h)
                            · refine tr_cond_f (decide (i65 < (↑(List.length a51) : Int))) (by kernel_rfl) hc66 ?_
                              refine tr_exit ?_
                              refine q_k_exit ?_
                              refine q_kr_exit ?_
                              have h := Option.some.inj h
                              subst h
                              exact q_less [.s 0, .s 4, .s 7, .s 8, .h 0, .h 1, .h 2, .h 9000, .h 9001] [sO 0 (.slc 9000), sO 4 (.ptr 0 0), sO 7 (.slc 1), sO 8 (.slc 2), hB 0 41 [.int .i64 r_1, .slc 9001], hO 1 5 .u8 a4, hO 2 5 .u8 a6, hR 9000 .u8 b_0, hR 9001 .u8 r_2] (by kernel_rfl) hx0
            · refine tr_regd hT hM [(3, .dec false), (6, .dec true), (12, .dec false), (15, .dec false)] [.s 0, .s 2, .s 4, .s 7, .s 8, .s 9, .s 72, .h 0, .h 1, .h 2, .h 3, .h 9000, .h 9001] [sO 0 (.slc 9000), sI 2 .i64 at_3, sO 4 (.ptr 0 0), sO 7 (.slc 1), sO 8 (.slc 2), sO 9 (.slc 3), sB 72 false, hB 0 41 [.int .i64 r_1, .slc 9001], hO 1 5 .u8 a4, hO 2 5 .u8 a6, hO 3 5 .u8 a8, hR 9000 .u8 b_0, hR 9001 .u8 r_2] [(r9 != r12) = false, (r12 != (0 : Int)) = true, (decide ((↑(List.length a8) : Int) > (0 : Int))) = false, (r12 == (0 : Int)) = false] (by kernel_rfl) (hcons hb15 (hcons hb16 (hcons hb18 (hone hb82)))) ?_
              refine q_k ?_
              refine tr_cond_f false (by kernel_rfl) rfl ?_
              refine tr_skip ?_
              refine q_k ?_
              refine tr_seq ?_
              obtain ⟨a83, e84, h⟩ := bind_some h
              refine tr_reg hT [(1, .call [3] (.tup []) [(3, .own 5 .u8 a83)])] [.s 0, .s 2, .s 4, .s 7, .s 8, .h 0, .h 1, .h 2, .h 9000, .h 9001] [sO 0 (.slc 9000), sI 2 .i64 at_3, sO 4 (.ptr 0 0), sO 7 (.slc 1), sO 8 (.slc 2), hB 0 41 [.int .i64 r_1, .slc 9001], hO 1 5 .u8 a4, hO 2 5 .u8 a6, hR 9000 .u8 b_0, hR 9001 .u8 r_2] [CallOk P 35 [.v (.one (.slc 3))] [(3, .own 5 .u8 a8)] (.tup []) [(3, .own 5 .u8 a83)]] (by kernel_rfl) (hone ((keep_SpoilBytes_ok a8 a83 e84).tr [(9000, .slc 3)] rfl (by kernel_rfl) ⟨.own (by kernel_rfl), trivial⟩ (by kernel_rfl) (by kernel_rfl) rfl rfl)) ?_
              refine q_k ?_
              refine tr_seq ?_
              obtain ⟨⟨r85, a86, r87, r88⟩, e89, h⟩ := bind_some h
              refine tr_reg hT [(2, .call [1] (.tup [.agg [.int .i64 r85, .slc 16], .one (.int .i64 r87), .one (.int .i64 r88)]) [(16, .own 5 .u8 a86)]), (7, .key 17)] [.s 0, .s 2, .s 4, .s 7, .s 8, .s 10, .s 12, .s 13, .h 0, .h 1, .h 2, .h 16, .h 17, .h 9000, .h 9001] [sO 0 (.slc 9000), sI 2 .i64 at_3, sO 4 (.ptr 0 0), sO 7 (.slc 1), sO 8 (.slc 2), sI 10 .i64 r88, sO 12 (.ptr 17 0), sI 13 .i64 r87, hB 0 41 [.int .i64 r_1, .slc 9001], hO 1 5 .u8 a4, hO 2 5 .u8 a6, hO 16 5 .u8 a86, hB 17 41 [.int .i64 r85, .slc 16], hR 9000 .u8 b_0, hR 9001 .u8 r_2] [CallOk P 36 [.v (.one (.slc 1)), .v (.one (.int .i64 at_3))] [(1, .own 5 .u8 a4)] (.tup [.agg [.int .i64 r85, .slc 16], .one (.int .i64 r87), .one (.int .i64 r88)]) [(16, .own 5 .u8 a86)]] (by kernel_rfl) (hone ((frame_Get_ok a4 at_3 (r85, a86, r87, r88) e89).tr [(9000, .slc 1), (8900, .slc 16)] rfl (by kernel_rfl) ⟨.ownrd (e := 5) (by kernel_rfl), trivial⟩ (by kernel_rfl) (by kernel_rfl) rfl rfl)) ?_
              refine q_k ?_
              refine tr_seq ?_
              obtain ⟨⟨r91, a92, r93, r94⟩, e95, h⟩ := bind_some h
              refine tr_reg hT [(2, .call [9000] (.tup [.agg [.int .i64 r91, .slc 18], .one (.int .i64 r93), .one (.int .i64 r94)]) [(18, .own 5 .u8 a92)]), (7, .key 19)] [.s 0, .s 4, .s 7, .s 8, .s 10, .s 12, .s 13, .s 14, .s 15, .s 16, .h 0, .h 1, .h 2, .h 16, .h 17, .h 18, .h 19, .h 9000, .h 9001] [sO 0 (.slc 9000), sO 4 (.ptr 0 0), sO 7 (.slc 1), sO 8 (.slc 2), sI 10 .i64 r88, sO 12 (.ptr 17 0), sI 13 .i64 r87, sO 14 (.ptr 19 0), sI 15 .i64 r93, sI 16 .i64 r94, hB 0 41 [.int .i64 r_1, .slc 9001], hO 1 5 .u8 a4, hO 2 5 .u8 a6, hO 16 5 .u8 a86, hB 17 41 [.int .i64 r85, .slc 16], hO 18 5 .u8 a92, hB 19 41 [.int .i64 r91, .slc 18], hR 9000 .u8 b_0, hR 9001 .u8 r_2] [CallOk P 37 [.v (.one (.slc 9000)), .v (.one (.int .i64 at_3))] [(9000, .rd .u8 b_0)] (.tup [.agg [.int .i64 r91, .slc 18], .one (.int .i64 r93), .one (.int .i64 r94)]) [(18, .own 5 .u8 a92)]] (by kernel_rfl) (hone ((ref14_Get_ok b_0 at_3 (r91, a92, r93, r94) e95).tr [(9000, .slc 9000), (8900, .slc 18)] rfl (by kernel_rfl) ⟨.rd (by kernel_rfl), trivial⟩ (by kernel_rfl) (by kernel_rfl) rfl rfl)) ?_
              refine q_k ?_
              refine tr_seq ?_
              refine tr_seq ?_
              rcases ite_split h with ⟨hb97, h⟩ | ⟨hb98, h⟩
              · refine tr_reg hT [(3, .dec true)] [.s 0, .s 4, .s 7, .s 8, .s 12, .s 104, .h 0, .h 1, .h 2, .h 16, .h 17, .h 9000, .h 9001] [sO 0 (.slc 9000), sO 4 (.ptr 0 0), sO 7 (.slc 1), sO 8 (.slc 2), sO 12 (.ptr 17 0), sB 104 true, hB 0 41 [.int .i64 r_1, .slc 9001], hO 1 5 .u8 a4, hO 2 5 .u8 a6, hO 16 5 .u8 a86, hB 17 41 [.int .i64 r85, .slc 16], hR 9000 .u8 b_0, hR 9001 .u8 r_2] [(r88 != r94) = true] (by kernel_rfl) (hone hb97) ?_
                refine q_k ?_
                refine tr_cond_t true (by kernel_rfl) rfl ?_
                refine tr_seq ?_
                refine tr_reg hT [] [.s 6] [sB 6 false] [] (by kernel_rfl) trivial ?_
                refine q_k ?_
                refine tr_ret ?_
                refine q_k_ret ?_
                have h := Option.some.inj h
                subst h
                refine q_less [.s 6] [sB 6 false] (by kernel_rfl) ?_
                exact q_ret1 hT (.v (.one (.bool false))) [] (by kernel_rfl) (by kernel_rfl) (by kernel_rfl)
              · rcases ite_split h with ⟨hb99, h⟩ | ⟨hb100, h⟩
                · refine tr_reg hT [(3, .dec false), (8, .dec true)] [.s 0, .s 4, .s 7, .s 8, .s 12, .s 104, .h 0, .h 1, .h 2, .h 16, .h 17, .h 9000, .h 9001] [sO 0 (.slc 9000), sO 4 (.ptr 0 0), sO 7 (.slc 1), sO 8 (.slc 2), sO 12 (.ptr 17 0), sB 104 true, hB 0 41 [.int .i64 r_1, .slc 9001], hO 1 5 .u8 a4, hO 2 5 .u8 a6, hO 16 5 .u8 a86, hB 17 41 [.int .i64 r85, .slc 16], hR 9000 .u8 b_0, hR 9001 .u8 r_2] [(r88 != r94) = false, (r87 != r93) = true] (by kernel_rfl) (hcons hb98 (hone hb99)) ?_
                  refine q_k ?_
                  refine tr_cond_t true (by kernel_rfl) rfl ?_
                  refine tr_seq ?_
                  refine tr_reg hT [] [.s 6] [sB 6 false] [] (by kernel_rfl) trivial ?_
                  refine q_k ?_
                  refine tr_ret ?_
                  refine q_k_ret ?_
                  have h := Option.some.inj h
                  subst h
                  refine q_less [.s 6] [sB 6 false] (by kernel_rfl) ?_
                  exact q_ret1 hT (.v (.one (.bool false))) [] (by kernel_rfl) (by kernel_rfl) (by kernel_rfl)
                · obtain ⟨b101, e102, h⟩ := bind_some h
                  refine tr_reg hT [(3, .dec false), (8, .dec false), (10, .lk 20), (12, .lk 21), (13, .call [20, 21, 16, 18] (.v (.one (.bool b101))) [])] [.s 0, .s 4, .s 7, .s 8, .s 12, .s 104, .h 0, .h 1, .h 2, .h 16, .h 17, .h 9000, .h 9001] [sO 0 (.slc 9000), sO 4 (.ptr 0 0), sO 7 (.slc 1), sO 8 (.slc 2), sO 12 (.ptr 17 0), sB 104 (!b101), hB 0 41 [.int .i64 r_1, .slc 9001], hO 1 5 .u8 a4, hO 2 5 .u8 a6, hO 16 5 .u8 a86, hB 17 41 [.int .i64 r85, .slc 16], hR 9000 .u8 b_0, hR 9001 .u8 r_2] [(r88 != r94) = false, (r87 != r93) = false, CallOk P 38 [.v (.one (.slc 20)), .v (.one (.slc 21))] [(20, .lit 41 1 [.int .i64 r85, .slc 16]), (21, .lit 41 1 [.int .i64 r91, .slc 18]), (16, .own 5 .u8 a86), (18, .own 5 .u8 a92)] (.v (.one (.bool b101))) []] (by kernel_rfl) (hcons hb98 (hcons hb100 (hone ((keep_Recs_ok [(r85, a86)] [(r91, a92)] b101 e102).tr [(9000, .slc 20), (9001, .slc 21)] rfl (by kernel_rfl) ⟨.litrc (κ1 := 16) (e := 41) (e1 := 5) (by kernel_rfl) (by kernel_rfl), .litrc (κ1 := 18) (e := 41) (e1 := 5) (by kernel_rfl) (by kernel_rfl), trivial⟩ (by kernel_rfl) (by kernel_rfl) rfl rfl)))) ?_
                  refine q_k ?_
                  rcases ite_split h with ⟨hc103, h⟩ | ⟨hc103, h⟩
                  · refine tr_cond_t (!b101) (by kernel_rfl) hc103 ?_
                    refine tr_seq ?_
                    refine tr_reg hT [] [.s 6] [sB 6 false] [] (by kernel_rfl) trivial ?_
                    refine q_k ?_
                    refine tr_ret ?_
                    refine q_k_ret ?_
                    have h := Option.some.inj h
                    subst h
                    refine q_less [.s 6] [sB 6 false] (by kernel_rfl) ?_
                    exact q_ret1 hT (.v (.one (.bool false))) [] (by kernel_rfl) (by kernel_rfl) (by kernel_rfl)
                  · refine tr_cond_f (!b101) (by kernel_rfl) hc103 ?_
                    refine tr_skip ?_
                    refine q_k ?_
                    refine tr_seq ?_
                    obtain ⟨a104, e105, h⟩ := bind_some h
                    refine tr_reg hT [(2, .call [16] (.tup []) [(16, .own 5 .u8 a104)])] [.s 0, .s 4, .s 7, .s 8, .h 0, .h 1, .h 2, .h 9000, .h 9001] [sO 0 (.slc 9000), sO 4 (.ptr 0 0), sO 7 (.slc 1), sO 8 (.slc 2), hB 0 41 [.int .i64 r_1, .slc 9001], hO 1 5 .u8 a4, hO 2 5 .u8 a6, hR 9000 .u8 b_0, hR 9001 .u8 r_2] [CallOk P 35 [.v (.one (.slc 16))] [(16, .own 5 .u8 a86)] (.tup []) [(16, .own 5 .u8 a104)]] (by kernel_rfl) (hone ((keep_SpoilBytes_ok a86 a104 e105).tr [(9000, .slc 16)] rfl (by kernel_rfl) ⟨.own (by kernel_rfl), trivial⟩ (by kernel_rfl) (by kernel_rfl) rfl rfl)) ?_
                    refine q_k ?_
                    refine tr_seq ?_
                    obtain ⟨⟨a106, r107⟩, e108, h⟩ := bind_some h
                    refine tr_reg hT [(1, .call [1] (.tup [.one (.slc 22), .one (.int .i64 r107)]) [(22, .frows 41 5 (0 : Int) (.rc a106))])] [.s 0, .s 4, .s 7, .s 8, .s 17, .s 18, .h 0, .h 1, .h 2, .h 22, .h 9000, .h 9001] [sO 0 (.slc 9000), sO 4 (.ptr 0 0), sO 7 (.slc 1), sO 8 (.slc 2), sO 17 (.slc 22), sI 18 .i64 r107, hB 0 41 [.int .i64 r_1, .slc 9001], hO 1 5 .u8 a4, hO 2 5 .u8 a6, hE 22 41 5 (0 : Int) (.rc a106), hR 9000 .u8 b_0, hR 9001 .u8 r_2] [CallOk P 39 [.v (.one (.slc 1))] [(1, .own 5 .u8 a4)] (.tup [.one (.slc 22), .one (.int .i64 r107)]) [(22, .frows 41 5 (0 : Int) (.rc a106))]] (by kernel_rfl) (hone ((frame_Split_ok a4 (a106, r107) e108).tr [(9000, .slc 1), (8900, .slc 22)] rfl (by kernel_rfl) ⟨.ownrd (e := 5) (by kernel_rfl), trivial⟩ (by kernel_rfl) (by kernel_rfl) rfl rfl)) ?_
                    refine q_k ?_
                    refine tr_seq ?_
                    obtain ⟨⟨a110, r111⟩, e112, h⟩ := bind_some h
                    refine tr_reg hT [(1, .call [9000] (.tup [.one (.slc 23), .one (.int .i64 r111)]) [(23, .orows 41 (.rc a110))])] [.s 0, .s 4, .s 7, .s 8, .s 17, .s 18, .s 19, .s 20, .h 0, .h 1, .h 2, .h 22, .h 23, .h 9000, .h 9001] [sO 0 (.slc 9000), sO 4 (.ptr 0 0), sO 7 (.slc 1), sO 8 (.slc 2), sO 17 (.slc 22), sI 18 .i64 r107, sO 19 (.slc 23), sI 20 .i64 r111, hB 0 41 [.int .i64 r_1, .slc 9001], hO 1 5 .u8 a4, hO 2 5 .u8 a6, hE 22 41 5 (0 : Int) (.rc a106), hV 23 41 (.rc a110), hR 9000 .u8 b_0, hR 9001 .u8 r_2] [CallOk P 40 [.v (.one (.slc 9000))] [(9000, .rd .u8 b_0)] (.tup [.one (.slc 23), .one (.int .i64 r111)]) [(23, .orows 41 (.rc a110))]] (by kernel_rfl) (hone ((ref14_Split_ok b_0 (a110, r111) e112).tr [(9000, .slc 9000), (8900, .slc 23)] rfl (by kernel_rfl) ⟨.rd (by kernel_rfl), trivial⟩ (by kernel_rfl) (by kernel_rfl) rfl rfl)) ?_
                    refine q_k ?_
                    refine tr_seq ?_
                    refine tr_seq ?_
                    rcases ite_split h with ⟨hb114, h⟩ | ⟨hb115, h⟩
                    · refine tr_reg hT [(3, .dec true)] [.s 0, .s 4, .s 7, .s 8, .s 17, .s 126, .h 0, .h 1, .h 2, .h 22, .h 9000, .h 9001] [sO 0 (.slc 9000), sO 4 (.ptr 0 0), sO 7 (.slc 1), sO 8 (.slc 2), sO 17 (.slc 22), sB 126 true, hB 0 41 [.int .i64 r_1, .slc 9001], hO 1 5 .u8 a4, hO 2 5 .u8 a6, hE 22 41 5 (0 : Int) (.rc a106), hR 9000 .u8 b_0, hR 9001 .u8 r_2] [(r107 != r111) = true] (by kernel_rfl) (hone hb114) ?_
                      refine q_k ?_
                      refine tr_cond_t true (by kernel_rfl) rfl ?_
                      refine tr_seq ?_
                      refine tr_reg hT [] [.s 6] [sB 6 false] [] (by kernel_rfl) trivial ?_
                      refine q_k ?_
                      refine tr_ret ?_
                      refine q_k_ret ?_
                      have h := Option.some.inj h
                      subst h
                      refine q_less [.s 6] [sB 6 false] (by kernel_rfl) ?_
                      exact q_ret1 hT (.v (.one (.bool false))) [] (by kernel_rfl) (by kernel_rfl) (by kernel_rfl)
                    · obtain ⟨b116, e117, h⟩ := bind_some h
                      refine tr_reg hT [(3, .dec false), (6, .call [22, 23] (.v (.one (.bool b116))) [])] [.s 0, .s 4, .s 7, .s 8, .s 17, .s 126, .h 0, .h 1, .h 2, .h 22, .h 9000, .h 9001] [sO 0 (.slc 9000), sO 4 (.ptr 0 0), sO 7 (.slc 1), sO 8 (.slc 2), sO 17 (.slc 22), sB 126 (!b116), hB 0 41 [.int .i64 r_1, .slc 9001], hO 1 5 .u8 a4, hO 2 5 .u8 a6, hE 22 41 5 (0 : Int) (.rc a106), hR 9000 .u8 b_0, hR 9001 .u8 r_2] [(r107 != r111) = false, CallOk P 38 [.v (.one (.slc 22)), .v (.one (.slc 23))] [(22, .frows 41 5 (0 : Int) (.rc a106)), (23, .orows 41 (.rc a110))] (.v (.one (.bool b116))) []] (by kernel_rfl) (hcons hb115 (hone ((keep_Recs_ok a106 a110 b116 e117).tr [(9000, .slc 22), (9001, .slc 23)] rfl (by kernel_rfl) ⟨.frowsr (e := 41) (eb := 5) (by kernel_rfl), .orowsr (e := 41) (by kernel_rfl), trivial⟩ (by kernel_rfl) (by kernel_rfl) rfl rfl))) ?_
                      refine q_k ?_
                      rcases ite_split h with ⟨hc118, h⟩ | ⟨hc118, h⟩
                      · refine tr_cond_t (!b116) (by kernel_rfl) hc118 ?_
                        refine tr_seq ?_
                        refine tr_reg hT [] [.s 6] [sB 6 false] [] (by kernel_rfl) trivial ?_
                        refine q_k ?_
                        refine tr_ret ?_
                        refine q_k_ret ?_
                        have h := Option.some.inj h
                        subst h
                        refine q_less [.s 6] [sB 6 false] (by kernel_rfl) ?_
                        exact q_ret1 hT (.v (.one (.bool false))) [] (by kernel_rfl) (by kernel_rfl) (by kernel_rfl)
                      · refine tr_cond_f (!b116) (by kernel_rfl) hc118 ?_
                        refine tr_skip ?_
                        refine q_k ?_
                        refine tr_seq ?_
                        refine tr_seq ?_
                        refine tr_reg hT [] [.s 0, .s 4, .s 7, .s 8, .s 17, .s 21, .h 0, .h 1, .h 2, .h 22, .h 9000, .h 9001] [sO 0 (.slc 9000), sO 4 (.ptr 0 0), sO 7 (.slc 1), sO 8 (.slc 2), sO 17 (.slc 22), sI 21 .i64 (0 : Int), hB 0 41 [.int .i64 r_1, .slc 9001], hO 1 5 .u8 a4, hO 2 5 .u8 a6, hE 22 41 5 (0 : Int) (.rc a106), hR 9000 .u8 b_0, hR 9001 .u8 r_2] [] (by kernel_rfl) trivial ?_
                        refine q_k ?_
                        refine tr_block ?_
                        obtain ⟨rr1, e126, h⟩ := bind_some h
                        refine tr_fit [] [sO 0 (.slc 9000), sO 4 (.ptr 0 0), sO 7 (.slc 1), sO 8 (.slc 2), sO 17 (.slc 22), sI 21 .i64 (0 : Int), hB 0 41 [.int .i64 r_1, .slc 9001], hO 1 5 .u8 a4, hO 2 5 .u8 a6, hE 22 41 5 (0 : Int) (.rc a106), hR 9000 .u8 b_0, hR 9001 .u8 r_2] [(0, .blk 41 [.int .i64 r_1, .slc 9001]), (1, .own 5 .u8 a4), (2, .own 5 .u8 a6), (22, .frows 41 5 (0 : Int) (.rc a106)), (9000, .rd .u8 b_0), (9001, .rd .u8 r_2)] (by kernel_rfl) (by kernel_rfl) (by kernel_rfl) rfl ⟨.blk (by kernel_rfl) (by kernel_rfl), .own (by kernel_rfl), .own (by kernel_rfl), .frows (by kernel_rfl), .rd (by kernel_rfl), .rd (by kernel_rfl), trivial⟩ (by kernel_rfl) ?_
                        refine tr_loop_fuel (id := 0) (α := Int × Int) (β := Unit) (fun z => [sO 0 (.slc 9000), sO 4 (.ptr 0 0), sO 7 (.slc 1), sO 8 (.slc 2), sO 17 (.slc 22), sI 21 .i64 z.2, hB 0 41 [.int .i64 r_1, .slc 9001], hO 1 5 .u8 a4, hO 2 5 .u8 a6, hE 22 41 5 z.1 (.rc a106), hR 9000 .u8 b_0, hR 9001 .u8 r_2]) (fun z => [sO 0 (.slc 9000), sO 4 (.ptr 0 0), sO 7 (.slc 1), sO 8 (.slc 2), hB 0 41 [.int .i64 r_1, .slc 9001], hO 1 5 .u8 a4, hO 2 5 .u8 a6, hR 9000 .u8 b_0, hR 9001 .u8 r_2]) (fun k z => law15_FrameExact_l1 b_0 r_1 r_2 a4 a6 a106 k z.1 z.2) rr1 (fun _ => rfl) (((↑(List.length a106) : Int) - (0 : Int)).toNat + 1) ((0 : Int), (0 : Int)) e126 ?_ ?_
                        · rcases rr1 with _
                          replace h : ((keep_Bytes a4 b_0).bind (fun b127 => if b127 = true then (keep_Bytes a6 r_2).bind (fun b130 => if b130 = true then (law15_wakes).bind (fun b133 => some b133) else some false) else some false)) = _ := h
                          refine q_b_this ?_
                          refine q_k ?_
                          refine tr_seq ?_
                          obtain ⟨b127, e128, h⟩ := bind_some h
                          rcases ite_split h with ⟨hb129, h⟩ | ⟨hb136, h⟩
                          · obtain ⟨b130, e131, h⟩ := bind_some h
                            rcases ite_split h with ⟨hb132, h⟩ | ⟨hb135, h⟩
                            · obtain ⟨b133, e134, h⟩ := bind_some h
                              refine tr_reg hT [(2, .call [1, 9000] (.v (.one (.bool b127))) []), (3, .dec true), (7, .call [2, 9001] (.v (.one (.bool b130))) []), (9, .dec true), (10, .call [] (.v (.one (.bool b133))) [])] [.s 6] [sB 6 b133] [CallOk P 26 [.v (.one (.slc 1)), .v (.one (.slc 9000))] [(1, .own 5 .u8 a4), (9000, .rd .u8 b_0)] (.v (.one (.bool b127))) [], b127 = true, CallOk P 26 [.v (.one (.slc 2)), .v (.one (.slc 9001))] [(2, .own 5 .u8 a6), (9001, .rd .u8 r_2)] (.v (.one (.bool b130))) [], b130 = true, CallOk P 41 [] [] (.v (.one (.bool b133))) []] (by kernel_rfl) (hcons ((keep_Bytes_ok a4 b_0 b127 e128).tr [(9000, .slc 1), (9001, .slc 9000)] rfl (by kernel_rfl) ⟨.ownrd (e := 5) (by kernel_rfl), .rd (by kernel_rfl), trivial⟩ (by kernel_rfl) (by kernel_rfl) rfl rfl) (hcons hb129 (hcons ((keep_Bytes_ok a6 r_2 b130 e131).tr [(9000, .slc 2), (9001, .slc 9001)] rfl (by kernel_rfl) ⟨.ownrd (e := 5) (by kernel_rfl), .rd (by kernel_rfl), trivial⟩ (by kernel_rfl) (by kernel_rfl) rfl rfl) (hcons hb132 (hone (law15_wakes_ok  b133 e134)))))) ?_
                              refine q_k ?_
                              refine tr_ret ?_
                              have h := Option.some.inj h
                              subst h
                              refine q_less [.s 6] [sB 6 b133] (by kernel_rfl) ?_
                              exact q_ret1 hT (.v (.one (.bool b133))) [] (by kernel_rfl) (by kernel_rfl) (by kernel_rfl)
                            · refine tr_reg hT [(2, .call [1, 9000] (.v (.one (.bool b127))) []), (3, .dec true), (7, .call [2, 9001] (.v (.one (.bool b130))) []), (9, .dec false)] [.s 6] [sB 6 false] [CallOk P 26 [.v (.one (.slc 1)), .v (.one (.slc 9000))] [(1, .own 5 .u8 a4), (9000, .rd .u8 b_0)] (.v (.one (.bool b127))) [], b127 = true, CallOk P 26 [.v (.one (.slc 2)), .v (.one (.slc 9001))] [(2, .own 5 .u8 a6), (9001, .rd .u8 r_2)] (.v (.one (.bool b130))) [], b130 = false] (by kernel_rfl) (hcons ((keep_Bytes_ok a4 b_0 b127 e128).tr [(9000, .slc 1), (9001, .slc 9000)] rfl (by kernel_rfl) ⟨.ownrd (e := 5) (by kernel_rfl), .rd (by kernel_rfl), trivial⟩ (by kernel_rfl) (by kernel_rfl) rfl rfl) (hcons hb129 (hcons ((keep_Bytes_ok a6 r_2 b130 e131).tr [(9000, .slc 2), (9001, .slc 9001)] rfl (by kernel_rfl) ⟨.ownrd (e := 5) (by kernel_rfl), .rd (by kernel_rfl), trivial⟩ (by kernel_rfl) (by kernel_rfl) rfl rfl) (hone hb135)))) ?_
                              refine q_k ?_
                              refine tr_ret ?_
                              have h := Option.some.inj h
                              subst h
                              refine q_less [.s 6] [sB 6 false] (by kernel_rfl) ?_
                              exact q_ret1 hT (.v (.one (.bool false))) [] (by kernel_rfl) (by kernel_rfl) (by kernel_rfl)
                          · refine tr_reg hT [(2, .call [1, 9000] (.v (.one (.bool b127))) []), (3, .dec false)] [.s 6] [sB 6 false] [CallOk P 26 [.v (.one (.slc 1)), .v (.one (.slc 9000))] [(1, .own 5 .u8 a4), (9000, .rd .u8 b_0)] (.v (.one (.bool b127))) [], b127 = false] (by kernel_rfl) (hcons ((keep_Bytes_ok a4 b_0 b127 e128).tr [(9000, .slc 1), (9001, .slc 9000)] rfl (by kernel_rfl) ⟨.ownrd (e := 5) (by kernel_rfl), .rd (by kernel_rfl), trivial⟩ (by kernel_rfl) (by kernel_rfl) rfl rfl) (hone hb136)) ?_
                            refine q_k ?_
                            refine tr_ret ?_
                            have h := Option.some.inj h
                            subst h
                            refine q_less [.s 6] [sB 6 false] (by kernel_rfl) ?_
                            exact q_ret1 hT (.v (.one (.bool false))) [] (by kernel_rfl) (by kernel_rfl) (by kernel_rfl)
                        · clear h e126
                          intro k ih1 hx1 z h
                          obtain ⟨m119, i120⟩ := z
                          replace h : (if (decide (i120 < (↑(List.length a106) : Int))) = true then if 0 ≤ i120 ∧ i120 < ↑(List.length a106) then if m119 ≤ i120 then (keep_SpoilBytes ((a106.getD i120.toNat (0, [])).2)).bind (fun a124 => law15_FrameExact_l1 b_0 r_1 r_2 a4 a6 a106 k (i120 + 1) (IntKind.i64.wrap (i120 + (1 : Int)))) else none else none else some ()) = _ := h
                          refine tr_seq ?_
                          refine tr_seq ?_
                          refine tr_reg hT [] [.s 0, .s 4, .s 7, .s 8, .s 17, .s 21, .s 130, .h 0, .h 1, .h 2, .h 22, .h 9000, .h 9001] [sO 0 (.slc 9000), sO 4 (.ptr 0 0), sO 7 (.slc 1), sO 8 (.slc 2), sO 17 (.slc 22), sI 21 .i64 i120, sB 130 (decide (i120 < (↑(List.length a106) : Int))), hB 0 41 [.int .i64 r_1, .slc 9001], hO 1 5 .u8 a4, hO 2 5 .u8 a6, hE 22 41 5 m119 (.rc a106), hR 9000 .u8 b_0, hR 9001 .u8 r_2] [] (by kernel_rfl) trivial ?_
                          refine q_k ?_
                          rcases ite_split h with ⟨hc121, h⟩ | ⟨hc121, h⟩
                          · refine tr_cond_t (decide (i120 < (↑(List.length a106) : Int))) (by kernel_rfl) hc121 ?_
                            refine tr_skip ?_
                            refine q_k ?_
                            refine tr_seq ?_
                            refine tr_block ?_
                            obtain ⟨hn122, h⟩ := ite_some h
                            obtain ⟨hn123, h⟩ := ite_some h
                            obtain ⟨a124, e125, h⟩ := bind_some h
                            refine tr_reg hT [(4, .key 24), (5, .call [24] (.tup []) [(24, .own 5 .u8 a124)])] [.s 0, .s 4, .s 7, .s 8, .s 17, .s 21, .h 0, .h 1, .h 2, .h 22, .h 9000, .h 9001] [sO 0 (.slc 9000), sO 4 (.ptr 0 0), sO 7 (.slc 1), sO 8 (.slc 2), sO 17 (.slc 22), sI 21 .i64 i120, hB 0 41 [.int .i64 r_1, .slc 9001], hO 1 5 .u8 a4, hO 2 5 .u8 a6, hE 22 41 5 (i120 + 1) (.rc a106), hR 9000 .u8 b_0, hR 9001 .u8 r_2] [0 ≤ i120 ∧ i120 < ↑(List.length a106), 0 ≤ i120 ∧ i120 < ↑(List.length a106), i120 < ↑(List.length a106), m119 ≤ i120, CallOk P 35 [.v (.one (.slc 24))] [(24, .own 5 .u8 ((a106.getD i120.toNat (0, [])).2))] (.tup []) [(24, .own 5 .u8 a124)]] (by kernel_rfl) (hcons hn122 (hcons hn122 (hcons hn122.2 (hcons hn123 (hone ((keep_SpoilBytes_ok ((a106.getD i120.toNat (0, [])).2) a124 e125).tr [(9000, .slc 24)] rfl (by kernel_rfl) ⟨.own (by kernel_rfl), trivial⟩ (by kernel_rfl) (by kernel_rfl) rfl rfl)))))) ?_
                            refine q_b 1 ?_
                            refine q_k ?_
                            refine tr_reg hT [] [.s 0, .s 4, .s 7, .s 8, .s 17, .s 21, .h 0, .h 1, .h 2, .h 22, .h 9000, .h 9001] [sO 0 (.slc 9000), sO 4 (.ptr 0 0), sO 7 (.slc 1), sO 8 (.slc 2), sO 17 (.slc 22), sI 21 .i64 (IntKind.i64.wrap (i120 + (1 : Int))), hB 0 41 [.int .i64 r_1, .slc 9001], hO 1 5 .u8 a4, hO 2 5 .u8 a6, hE 22 41 5 (i120 + 1) (.rc a106), hR 9000 .u8 b_0, hR 9001 .u8 r_2] [] (by kernel_rfl) trivial ?_
                            refine q_kr ?_
                            exact trR_less [.s 0, .s 4, .s 7, .s 8, .s 17, .s 21, .h 0, .h 1, .h 2, .h 22, .h 9000, .h 9001] [sO 0 (.slc 9000), sO 4 (.ptr 0 0), sO 7 (.slc 1), sO 8 (.slc 2), sO 17 (.slc 22), sI 21 .i64 (IntKind.i64.wrap (i120 + (1 : Int))), hB 0 41 [.int .i64 r_1, .slc 9001], hO 1 5 .u8 a4, hO 2 5 .u8 a6, hE 22 41 5 (i120 + 1) (.rc a106), hR 9000 .u8 b_0, hR 9001 .u8 r_2] (by kernel_rfl) (ih1 ((i120 + 1), (IntKind.i64.wrap (i120 + (1 : Int)))) h)
                          · refine tr_cond_f (decide (i120 < (↑(List.length a106) : Int))) (by kernel_rfl) hc121 ?_
                            refine tr_exit ?_
                            refine q_k_exit ?_
                            refine q_kr_exit ?_
                            have h := Option.some.inj h
                            subst h
                            exact q_less [.s 0, .s 4, .s 7, .s 8, .h 0, .h 1, .h 2, .h 9000, .h 9001] [sO 0 (.slc 9000), sO 4 (.ptr 0 0), sO 7 (.slc 1), sO 8 (.slc 2), hB 0 41 [.int .i64 r_1, .slc 9001], hO 1 5 .u8 a4, hO 2 5 .u8 a6, hR 9000 .u8 b_0, hR 9001 .u8 r_2] (by kernel_rfl) hx1
        · rcases ite_split h with ⟨hb138, h⟩ | ⟨hb201, h⟩
          · obtain ⟨a139, e140, h⟩ := bind_some h
            obtain ⟨a141, e142, h⟩ := bind_some h
            obtain ⟨hn143, h⟩ := ite_some h
            obtain ⟨b144, e145, h⟩ := bind_some h
            refine tr_regd hT hM [(3, .dec false), (6, .dec false), (15, .dec true), (18, .call [9000] (.v (.one (.slc 25))) [(25, .own 5 .u8 a139)]), (20, .call [9001] (.v (.one (.slc 26))) [(26, .own 5 .u8 a141)]), (21, .key 27), (22, .call [3, 27] (.v (.one (.bool b144))) [])] [.s 0, .s 2, .s 4, .s 7, .s 8, .s 9, .s 72, .h 0, .h 1, .h 2, .h 3, .h 9000, .h 9001] [sO 0 (.slc 9000), sI 2 .i64 at_3, sO 4 (.ptr 0 0), sO 7 (.slc 1), sO 8 (.slc 2), sO 9 (.slc 3), sB 72 (!b144), hB 0 41 [.int .i64 r_1, .slc 9001], hO 1 5 .u8 a4, hO 2 5 .u8 a6, hO 3 5 .u8 a8, hR 9000 .u8 b_0, hR 9001 .u8 r_2] [(r9 != r12) = false, (r12 != (0 : Int)) = false, (r12 == (0 : Int)) = true, CallOk P 23 [.v (.one (.slc 9000))] [(9000, .rd .u8 b_0)] (.v (.one (.slc 25))) [(25, .own 5 .u8 a139)], CallOk P 34 [.v (.agg [.int .i64 r_1, .slc 9001])] [(9001, .rd .u8 r_2)] (.v (.one (.slc 26))) [(26, .own 5 .u8 a141)], List.length (a139 ++ a141) ≤ maxN, CallOk P 26 [.v (.one (.slc 3)), .v (.one (.slc 27))] [(3, .own 5 .u8 a8), (27, .own 5 .u8 (a139 ++ a141))] (.v (.one (.bool b144))) []] (by kernel_rfl) (hcons hb15 (hcons hb137 (hcons hb138 (hcons ((keep_Twin_ok b_0 a139 e140).tr [(9000, .slc 9000), (8900, .slc 25)] rfl (by kernel_rfl) ⟨.rd (by kernel_rfl), trivial⟩ (by kernel_rfl) (by kernel_rfl) rfl rfl) (hcons ((ref14_Frame_ok r_1 r_2 a141 e142).tr [(9000, .slc 9001), (8900, .slc 26)] rfl (by kernel_rfl) ⟨.rd (by kernel_rfl), trivial⟩ (by kernel_rfl) (by kernel_rfl) rfl rfl) (hcons hn143 (hone ((keep_Bytes_ok a8 (a139 ++ a141) b144 e145).tr [(9000, .slc 3), (9001, .slc 27)] rfl (by kernel_rfl) ⟨.ownrd (e := 5) (by kernel_rfl), .ownrd (e := 5) (by kernel_rfl), trivial⟩ (by kernel_rfl) (by kernel_rfl) rfl rfl)))))))) ?_
            refine q_k ?_
            rcases ite_split h with ⟨hc146, h⟩ | ⟨hc146, h⟩
            · refine tr_cond_t (!b144) (by kernel_rfl) hc146 ?_
              refine tr_seq ?_
              refine tr_reg hT [] [.s 6] [sB 6 false] [] (by kernel_rfl) trivial ?_
              refine q_k ?_
              refine tr_ret ?_
              refine q_k_ret ?_
              have h := Option.some.inj h
              subst h
              refine q_less [.s 6] [sB 6 false] (by kernel_rfl) ?_
              exact q_ret1 hT (.v (.one (.bool false))) [] (by kernel_rfl) (by kernel_rfl) (by kernel_rfl)
            · refine tr_cond_f (!b144) (by kernel_rfl) hc146 ?_
              refine tr_skip ?_
              refine q_k ?_
              refine tr_seq ?_
              obtain ⟨a147, e148, h⟩ := bind_some h
              refine tr_reg hT [(1, .call [3] (.tup []) [(3, .own 5 .u8 a147)])] [.s 0, .s 2, .s 4, .s 7, .s 8, .h 0, .h 1, .h 2, .h 9000, .h 9001] [sO 0 (.slc 9000), sI 2 .i64 at_3, sO 4 (.ptr 0 0), sO 7 (.slc 1), sO 8 (.slc 2), hB 0 41 [.int .i64 r_1, .slc 9001], hO 1 5 .u8 a4, hO 2 5 .u8 a6, hR 9000 .u8 b_0, hR 9001 .u8 r_2] [CallOk P 35 [.v (.one (.slc 3))] [(3, .own 5 .u8 a8)] (.tup []) [(3, .own 5 .u8 a147)]] (by kernel_rfl) (hone ((keep_SpoilBytes_ok a8 a147 e148).tr [(9000, .slc 3)] rfl (by kernel_rfl) ⟨.own (by kernel_rfl), trivial⟩ (by kernel_rfl) (by kernel_rfl) rfl rfl)) ?_
              refine q_k ?_
              refine tr_seq ?_
              obtain ⟨⟨r149, a150, r151, r152⟩, e153, h⟩ := bind_some h
              refine tr_reg hT [(2, .call [1] (.tup [.agg [.int .i64 r149, .slc 28], .one (.int .i64 r151), .one (.int .i64 r152)]) [(28, .own 5 .u8 a150)]), (7, .key 29)] [.s 0, .s 2, .s 4, .s 7, .s 8, .s 10, .s 12, .s 13, .h 0, .h 1, .h 2, .h 28, .h 29, .h 9000, .h 9001] [sO 0 (.slc 9000), sI 2 .i64 at_3, sO 4 (.ptr 0 0), sO 7 (.slc 1), sO 8 (.slc 2), sI 10 .i64 r152, sO 12 (.ptr 29 0), sI 13 .i64 r151, hB 0 41 [.int .i64 r_1, .slc 9001], hO 1 5 .u8 a4, hO 2 5 .u8 a6, hO 28 5 .u8 a150, hB 29 41 [.int .i64 r149, .slc 28], hR 9000 .u8 b_0, hR 9001 .u8 r_2] [CallOk P 36 [.v (.one (.slc 1)), .v (.one (.int .i64 at_3))] [(1, .own 5 .u8 a4)] (.tup [.agg [.int .i64 r149, .slc 28], .one (.int .i64 r151), .one (.int .i64 r152)]) [(28, .own 5 .u8 a150)]] (by kernel_rfl) (hone ((frame_Get_ok a4 at_3 (r149, a150, r151, r152) e153).tr [(9000, .slc 1), (8900, .slc 28)] rfl (by kernel_rfl) ⟨.ownrd (e := 5) (by kernel_rfl), trivial⟩ (by kernel_rfl) (by kernel_rfl) rfl rfl)) ?_
              refine q_k ?_
              refine tr_seq ?_
              obtain ⟨⟨r155, a156, r157, r158⟩, e159, h⟩ := bind_some h
              refine tr_reg hT [(2, .call [9000] (.tup [.agg [.int .i64 r155, .slc 30], .one (.int .i64 r157), .one (.int .i64 r158)]) [(30, .own 5 .u8 a156)]), (7, .key 31)] [.s 0, .s 4, .s 7, .s 8, .s 10, .s 12, .s 13, .s 14, .s 15, .s 16, .h 0, .h 1, .h 2, .h 28, .h 29, .h 30, .h 31, .h 9000, .h 9001] [sO 0 (.slc 9000), sO 4 (.ptr 0 0), sO 7 (.slc 1), sO 8 (.slc 2), sI 10 .i64 r152, sO 12 (.ptr 29 0), sI 13 .i64 r151, sO 14 (.ptr 31 0), sI 15 .i64 r157, sI 16 .i64 r158, hB 0 41 [.int .i64 r_1, .slc 9001], hO 1 5 .u8 a4, hO 2 5 .u8 a6, hO 28 5 .u8 a150, hB 29 41 [.int .i64 r149, .slc 28], hO 30 5 .u8 a156, hB 31 41 [.int .i64 r155, .slc 30], hR 9000 .u8 b_0, hR 9001 .u8 r_2] [CallOk P 37 [.v (.one (.slc 9000)), .v (.one (.int .i64 at_3))] [(9000, .rd .u8 b_0)] (.tup [.agg [.int .i64 r155, .slc 30], .one (.int .i64 r157), .one (.int .i64 r158)]) [(30, .own 5 .u8 a156)]] (by kernel_rfl) (hone ((ref14_Get_ok b_0 at_3 (r155, a156, r157, r158) e159).tr [(9000, .slc 9000), (8900, .slc 30)] rfl (by kernel_rfl) ⟨.rd (by kernel_rfl), trivial⟩ (by kernel_rfl) (by kernel_rfl) rfl rfl)) ?_
              refine q_k ?_
              refine tr_seq ?_
              refine tr_seq ?_
              rcases ite_split h with ⟨hb161, h⟩ | ⟨hb162, h⟩
              · refine tr_reg hT [(3, .dec true)] [.s 0, .s 4, .s 7, .s 8, .s 12, .s 104, .h 0, .h 1, .h 2, .h 28, .h 29, .h 9000, .h 9001] [sO 0 (.slc 9000), sO 4 (.ptr 0 0), sO 7 (.slc 1), sO 8 (.slc 2), sO 12 (.ptr 29 0), sB 104 true, hB 0 41 [.int .i64 r_1, .slc 9001], hO 1 5 .u8 a4, hO 2 5 .u8 a6, hO 28 5 .u8 a150, hB 29 41 [.int .i64 r149, .slc 28], hR 9000 .u8 b_0, hR 9001 .u8 r_2] [(r152 != r158) = true] (by kernel_rfl) (hone hb161) ?_
                refine q_k ?_
                refine tr_cond_t true (by kernel_rfl) rfl ?_
                refine tr_seq ?_
                refine tr_reg hT [] [.s 6] [sB 6 false] [] (by kernel_rfl) trivial ?_
                refine q_k ?_
                refine tr_ret ?_
                refine q_k_ret ?_
                have h := Option.some.inj h
                subst h
                refine q_less [.s 6] [sB 6 false] (by kernel_rfl) ?_
                exact q_ret1 hT (.v (.one (.bool false))) [] (by kernel_rfl) (by kernel_rfl) (by kernel_rfl)
              · rcases ite_split h with ⟨hb163, h⟩ | ⟨hb164, h⟩
                · refine tr_reg hT [(3, .dec false), (8, .dec true)] [.s 0, .s 4, .s 7, .s 8, .s 12, .s 104, .h 0, .h 1, .h 2, .h 28, .h 29, .h 9000, .h 9001] [sO 0 (.slc 9000), sO 4 (.ptr 0 0), sO 7 (.slc 1), sO 8 (.slc 2), sO 12 (.ptr 29 0), sB 104 true, hB 0 41 [.int .i64 r_1, .slc 9001], hO 1 5 .u8 a4, hO 2 5 .u8 a6, hO 28 5 .u8 a150, hB 29 41 [.int .i64 r149, .slc 28], hR 9000 .u8 b_0, hR 9001 .u8 r_2] [(r152 != r158) = false, (r151 != r157) = true] (by kernel_rfl) (hcons hb162 (hone hb163)) ?_
                  refine q_k ?_
                  refine tr_cond_t true (by kernel_rfl) rfl ?_
                  refine tr_seq ?_
                  refine tr_reg hT [] [.s 6] [sB 6 false] [] (by kernel_rfl) trivial ?_
                  refine q_k ?_
                  refine tr_ret ?_
                  refine q_k_ret ?_
                  have h := Option.some.inj h
                  subst h
                  refine q_less [.s 6] [sB 6 false] (by kernel_rfl) ?_
                  exact q_ret1 hT (.v (.one (.bool false))) [] (by kernel_rfl) (by kernel_rfl) (by kernel_rfl)
                · obtain ⟨b165, e166, h⟩ := bind_some h
                  refine tr_reg hT [(3, .dec false), (8, .dec false), (10, .lk 32), (12, .lk 33), (13, .call [32, 33, 28, 30] (.v (.one (.bool b165))) [])] [.s 0, .s 4, .s 7, .s 8, .s 12, .s 104, .h 0, .h 1, .h 2, .h 28, .h 29, .h 9000, .h 9001] [sO 0 (.slc 9000), sO 4 (.ptr 0 0), sO 7 (.slc 1), sO 8 (.slc 2), sO 12 (.ptr 29 0), sB 104 (!b165), hB 0 41 [.int .i64 r_1, .slc 9001], hO 1 5 .u8 a4, hO 2 5 .u8 a6, hO 28 5 .u8 a150, hB 29 41 [.int .i64 r149, .slc 28], hR 9000 .u8 b_0, hR 9001 .u8 r_2] [(r152 != r158) = false, (r151 != r157) = false, CallOk P 38 [.v (.one (.slc 32)), .v (.one (.slc 33))] [(32, .lit 41 1 [.int .i64 r149, .slc 28]), (33, .lit 41 1 [.int .i64 r155, .slc 30]), (28, .own 5 .u8 a150), (30, .own 5 .u8 a156)] (.v (.one (.bool b165))) []] (by kernel_rfl) (hcons hb162 (hcons hb164 (hone ((keep_Recs_ok [(r149, a150)] [(r155, a156)] b165 e166).tr [(9000, .slc 32), (9001, .slc 33)] rfl (by kernel_rfl) ⟨.litrc (κ1 := 28) (e := 41) (e1 := 5) (by kernel_rfl) (by kernel_rfl), .litrc (κ1 := 30) (e := 41) (e1 := 5) (by kernel_rfl) (by kernel_rfl), trivial⟩ (by kernel_rfl) (by kernel_rfl) rfl rfl)))) ?_
                  refine q_k ?_
                  rcases ite_split h with ⟨hc167, h⟩ | ⟨hc167, h⟩
                  · refine tr_cond_t (!b165) (by kernel_rfl) hc167 ?_
                    refine tr_seq ?_
                    refine tr_reg hT [] [.s 6] [sB 6 false] [] (by kernel_rfl) trivial ?_
                    refine q_k ?_
                    refine tr_ret ?_
                    refine q_k_ret ?_
                    have h := Option.some.inj h
                    subst h
                    refine q_less [.s 6] [sB 6 false] (by kernel_rfl) ?_
                    exact q_ret1 hT (.v (.one (.bool false))) [] (by kernel_rfl) (by kernel_rfl) (by kernel_rfl)
                  · refine tr_cond_f (!b165) (by kernel_rfl) hc167 ?_
                    refine tr_skip ?_
                    refine q_k ?_
                    refine tr_seq ?_
                    obtain ⟨a168, e169, h⟩ := bind_some h
                    refine tr_reg hT [(2, .call [28] (.tup []) [(28, .own 5 .u8 a168)])] [.s 0, .s 4, .s 7, .s 8, .h 0, .h 1, .h 2, .h 9000, .h 9001] [sO 0 (.slc 9000), sO 4 (.ptr 0 0), sO 7 (.slc 1), sO 8 (.slc 2), hB 0 41 [.int .i64 r_1, .slc 9001], hO 1 5 .u8 a4, hO 2 5 .u8 a6, hR 9000 .u8 b_0, hR 9001 .u8 r_2] [CallOk P 35 [.v (.one (.slc 28))] [(28, .own 5 .u8 a150)] (.tup []) [(28, .own 5 .u8 a168)]] (by kernel_rfl) (hone ((keep_SpoilBytes_ok a150 a168 e169).tr [(9000, .slc 28)] rfl (by kernel_rfl) ⟨.own (by kernel_rfl), trivial⟩ (by kernel_rfl) (by kernel_rfl) rfl rfl)) ?_
                    refine q_k ?_
                    refine tr_seq ?_
                    obtain ⟨⟨a170, r171⟩, e172, h⟩ := bind_some h
                    refine tr_reg hT [(1, .call [1] (.tup [.one (.slc 34), .one (.int .i64 r171)]) [(34, .frows 41 5 (0 : Int) (.rc a170))])] [.s 0, .s 4, .s 7, .s 8, .s 17, .s 18, .h 0, .h 1, .h 2, .h 34, .h 9000, .h 9001] [sO 0 (.slc 9000), sO 4 (.ptr 0 0), sO 7 (.slc 1), sO 8 (.slc 2), sO 17 (.slc 34), sI 18 .i64 r171, hB 0 41 [.int .i64 r_1, .slc 9001], hO 1 5 .u8 a4, hO 2 5 .u8 a6, hE 34 41 5 (0 : Int) (.rc a170), hR 9000 .u8 b_0, hR 9001 .u8 r_2] [CallOk P 39 [.v (.one (.slc 1))] [(1, .own 5 .u8 a4)] (.tup [.one (.slc 34), .one (.int .i64 r171)]) [(34, .frows 41 5 (0 : Int) (.rc a170))]] (by kernel_rfl) (hone ((frame_Split_ok a4 (a170, r171) e172).tr [(9000, .slc 1), (8900, .slc 34)] rfl (by kernel_rfl) ⟨.ownrd (e := 5) (by kernel_rfl), trivial⟩ (by kernel_rfl) (by kernel_rfl) rfl rfl)) ?_
                    refine q_k ?_
                    refine tr_seq ?_
                    obtain ⟨⟨a174, r175⟩, e176, h⟩ := bind_some h
                    refine tr_reg hT [(1, .call [9000] (.tup [.one (.slc 35), .one (.int .i64 r175)]) [(35, .orows 41 (.rc a174))])] [.s 0, .s 4, .s 7, .s 8, .s 17, .s 18, .s 19, .s 20, .h 0, .h 1, .h 2, .h 34, .h 35, .h 9000, .h 9001] [sO 0 (.slc 9000), sO 4 (.ptr 0 0), sO 7 (.slc 1), sO 8 (.slc 2), sO 17 (.slc 34), sI 18 .i64 r171, sO 19 (.slc 35), sI 20 .i64 r175, hB 0 41 [.int .i64 r_1, .slc 9001], hO 1 5 .u8 a4, hO 2 5 .u8 a6, hE 34 41 5 (0 : Int) (.rc a170), hV 35 41 (.rc a174), hR 9000 .u8 b_0, hR 9001 .u8 r_2] [CallOk P 40 [.v (.one (.slc 9000))] [(9000, .rd .u8 b_0)] (.tup [.one (.slc 35), .one (.int .i64 r175)]) [(35, .orows 41 (.rc a174))]] (by kernel_rfl) (hone ((ref14_Split_ok b_0 (a174, r175) e176).tr [(9000, .slc 9000), (8900, .slc 35)] rfl (by kernel_rfl) ⟨.rd (by kernel_rfl), trivial⟩ (by kernel_rfl) (by kernel_rfl) rfl rfl)) ?_
                    refine q_k ?_
                    refine tr_seq ?_
                    refine tr_seq ?_
                    rcases ite_split h with ⟨hb178, h⟩ | ⟨hb179, h⟩
                    · refine tr_reg hT [(3, .dec true)] [.s 0, .s 4, .s 7, .s 8, .s 17, .s 126, .h 0, .h 1, .h 2, .h 34, .h 9000, .h 9001] [sO 0 (.slc 9000), sO 4 (.ptr 0 0), sO 7 (.slc 1), sO 8 (.slc 2), sO 17 (.slc 34), sB 126 true, hB 0 41 [.int .i64 r_1, .slc 9001], hO 1 5 .u8 a4, hO 2 5 .u8 a6, hE 34 41 5 (0 : Int) (.rc a170), hR 9000 .u8 b_0, hR 9001 .u8 r_2] [(r171 != r175) = true] (by kernel_rfl) (hone hb178) ?_
                      refine q_k ?_
                      refine tr_cond_t true (by kernel_rfl) rfl ?_
                      refine tr_seq ?_
                      refine tr_reg hT [] [.s 6] [sB 6 false] [] (by kernel_rfl) trivial ?_
                      refine q_k ?_
                      refine tr_ret ?_
                      refine q_k_ret ?_
                      have h := Option.some.inj h
                      subst h
                      refine q_less [.s 6] [sB 6 false] (by kernel_rfl) ?_
                      exact q_ret1 hT (.v (.one (.bool false))) [] (by kernel_rfl) (by kernel_rfl) (by kernel_rfl)
                    · obtain ⟨b180, e181, h⟩ := bind_some h
                      refine tr_reg hT [(3, .dec false), (6, .call [34, 35] (.v (.one (.bool b180))) [])] [.s 0, .s 4, .s 7, .s 8, .s 17, .s 126, .h 0, .h 1, .h 2, .h 34, .h 9000, .h 9001] [sO 0 (.slc 9000), sO 4 (.ptr 0 0), sO 7 (.slc 1), sO 8 (.slc 2), sO 17 (.slc 34), sB 126 (!b180), hB 0 41 [.int .i64 r_1, .slc 9001], hO 1 5 .u8 a4, hO 2 5 .u8 a6, hE 34 41 5 (0 : Int) (.rc a170), hR 9000 .u8 b_0, hR 9001 .u8 r_2] [(r171 != r175) = false, CallOk P 38 [.v (.one (.slc 34)), .v (.one (.slc 35))] [(34, .frows 41 5 (0 : Int) (.rc a170)), (35, .orows 41 (.rc a174))] (.v (.one (.bool b180))) []] (by kernel_rfl) (hcons hb179 (hone ((keep_Recs_ok a170 a174 b180 e181).tr [(9000, .slc 34), (9001, .slc 35)] rfl (by kernel_rfl) ⟨.frowsr (e := 41) (eb := 5) (by kernel_rfl), .orowsr (e := 41) (by kernel_rfl), trivial⟩ (by kernel_rfl) (by kernel_rfl) rfl rfl))) ?_
                      refine q_k ?_
                      rcases ite_split h with ⟨hc182, h⟩ | ⟨hc182, h⟩
                      · refine tr_cond_t (!b180) (by kernel_rfl) hc182 ?_
                        refine tr_seq ?_
                        refine tr_reg hT [] [.s 6] [sB 6 false] [] (by kernel_rfl) trivial ?_
                        refine q_k ?_
                        refine tr_ret ?_
                        refine q_k_ret ?_
                        have h := Option.some.inj h
                        subst h
                        refine q_less [.s 6] [sB 6 false] (by kernel_rfl) ?_
                        exact q_ret1 hT (.v (.one (.bool false))) [] (by kernel_rfl) (by kernel_rfl) (by kernel_rfl)
                      · refine tr_cond_f (!b180) (by kernel_rfl) hc182 ?_
                        refine tr_skip ?_
                        refine q_k ?_
                        refine tr_seq ?_
                        refine tr_seq ?_
                        refine tr_reg hT [] [.s 0, .s 4, .s 7, .s 8, .s 17, .s 21, .h 0, .h 1, .h 2, .h 34, .h 9000, .h 9001] [sO 0 (.slc 9000), sO 4 (.ptr 0 0), sO 7 (.slc 1), sO 8 (.slc 2), sO 17 (.slc 34), sI 21 .i64 (0 : Int), hB 0 41 [.int .i64 r_1, .slc 9001], hO 1 5 .u8 a4, hO 2 5 .u8 a6, hE 34 41 5 (0 : Int) (.rc a170), hR 9000 .u8 b_0, hR 9001 .u8 r_2] [] (by kernel_rfl) trivial ?_
                        refine q_k ?_
                        refine tr_block ?_
                        obtain ⟨rr2, e190, h⟩ := bind_some h
                        refine tr_fit [] [sO 0 (.slc 9000), sO 4 (.ptr 0 0), sO 7 (.slc 1), sO 8 (.slc 2), sO 17 (.slc 34), sI 21 .i64 (0 : Int), hB 0 41 [.int .i64 r_1, .slc 9001], hO 1 5 .u8 a4, hO 2 5 .u8 a6, hE 34 41 5 (0 : Int) (.rc a170), hR 9000 .u8 b_0, hR 9001 .u8 r_2] [(0, .blk 41 [.int .i64 r_1, .slc 9001]), (1, .own 5 .u8 a4), (2, .own 5 .u8 a6), (34, .frows 41 5 (0 : Int) (.rc a170)), (9000, .rd .u8 b_0), (9001, .rd .u8 r_2)] (by kernel_rfl) (by kernel_rfl) (by kernel_rfl) rfl ⟨.blk (by kernel_rfl) (by kernel_rfl), .own (by kernel_rfl), .own (by kernel_rfl), .frows (by kernel_rfl), .rd (by kernel_rfl), .rd (by kernel_rfl), trivial⟩ (by kernel_rfl) ?_
                        refine tr_loop_fuel (id := 0) (α := Int × Int) (β := Unit) (fun z => [sO 0 (.slc 9000), sO 4 (.ptr 0 0), sO 7 (.slc 1), sO 8 (.slc 2), sO 17 (.slc 34), sI 21 .i64 z.2, hB 0 41 [.int .i64 r_1, .slc 9001], hO 1 5 .u8 a4, hO 2 5 .u8 a6, hE 34 41 5 z.1 (.rc a170), hR 9000 .u8 b_0, hR 9001 .u8 r_2]) (fun z => [sO 0 (.slc 9000), sO 4 (.ptr 0 0), sO 7 (.slc 1), sO 8 (.slc 2), hB 0 41 [.int .i64 r_1, .slc 9001], hO 1 5 .u8 a4, hO 2 5 .u8 a6, hR 9000 .u8 b_0, hR 9001 .u8 r_2]) (fun k z => law15_FrameExact_l2 b_0 r_1 r_2 a4 a6 a170 k z.1 z.2) rr2 (fun _ => rfl) (((↑(List.length a170) : Int) - (0 : Int)).toNat + 1) ((0 : Int), (0 : Int)) e190 ?_ ?_
                        · rcases rr2 with _
                          replace h : ((keep_Bytes a4 b_0).bind (fun b191 => if b191 = true then (keep_Bytes a6 r_2).bind (fun b194 => if b194 = true then (law15_wakes).bind (fun b197 => some b197) else some false) else some false)) = _ := h
                          refine q_b_this ?_
                          refine q_k ?_
                          refine tr_seq ?_
                          obtain ⟨b191, e192, h⟩ := bind_some h
                          rcases ite_split h with ⟨hb193, h⟩ | ⟨hb200, h⟩
                          · obtain ⟨b194, e195, h⟩ := bind_some h
                            rcases ite_split h with ⟨hb196, h⟩ | ⟨hb199, h⟩
                            · obtain ⟨b197, e198, h⟩ := bind_some h
                              refine tr_reg hT [(2, .call [1, 9000] (.v (.one (.bool b191))) []), (3, .dec true), (7, .call [2, 9001] (.v (.one (.bool b194))) []), (9, .dec true), (10, .call [] (.v (.one (.bool b197))) [])] [.s 6] [sB 6 b197] [CallOk P 26 [.v (.one (.slc 1)), .v (.one (.slc 9000))] [(1, .own 5 .u8 a4), (9000, .rd .u8 b_0)] (.v (.one (.bool b191))) [], b191 = true, CallOk P 26 [.v (.one (.slc 2)), .v (.one (.slc 9001))] [(2, .own 5 .u8 a6), (9001, .rd .u8 r_2)] (.v (.one (.bool b194))) [], b194 = true, CallOk P 41 [] [] (.v (.one (.bool b197))) []] (by kernel_rfl) (hcons ((keep_Bytes_ok a4 b_0 b191 e192).tr [(9000, .slc 1), (9001, .slc 9000)] rfl (by kernel_rfl) ⟨.ownrd (e := 5) (by kernel_rfl), .rd (by kernel_rfl), trivial⟩ (by kernel_rfl) (by kernel_rfl) rfl rfl) (hcons hb193 (hcons ((keep_Bytes_ok a6 r_2 b194 e195).tr [(9000, .slc 2), (9001, .slc 9001)] rfl (by kernel_rfl) ⟨.ownrd (e := 5) (by kernel_rfl), .rd (by kernel_rfl), trivial⟩ (by kernel_rfl) (by kernel_rfl) rfl rfl) (hcons hb196 (hone (law15_wakes_ok  b197 e198)))))) ?_
                              refine q_k ?_
                              refine tr_ret ?_
                              have h := Option.some.inj h
                              subst h
                              refine q_less [.s 6] [sB 6 b197] (by kernel_rfl) ?_
                              exact q_ret1 hT (.v (.one (.bool b197))) [] (by kernel_rfl) (by kernel_rfl) (by kernel_rfl)
                            · refine tr_reg hT [(2, .call [1, 9000] (.v (.one (.bool b191))) []), (3, .dec true), (7, .call [2, 9001] (.v (.one (.bool b194))) []), (9, .dec false)] [.s 6] [sB 6 false] [CallOk P 26 [.v (.one (.slc 1)), .v (.one (.slc 9000))] [(1, .own 5 .u8 a4), (9000, .rd .u8 b_0)] (.v (.one (.bool b191))) [], b191 = true, CallOk P 26 [.v (.one (.slc 2)), .v (.one (.slc 9001))] [(2, .own 5 .u8 a6), (9001, .rd .u8 r_2)] (.v (.one (.bool b194))) [], b194 = false] (by kernel_rfl) (hcons ((keep_Bytes_ok a4 b_0 b191 e192).tr [(9000, .slc 1), (9001, .slc 9000)] rfl (by kernel_rfl) ⟨.ownrd (e := 5) (by kernel_rfl), .rd (by kernel_rfl), trivial⟩ (by kernel_rfl) (by kernel_rfl) rfl rfl) (hcons hb193 (hcons ((keep_Bytes_ok a6 r_2 b194 e195).tr [(9000, .slc 2), (9001, .slc 9001)] rfl (by kernel_rfl) ⟨.ownrd (e := 5) (by kernel_rfl), .rd (by kernel_rfl), trivial⟩ (by kernel_rfl) (by kernel_rfl) rfl rfl) (hone hb199)))) ?_
                              refine q_k ?_
                              refine tr_ret ?_
                              have h := Option.some.inj h
                              subst h
                              refine q_less [.s 6] [sB 6 false] (by kernel_rfl) ?_
                              exact q_ret1 hT (.v (.one (.bool false))) [] (by kernel_rfl) (by kernel_rfl) (by kernel_rfl)
                          · refine tr_reg hT [(2, .call [1, 9000] (.v (.one (.bool b191))) []), (3, .dec false)] [.s 6] [sB 6 false] [CallOk P 26 [.v (.one (.slc 1)), .v (.one (.slc 9000))] [(1, .own 5 .u8 a4), (9000, .rd .u8 b_0)] (.v (.one (.bool b191))) [], b191 = false] (by kernel_rfl) (hcons ((keep_Bytes_ok a4 b_0 b191 e192).tr [(9000, .slc 1), (9001, .slc 9000)] rfl (by kernel_rfl) ⟨.ownrd (e := 5) (by kernel_rfl), .rd (by kernel_rfl), trivial⟩ (by kernel_rfl) (by kernel_rfl) rfl rfl) (hone hb200)) ?_
                            refine q_k ?_
                            refine tr_ret ?_
                            have h := Option.some.inj h
                            subst h
                            refine q_less [.s 6] [sB 6 false] (by kernel_rfl) ?_
                            exact q_ret1 hT (.v (.one (.bool false))) [] (by kernel_rfl) (by kernel_rfl) (by kernel_rfl)
                        · clear h e190
                          intro k ih2 hx2 z h
                          obtain ⟨m183, i184⟩ := z
                          replace h : (if (decide (i184 < (↑(List.length a170) : Int))) = true then if 0 ≤ i184 ∧ i184 < ↑(List.length a170) then if m183 ≤ i184 then (keep_SpoilBytes ((a170.getD i184.toNat (0, [])).2)).bind (fun a188 => law15_FrameExact_l2 b_0 r_1 r_2 a4 a6 a170 k (i184 + 1) (IntKind.i64.wrap (i184 + (1 : Int)))) else none else none else some ()) = _ := h
                          refine tr_seq ?_
                          refine tr_seq ?_
                          refine tr_reg hT [] [.s 0, .s 4, .s 7, .s 8, .s 17, .s 21, .s 130, .h 0, .h 1, .h 2, .h 34, .h 9000, .h 9001] [sO 0 (.slc 9000), sO 4 (.ptr 0 0), sO 7 (.slc 1), sO 8 (.slc 2), sO 17 (.slc 34), sI 21 .i64 i184, sB 130 (decide (i184 < (↑(List.length a170) : Int))), hB 0 41 [.int .i64 r_1, .slc 9001], hO 1 5 .u8 a4, hO 2 5 .u8 a6, hE 34 41 5 m183 (.rc a170), hR 9000 .u8 b_0, hR 9001 .u8 r_2] [] (by kernel_rfl) trivial ?_
                          refine q_k ?_
                          rcases ite_split h with ⟨hc185, h⟩ | ⟨hc185, h⟩
                          · refine tr_cond_t (decide (i184 < (↑(List.length a170) : Int))) (by kernel_rfl) hc185 ?_
                            refine tr_skip ?_
                            refine q_k ?_
                            refine tr_seq ?_
                            refine tr_block ?_
                            obtain ⟨hn186, h⟩ := ite_some h
                            obtain ⟨hn187, h⟩ := ite_some h
                            obtain ⟨a188, e189, h⟩ := bind_some h
                            refine tr_reg hT [(4, .key 36), (5, .call [36] (.tup []) [(36, .own 5 .u8 a188)])] [.s 0, .s 4, .s 7, .s 8, .s 17, .s 21, .h 0, .h 1, .h 2, .h 34, .h 9000, .h 9001] [sO 0 (.slc 9000), sO 4 (.ptr 0 0), sO 7 (.slc 1), sO 8 (.slc 2), sO 17 (.slc 34), sI 21 .i64 i184, hB 0 41 [.int .i64 r_1, .slc 9001], hO 1 5 .u8 a4, hO 2 5 .u8 a6, hE 34 41 5 (i184 + 1) (.rc a170), hR 9000 .u8 b_0, hR 9001 .u8 r_2] [0 ≤ i184 ∧ i184 < ↑(List.length a170), 0 ≤ i184 ∧ i184 < ↑(List.length a170), i184 < ↑(List.length a170), m183 ≤ i184, CallOk P 35 [.v (.one (.slc 36))] [(36, .own 5 .u8 ((a170.getD i184.toNat (0, [])).2))] (.tup []) [(36, .own 5 .u8 a188)]] (by kernel_rfl) (hcons hn186 (hcons hn186 (hcons hn186.2 (hcons hn187 (hone ((keep_SpoilBytes_ok ((a170.getD i184.toNat (0, [])).2) a188 e189).tr [(9000, .slc 36)] rfl (by kernel_rfl) ⟨.own (by kernel_rfl), trivial⟩ (by kernel_rfl) (by kernel_rfl) rfl rfl)))))) ?_
                            refine q_b 1 ?_
                            refine q_k ?_
                            refine tr_reg hT [] [.s 0, .s 4, .s 7, .s 8, .s 17, .s 21, .h 0, .h 1, .h 2, .h 34, .h 9000, .h 9001] [sO 0 (.slc 9000), sO 4 (.ptr 0 0), sO 7 (.slc 1), sO 8 (.slc 2), sO 17 (.slc 34), sI 21 .i64 (IntKind.i64.wrap (i184 + (1 : Int))), hB 0 41 [.int .i64 r_1, .slc 9001], hO 1 5 .u8 a4, hO 2 5 .u8 a6, hE 34 41 5 (i184 + 1) (.rc a170), hR 9000 .u8 b_0, hR 9001 .u8 r_2] [] (by kernel_rfl) trivial ?_
                            refine q_kr ?_
                            exact trR_less [.s 0, .s 4, .s 7, .s 8, .s 17, .s 21, .h 0, .h 1, .h 2, .h 34, .h 9000, .h 9001] [sO 0 (.slc 9000), sO 4 (.ptr 0 0), sO 7 (.slc 1), sO 8 (.slc 2), sO 17 (.slc 34), sI 21 .i64 (IntKind.i64.wrap (i184 + (1 : Int))), hB 0 41 [.int .i64 r_1, .slc 9001], hO 1 5 .u8 a4, hO 2 5 .u8 a6, hE 34 41 5 (i184 + 1) (.rc a170), hR 9000 .u8 b_0, hR 9001 .u8 r_2] (by kernel_rfl) (ih2 ((i184 + 1), (IntKind.i64.wrap (i184 + (1 : Int)))) h)
                          · refine tr_cond_f (decide (i184 < (↑(List.length a170) : Int))) (by kernel_rfl) hc185 ?_
                            refine tr_exit ?_
                            refine q_k_exit ?_
                            refine q_kr_exit ?_
                            have h := Option.some.inj h
                            subst h
                            exact q_less [.s 0, .s 4, .s 7, .s 8, .h 0, .h 1, .h 2, .h 9000, .h 9001] [sO 0 (.slc 9000), sO 4 (.ptr 0 0), sO 7 (.slc 1), sO 8 (.slc 2), hB 0 41 [.int .i64 r_1, .slc 9001], hO 1 5 .u8 a4, hO 2 5 .u8 a6, hR 9000 .u8 b_0, hR 9001 .u8 r_2] (by kernel_rfl) hx2
          · refine tr_regd hT hM [(3, .dec false), (6, .dec false), (15, .dec false)] [.s 0, .s 2, .s 4, .s 7, .s 8, .s 9, .s 72, .h 0, .h 1, .h 2, .h 3, .h 9000, .h 9001] [sO 0 (.slc 9000), sI 2 .i64 at_3, sO 4 (.ptr 0 0), sO 7 (.slc 1), sO 8 (.slc 2), sO 9 (.slc 3), sB 72 false, hB 0 41 [.int .i64 r_1, .slc 9001], hO 1 5 .u8 a4, hO 2 5 .u8 a6, hO 3 5 .u8 a8, hR 9000 .u8 b_0, hR 9001 .u8 r_2] [(r9 != r12) = false, (r12 != (0 : Int)) = false, (r12 == (0 : Int)) = false] (by kernel_rfl) (hcons hb15 (hcons hb137 (hone hb201))) ?_
            refine q_k ?_
            refine tr_cond_f false (by kernel_rfl) rfl ?_
            refine tr_skip ?_
            refine q_k ?_
            refine tr_seq ?_
            obtain ⟨a202, e203, h⟩ := bind_some h
            refine tr_reg hT [(1, .call [3] (.tup []) [(3, .own 5 .u8 a202)])] [.s 0, .s 2, .s 4, .s 7, .s 8, .h 0, .h 1, .h 2, .h 9000, .h 9001] [sO 0 (.slc 9000), sI 2 .i64 at_3, sO 4 (.ptr 0 0), sO 7 (.slc 1), sO 8 (.slc 2), hB 0 41 [.int .i64 r_1, .slc 9001], hO 1 5 .u8 a4, hO 2 5 .u8 a6, hR 9000 .u8 b_0, hR 9001 .u8 r_2] [CallOk P 35 [.v (.one (.slc 3))] [(3, .own 5 .u8 a8)] (.tup []) [(3, .own 5 .u8 a202)]] (by kernel_rfl) (hone ((keep_SpoilBytes_ok a8 a202 e203).tr [(9000, .slc 3)] rfl (by kernel_rfl) ⟨.own (by kernel_rfl), trivial⟩ (by kernel_rfl) (by kernel_rfl) rfl rfl)) ?_
            refine q_k ?_
            refine tr_seq ?_
            obtain ⟨⟨r204, a205, r206, r207⟩, e208, h⟩ := bind_some h
            refine tr_reg hT [(2, .call [1] (.tup [.agg [.int .i64 r204, .slc 37], .one (.int .i64 r206), .one (.int .i64 r207)]) [(37, .own 5 .u8 a205)]), (7, .key 38)] [.s 0, .s 2, .s 4, .s 7, .s 8, .s 10, .s 12, .s 13, .h 0, .h 1, .h 2, .h 37, .h 38, .h 9000, .h 9001] [sO 0 (.slc 9000), sI 2 .i64 at_3, sO 4 (.ptr 0 0), sO 7 (.slc 1), sO 8 (.slc 2), sI 10 .i64 r207, sO 12 (.ptr 38 0), sI 13 .i64 r206, hB 0 41 [.int .i64 r_1, .slc 9001], hO 1 5 .u8 a4, hO 2 5 .u8 a6, hO 37 5 .u8 a205, hB 38 41 [.int .i64 r204, .slc 37], hR 9000 .u8 b_0, hR 9001 .u8 r_2] [CallOk P 36 [.v (.one (.slc 1)), .v (.one (.int .i64 at_3))] [(1, .own 5 .u8 a4)] (.tup [.agg [.int .i64 r204, .slc 37], .one (.int .i64 r206), .one (.int .i64 r207)]) [(37, .own 5 .u8 a205)]] (by kernel_rfl) (hone ((frame_Get_ok a4 at_3 (r204, a205, r206, r207) e208).tr [(9000, .slc 1), (8900, .slc 37)] rfl (by kernel_rfl) ⟨.ownrd (e := 5) (by kernel_rfl), trivial⟩ (by kernel_rfl) (by kernel_rfl) rfl rfl)) ?_
            refine q_k ?_
            refine tr_seq ?_
            obtain ⟨⟨r210, a211, r212, r213⟩, e214, h⟩ := bind_some h
            refine tr_reg hT [(2, .call [9000] (.tup [.agg [.int .i64 r210, .slc 39], .one (.int .i64 r212), .one (.int .i64 r213)]) [(39, .own 5 .u8 a211)]), (7, .key 40)] [.s 0, .s 4, .s 7, .s 8, .s 10, .s 12, .s 13, .s 14, .s 15, .s 16, .h 0, .h 1, .h 2, .h 37, .h 38, .h 39, .h 40, .h 9000, .h 9001] [sO 0 (.slc 9000), sO 4 (.ptr 0 0), sO 7 (.slc 1), sO 8 (.slc 2), sI 10 .i64 r207, sO 12 (.ptr 38 0), sI 13 .i64 r206, sO 14 (.ptr 40 0), sI 15 .i64 r212, sI 16 .i64 r213, hB 0 41 [.int .i64 r_1, .slc 9001], hO 1 5 .u8 a4, hO 2 5 .u8 a6, hO 37 5 .u8 a205, hB 38 41 [.int .i64 r204, .slc 37], hO 39 5 .u8 a211, hB 40 41 [.int .i64 r210, .slc 39], hR 9000 .u8 b_0, hR 9001 .u8 r_2] [CallOk P 37 [.v (.one (.slc 9000)), .v (.one (.int .i64 at_3))] [(9000, .rd .u8 b_0)] (.tup [.agg [.int .i64 r210, .slc 39], .one (.int .i64 r212), .one (.int .i64 r213)]) [(39, .own 5 .u8 a211)]] (by kernel_rfl) (hone ((ref14_Get_ok b_0 at_3 (r210, a211, r212, r213) e214).tr [(9000, .slc 9000), (8900, .slc 39)] rfl (by kernel_rfl) ⟨.rd (by kernel_rfl), trivial⟩ (by kernel_rfl) (by kernel_rfl) rfl rfl)) ?_
            refine q_k ?_
            refine tr_seq ?_
            refine tr_seq ?_
            rcases ite_split h with ⟨hb216, h⟩ | ⟨hb217, h⟩
            · refine tr_reg hT [(3, .dec true)] [.s 0, .s 4, .s 7, .s 8, .s 12, .s 104, .h 0, .h 1, .h 2, .h 37, .h 38, .h 9000, .h 9001] [sO 0 (.slc 9000), sO 4 (.ptr 0 0), sO 7 (.slc 1), sO 8 (.slc 2), sO 12 (.ptr 38 0), sB 104 true, hB 0 41 [.int .i64 r_1, .slc 9001], hO 1 5 .u8 a4, hO 2 5 .u8 a6, hO 37 5 .u8 a205, hB 38 41 [.int .i64 r204, .slc 37], hR 9000 .u8 b_0, hR 9001 .u8 r_2] [(r207 != r213) = true] (by kernel_rfl) (hone hb216) ?_
              refine q_k ?_
              refine tr_cond_t true (by kernel_rfl) rfl ?_
              refine tr_seq ?_
              refine tr_reg hT [] [.s 6] [sB 6 false] [] (by kernel_rfl) trivial ?_
              refine q_k ?_
              refine tr_ret ?_
              refine q_k_ret ?_
              have h := Option.some.inj h
              subst h
              refine q_less [.s 6] [sB 6 false] (by kernel_rfl) ?_
              exact q_ret1 hT (.v (.one (.bool false))) [] (by kernel_rfl) (by kernel_rfl) (by kernel_rfl)
            · rcases ite_split h with ⟨hb218, h⟩ | ⟨hb219, h⟩
              · refine tr_reg hT [(3, .dec false), (8, .dec true)] [.s 0, .s 4, .s 7, .s 8, .s 12, .s 104, .h 0, .h 1, .h 2, .h 37, .h 38, .h 9000, .h 9001] [sO 0 (.slc 9000), sO 4 (.ptr 0 0), sO 7 (.slc 1), sO 8 (.slc 2), sO 12 (.ptr 38 0), sB 104 true, hB 0 41 [.int .i64 r_1, .slc 9001], hO 1 5 .u8 a4, hO 2 5 .u8 a6, hO 37 5 .u8 a205, hB 38 41 [.int .i64 r204, .slc 37], hR 9000 .u8 b_0, hR 9001 .u8 r_2] [(r207 != r213) = false, (r206 != r212) = true] (by kernel_rfl) (hcons hb217 (hone hb218)) ?_
                refine q_k ?_
                refine tr_cond_t true (by kernel_rfl) rfl ?_
                refine tr_seq ?_
                refine tr_reg hT [] [.s 6] [sB 6 false] [] (by kernel_rfl) trivial ?_
                refine q_k ?_
                refine tr_ret ?_
                refine q_k_ret ?_
                have h := Option.some.inj h
                subst h
                refine q_less [.s 6] [sB 6 false] (by kernel_rfl) ?_
                exact q_ret1 hT (.v (.one (.bool false))) [] (by kernel_rfl) (by kernel_rfl) (by kernel_rfl)
              · obtain ⟨b220, e221, h⟩ := bind_some h
                refine tr_reg hT [(3, .dec false), (8, .dec false), (10, .lk 41), (12, .lk 42), (13, .call [41, 42, 37, 39] (.v (.one (.bool b220))) [])] [.s 0, .s 4, .s 7, .s 8, .s 12, .s 104, .h 0, .h 1, .h 2, .h 37, .h 38, .h 9000, .h 9001] [sO 0 (.slc 9000), sO 4 (.ptr 0 0), sO 7 (.slc 1), sO 8 (.slc 2), sO 12 (.ptr 38 0), sB 104 (!b220), hB 0 41 [.int .i64 r_1, .slc 9001], hO 1 5 .u8 a4, hO 2 5 .u8 a6, hO 37 5 .u8 a205, hB 38 41 [.int .i64 r204, .slc 37], hR 9000 .u8 b_0, hR 9001 .u8 r_2] [(r207 != r213) = false, (r206 != r212) = false, CallOk P 38 [.v (.one (.slc 41)), .v (.one (.slc 42))] [(41, .lit 41 1 [.int .i64 r204, .slc 37]), (42, .lit 41 1 [.int .i64 r210, .slc 39]), (37, .own 5 .u8 a205), (39, .own 5 .u8 a211)] (.v (.one (.bool b220))) []] (by kernel_rfl) (hcons hb217 (hcons hb219 (hone ((keep_Recs_ok [(r204, a205)] [(r210, a211)] b220 e221).tr [(9000, .slc 41), (9001, .slc 42)] rfl (by kernel_rfl) ⟨.litrc (κ1 := 37) (e := 41) (e1 := 5) (by kernel_rfl) (by kernel_rfl), .litrc (κ1 := 39) (e := 41) (e1 := 5) (by kernel_rfl) (by kernel_rfl), trivial⟩ (by kernel_rfl) (by kernel_rfl) rfl rfl)))) ?_
                refine q_k ?_
                rcases ite_split h with ⟨hc222, h⟩ | ⟨hc222, h⟩
                · refine tr_cond_t (!b220) (by kernel_rfl) hc222 ?_
                  refine tr_seq ?_
                  refine tr_reg hT [] [.s 6] [sB 6 false] [] (by kernel_rfl) trivial ?_
                  refine q_k ?_
                  refine tr_ret ?_
                  refine q_k_ret ?_
                  have h := Option.some.inj h
                  subst h
                  refine q_less [.s 6] [sB 6 false] (by kernel_rfl) ?_
                  exact q_ret1 hT (.v (.one (.bool false))) [] (by kernel_rfl) (by kernel_rfl) (by kernel_rfl)
                · refine tr_cond_f (!b220) (by kernel_rfl) hc222 ?_
                  refine tr_skip ?_
                  refine q_k ?_
                  refine tr_seq ?_
                  obtain ⟨a223, e224, h⟩ := bind_some h
                  refine tr_reg hT [(2, .call [37] (.tup []) [(37, .own 5 .u8 a223)])] [.s 0, .s 4, .s 7, .s 8, .h 0, .h 1, .h 2, .h 9000, .h 9001] [sO 0 (.slc 9000), sO 4 (.ptr 0 0), sO 7 (.slc 1), sO 8 (.slc 2), hB 0 41 [.int .i64 r_1, .slc 9001], hO 1 5 .u8 a4, hO 2 5 .u8 a6, hR 9000 .u8 b_0, hR 9001 .u8 r_2] [CallOk P 35 [.v (.one (.slc 37))] [(37, .own 5 .u8 a205)] (.tup []) [(37, .own 5 .u8 a223)]] (by kernel_rfl) (hone ((keep_SpoilBytes_ok a205 a223 e224).tr [(9000, .slc 37)] rfl (by kernel_rfl) ⟨.own (by kernel_rfl), trivial⟩ (by kernel_rfl) (by kernel_rfl) rfl rfl)) ?_
                  refine q_k ?_
                  refine tr_seq ?_
                  obtain ⟨⟨a225, r226⟩, e227, h⟩ := bind_some h
                  refine tr_reg hT [(1, .call [1] (.tup [.one (.slc 43), .one (.int .i64 r226)]) [(43, .frows 41 5 (0 : Int) (.rc a225))])] [.s 0, .s 4, .s 7, .s 8, .s 17, .s 18, .h 0, .h 1, .h 2, .h 43, .h 9000, .h 9001] [sO 0 (.slc 9000), sO 4 (.ptr 0 0), sO 7 (.slc 1), sO 8 (.slc 2), sO 17 (.slc 43), sI 18 .i64 r226, hB 0 41 [.int .i64 r_1, .slc 9001], hO 1 5 .u8 a4, hO 2 5 .u8 a6, hE 43 41 5 (0 : Int) (.rc a225), hR 9000 .u8 b_0, hR 9001 .u8 r_2] [CallOk P 39 [.v (.one (.slc 1))] [(1, .own 5 .u8 a4)] (.tup [.one (.slc 43), .one (.int .i64 r226)]) [(43, .frows 41 5 (0 : Int) (.rc a225))]] (by kernel_rfl) (hone ((frame_Split_ok a4 (a225, r226) e227).tr [(9000, .slc 1), (8900, .slc 43)] rfl (by kernel_rfl) ⟨.ownrd (e := 5) (by kernel_rfl), trivial⟩ (by kernel_rfl) (by kernel_rfl) rfl rfl)) ?_
                  refine q_k ?_
                  refine tr_seq ?_
                  obtain ⟨⟨a229, r230⟩, e231, h⟩ := bind_some h
                  refine tr_reg hT [(1, .call [9000] (.tup [.one (.slc 44), .one (.int .i64 r230)]) [(44, .orows 41 (.rc a229))])] [.s 0, .s 4, .s 7, .s 8, .s 17, .s 18, .s 19, .s 20, .h 0, .h 1, .h 2, .h 43, .h 44, .h 9000, .h 9001] [sO 0 (.slc 9000), sO 4 (.ptr 0 0), sO 7 (.slc 1), sO 8 (.slc 2), sO 17 (.slc 43), sI 18 .i64 r226, sO 19 (.slc 44), sI 20 .i64 r230, hB 0 41 [.int .i64 r_1, .slc 9001], hO 1 5 .u8 a4, hO 2 5 .u8 a6, hE 43 41 5 (0 : Int) (.rc a225), hV 44 41 (.rc a229), hR 9000 .u8 b_0, hR 9001 .u8 r_2] [CallOk P 40 [.v (.one (.slc 9000))] [(9000, .rd .u8 b_0)] (.tup [.one (.slc 44), .one (.int .i64 r230)]) [(44, .orows 41 (.rc a229))]] (by kernel_rfl) (hone ((ref14_Split_ok b_0 (a229, r230) e231).tr [(9000, .slc 9000), (8900, .slc 44)] rfl (by kernel_rfl) ⟨.rd (by kernel_rfl), trivial⟩ (by kernel_rfl) (by kernel_rfl) rfl rfl)) ?_
                  refine q_k ?_
                  refine tr_seq ?_
                  refine tr_seq ?_
                  rcases ite_split h with ⟨hb233, h⟩ | ⟨hb234, h⟩
                  · refine tr_reg hT [(3, .dec true)] [.s 0, .s 4, .s 7, .s 8, .s 17, .s 126, .h 0, .h 1, .h 2, .h 43, .h 9000, .h 9001] [sO 0 (.slc 9000), sO 4 (.ptr 0 0), sO 7 (.slc 1), sO 8 (.slc 2), sO 17 (.slc 43), sB 126 true, hB 0 41 [.int .i64 r_1, .slc 9001], hO 1 5 .u8 a4, hO 2 5 .u8 a6, hE 43 41 5 (0 : Int) (.rc a225), hR 9000 .u8 b_0, hR 9001 .u8 r_2] [(r226 != r230) = true] (by kernel_rfl) (hone hb233) ?_
                    refine q_k ?_
                    refine tr_cond_t true (by kernel_rfl) rfl ?_
                    refine tr_seq ?_
                    refine tr_reg hT [] [.s 6] [sB 6 false] [] (by kernel_rfl) trivial ?_
                    refine q_k ?_
                    refine tr_ret ?_
                    refine q_k_ret ?_
                    have h := Option.some.inj h
                    subst h
                    refine q_less [.s 6] [sB 6 false] (by kernel_rfl) ?_
                    exact q_ret1 hT (.v (.one (.bool false))) [] (by kernel_rfl) (by kernel_rfl) (by kernel_rfl)
                  · obtain ⟨b235, e236, h⟩ := bind_some h
                    refine tr_reg hT [(3, .dec false), (6, .call [43, 44] (.v (.one (.bool b235))) [])] [.s 0, .s 4, .s 7, .s 8, .s 17, .s 126, .h 0, .h 1, .h 2, .h 43, .h 9000, .h 9001] [sO 0 (.slc 9000), sO 4 (.ptr 0 0), sO 7 (.slc 1), sO 8 (.slc 2), sO 17 (.slc 43), sB 126 (!b235), hB 0 41 [.int .i64 r_1, .slc 9001], hO 1 5 .u8 a4, hO 2 5 .u8 a6, hE 43 41 5 (0 : Int) (.rc a225), hR 9000 .u8 b_0, hR 9001 .u8 r_2] [(r226 != r230) = false, CallOk P 38 [.v (.one (.slc 43)), .v (.one (.slc 44))] [(43, .frows 41 5 (0 : Int) (.rc a225)), (44, .orows 41 (.rc a229))] (.v (.one (.bool b235))) []] (by kernel_rfl) (hcons hb234 (hone ((keep_Recs_ok a225 a229 b235 e236).tr [(9000, .slc 43), (9001, .slc 44)] rfl (by kernel_rfl) ⟨.frowsr (e := 41) (eb := 5) (by kernel_rfl), .orowsr (e := 41) (by kernel_rfl), trivial⟩ (by kernel_rfl) (by kernel_rfl) rfl rfl))) ?_
                    refine q_k ?_
                    rcases ite_split h with ⟨hc237, h⟩ | ⟨hc237, h⟩
                    · refine tr_cond_t (!b235) (by kernel_rfl) hc237 ?_
                      refine tr_seq ?_
                      refine tr_reg hT [] [.s 6] [sB 6 false] [] (by kernel_rfl) trivial ?_
                      refine q_k ?_
                      refine tr_ret ?_
                      refine q_k_ret ?_
                      have h := Option.some.inj h
                      subst h
                      refine q_less [.s 6] [sB 6 false] (by kernel_rfl) ?_
                      exact q_ret1 hT (.v (.one (.bool false))) [] (by kernel_rfl) (by kernel_rfl) (by kernel_rfl)
                    · refine tr_cond_f (!b235) (by kernel_rfl) hc237 ?_
                      refine tr_skip ?_
                      refine q_k ?_
                      refine tr_seq ?_
                      refine tr_seq ?_
                      refine tr_reg hT [] [.s 0, .s 4, .s 7, .s 8, .s 17, .s 21, .h 0, .h 1, .h 2, .h 43, .h 9000, .h 9001] [sO 0 (.slc 9000), sO 4 (.ptr 0 0), sO 7 (.slc 1), sO 8 (.slc 2), sO 17 (.slc 43), sI 21 .i64 (0 : Int), hB 0 41 [.int .i64 r_1, .slc 9001], hO 1 5 .u8 a4, hO 2 5 .u8 a6, hE 43 41 5 (0 : Int) (.rc a225), hR 9000 .u8 b_0, hR 9001 .u8 r_2] [] (by kernel_rfl) trivial ?_
                      refine q_k ?_
                      refine tr_block ?_
                      obtain ⟨rr3, e245, h⟩ := bind_some h
                      refine tr_fit [] [sO 0 (.slc 9000), sO 4 (.ptr 0 0), sO 7 (.slc 1), sO 8 (.slc 2), sO 17 (.slc 43), sI 21 .i64 (0 : Int), hB 0 41 [.int .i64 r_1, .slc 9001], hO 1 5 .u8 a4, hO 2 5 .u8 a6, hE 43 41 5 (0 : Int) (.rc a225), hR 9000 .u8 b_0, hR 9001 .u8 r_2] [(0, .blk 41 [.int .i64 r_1, .slc 9001]), (1, .own 5 .u8 a4), (2, .own 5 .u8 a6), (43, .frows 41 5 (0 : Int) (.rc a225)), (9000, .rd .u8 b_0), (9001, .rd .u8 r_2)] (by kernel_rfl) (by kernel_rfl) (by kernel_rfl) rfl ⟨.blk (by kernel_rfl) (by kernel_rfl), .own (by kernel_rfl), .own (by kernel_rfl), .frows (by kernel_rfl), .rd (by kernel_rfl), .rd (by kernel_rfl), trivial⟩ (by kernel_rfl) ?_
                      refine tr_loop_fuel (id := 0) (α := Int × Int) (β := Unit) (fun z => [sO 0 (.slc 9000), sO 4 (.ptr 0 0), sO 7 (.slc 1), sO 8 (.slc 2), sO 17 (.slc 43), sI 21 .i64 z.2, hB 0 41 [.int .i64 r_1, .slc 9001], hO 1 5 .u8 a4, hO 2 5 .u8 a6, hE 43 41 5 z.1 (.rc a225), hR 9000 .u8 b_0, hR 9001 .u8 r_2]) (fun z => [sO 0 (.slc 9000), sO 4 (.ptr 0 0), sO 7 (.slc 1), sO 8 (.slc 2), hB 0 41 [.int .i64 r_1, .slc 9001], hO 1 5 .u8 a4, hO 2 5 .u8 a6, hR 9000 .u8 b_0, hR 9001 .u8 r_2]) (fun k z => law15_FrameExact_l3 b_0 r_1 r_2 a4 a6 a225 k z.1 z.2) rr3 (fun _ => rfl) (((↑(List.length a225) : Int) - (0 : Int)).toNat + 1) ((0 : Int), (0 : Int)) e245 ?_ ?_
                      · rcases rr3 with _
                        replace h : ((keep_Bytes a4 b_0).bind (fun b246 => if b246 = true then (keep_Bytes a6 r_2).bind (fun b249 => if b249 = true then (law15_wakes).bind (fun b252 => some b252) else some false) else some false)) = _ := h
                        refine q_b_this ?_
                        refine q_k ?_
                        refine tr_seq ?_
                        obtain ⟨b246, e247, h⟩ := bind_some h
                        rcases ite_split h with ⟨hb248, h⟩ | ⟨hb255, h⟩
                        · obtain ⟨b249, e250, h⟩ := bind_some h
                          rcases ite_split h with ⟨hb251, h⟩ | ⟨hb254, h⟩
                          · obtain ⟨b252, e253, h⟩ := bind_some h
                            refine tr_reg hT [(2, .call [1, 9000] (.v (.one (.bool b246))) []), (3, .dec true), (7, .call [2, 9001] (.v (.one (.bool b249))) []), (9, .dec true), (10, .call [] (.v (.one (.bool b252))) [])] [.s 6] [sB 6 b252] [CallOk P 26 [.v (.one (.slc 1)), .v (.one (.slc 9000))] [(1, .own 5 .u8 a4), (9000, .rd .u8 b_0)] (.v (.one (.bool b246))) [], b246 = true, CallOk P 26 [.v (.one (.slc 2)), .v (.one (.slc 9001))] [(2, .own 5 .u8 a6), (9001, .rd .u8 r_2)] (.v (.one (.bool b249))) [], b249 = true, CallOk P 41 [] [] (.v (.one (.bool b252))) []] (by kernel_rfl) (hcons ((keep_Bytes_ok a4 b_0 b246 e247).tr [(9000, .slc 1), (9001, .slc 9000)] rfl (by kernel_rfl) ⟨.ownrd (e := 5) (by kernel_rfl), .rd (by kernel_rfl), trivial⟩ (by kernel_rfl) (by kernel_rfl) rfl rfl) (hcons hb248 (hcons ((keep_Bytes_ok a6 r_2 b249 e250).tr [(9000, .slc 2), (9001, .slc 9001)] rfl (by kernel_rfl) ⟨.ownrd (e := 5) (by kernel_rfl), .rd (by kernel_rfl), trivial⟩ (by kernel_rfl) (by kernel_rfl) rfl rfl) (hcons hb251 (hone (law15_wakes_ok  b252 e253)))))) ?_
                            refine q_k ?_
                            refine tr_ret ?_
                            have h := Option.some.inj h
                            subst h
                            refine q_less [.s 6] [sB 6 b252] (by kernel_rfl) ?_
                            exact q_ret1 hT (.v (.one (.bool b252))) [] (by kernel_rfl) (by kernel_rfl) (by kernel_rfl)
                          · refine tr_reg hT [(2, .call [1, 9000] (.v (.one (.bool b246))) []), (3, .dec true), (7, .call [2, 9001] (.v (.one (.bool b249))) []), (9, .dec false)] [.s 6] [sB 6 false] [CallOk P 26 [.v (.one (.slc 1)), .v (.one (.slc 9000))] [(1, .own 5 .u8 a4), (9000, .rd .u8 b_0)] (.v (.one (.bool b246))) [], b246 = true, CallOk P 26 [.v (.one (.slc 2)), .v (.one (.slc 9001))] [(2, .own 5 .u8 a6), (9001, .rd .u8 r_2)] (.v (.one (.bool b249))) [], b249 = false] (by kernel_rfl) (hcons ((keep_Bytes_ok a4 b_0 b246 e247).tr [(9000, .slc 1), (9001, .slc 9000)] rfl (by kernel_rfl) ⟨.ownrd (e := 5) (by kernel_rfl), .rd (by kernel_rfl), trivial⟩ (by kernel_rfl) (by kernel_rfl) rfl rfl) (hcons hb248 (hcons ((keep_Bytes_ok a6 r_2 b249 e250).tr [(9000, .slc 2), (9001, .slc 9001)] rfl (by kernel_rfl) ⟨.ownrd (e := 5) (by kernel_rfl), .rd (by kernel_rfl), trivial⟩ (by kernel_rfl) (by kernel_rfl) rfl rfl) (hone hb254)))) ?_
                            refine q_k ?_
                            refine tr_ret ?_
                            have h := Option.some.inj h
                            subst h
                            refine q_less [.s 6] [sB 6 false] (by kernel_rfl) ?_
                            exact q_ret1 hT (.v (.one (.bool false))) [] (by kernel_rfl) (by kernel_rfl) (by kernel_rfl)
                        · refine tr_reg hT [(2, .call [1, 9000] (.v (.one (.bool b246))) []), (3, .dec false)] [.s 6] [sB 6 false] [CallOk P 26 [.v (.one (.slc 1)), .v (.one (.slc 9000))] [(1, .own 5 .u8 a4), (9000, .rd .u8 b_0)] (.v (.one (.bool b246))) [], b246 = false] (by kernel_rfl) (hcons ((keep_Bytes_ok a4 b_0 b246 e247).tr [(9000, .slc 1), (9001, .slc 9000)] rfl (by kernel_rfl) ⟨.ownrd (e := 5) (by kernel_rfl), .rd (by kernel_rfl), trivial⟩ (by kernel_rfl) (by kernel_rfl) rfl rfl) (hone hb255)) ?_
                          refine q_k ?_
                          refine tr_ret ?_
                          have h := Option.some.inj h
                          subst h
                          refine q_less [.s 6] [sB 6 false] (by kernel_rfl) ?_
                          exact q_ret1 hT (.v (.one (.bool false))) [] (by kernel_rfl) (by kernel_rfl) (by kernel_rfl)
                      · clear h e245
                        intro k ih3 hx3 z h
                        obtain ⟨m238, i239⟩ := z
                        replace h : (if (decide (i239 < (↑(List.length a225) : Int))) = true then if 0 ≤ i239 ∧ i239 < ↑(List.length a225) then if m238 ≤ i239 then (keep_SpoilBytes ((a225.getD i239.toNat (0, [])).2)).bind (fun a243 => law15_FrameExact_l3 b_0 r_1 r_2 a4 a6 a225 k (i239 + 1) (IntKind.i64.wrap (i239 + (1 : Int)))) else none else none else some ()) = _ := h
                        refine tr_seq ?_
                        refine tr_seq ?_
                        refine tr_reg hT [] [.s 0, .s 4, .s 7, .s 8, .s 17, .s 21, .s 130, .h 0, .h 1, .h 2, .h 43, .h 9000, .h 9001] [sO 0 (.slc 9000), sO 4 (.ptr 0 0), sO 7 (.slc 1), sO 8 (.slc 2), sO 17 (.slc 43), sI 21 .i64 i239, sB 130 (decide (i239 < (↑(List.length a225) : Int))), hB 0 41 [.int .i64 r_1, .slc 9001], hO 1 5 .u8 a4, hO 2 5 .u8 a6, hE 43 41 5 m238 (.rc a225), hR 9000 .u8 b_0, hR 9001 .u8 r_2] [] (by kernel_rfl) trivial ?_
                        refine q_k ?_
                        rcases ite_split h with ⟨hc240, h⟩ | ⟨hc240, h⟩
                        · refine tr_cond_t (decide (i239 < (↑(List.length a225) : Int))) (by kernel_rfl) hc240 ?_
                          refine tr_skip ?_
                          refine q_k ?_
                          refine tr_seq ?_
                          refine tr_block ?_
                          obtain ⟨hn241, h⟩ := ite_some h
                          obtain ⟨hn242, h⟩ := ite_some h
                          obtain ⟨a243, e244, h⟩ := bind_some h
                          refine tr_reg hT [(4, .key 45), (5, .call [45] (.tup []) [(45, .own 5 .u8 a243)])] [.s 0, .s 4, .s 7, .s 8, .s 17, .s 21, .h 0, .h 1, .h 2, .h 43, .h 9000, .h 9001] [sO 0 (.slc 9000), sO 4 (.ptr 0 0), sO 7 (.slc 1), sO 8 (.slc 2), sO 17 (.slc 43), sI 21 .i64 i239, hB 0 41 [.int .i64 r_1, .slc 9001], hO 1 5 .u8 a4, hO 2 5 .u8 a6, hE 43 41 5 (i239 + 1) (.rc a225), hR 9000 .u8 b_0, hR 9001 .u8 r_2] [0 ≤ i239 ∧ i239 < ↑(List.length a225), 0 ≤ i239 ∧ i239 < ↑(List.length a225), i239 < ↑(List.length a225), m238 ≤ i239, CallOk P 35 [.v (.one (.slc 45))] [(45, .own 5 .u8 ((a225.getD i239.toNat (0, [])).2))] (.tup []) [(45, .own 5 .u8 a243)]] (by kernel_rfl) (hcons hn241 (hcons hn241 (hcons hn241.2 (hcons hn242 (hone ((keep_SpoilBytes_ok ((a225.getD i239.toNat (0, [])).2) a243 e244).tr [(9000, .slc 45)] rfl (by kernel_rfl) ⟨.own (by kernel_rfl), trivial⟩ (by kernel_rfl) (by kernel_rfl) rfl rfl)))))) ?_
                          refine q_b 1 ?_
                          refine q_k ?_
                          refine tr_reg hT [] [.s 0, .s 4, .s 7, .s 8, .s 17, .s 21, .h 0, .h 1, .h 2, .h 43, .h 9000, .h 9001] [sO 0 (.slc 9000), sO 4 (.ptr 0 0), sO 7 (.slc 1), sO 8 (.slc 2), sO 17 (.slc 43), sI 21 .i64 (IntKind.i64.wrap (i239 + (1 : Int))), hB 0 41 [.int .i64 r_1, .slc 9001], hO 1 5 .u8 a4, hO 2 5 .u8 a6, hE 43 41 5 (i239 + 1) (.rc a225), hR 9000 .u8 b_0, hR 9001 .u8 r_2] [] (by kernel_rfl) trivial ?_
                          refine q_kr ?_
                          exact trR_less [.s 0, .s 4, .s 7, .s 8, .s 17, .s 21, .h 0, .h 1, .h 2, .h 43, .h 9000, .h 9001] [sO 0 (.slc 9000), sO 4 (.ptr 0 0), sO 7 (.slc 1), sO 8 (.slc 2), sO 17 (.slc 43), sI 21 .i64 (IntKind.i64.wrap (i239 + (1 : Int))), hB 0 41 [.int .i64 r_1, .slc 9001], hO 1 5 .u8 a4, hO 2 5 .u8 a6, hE 43 41 5 (i239 + 1) (.rc a225), hR 9000 .u8 b_0, hR 9001 .u8 r_2] (by kernel_rfl) (ih3 ((i239 + 1), (IntKind.i64.wrap (i239 + (1 : Int)))) h)
                        · refine tr_cond_f (decide (i239 < (↑(List.length a225) : Int))) (by kernel_rfl) hc240 ?_
                          refine tr_exit ?_
                          refine q_k_exit ?_
                          refine q_kr_exit ?_
                          have h := Option.some.inj h
                          subst h
                          exact q_less [.s 0, .s 4, .s 7, .s 8, .h 0, .h 1, .h 2, .h 9000, .h 9001] [sO 0 (.slc 9000), sO 4 (.ptr 0 0), sO 7 (.slc 1), sO 8 (.slc 2), hB 0 41 [.int .i64 r_1, .slc 9001], hO 1 5 .u8 a4, hO 2 5 .u8 a6, hR 9000 .u8 b_0, hR 9001 .u8 r_2] (by kernel_rfl) hx3

theorem law15_FrameBack_ok (l_0 : List (Int × List Int)) (cut_1 : Int) (tail_2 : List Int) (r : Bool) (h : law15_FrameBack l_0 cut_1 tail_2 = some r) : CallOk P 12 [.v (.one (.slc 9000)), .v (.one (.int .i64 cut_1)), .v (.one (.slc 9001))] [(9000, .rows (.rc l_0)), (9001, .rd .u8 tail_2)] (.v (.one (.bool r))) [] := by
  refine call1 (N := 158) Try.func12 (by kernel_rfl) rfl rfl rfl [(9000, .rows (.rc l_0)), (9001, .rd .u8 tail_2)] (by kernel_rfl) ?_
  intro _ B w0
  show Tr P B 158 w0 _ _ (RetQ P Try.f12 (R1 _ _ B w0))
  unfold law15_FrameBack at h
  refine tr_seq ?_
  refine tr_reg hT [] [.s 0, .s 1, .s 2, .h 9000, .h 9001] [sO 0 (.slc 9000), sI 1 .i64 cut_1, sO 2 (.slc 9001), hW 9000 (.rc l_0), hR 9001 .u8 tail_2] [] (by kernel_rfl) trivial ?_
  refine q_k ?_
  refine tr_seq ?_
  refine tr_seq ?_
  rcases ite_split h with ⟨hb1, h⟩ | ⟨hb2, h⟩
  · refine tr_reg hT [(3, .dec true)] [.s 0, .s 1, .s 2, .s 23, .h 9000, .h 9001] [sO 0 (.slc 9000), sI 1 .i64 cut_1, sO 2 (.slc 9001), sB 23 true, hW 9000 (.rc l_0), hR 9001 .u8 tail_2] [(decide ((↑(List.length l_0) : Int) > (20 : Int))) = true] (by kernel_rfl) (hone hb1) ?_
    refine q_k ?_
    refine tr_cond_t true (by kernel_rfl) rfl ?_
    refine tr_seq ?_
    refine tr_reg hT [] [.s 6] [sB 6 true] [] (by kernel_rfl) trivial ?_
    refine q_k ?_
    refine tr_ret ?_
    refine q_k_ret ?_
    have h := Option.some.inj h
    subst h
    refine q_less [.s 6] [sB 6 true] (by kernel_rfl) ?_
    exact q_ret1 hT (.v (.one (.bool true))) [] (by kernel_rfl) (by kernel_rfl) (by kernel_rfl)
  · refine tr_reg hT [(3, .dec false)] [.s 0, .s 1, .s 2, .s 23, .h 9000, .h 9001] [sO 0 (.slc 9000), sI 1 .i64 cut_1, sO 2 (.slc 9001), sB 23 (decide ((↑(List.length tail_2) : Int) > (300 : Int))), hW 9000 (.rc l_0), hR 9001 .u8 tail_2] [(decide ((↑(List.length l_0) : Int) > (20 : Int))) = false] (by kernel_rfl) (hone hb2) ?_
    refine q_k ?_
    rcases ite_split h with ⟨hc3, h⟩ | ⟨hc3, h⟩
    · refine tr_cond_t (decide ((↑(List.length tail_2) : Int) > (300 : Int))) (by kernel_rfl) hc3 ?_
      refine tr_seq ?_
      refine tr_reg hT [] [.s 6] [sB 6 true] [] (by kernel_rfl) trivial ?_
      refine q_k ?_
      refine tr_ret ?_
      refine q_k_ret ?_
      have h := Option.some.inj h
      subst h
      refine q_less [.s 6] [sB 6 true] (by kernel_rfl) ?_
      exact q_ret1 hT (.v (.one (.bool true))) [] (by kernel_rfl) (by kernel_rfl) (by kernel_rfl)
    · refine tr_cond_f (decide ((↑(List.length tail_2) : Int) > (300 : Int))) (by kernel_rfl) hc3 ?_
      refine tr_skip ?_
      refine q_k ?_
      refine tr_seq ?_
      refine tr_reg hT [] [.s 0, .s 1, .s 2, .s 7, .h 9000, .h 9001] [sO 0 (.slc 9000), sI 1 .i64 cut_1, sO 2 (.slc 9001), sO 7 (.nils), hW 9000 (.rc l_0), hR 9001 .u8 tail_2] [] (by kernel_rfl) trivial ?_
      refine q_k ?_
      refine tr_seq ?_
      refine tr_reg hT [] [.s 0, .s 1, .s 2, .s 7, .s 8, .h 9000, .h 9001] [sO 0 (.slc 9000), sI 1 .i64 cut_1, sO 2 (.slc 9001), sO 7 (.nils), sO 8 (.nils), hW 9000 (.rc l_0), hR 9001 .u8 tail_2] [] (by kernel_rfl) trivial ?_
      refine q_k ?_
      refine tr_seq ?_
      refine tr_seq ?_
      refine tr_reg hT [] [.s 0, .s 1, .s 2, .s 7, .s 8, .s 9, .h 9000, .h 9001] [sO 0 (.slc 9000), sI 1 .i64 cut_1, sO 2 (.slc 9001), sO 7 (.nils), sO 8 (.nils), sI 9 .i64 (0 : Int), hW 9000 (.rc l_0), hR 9001 .u8 tail_2] [] (by kernel_rfl) trivial ?_
      refine q_k ?_
      refine tr_block ?_
      obtain ⟨rr0, e26, h⟩ := bind_some h
      refine tr_fit [(0, .nils), (1, .nils)] [sO 0 (.slc 9000), sI 1 .i64 cut_1, sO 2 (.slc 9001), sO 7 (.slc 0), sO 8 (.slc 1), sI 9 .i64 (0 : Int), hO 0 5 .u8 [], hO 1 3 .i64 [], hW 9000 (.rc l_0), hR 9001 .u8 tail_2] [(0, .own 5 .u8 []), (1, .own 3 .i64 []), (9000, .rows (.rc l_0)), (9001, .rd .u8 tail_2)] (by kernel_rfl) (by kernel_rfl) (by kernel_rfl) rfl ⟨.nilown, .nilown, .rows (by kernel_rfl), .rd (by kernel_rfl), trivial⟩ (by kernel_rfl) ?_
      refine tr_loop_ret (id := 0) (α := List Int × List Int × Int) (β := List Int × List Int) (ρ := Bool) (fun z => [sO 0 (.slc 9000), sI 1 .i64 cut_1, sO 2 (.slc 9001), sO 7 (.slc 0), sO 8 (.slc 1), sI 9 .i64 z.2.2, hO 0 5 .u8 z.1, hO 1 3 .i64 z.2.1, hW 9000 (.rc l_0), hR 9001 .u8 tail_2]) (fun z => [sO 0 (.slc 9000), sI 1 .i64 cut_1, sO 2 (.slc 9001), sO 7 (.slc 2), sO 8 (.slc 3), hO 2 5 .u8 z.1, hO 3 3 .i64 z.2, hW 9000 (.rc l_0), hR 9001 .u8 tail_2]) (fun v σ => resS T (Gw.look σ) Try.f12.results.toList = some (.v (.one (.bool v))) ∧ Gw.hasAll σ [] = some (Gw.preSS [])) (fun k z => law15_FrameBack_l0 l_0 cut_1 tail_2 k z.1 z.2.1 z.2.2) rr0 (fun _ => rfl) (((↑(List.length l_0) : Int) - (0 : Int)).toNat + 1) ([], [], (0 : Int)) e26 ?_ ?_ ?_
      · intro z hz
        subst hz
        rcases z with ⟨b7, ends8⟩
        replace h : ((frame_Split b7).bind (fun (a27, r28) => if (r28 != (↑(List.length b7) : Int)) = true then some false else (keep_Recs a27 l_0).bind (fun b33 => if (!b33) = true then some false else if (IntKind.u64.wrap (IntKind.i64.wrap ((↑(List.length b7) : Int) + (1 : Int)))) ≠ 0 then (law15_FrameBack_l1 l_0 cut_1 tail_2 b7 ends8 (((↑(List.length ends8) : Int) - (0 : Int)).toNat + 1) (0 : Int) (0 : Int)).bind (fun (n39, end40) => if 0 ≤ (0 : Int) ∧ (0 : Int) ≤ (IntKind.i64.wrap ((IntKind.u64.wrap cut_1).tmod (IntKind.u64.wrap (IntKind.i64.wrap ((↑(List.length b7) : Int) + (1 : Int)))))) ∧ (IntKind.i64.wrap ((IntKind.u64.wrap cut_1).tmod (IntKind.u64.wrap (IntKind.i64.wrap ((↑(List.length b7) : Int) + (1 : Int)))))) ≤ (↑(List.length b7) : Int) then (frame_Split ((b7.take ((IntKind.i64.wrap ((IntKind.u64.wrap cut_1).tmod (IntKind.u64.wrap (IntKind.i64.wrap ((↑(List.length b7) : Int) + (1 : Int)))))).toNat)).drop 0)).bind (fun (a48, r49) => if (r49 != end40) = true then some false else if 0 ≤ n39 ∧ n39 ≤ (↑(List.length l_0) : Int) then (keep_Recs a48 (l_0.take n39.toNat)).bind (fun b55 => if (!b55) = true then some false else (keep_Twin b7).bind (fun a58 => if List.length (a58 ++ [(0 : Int)]) ≤ maxN then if List.length ((a58 ++ [(0 : Int)]) ++ tail_2) ≤ maxN then (frame_Split ((a58 ++ [(0 : Int)]) ++ tail_2)).bind (fun (a62, r63) => if (r63 == (↑(List.length b7) : Int)) = true then (keep_Recs a62 l_0).bind (fun b67 => if b67 = true then (law15_wakes).bind (fun b70 => some b70) else some false) else some false) else none else none)) else none) else none) else none))) = _ := h
        refine q_b_this ?_
        refine q_k ?_
        refine tr_seq ?_
        obtain ⟨⟨a27, r28⟩, e29, h⟩ := bind_some h
        refine tr_reg hT [(1, .call [2] (.tup [.one (.slc 11), .one (.int .i64 r28)]) [(11, .frows 41 5 (0 : Int) (.rc a27))])] [.s 0, .s 1, .s 2, .s 7, .s 8, .s 12, .s 13, .h 2, .h 3, .h 11, .h 9000, .h 9001] [sO 0 (.slc 9000), sI 1 .i64 cut_1, sO 2 (.slc 9001), sO 7 (.slc 2), sO 8 (.slc 3), sO 12 (.slc 11), sI 13 .i64 r28, hO 2 5 .u8 b7, hO 3 3 .i64 ends8, hE 11 41 5 (0 : Int) (.rc a27), hW 9000 (.rc l_0), hR 9001 .u8 tail_2] [CallOk P 39 [.v (.one (.slc 2))] [(2, .own 5 .u8 b7)] (.tup [.one (.slc 11), .one (.int .i64 r28)]) [(11, .frows 41 5 (0 : Int) (.rc a27))]] (by kernel_rfl) (hone ((frame_Split_ok b7 (a27, r28) e29).tr [(9000, .slc 2), (8900, .slc 11)] rfl (by kernel_rfl) ⟨.ownrd (e := 5) (by kernel_rfl), trivial⟩ (by kernel_rfl) (by kernel_rfl) rfl rfl)) ?_
        refine q_k ?_
        refine tr_seq ?_
        refine tr_seq ?_
        rcases ite_split h with ⟨hb31, h⟩ | ⟨hb32, h⟩
        · refine tr_reg hT [(4, .dec true)] [.s 0, .s 1, .s 2, .s 7, .s 8, .s 91, .h 2, .h 3, .h 9000, .h 9001] [sO 0 (.slc 9000), sI 1 .i64 cut_1, sO 2 (.slc 9001), sO 7 (.slc 2), sO 8 (.slc 3), sB 91 true, hO 2 5 .u8 b7, hO 3 3 .i64 ends8, hW 9000 (.rc l_0), hR 9001 .u8 tail_2] [(r28 != (↑(List.length b7) : Int)) = true] (by kernel_rfl) (hone hb31) ?_
          refine q_k ?_
          refine tr_cond_t true (by kernel_rfl) rfl ?_
          refine tr_seq ?_
          refine tr_reg hT [] [.s 6] [sB 6 false] [] (by kernel_rfl) trivial ?_
          refine q_k ?_
          refine tr_ret ?_
          refine q_k_ret ?_
          have h := Option.some.inj h
          subst h
          refine q_less [.s 6] [sB 6 false] (by kernel_rfl) ?_
          exact q_ret1 hT (.v (.one (.bool false))) [] (by kernel_rfl) (by kernel_rfl) (by kernel_rfl)
        · obtain ⟨b33, e34, h⟩ := bind_some h
          refine tr_reg hT [(4, .dec false), (7, .call [11, 9000] (.v (.one (.bool b33))) [])] [.s 0, .s 1, .s 2, .s 7, .s 8, .s 91, .h 2, .h 3, .h 9000, .h 9001] [sO 0 (.slc 9000), sI 1 .i64 cut_1, sO 2 (.slc 9001), sO 7 (.slc 2), sO 8 (.slc 3), sB 91 (!b33), hO 2 5 .u8 b7, hO 3 3 .i64 ends8, hW 9000 (.rc l_0), hR 9001 .u8 tail_2] [(r28 != (↑(List.length b7) : Int)) = false, CallOk P 38 [.v (.one (.slc 11)), .v (.one (.slc 9000))] [(11, .frows 41 5 (0 : Int) (.rc a27)), (9000, .rows (.rc l_0))] (.v (.one (.bool b33))) []] (by kernel_rfl) (hcons hb32 (hone ((keep_Recs_ok a27 l_0 b33 e34).tr [(9000, .slc 11), (9001, .slc 9000)] rfl (by kernel_rfl) ⟨.frowsr (e := 41) (eb := 5) (by kernel_rfl), .rows (by kernel_rfl), trivial⟩ (by kernel_rfl) (by kernel_rfl) rfl rfl))) ?_
          refine q_k ?_
          rcases ite_split h with ⟨hc35, h⟩ | ⟨hc35, h⟩
          · refine tr_cond_t (!b33) (by kernel_rfl) hc35 ?_
            refine tr_seq ?_
            refine tr_reg hT [] [.s 6] [sB 6 false] [] (by kernel_rfl) trivial ?_
            refine q_k ?_
            refine tr_ret ?_
            refine q_k_ret ?_
            have h := Option.some.inj h
            subst h
            refine q_less [.s 6] [sB 6 false] (by kernel_rfl) ?_
            exact q_ret1 hT (.v (.one (.bool false))) [] (by kernel_rfl) (by kernel_rfl) (by kernel_rfl)
          · refine tr_cond_f (!b33) (by kernel_rfl) hc35 ?_
            refine tr_skip ?_
            refine q_k ?_
            refine tr_seq ?_
            obtain ⟨hn36, h⟩ := ite_some h
            refine tr_reg hT [] [.s 0, .s 1, .s 2, .s 7, .s 8, .h 2, .h 3, .h 9000, .h 9001] [sO 0 (.slc 9000), sI 1 .i64 (IntKind.i64.wrap ((IntKind.u64.wrap cut_1).tmod (IntKind.u64.wrap (IntKind.i64.wrap ((↑(List.length b7) : Int) + (1 : Int)))))), sO 2 (.slc 9001), sO 7 (.slc 2), sO 8 (.slc 3), hO 2 5 .u8 b7, hO 3 3 .i64 ends8, hW 9000 (.rc l_0), hR 9001 .u8 tail_2] [(IntKind.u64.wrap (IntKind.i64.wrap ((↑(List.length b7) : Int) + (1 : Int)))) ≠ 0] (by kernel_rfl) (hone hn36) ?_
            refine q_k ?_
            refine tr_seq ?_
            refine tr_reg hT [] [.s 0, .s 1, .s 2, .s 7, .s 8, .s 14, .s 15, .h 2, .h 3, .h 9000, .h 9001] [sO 0 (.slc 9000), sI 1 .i64 (IntKind.i64.wrap ((IntKind.u64.wrap cut_1).tmod (IntKind.u64.wrap (IntKind.i64.wrap ((↑(List.length b7) : Int) + (1 : Int)))))), sO 2 (.slc 9001), sO 7 (.slc 2), sO 8 (.slc 3), sI 14 .i64 (0 : Int), sI 15 .i64 (0 : Int), hO 2 5 .u8 b7, hO 3 3 .i64 ends8, hW 9000 (.rc l_0), hR 9001 .u8 tail_2] [] (by kernel_rfl) trivial ?_
            refine q_k ?_
            refine tr_seq ?_
            refine tr_block ?_
            obtain ⟨rr1, e46, h⟩ := bind_some h
            refine tr_fit [] [sO 0 (.slc 9000), sI 1 .i64 (IntKind.i64.wrap ((IntKind.u64.wrap cut_1).tmod (IntKind.u64.wrap (IntKind.i64.wrap ((↑(List.length b7) : Int) + (1 : Int)))))), sO 2 (.slc 9001), sO 7 (.slc 2), sO 8 (.slc 3), sI 14 .i64 (0 : Int), sI 15 .i64 (0 : Int), hO 2 5 .u8 b7, hO 3 3 .i64 ends8, hW 9000 (.rc l_0), hR 9001 .u8 tail_2] [(2, .own 5 .u8 b7), (3, .own 3 .i64 ends8), (9000, .rows (.rc l_0)), (9001, .rd .u8 tail_2)] (by kernel_rfl) (by kernel_rfl) (by kernel_rfl) rfl ⟨.own (by kernel_rfl), .own (by kernel_rfl), .rows (by kernel_rfl), .rd (by kernel_rfl), trivial⟩ (by kernel_rfl) ?_
            refine tr_loop_fuel (id := 2) (α := Int × Int) (β := Int × Int) (fun z => [sO 0 (.slc 9000), sI 1 .i64 (IntKind.i64.wrap ((IntKind.u64.wrap cut_1).tmod (IntKind.u64.wrap (IntKind.i64.wrap ((↑(List.length b7) : Int) + (1 : Int)))))), sO 2 (.slc 9001), sO 7 (.slc 2), sO 8 (.slc 3), sI 14 .i64 z.1, sI 15 .i64 z.2, hO 2 5 .u8 b7, hO 3 3 .i64 ends8, hW 9000 (.rc l_0), hR 9001 .u8 tail_2]) (fun z => [sO 0 (.slc 9000), sI 1 .i64 (IntKind.i64.wrap ((IntKind.u64.wrap cut_1).tmod (IntKind.u64.wrap (IntKind.i64.wrap ((↑(List.length b7) : Int) + (1 : Int)))))), sO 2 (.slc 9001), sO 7 (.slc 2), sI 14 .i64 z.1, sI 15 .i64 z.2, hO 2 5 .u8 b7, hW 9000 (.rc l_0), hR 9001 .u8 tail_2]) (fun k z => law15_FrameBack_l1 l_0 cut_1 tail_2 b7 ends8 k z.1 z.2) rr1 (fun _ => rfl) (((↑(List.length ends8) : Int) - (0 : Int)).toNat + 1) ((0 : Int), (0 : Int)) e46 ?_ ?_
            · rcases rr1 with ⟨n39, end40⟩
              replace h : (if 0 ≤ (0 : Int) ∧ (0 : Int) ≤ (IntKind.i64.wrap ((IntKind.u64.wrap cut_1).tmod (IntKind.u64.wrap (IntKind.i64.wrap ((↑(List.length b7) : Int) + (1 : Int)))))) ∧ (IntKind.i64.wrap ((IntKind.u64.wrap cut_1).tmod (IntKind.u64.wrap (IntKind.i64.wrap ((↑(List.length b7) : Int) + (1 : Int)))))) ≤ (↑(List.length b7) : Int) then (frame_Split ((b7.take ((IntKind.i64.wrap ((IntKind.u64.wrap cut_1).tmod (IntKind.u64.wrap (IntKind.i64.wrap ((↑(List.length b7) : Int) + (1 : Int)))))).toNat)).drop 0)).bind (fun (a48, r49) => if (r49 != end40) = true then some false else if 0 ≤ n39 ∧ n39 ≤ (↑(List.length l_0) : Int) then (keep_Recs a48 (l_0.take n39.toNat)).bind (fun b55 => if (!b55) = true then some false else (keep_Twin b7).bind (fun a58 => if List.length (a58 ++ [(0 : Int)]) ≤ maxN then if List.length ((a58 ++ [(0 : Int)]) ++ tail_2) ≤ maxN then (frame_Split ((a58 ++ [(0 : Int)]) ++ tail_2)).bind (fun (a62, r63) => if (r63 == (↑(List.length b7) : Int)) = true then (keep_Recs a62 l_0).bind (fun b67 => if b67 = true then (law15_wakes).bind (fun b70 => some b70) else some false) else some false) else none else none)) else none) else none) = _ := h
              refine q_b_this ?_
              refine q_k ?_
              refine tr_seq ?_
              refine tr_fit [] [sO 0 (.slc 9000), sI 1 .i64 (IntKind.i64.wrap ((IntKind.u64.wrap cut_1).tmod (IntKind.u64.wrap (IntKind.i64.wrap ((↑(List.length b7) : Int) + (1 : Int)))))), sO 2 (.slc 9001), sO 7 (.slc 2), sI 14 .i64 n39, sI 15 .i64 end40, hR 2 .u8 b7, hW 9000 (.rc l_0), hR 9001 .u8 tail_2] [(2, .rd .u8 b7), (9000, .rows (.rc l_0)), (9001, .rd .u8 tail_2)] (by kernel_rfl) (by kernel_rfl) (by kernel_rfl) rfl ⟨.ownrd (e := 5) (by kernel_rfl), .rows (by kernel_rfl), .rd (by kernel_rfl), trivial⟩ (by kernel_rfl) ?_
              obtain ⟨hn47, h⟩ := ite_some h
              obtain ⟨⟨a48, r49⟩, e50, h⟩ := bind_some h
              refine tr_reg hT [(2, .key 12), (3, .call [12] (.tup [.one (.slc 13), .one (.int .i64 r49)]) [(13, .frows 41 5 (0 : Int) (.rc a48))])] [.s 0, .s 2, .s 7, .s 12, .s 13, .s 14, .s 15, .h 2, .h 13, .h 9000, .h 9001] [sO 0 (.slc 9000), sO 2 (.slc 9001), sO 7 (.slc 2), sO 12 (.slc 13), sI 13 .i64 r49, sI 14 .i64 n39, sI 15 .i64 end40, hR 2 .u8 b7, hE 13 41 5 (0 : Int) (.rc a48), hW 9000 (.rc l_0), hR 9001 .u8 tail_2] [0 ≤ (0 : Int) ∧ (0 : Int) ≤ (IntKind.i64.wrap ((IntKind.u64.wrap cut_1).tmod (IntKind.u64.wrap (IntKind.i64.wrap ((↑(List.length b7) : Int) + (1 : Int)))))) ∧ (IntKind.i64.wrap ((IntKind.u64.wrap cut_1).tmod (IntKind.u64.wrap (IntKind.i64.wrap ((↑(List.length b7) : Int) + (1 : Int)))))) ≤ (↑(List.length b7) : Int), CallOk P 39 [.v (.one (.slc 12))] [(12, .rd .u8 ((b7.take ((IntKind.i64.wrap ((IntKind.u64.wrap cut_1).tmod (IntKind.u64.wrap (IntKind.i64.wrap ((↑(List.length b7) : Int) + (1 : Int)))))).toNat)).drop 0))] (.tup [.one (.slc 13), .one (.int .i64 r49)]) [(13, .frows 41 5 (0 : Int) (.rc a48))]] (by kernel_rfl) (hcons hn47 (hone ((frame_Split_ok ((b7.take ((IntKind.i64.wrap ((IntKind.u64.wrap cut_1).tmod (IntKind.u64.wrap (IntKind.i64.wrap ((↑(List.length b7) : Int) + (1 : Int)))))).toNat)).drop 0) (a48, r49) e50).tr [(9000, .slc 12), (8900, .slc 13)] rfl (by kernel_rfl) ⟨.rd (by kernel_rfl), trivial⟩ (by kernel_rfl) (by kernel_rfl) rfl rfl))) ?_
              refine q_k ?_
              refine tr_seq ?_
              refine tr_seq ?_
              rcases ite_split h with ⟨hb52, h⟩ | ⟨hb53, h⟩
              · refine tr_reg hT [(3, .dec true)] [.s 0, .s 2, .s 7, .s 135, .h 2, .h 9000, .h 9001] [sO 0 (.slc 9000), sO 2 (.slc 9001), sO 7 (.slc 2), sB 135 true, hR 2 .u8 b7, hW 9000 (.rc l_0), hR 9001 .u8 tail_2] [(r49 != end40) = true] (by kernel_rfl) (hone hb52) ?_
                refine q_k ?_
                refine tr_cond_t true (by kernel_rfl) rfl ?_
                refine tr_seq ?_
                refine tr_reg hT [] [.s 6] [sB 6 false] [] (by kernel_rfl) trivial ?_
                refine q_k ?_
                refine tr_ret ?_
                refine q_k_ret ?_
                have h := Option.some.inj h
                subst h
                refine q_less [.s 6] [sB 6 false] (by kernel_rfl) ?_
                exact q_ret1 hT (.v (.one (.bool false))) [] (by kernel_rfl) (by kernel_rfl) (by kernel_rfl)
              · obtain ⟨hn54, h⟩ := ite_some h
                obtain ⟨b55, e56, h⟩ := bind_some h
                refine tr_reg hT [(3, .dec false), (7, .key 14), (8, .call [13, 14] (.v (.one (.bool b55))) [])] [.s 0, .s 2, .s 7, .s 135, .h 2, .h 9000, .h 9001] [sO 0 (.slc 9000), sO 2 (.slc 9001), sO 7 (.slc 2), sB 135 (!b55), hR 2 .u8 b7, hW 9000 (.rc l_0), hR 9001 .u8 tail_2] [(r49 != end40) = false, 0 ≤ n39 ∧ n39 ≤ (↑(List.length l_0) : Int), CallOk P 38 [.v (.one (.slc 13)), .v (.one (.slc 14))] [(13, .frows 41 5 (0 : Int) (.rc a48)), (14, .rows (.rc (l_0.take n39.toNat)))] (.v (.one (.bool b55))) []] (by kernel_rfl) (hcons hb53 (hcons hn54 (hone ((keep_Recs_ok a48 (l_0.take n39.toNat) b55 e56).tr [(9000, .slc 13), (9001, .slc 14)] rfl (by kernel_rfl) ⟨.frowsr (e := 41) (eb := 5) (by kernel_rfl), .rows (by kernel_rfl), trivial⟩ (by kernel_rfl) (by kernel_rfl) rfl rfl)))) ?_
                refine q_k ?_
                rcases ite_split h with ⟨hc57, h⟩ | ⟨hc57, h⟩
                · refine tr_cond_t (!b55) (by kernel_rfl) hc57 ?_
                  refine tr_seq ?_
                  refine tr_reg hT [] [.s 6] [sB 6 false] [] (by kernel_rfl) trivial ?_
                  refine q_k ?_
                  refine tr_ret ?_
                  refine q_k_ret ?_
                  have h := Option.some.inj h
                  subst h
                  refine q_less [.s 6] [sB 6 false] (by kernel_rfl) ?_
                  exact q_ret1 hT (.v (.one (.bool false))) [] (by kernel_rfl) (by kernel_rfl) (by kernel_rfl)
                · refine tr_cond_f (!b55) (by kernel_rfl) hc57 ?_
                  refine tr_skip ?_
                  refine q_k ?_
                  refine tr_seq ?_
                  obtain ⟨a58, e59, h⟩ := bind_some h
                  obtain ⟨hn60, h⟩ := ite_some h
                  obtain ⟨hn61, h⟩ := ite_some h
                  obtain ⟨⟨a62, r63⟩, e64, h⟩ := bind_some h
                  refine tr_reg hT [(1, .call [2] (.v (.one (.slc 15))) [(15, .own 5 .u8 a58)]), (2, .key 16), (3, .key 17), (5, .key 18), (6, .call [18] (.tup [.one (.slc 19), .one (.int .i64 r63)]) [(19, .frows 41 5 (0 : Int) (.rc a62))])] [.s 0, .s 7, .s 12, .s 13, .h 2, .h 19, .h 9000] [sO 0 (.slc 9000), sO 7 (.slc 2), sO 12 (.slc 19), sI 13 .i64 r63, hR 2 .u8 b7, hE 19 41 5 (0 : Int) (.rc a62), hW 9000 (.rc l_0)] [CallOk P 23 [.v (.one (.slc 2))] [(2, .rd .u8 b7)] (.v (.one (.slc 15))) [(15, .own 5 .u8 a58)], List.length (a58 ++ [(0 : Int)]) ≤ maxN, List.length ((a58 ++ [(0 : Int)]) ++ tail_2) ≤ maxN, CallOk P 39 [.v (.one (.slc 18))] [(18, .own 5 .u8 ((a58 ++ [(0 : Int)]) ++ tail_2))] (.tup [.one (.slc 19), .one (.int .i64 r63)]) [(19, .frows 41 5 (0 : Int) (.rc a62))]] (by kernel_rfl) (hcons ((keep_Twin_ok b7 a58 e59).tr [(9000, .slc 2), (8900, .slc 15)] rfl (by kernel_rfl) ⟨.rd (by kernel_rfl), trivial⟩ (by kernel_rfl) (by kernel_rfl) rfl rfl) (hcons hn60 (hcons hn61 (hone ((frame_Split_ok ((a58 ++ [(0 : Int)]) ++ tail_2) (a62, r63) e64).tr [(9000, .slc 18), (8900, .slc 19)] rfl (by kernel_rfl) ⟨.ownrd (e := 5) (by kernel_rfl), trivial⟩ (by kernel_rfl) (by kernel_rfl) rfl rfl))))) ?_
                  refine q_k ?_
                  refine tr_seq ?_
                  rcases ite_split h with ⟨hb66, h⟩ | ⟨hb73, h⟩
                  · obtain ⟨b67, e68, h⟩ := bind_some h
                    rcases ite_split h with ⟨hb69, h⟩ | ⟨hb72, h⟩
                    · obtain ⟨b70, e71, h⟩ := bind_some h
                      refine tr_reg hT [(4, .dec true), (7, .call [19, 9000] (.v (.one (.bool b67))) []), (9, .dec true), (10, .call [] (.v (.one (.bool b70))) [])] [.s 6] [sB 6 b70] [(r63 == (↑(List.length b7) : Int)) = true, CallOk P 38 [.v (.one (.slc 19)), .v (.one (.slc 9000))] [(19, .frows 41 5 (0 : Int) (.rc a62)), (9000, .rows (.rc l_0))] (.v (.one (.bool b67))) [], b67 = true, CallOk P 41 [] [] (.v (.one (.bool b70))) []] (by kernel_rfl) (hcons hb66 (hcons ((keep_Recs_ok a62 l_0 b67 e68).tr [(9000, .slc 19), (9001, .slc 9000)] rfl (by kernel_rfl) ⟨.frowsr (e := 41) (eb := 5) (by kernel_rfl), .rows (by kernel_rfl), trivial⟩ (by kernel_rfl) (by kernel_rfl) rfl rfl) (hcons hb69 (hone (law15_wakes_ok  b70 e71))))) ?_
                      refine q_k ?_
                      refine tr_ret ?_
                      have h := Option.some.inj h
                      subst h
                      refine q_less [.s 6] [sB 6 b70] (by kernel_rfl) ?_
                      exact q_ret1 hT (.v (.one (.bool b70))) [] (by kernel_rfl) (by kernel_rfl) (by kernel_rfl)
                    · refine tr_reg hT [(4, .dec true), (7, .call [19, 9000] (.v (.one (.bool b67))) []), (9, .dec false)] [.s 6] [sB 6 false] [(r63 == (↑(List.length b7) : Int)) = true, CallOk P 38 [.v (.one (.slc 19)), .v (.one (.slc 9000))] [(19, .frows 41 5 (0 : Int) (.rc a62)), (9000, .rows (.rc l_0))] (.v (.one (.bool b67))) [], b67 = false] (by kernel_rfl) (hcons hb66 (hcons ((keep_Recs_ok a62 l_0 b67 e68).tr [(9000, .slc 19), (9001, .slc 9000)] rfl (by kernel_rfl) ⟨.frowsr (e := 41) (eb := 5) (by kernel_rfl), .rows (by kernel_rfl), trivial⟩ (by kernel_rfl) (by kernel_rfl) rfl rfl) (hone hb72))) ?_
                      refine q_k ?_
                      refine tr_ret ?_
                      have h := Option.some.inj h
                      subst h
                      refine q_less [.s 6] [sB 6 false] (by kernel_rfl) ?_
                      exact q_ret1 hT (.v (.one (.bool false))) [] (by kernel_rfl) (by kernel_rfl) (by kernel_rfl)
                  · refine tr_reg hT [(4, .dec false)] [.s 6] [sB 6 false] [(r63 == (↑(List.length b7) : Int)) = false] (by kernel_rfl) (hone hb73) ?_
                    refine q_k ?_
                    refine tr_ret ?_
                    have h := Option.some.inj h
                    subst h
                    refine q_less [.s 6] [sB 6 false] (by kernel_rfl) ?_
                    exact q_ret1 hT (.v (.one (.bool false))) [] (by kernel_rfl) (by kernel_rfl) (by kernel_rfl)
            · clear h e46
              intro k ih1 hx1 z h
              obtain ⟨n37, end38⟩ := z
              replace h : (if (decide (n37 < (↑(List.length ends8) : Int))) = true then if 0 ≤ n37 ∧ n37 < ↑(List.length ends8) then if (decide ((ends8.getD n37.toNat 0) ≤ (IntKind.i64.wrap ((IntKind.u64.wrap cut_1).tmod (IntKind.u64.wrap (IntKind.i64.wrap ((↑(List.length b7) : Int) + (1 : Int)))))))) = true then if 0 ≤ n37 ∧ n37 < ↑(List.length ends8) then law15_FrameBack_l1 l_0 cut_1 tail_2 b7 ends8 k (IntKind.i64.wrap (n37 + (1 : Int))) (ends8.getD n37.toNat 0) else none else some (n37, end38) else none else some (n37, end38)) = _ := h
              refine tr_seq ?_
              refine tr_seq ?_
              rcases ite_split h with ⟨hb41, h⟩ | ⟨hb45, h⟩
              · obtain ⟨hn42, h⟩ := ite_some h
                refine tr_reg hT [(4, .dec true)] [.s 0, .s 1, .s 2, .s 7, .s 8, .s 14, .s 15, .s 111, .h 2, .h 3, .h 9000, .h 9001] [sO 0 (.slc 9000), sI 1 .i64 (IntKind.i64.wrap ((IntKind.u64.wrap cut_1).tmod (IntKind.u64.wrap (IntKind.i64.wrap ((↑(List.length b7) : Int) + (1 : Int)))))), sO 2 (.slc 9001), sO 7 (.slc 2), sO 8 (.slc 3), sI 14 .i64 n37, sI 15 .i64 end38, sB 111 (decide ((ends8.getD n37.toNat 0) ≤ (IntKind.i64.wrap ((IntKind.u64.wrap cut_1).tmod (IntKind.u64.wrap (IntKind.i64.wrap ((↑(List.length b7) : Int) + (1 : Int)))))))), hO 2 5 .u8 b7, hO 3 3 .i64 ends8, hW 9000 (.rc l_0), hR 9001 .u8 tail_2] [(decide (n37 < (↑(List.length ends8) : Int))) = true, 0 ≤ n37 ∧ n37 < ↑(List.length ends8), n37 < ↑(List.length ends8)] (by kernel_rfl) (hcons hb41 (hcons hn42 (hone hn42.2))) ?_
                refine q_k ?_
                rcases ite_split h with ⟨hc43, h⟩ | ⟨hc43, h⟩
                · refine tr_cond_t (decide ((ends8.getD n37.toNat 0) ≤ (IntKind.i64.wrap ((IntKind.u64.wrap cut_1).tmod (IntKind.u64.wrap (IntKind.i64.wrap ((↑(List.length b7) : Int) + (1 : Int)))))))) (by kernel_rfl) hc43 ?_
                  refine tr_skip ?_
                  refine q_k ?_
                  refine tr_block ?_
                  refine tr_seq ?_
                  obtain ⟨hn44, h⟩ := ite_some h
                  refine tr_reg hT [] [.s 0, .s 1, .s 2, .s 7, .s 8, .s 14, .s 15, .h 2, .h 3, .h 9000, .h 9001] [sO 0 (.slc 9000), sI 1 .i64 (IntKind.i64.wrap ((IntKind.u64.wrap cut_1).tmod (IntKind.u64.wrap (IntKind.i64.wrap ((↑(List.length b7) : Int) + (1 : Int)))))), sO 2 (.slc 9001), sO 7 (.slc 2), sO 8 (.slc 3), sI 14 .i64 n37, sI 15 .i64 (ends8.getD n37.toNat 0), hO 2 5 .u8 b7, hO 3 3 .i64 ends8, hW 9000 (.rc l_0), hR 9001 .u8 tail_2] [0 ≤ n37 ∧ n37 < ↑(List.length ends8), n37 < ↑(List.length ends8)] (by kernel_rfl) (hcons hn44 (hone hn44.2)) ?_
                  refine q_k ?_
                  refine tr_reg hT [] [.s 0, .s 1, .s 2, .s 7, .s 8, .s 14, .s 15, .h 2, .h 3, .h 9000, .h 9001] [sO 0 (.slc 9000), sI 1 .i64 (IntKind.i64.wrap ((IntKind.u64.wrap cut_1).tmod (IntKind.u64.wrap (IntKind.i64.wrap ((↑(List.length b7) : Int) + (1 : Int)))))), sO 2 (.slc 9001), sO 7 (.slc 2), sO 8 (.slc 3), sI 14 .i64 (IntKind.i64.wrap (n37 + (1 : Int))), sI 15 .i64 (ends8.getD n37.toNat 0), hO 2 5 .u8 b7, hO 3 3 .i64 ends8, hW 9000 (.rc l_0), hR 9001 .u8 tail_2] [] (by kernel_rfl) trivial ?_
                  refine q_b 3 ?_
                  refine q_kr ?_
                  exact trR_less [.s 0, .s 1, .s 2, .s 7, .s 8, .s 14, .s 15, .h 2, .h 3, .h 9000, .h 9001] [sO 0 (.slc 9000), sI 1 .i64 (IntKind.i64.wrap ((IntKind.u64.wrap cut_1).tmod (IntKind.u64.wrap (IntKind.i64.wrap ((↑(List.length b7) : Int) + (1 : Int)))))), sO 2 (.slc 9001), sO 7 (.slc 2), sO 8 (.slc 3), sI 14 .i64 (IntKind.i64.wrap (n37 + (1 : Int))), sI 15 .i64 (ends8.getD n37.toNat 0), hO 2 5 .u8 b7, hO 3 3 .i64 ends8, hW 9000 (.rc l_0), hR 9001 .u8 tail_2] (by kernel_rfl) (ih1 ((IntKind.i64.wrap (n37 + (1 : Int))), (ends8.getD n37.toNat 0)) h)
                · refine tr_cond_f (decide ((ends8.getD n37.toNat 0) ≤ (IntKind.i64.wrap ((IntKind.u64.wrap cut_1).tmod (IntKind.u64.wrap (IntKind.i64.wrap ((↑(List.length b7) : Int) + (1 : Int)))))))) (by kernel_rfl) hc43 ?_
                  refine tr_exit ?_
                  refine q_k_exit ?_
                  refine q_kr_exit ?_
                  have h := Option.some.inj h
                  subst h
                  exact q_less [.s 0, .s 1, .s 2, .s 7, .s 14, .s 15, .h 2, .h 9000, .h 9001] [sO 0 (.slc 9000), sI 1 .i64 (IntKind.i64.wrap ((IntKind.u64.wrap cut_1).tmod (IntKind.u64.wrap (IntKind.i64.wrap ((↑(List.length b7) : Int) + (1 : Int)))))), sO 2 (.slc 9001), sO 7 (.slc 2), sI 14 .i64 n37, sI 15 .i64 end38, hO 2 5 .u8 b7, hW 9000 (.rc l_0), hR 9001 .u8 tail_2] (by kernel_rfl) hx1
              · refine tr_reg hT [(4, .dec false)] [.s 0, .s 1, .s 2, .s 7, .s 8, .s 14, .s 15, .s 111, .h 2, .h 3, .h 9000, .h 9001] [sO 0 (.slc 9000), sI 1 .i64 (IntKind.i64.wrap ((IntKind.u64.wrap cut_1).tmod (IntKind.u64.wrap (IntKind.i64.wrap ((↑(List.length b7) : Int) + (1 : Int)))))), sO 2 (.slc 9001), sO 7 (.slc 2), sO 8 (.slc 3), sI 14 .i64 n37, sI 15 .i64 end38, sB 111 false, hO 2 5 .u8 b7, hO 3 3 .i64 ends8, hW 9000 (.rc l_0), hR 9001 .u8 tail_2] [(decide (n37 < (↑(List.length ends8) : Int))) = false] (by kernel_rfl) (hone hb45) ?_
                refine q_k ?_
                refine tr_cond_f false (by kernel_rfl) rfl ?_
                refine tr_exit ?_
                refine q_k_exit ?_
                refine q_kr_exit ?_
                have h := Option.some.inj h
                subst h
                exact q_less [.s 0, .s 1, .s 2, .s 7, .s 14, .s 15, .h 2, .h 9000, .h 9001] [sO 0 (.slc 9000), sI 1 .i64 (IntKind.i64.wrap ((IntKind.u64.wrap cut_1).tmod (IntKind.u64.wrap (IntKind.i64.wrap ((↑(List.length b7) : Int) + (1 : Int)))))), sO 2 (.slc 9001), sO 7 (.slc 2), sI 14 .i64 n37, sI 15 .i64 end38, hO 2 5 .u8 b7, hW 9000 (.rc l_0), hR 9001 .u8 tail_2] (by kernel_rfl) hx1
      · intro v σ hz hv
        subst hz
        have h := Option.some.inj h
        subst h
        refine q_b_ret ?_
        refine q_k_ret ?_
        exact q_ret1 hT _ _ hv.1 hv.2 (by kernel_rfl)
      · clear h e26
        intro k ih0 hx0 hr0 z h
        rcases z with ⟨b4, ends5, i6⟩
        replace h : (if (decide (i6 < (↑(List.length l_0) : Int))) = true then if 0 ≤ i6 ∧ i6 < ↑(List.length l_0) then (ref14_Rec ((l_0.getD i6.toNat (0, [])).1) ((l_0.getD i6.toNat (0, [])).2)).bind (fun r11 => if (r11 != (0 : Int)) = true then some (.inr true) else if (decide ((↑(List.length ((l_0.getD i6.toNat (0, [])).2)) : Int) > (300 : Int))) = true then some (.inr true) else if 0 ≤ i6 ∧ i6 < ↑(List.length l_0) then (frame_Put b4 ((l_0.getD i6.toNat (0, [])).1) ((l_0.getD i6.toNat (0, [])).2)).bind (fun (a17, r18) => if (r18 != (0 : Int)) = true then some (.inr false) else if 0 ≤ i6 ∧ i6 < ↑(List.length l_0) then if ((↑(List.length a17) : Int) != (IntKind.i64.wrap ((IntKind.i64.wrap ((↑(List.length b4) : Int) + (7 : Int))) + (↑(List.length ((l_0.getD i6.toNat (0, [])).2)) : Int)))) = true then some (.inr false) else if List.length (ends5 ++ [(↑(List.length a17) : Int)]) ≤ maxN then law15_FrameBack_l0 l_0 cut_1 tail_2 k a17 (ends5 ++ [(↑(List.length a17) : Int)]) (IntKind.i64.wrap (i6 + (1 : Int))) else none else none) else none) else none else some (.inl (b4, ends5))) = _ := h
        refine tr_seq ?_
        refine tr_seq ?_
        refine tr_reg hT [] [.s 0, .s 1, .s 2, .s 7, .s 8, .s 9, .s 27, .h 0, .h 1, .h 9000, .h 9001] [sO 0 (.slc 9000), sI 1 .i64 cut_1, sO 2 (.slc 9001), sO 7 (.slc 0), sO 8 (.slc 1), sI 9 .i64 i6, sB 27 (decide (i6 < (↑(List.length l_0) : Int))), hO 0 5 .u8 b4, hO 1 3 .i64 ends5, hW 9000 (.rc l_0), hR 9001 .u8 tail_2] [] (by kernel_rfl) trivial ?_
        refine q_k ?_
        rcases ite_split h with ⟨hc9, h⟩ | ⟨hc9, h⟩
        · refine tr_cond_t (decide (i6 < (↑(List.length l_0) : Int))) (by kernel_rfl) hc9 ?_
          refine tr_skip ?_
          refine q_k ?_
          refine tr_seq ?_
          refine tr_block ?_
          refine tr_seq ?_
          refine tr_seq ?_
          obtain ⟨hn10, h⟩ := ite_some h
          obtain ⟨r11, e12, h⟩ := bind_some h
          rcases ite_split h with ⟨hb13, h⟩ | ⟨hb14, h⟩
          · refine tr_reg hT [(3, .key 4), (4, .call [4] (.v (.one (.int .i64 r11))) []), (6, .dec true)] [.s 0, .s 1, .s 2, .s 7, .s 8, .s 9, .s 44, .h 0, .h 1, .h 9000, .h 9001] [sO 0 (.slc 9000), sI 1 .i64 cut_1, sO 2 (.slc 9001), sO 7 (.slc 0), sO 8 (.slc 1), sI 9 .i64 i6, sB 44 true, hO 0 5 .u8 b4, hO 1 3 .i64 ends5, hW 9000 (.rc l_0), hR 9001 .u8 tail_2] [0 ≤ i6 ∧ i6 < ↑(List.length l_0), i6 < ↑(List.length l_0), CallOk P 33 [.v (.agg [.int .i64 ((l_0.getD i6.toNat (0, [])).1), .slc 4])] [(4, .rd .u8 ((l_0.getD i6.toNat (0, [])).2))] (.v (.one (.int .i64 r11))) [], (r11 != (0 : Int)) = true] (by kernel_rfl) (hcons hn10 (hcons hn10.2 (hcons ((ref14_Rec_ok ((l_0.getD i6.toNat (0, [])).1) ((l_0.getD i6.toNat (0, [])).2) r11 e12).tr [(9000, .slc 4)] rfl (by kernel_rfl) ⟨.rd (by kernel_rfl), trivial⟩ (by kernel_rfl) (by kernel_rfl) rfl rfl) (hone hb13)))) ?_
            refine q_k ?_
            refine tr_cond_t true (by kernel_rfl) rfl ?_
            refine tr_seq ?_
            refine tr_reg hT [] [.s 6] [sB 6 true] [] (by kernel_rfl) trivial ?_
            refine q_k ?_
            refine tr_ret ?_
            refine q_k_ret ?_
            refine q_b_ret ?_
            refine q_k_ret ?_
            refine q_kr_ret ?_
            have h := Option.some.inj h
            subst h
            exact q_less [.s 6] [sB 6 true] (by kernel_rfl) (hr0 true _ rfl ⟨by kernel_rfl, by kernel_rfl⟩)
          · refine tr_reg hT [(3, .key 4), (4, .call [4] (.v (.one (.int .i64 r11))) []), (6, .dec false), (11, .key 5)] [.s 0, .s 1, .s 2, .s 7, .s 8, .s 9, .s 44, .h 0, .h 1, .h 9000, .h 9001] [sO 0 (.slc 9000), sI 1 .i64 cut_1, sO 2 (.slc 9001), sO 7 (.slc 0), sO 8 (.slc 1), sI 9 .i64 i6, sB 44 (decide ((↑(List.length ((l_0.getD i6.toNat (0, [])).2)) : Int) > (300 : Int))), hO 0 5 .u8 b4, hO 1 3 .i64 ends5, hW 9000 (.rc l_0), hR 9001 .u8 tail_2] [0 ≤ i6 ∧ i6 < ↑(List.length l_0), i6 < ↑(List.length l_0), CallOk P 33 [.v (.agg [.int .i64 ((l_0.getD i6.toNat (0, [])).1), .slc 4])] [(4, .rd .u8 ((l_0.getD i6.toNat (0, [])).2))] (.v (.one (.int .i64 r11))) [], (r11 != (0 : Int)) = false, 0 ≤ i6 ∧ i6 < ↑(List.length l_0), 0 ≤ i6 ∧ i6 < ↑(List.length l_0), i6 < ↑(List.length l_0)] (by kernel_rfl) (hcons hn10 (hcons hn10.2 (hcons ((ref14_Rec_ok ((l_0.getD i6.toNat (0, [])).1) ((l_0.getD i6.toNat (0, [])).2) r11 e12).tr [(9000, .slc 4)] rfl (by kernel_rfl) ⟨.rd (by kernel_rfl), trivial⟩ (by kernel_rfl) (by kernel_rfl) rfl rfl) (hcons hb14 (hcons hn10 (hcons hn10 (hone hn10.2))))))) ?_
            refine q_k ?_
            rcases ite_split h with ⟨hc15, h⟩ | ⟨hc15, h⟩
            · refine tr_cond_t (decide ((↑(List.length ((l_0.getD i6.toNat (0, [])).2)) : Int) > (300 : Int))) (by kernel_rfl) hc15 ?_
              refine tr_seq ?_
              refine tr_reg hT [] [.s 6] [sB 6 true] [] (by kernel_rfl) trivial ?_
              refine q_k ?_
              refine tr_ret ?_
              refine q_k_ret ?_
              refine q_b_ret ?_
              refine q_k_ret ?_
              refine q_kr_ret ?_
              have h := Option.some.inj h
              subst h
              exact q_less [.s 6] [sB 6 true] (by kernel_rfl) (hr0 true _ rfl ⟨by kernel_rfl, by kernel_rfl⟩)
            · refine tr_cond_f (decide ((↑(List.length ((l_0.getD i6.toNat (0, [])).2)) : Int) > (300 : Int))) (by kernel_rfl) hc15 ?_
              refine tr_skip ?_
              refine q_k ?_
              refine tr_seq ?_
              obtain ⟨hn16, h⟩ := ite_some h
              obtain ⟨⟨a17, r18⟩, e19, h⟩ := bind_some h
              refine tr_reg hT [(4, .key 6), (5, .call [0, 6] (.tup [.one (.slc 7), .one (.int .i64 r18)]) [(7, .own 5 .u8 a17)])] [.s 0, .s 1, .s 2, .s 7, .s 8, .s 9, .s 10, .s 11, .h 0, .h 1, .h 7, .h 9000, .h 9001] [sO 0 (.slc 9000), sI 1 .i64 cut_1, sO 2 (.slc 9001), sO 7 (.slc 0), sO 8 (.slc 1), sI 9 .i64 i6, sO 10 (.slc 7), sI 11 .i64 r18, hO 0 5 .u8 b4, hO 1 3 .i64 ends5, hO 7 5 .u8 a17, hW 9000 (.rc l_0), hR 9001 .u8 tail_2] [0 ≤ i6 ∧ i6 < ↑(List.length l_0), i6 < ↑(List.length l_0), CallOk P 32 [.v (.one (.slc 0)), .v (.agg [.int .i64 ((l_0.getD i6.toNat (0, [])).1), .slc 6])] [(0, .own 5 .u8 b4), (6, .rd .u8 ((l_0.getD i6.toNat (0, [])).2))] (.tup [.one (.slc 7), .one (.int .i64 r18)]) [(7, .own 5 .u8 a17)]] (by kernel_rfl) (hcons hn16 (hcons hn16.2 (hone ((frame_Put_ok b4 ((l_0.getD i6.toNat (0, [])).1) ((l_0.getD i6.toNat (0, [])).2) (a17, r18) e19).tr [(9000, .slc 0), (9001, .slc 6), (8900, .slc 7)] rfl (by kernel_rfl) ⟨.ownrd (e := 5) (by kernel_rfl), .rd (by kernel_rfl), trivial⟩ (by kernel_rfl) (by kernel_rfl) rfl rfl)))) ?_
              refine q_k ?_
              refine tr_seq ?_
              refine tr_seq ?_
              rcases ite_split h with ⟨hb21, h⟩ | ⟨hb22, h⟩
              · refine tr_reg hT [(2, .dec true)] [.s 0, .s 1, .s 2, .s 8, .s 9, .s 10, .s 70, .h 1, .h 7, .h 9000, .h 9001] [sO 0 (.slc 9000), sI 1 .i64 cut_1, sO 2 (.slc 9001), sO 8 (.slc 1), sI 9 .i64 i6, sO 10 (.slc 7), sB 70 true, hO 1 3 .i64 ends5, hO 7 5 .u8 a17, hW 9000 (.rc l_0), hR 9001 .u8 tail_2] [(r18 != (0 : Int)) = true] (by kernel_rfl) (hone hb21) ?_
                refine q_k ?_
                refine tr_cond_t true (by kernel_rfl) rfl ?_
                refine tr_seq ?_
                refine tr_reg hT [] [.s 6] [sB 6 false] [] (by kernel_rfl) trivial ?_
                refine q_k ?_
                refine tr_ret ?_
                refine q_k_ret ?_
                refine q_b_ret ?_
                refine q_k_ret ?_
                refine q_kr_ret ?_
                have h := Option.some.inj h
                subst h
                exact q_less [.s 6] [sB 6 false] (by kernel_rfl) (hr0 false _ rfl ⟨by kernel_rfl, by kernel_rfl⟩)
              · obtain ⟨hn23, h⟩ := ite_some h
                refine tr_reg hT [(2, .dec false), (12, .key 8)] [.s 0, .s 1, .s 2, .s 8, .s 9, .s 10, .s 70, .h 1, .h 7, .h 9000, .h 9001] [sO 0 (.slc 9000), sI 1 .i64 cut_1, sO 2 (.slc 9001), sO 8 (.slc 1), sI 9 .i64 i6, sO 10 (.slc 7), sB 70 ((↑(List.length a17) : Int) != (IntKind.i64.wrap ((IntKind.i64.wrap ((↑(List.length b4) : Int) + (7 : Int))) + (↑(List.length ((l_0.getD i6.toNat (0, [])).2)) : Int)))), hO 1 3 .i64 ends5, hO 7 5 .u8 a17, hW 9000 (.rc l_0), hR 9001 .u8 tail_2] [(r18 != (0 : Int)) = false, 0 ≤ i6 ∧ i6 < ↑(List.length l_0), 0 ≤ i6 ∧ i6 < ↑(List.length l_0), i6 < ↑(List.length l_0)] (by kernel_rfl) (hcons hb22 (hcons hn23 (hcons hn23 (hone hn23.2)))) ?_
                refine q_k ?_
                rcases ite_split h with ⟨hc24, h⟩ | ⟨hc24, h⟩
                · refine tr_cond_t ((↑(List.length a17) : Int) != (IntKind.i64.wrap ((IntKind.i64.wrap ((↑(List.length b4) : Int) + (7 : Int))) + (↑(List.length ((l_0.getD i6.toNat (0, [])).2)) : Int)))) (by kernel_rfl) hc24 ?_
                  refine tr_seq ?_
                  refine tr_reg hT [] [.s 6] [sB 6 false] [] (by kernel_rfl) trivial ?_
                  refine q_k ?_
                  refine tr_ret ?_
                  refine q_k_ret ?_
                  refine q_b_ret ?_
                  refine q_k_ret ?_
                  refine q_kr_ret ?_
                  have h := Option.some.inj h
                  subst h
                  exact q_less [.s 6] [sB 6 false] (by kernel_rfl) (hr0 false _ rfl ⟨by kernel_rfl, by kernel_rfl⟩)
                · refine tr_cond_f ((↑(List.length a17) : Int) != (IntKind.i64.wrap ((IntKind.i64.wrap ((↑(List.length b4) : Int) + (7 : Int))) + (↑(List.length ((l_0.getD i6.toNat (0, [])).2)) : Int)))) (by kernel_rfl) hc24 ?_
                  refine tr_skip ?_
                  refine q_k ?_
                  obtain ⟨hn25, h⟩ := ite_some h
                  refine tr_reg hT [(4, .key 9), (5, .key 10)] [.s 0, .s 1, .s 2, .s 7, .s 8, .s 9, .h 7, .h 10, .h 9000, .h 9001] [sO 0 (.slc 9000), sI 1 .i64 cut_1, sO 2 (.slc 9001), sO 7 (.slc 7), sO 8 (.slc 10), sI 9 .i64 i6, hO 7 5 .u8 a17, hO 10 3 .i64 (ends5 ++ [(↑(List.length a17) : Int)]), hW 9000 (.rc l_0), hR 9001 .u8 tail_2] [List.length (ends5 ++ [(↑(List.length a17) : Int)]) ≤ maxN] (by kernel_rfl) (hone hn25) ?_
                  refine q_b 1 ?_
                  refine q_k ?_
                  refine tr_reg hT [] [.s 0, .s 1, .s 2, .s 7, .s 8, .s 9, .h 7, .h 10, .h 9000, .h 9001] [sO 0 (.slc 9000), sI 1 .i64 cut_1, sO 2 (.slc 9001), sO 7 (.slc 7), sO 8 (.slc 10), sI 9 .i64 (IntKind.i64.wrap (i6 + (1 : Int))), hO 7 5 .u8 a17, hO 10 3 .i64 (ends5 ++ [(↑(List.length a17) : Int)]), hW 9000 (.rc l_0), hR 9001 .u8 tail_2] [] (by kernel_rfl) trivial ?_
                  refine q_kr ?_
                  exact trR_fit [(0, .slc 7), (1, .slc 10)] [sO 0 (.slc 9000), sI 1 .i64 cut_1, sO 2 (.slc 9001), sO 7 (.slc 0), sO 8 (.slc 1), sI 9 .i64 (IntKind.i64.wrap (i6 + (1 : Int))), hO 0 5 .u8 a17, hO 1 3 .i64 (ends5 ++ [(↑(List.length a17) : Int)]), hW 9000 (.rc l_0), hR 9001 .u8 tail_2] [(0, .own 5 .u8 a17), (1, .own 3 .i64 (ends5 ++ [(↑(List.length a17) : Int)])), (9000, .rows (.rc l_0)), (9001, .rd .u8 tail_2)] (by kernel_rfl) (by kernel_rfl) (by kernel_rfl) rfl ⟨.own (by kernel_rfl), .own (by kernel_rfl), .rows (by kernel_rfl), .rd (by kernel_rfl), trivial⟩ (by kernel_rfl) (ih0 (a17, (ends5 ++ [(↑(List.length a17) : Int)]), (IntKind.i64.wrap (i6 + (1 : Int)))) h)
        · refine tr_cond_f (decide (i6 < (↑(List.length l_0) : Int))) (by kernel_rfl) hc9 ?_
          refine tr_exit ?_
          refine q_k_exit ?_
          refine q_kr_exit ?_
          have h := Option.some.inj h
          subst h
          exact q_fit [(2, .slc 0), (3, .slc 1)] [sO 0 (.slc 9000), sI 1 .i64 cut_1, sO 2 (.slc 9001), sO 7 (.slc 2), sO 8 (.slc 3), hO 2 5 .u8 b4, hO 3 3 .i64 ends5, hW 9000 (.rc l_0), hR 9001 .u8 tail_2] [(2, .own 5 .u8 b4), (3, .own 3 .i64 ends5), (9000, .rows (.rc l_0)), (9001, .rd .u8 tail_2)] (by kernel_rfl) (by kernel_rfl) (by kernel_rfl) rfl ⟨.own (by kernel_rfl), .own (by kernel_rfl), .rows (by kernel_rfl), .rd (by kernel_rfl), trivial⟩ (by kernel_rfl) (hx0 (b4, ends5) rfl)

end Go.Proofs.Sa
