/- Walks, printed by a program of this session (gowalk.py): each Go function comes to its plain function's answer. -/
import Derived.Test.YtdolipgngaljcaaSaA
import Derived.Test.YtdolipgngaljcaaSaD
import Derived.Test.YtdolipgngaljcaaGwI
import Derived.Test.YtdolipgngaljcaaSaV0
import Derived.Test.YtdolipgngaljcaaSaV2
import Derived.Test.YtdolipgngaljcaaSaV3
namespace Go.Proofs.Sa
open Go Go.Gw D
set_option linter.unusedVariables false
set_option maxRecDepth 20000

theorem law15_FrameSpoilt_ok (r_0 : Int) (r_1 : List Int) (at_2 : Int) (bits_3 : Int) (r : Bool) (h : law15_FrameSpoilt r_0 r_1 at_2 bits_3 = some r) : CallOk P 13 [.v (.agg [.int .i64 r_0, .slc 9000]), .v (.one (.int .i64 at_2)), .v (.one (.int .u32 bits_3))] [(9000, .rd .u8 r_1)] (.v (.one (.bool r))) [] := by
  refine call1 (N := 130) Try.func13 (by kernel_rfl) rfl rfl rfl [(9000, .rd .u8 r_1)] (by kernel_rfl) ?_
  intro _ B w0
  show Tr P B 130 w0 _ _ (RetQ P Try.f13 (R1 _ _ B w0))
  unfold law15_FrameSpoilt at h
  refine tr_seq ?_
  refine tr_reg hT [(0, .key 0)] [.s 1, .s 2, .s 3, .h 0, .h 9000] [sI 1 .i64 at_2, sI 2 .u32 bits_3, sO 3 (.ptr 0 0), hB 0 41 [.int .i64 r_0, .slc 9000], hR 9000 .u8 r_1] [] (by kernel_rfl) trivial ?_
  refine q_k ?_
  refine tr_seq ?_
  refine tr_seq ?_
  obtain ⟨r1, e2, h⟩ := bind_some h
  rcases ite_split h with ⟨hb3, h⟩ | ⟨hb4, h⟩
  · refine tr_reg hT [(1, .call [9000] (.v (.one (.int .i64 r1))) []), (3, .dec true)] [.s 1, .s 2, .s 3, .s 27, .h 0, .h 9000] [sI 1 .i64 at_2, sI 2 .u32 bits_3, sO 3 (.ptr 0 0), sB 27 true, hB 0 41 [.int .i64 r_0, .slc 9000], hR 9000 .u8 r_1] [CallOk P 33 [.v (.agg [.int .i64 r_0, .slc 9000])] [(9000, .rd .u8 r_1)] (.v (.one (.int .i64 r1))) [], (r1 != (0 : Int)) = true] (by kernel_rfl) (hcons ((ref14_Rec_ok r_0 r_1 r1 e2).tr [(9000, .slc 9000)] rfl (by kernel_rfl) ⟨.rd (by kernel_rfl), trivial⟩ (by kernel_rfl) (by kernel_rfl) rfl rfl) (hone hb3)) ?_
    refine q_k ?_
    refine tr_cond_t true (by kernel_rfl) rfl ?_
    refine tr_seq ?_
    refine tr_reg hT [] [.s 6] [sB 6 true] [] (by kernel_rfl) trivial ?_
    refine q_k ?_
    refine tr_ret ?_
    refine q_k_ret ?_
    have h := Option.some.inj h
    subst h
    refine q_less [.s 6] [sB 6 true] (by kernel_rfl) ?_
    exact q_ret1 hT (.v (.one (.bool true))) [] (by kernel_rfl) (by kernel_rfl) (by kernel_rfl)
  · rcases ite_split h with ⟨hb5, h⟩ | ⟨hb6, h⟩
    · refine tr_reg hT [(1, .call [9000] (.v (.one (.int .i64 r1))) []), (3, .dec false), (9, .dec true)] [.s 1, .s 2, .s 3, .s 27, .h 0, .h 9000] [sI 1 .i64 at_2, sI 2 .u32 bits_3, sO 3 (.ptr 0 0), sB 27 true, hB 0 41 [.int .i64 r_0, .slc 9000], hR 9000 .u8 r_1] [CallOk P 33 [.v (.agg [.int .i64 r_0, .slc 9000])] [(9000, .rd .u8 r_1)] (.v (.one (.int .i64 r1))) [], (r1 != (0 : Int)) = false, (decide ((↑(List.length r_1) : Int) < (1 : Int))) = true] (by kernel_rfl) (hcons ((ref14_Rec_ok r_0 r_1 r1 e2).tr [(9000, .slc 9000)] rfl (by kernel_rfl) ⟨.rd (by kernel_rfl), trivial⟩ (by kernel_rfl) (by kernel_rfl) rfl rfl) (hcons hb4 (hone hb5))) ?_
      refine q_k ?_
      refine tr_cond_t true (by kernel_rfl) rfl ?_
      refine tr_seq ?_
      refine tr_reg hT [] [.s 6] [sB 6 true] [] (by kernel_rfl) trivial ?_
      refine q_k ?_
      refine tr_ret ?_
      refine q_k_ret ?_
      have h := Option.some.inj h
      subst h
      refine q_less [.s 6] [sB 6 true] (by kernel_rfl) ?_
      exact q_ret1 hT (.v (.one (.bool true))) [] (by kernel_rfl) (by kernel_rfl) (by kernel_rfl)
    · refine tr_reg hT [(1, .call [9000] (.v (.one (.int .i64 r1))) []), (3, .dec false), (9, .dec false)] [.s 1, .s 2, .s 3, .s 27, .h 0, .h 9000] [sI 1 .i64 at_2, sI 2 .u32 bits_3, sO 3 (.ptr 0 0), sB 27 (decide ((↑(List.length r_1) : Int) > (300 : Int))), hB 0 41 [.int .i64 r_0, .slc 9000], hR 9000 .u8 r_1] [CallOk P 33 [.v (.agg [.int .i64 r_0, .slc 9000])] [(9000, .rd .u8 r_1)] (.v (.one (.int .i64 r1))) [], (r1 != (0 : Int)) = false, (decide ((↑(List.length r_1) : Int) < (1 : Int))) = false] (by kernel_rfl) (hcons ((ref14_Rec_ok r_0 r_1 r1 e2).tr [(9000, .slc 9000)] rfl (by kernel_rfl) ⟨.rd (by kernel_rfl), trivial⟩ (by kernel_rfl) (by kernel_rfl) rfl rfl) (hcons hb4 (hone hb6))) ?_
      refine q_k ?_
      rcases ite_split h with ⟨hc7, h⟩ | ⟨hc7, h⟩
      · refine tr_cond_t (decide ((↑(List.length r_1) : Int) > (300 : Int))) (by kernel_rfl) hc7 ?_
        refine tr_seq ?_
        refine tr_reg hT [] [.s 6] [sB 6 true] [] (by kernel_rfl) trivial ?_
        refine q_k ?_
        refine tr_ret ?_
        refine q_k_ret ?_
        have h := Option.some.inj h
        subst h
        refine q_less [.s 6] [sB 6 true] (by kernel_rfl) ?_
        exact q_ret1 hT (.v (.one (.bool true))) [] (by kernel_rfl) (by kernel_rfl) (by kernel_rfl)
      · refine tr_cond_f (decide ((↑(List.length r_1) : Int) > (300 : Int))) (by kernel_rfl) hc7 ?_
        refine tr_skip ?_
        refine q_k ?_
        refine tr_seq ?_
        obtain ⟨⟨a8, r9⟩, e10, h⟩ := bind_some h
        refine tr_reg hT [(1, .call [9000] (.tup [.one (.slc 1), .one (.int .i64 r9)]) [(1, .own 5 .u8 a8)])] [.s 1, .s 2, .s 3, .s 7, .s 8, .h 0, .h 1, .h 9000] [sI 1 .i64 at_2, sI 2 .u32 bits_3, sO 3 (.ptr 0 0), sO 7 (.slc 1), sI 8 .i64 r9, hB 0 41 [.int .i64 r_0, .slc 9000], hO 1 5 .u8 a8, hR 9000 .u8 r_1] [CallOk P 32 [.v (.one (.nils)), .v (.agg [.int .i64 r_0, .slc 9000])] [(9000, .rd .u8 r_1)] (.tup [.one (.slc 1), .one (.int .i64 r9)]) [(1, .own 5 .u8 a8)]] (by kernel_rfl) (hone ((frame_Put_ok [] r_0 r_1 (a8, r9) e10).tr [(9000, .nils), (9001, .slc 9000), (8900, .slc 1)] rfl (by kernel_rfl) ⟨.nilrd, .rd (by kernel_rfl), trivial⟩ (by kernel_rfl) (by kernel_rfl) rfl rfl)) ?_
        refine q_k ?_
        refine tr_seq ?_
        refine tr_seq ?_
        rcases ite_split h with ⟨hb12, h⟩ | ⟨hb13, h⟩
        · refine tr_reg hT [(2, .dec true)] [.s 1, .s 2, .s 3, .s 7, .s 43, .h 0, .h 1, .h 9000] [sI 1 .i64 at_2, sI 2 .u32 bits_3, sO 3 (.ptr 0 0), sO 7 (.slc 1), sB 43 true, hB 0 41 [.int .i64 r_0, .slc 9000], hO 1 5 .u8 a8, hR 9000 .u8 r_1] [(r9 != (0 : Int)) = true] (by kernel_rfl) (hone hb12) ?_
          refine q_k ?_
          refine tr_cond_t true (by kernel_rfl) rfl ?_
          refine tr_seq ?_
          refine tr_reg hT [] [.s 6] [sB 6 false] [] (by kernel_rfl) trivial ?_
          refine q_k ?_
          refine tr_ret ?_
          refine q_k_ret ?_
          have h := Option.some.inj h
          subst h
          refine q_less [.s 6] [sB 6 false] (by kernel_rfl) ?_
          exact q_ret1 hT (.v (.one (.bool false))) [] (by kernel_rfl) (by kernel_rfl) (by kernel_rfl)
        · refine tr_reg hT [(2, .dec false)] [.s 1, .s 2, .s 3, .s 7, .s 43, .h 0, .h 1, .h 9000] [sI 1 .i64 at_2, sI 2 .u32 bits_3, sO 3 (.ptr 0 0), sO 7 (.slc 1), sB 43 ((↑(List.length a8) : Int) != (IntKind.i64.wrap ((7 : Int) + (↑(List.length r_1) : Int)))), hB 0 41 [.int .i64 r_0, .slc 9000], hO 1 5 .u8 a8, hR 9000 .u8 r_1] [(r9 != (0 : Int)) = false] (by kernel_rfl) (hone hb13) ?_
          refine q_k ?_
          rcases ite_split h with ⟨hc14, h⟩ | ⟨hc14, h⟩
          · refine tr_cond_t ((↑(List.length a8) : Int) != (IntKind.i64.wrap ((7 : Int) + (↑(List.length r_1) : Int)))) (by kernel_rfl) hc14 ?_
            refine tr_seq ?_
            refine tr_reg hT [] [.s 6] [sB 6 false] [] (by kernel_rfl) trivial ?_
            refine q_k ?_
            refine tr_ret ?_
            refine q_k_ret ?_
            have h := Option.some.inj h
            subst h
            refine q_less [.s 6] [sB 6 false] (by kernel_rfl) ?_
            exact q_ret1 hT (.v (.one (.bool false))) [] (by kernel_rfl) (by kernel_rfl) (by kernel_rfl)
          · refine tr_cond_f ((↑(List.length a8) : Int) != (IntKind.i64.wrap ((7 : Int) + (↑(List.length r_1) : Int)))) (by kernel_rfl) hc14 ?_
            refine tr_skip ?_
            refine q_k ?_
            refine tr_seq ?_
            obtain ⟨hn15, h⟩ := ite_some h
            refine tr_reg hT [] [.s 1, .s 2, .s 3, .s 7, .h 0, .h 1, .h 9000] [sI 1 .i64 (IntKind.i64.wrap ((IntKind.u64.wrap at_2).tmod (IntKind.u64.wrap (IntKind.i64.wrap ((8 : Int) * (↑(List.length r_1) : Int)))))), sI 2 .u32 bits_3, sO 3 (.ptr 0 0), sO 7 (.slc 1), hB 0 41 [.int .i64 r_0, .slc 9000], hO 1 5 .u8 a8, hR 9000 .u8 r_1] [(IntKind.u64.wrap (IntKind.i64.wrap ((8 : Int) * (↑(List.length r_1) : Int)))) ≠ 0] (by kernel_rfl) (hone hn15) ?_
            refine q_k ?_
            refine tr_seq ?_
            refine tr_reg hT [] [.s 1, .s 2, .s 3, .s 7, .s 9, .h 0, .h 1, .h 9000] [sI 1 .i64 (IntKind.i64.wrap ((IntKind.u64.wrap at_2).tmod (IntKind.u64.wrap (IntKind.i64.wrap ((8 : Int) * (↑(List.length r_1) : Int)))))), sI 2 .u32 bits_3, sO 3 (.ptr 0 0), sO 7 (.slc 1), sB 9 false, hB 0 41 [.int .i64 r_0, .slc 9000], hO 1 5 .u8 a8, hR 9000 .u8 r_1] [] (by kernel_rfl) trivial ?_
            refine q_k ?_
            refine tr_seq ?_
            refine tr_seq ?_
            refine tr_reg hT [] [.s 1, .s 2, .s 3, .s 7, .s 9, .s 10, .h 0, .h 1, .h 9000] [sI 1 .i64 (IntKind.i64.wrap ((IntKind.u64.wrap at_2).tmod (IntKind.u64.wrap (IntKind.i64.wrap ((8 : Int) * (↑(List.length r_1) : Int)))))), sI 2 .u32 bits_3, sO 3 (.ptr 0 0), sO 7 (.slc 1), sB 9 false, sI 10 .i64 (0 : Int), hB 0 41 [.int .i64 r_0, .slc 9000], hO 1 5 .u8 a8, hR 9000 .u8 r_1] [] (by kernel_rfl) trivial ?_
            refine q_k ?_
            refine tr_block ?_
            obtain ⟨rr0, e28, h⟩ := bind_some h
            refine tr_fit [] [sI 1 .i64 (IntKind.i64.wrap ((IntKind.u64.wrap at_2).tmod (IntKind.u64.wrap (IntKind.i64.wrap ((8 : Int) * (↑(List.length r_1) : Int)))))), sI 2 .u32 bits_3, sO 3 (.ptr 0 0), sO 7 (.slc 1), sB 9 false, sI 10 .i64 (0 : Int), hB 0 41 [.int .i64 r_0, .slc 9000], hO 1 5 .u8 a8, hR 9000 .u8 r_1] [(0, .blk 41 [.int .i64 r_0, .slc 9000]), (1, .own 5 .u8 a8), (9000, .rd .u8 r_1)] (by kernel_rfl) (by kernel_rfl) (by kernel_rfl) rfl ⟨.blk (by kernel_rfl) (by kernel_rfl), .own (by kernel_rfl), .rd (by kernel_rfl), trivial⟩ (by kernel_rfl) ?_
            refine tr_loop_fuel (id := 0) (α := List Int × Bool × Int) (β := List Int × Bool) (fun z => [sI 1 .i64 (IntKind.i64.wrap ((IntKind.u64.wrap at_2).tmod (IntKind.u64.wrap (IntKind.i64.wrap ((8 : Int) * (↑(List.length r_1) : Int)))))), sI 2 .u32 bits_3, sO 3 (.ptr 0 0), sO 7 (.slc 1), sB 9 z.2.1, sI 10 .i64 z.2.2, hB 0 41 [.int .i64 r_0, .slc 9000], hO 1 5 .u8 z.1, hR 9000 .u8 r_1]) (fun z => [sO 3 (.ptr 0 0), sO 7 (.slc 1), sB 9 z.2, hB 0 41 [.int .i64 r_0, .slc 9000], hO 1 5 .u8 z.1, hR 9000 .u8 r_1]) (fun k z => law15_FrameSpoilt_l0 r_0 r_1 at_2 bits_3 k z.1 z.2.1 z.2.2) rr0 (fun _ => rfl) (((32 : Int) - (0 : Int)).toNat + 1) (a8, false, (0 : Int)) e28 ?_ ?_
            · rcases rr0 with ⟨m19, turned20⟩
              replace h : ((frame_Get m19 (0 : Int)).bind (fun (r29, a30, r31, r32) => if (!turned20) = true then if (r32 == (0 : Int)) = true then if (r31 == (↑(List.length m19) : Int)) = true then (keep_Bytes a30 r_1).bind (fun b38 => if b38 = true then (law15_wakes).bind (fun b41 => some b41) else some false) else some false else some false else if (r32 == (6 : Int)) = true then if (r31 == (0 : Int)) = true then if ((↑(List.length a30) : Int) == (0 : Int)) = true then (law15_wakes).bind (fun b49 => some b49) else some false else some false else some false)) = _ := h
              refine q_b_this ?_
              refine q_k ?_
              refine tr_seq ?_
              obtain ⟨⟨r29, a30, r31, r32⟩, e33, h⟩ := bind_some h
              refine tr_reg hT [(1, .call [1] (.tup [.agg [.int .i64 r29, .slc 2], .one (.int .i64 r31), .one (.int .i64 r32)]) [(2, .own 5 .u8 a30)]), (6, .key 3)] [.s 3, .s 7, .s 8, .s 9, .s 11, .s 12, .h 0, .h 1, .h 2, .h 3, .h 9000] [sO 3 (.ptr 0 0), sO 7 (.slc 1), sI 8 .i64 r32, sB 9 turned20, sO 11 (.ptr 3 0), sI 12 .i64 r31, hB 0 41 [.int .i64 r_0, .slc 9000], hO 1 5 .u8 m19, hO 2 5 .u8 a30, hB 3 41 [.int .i64 r29, .slc 2], hR 9000 .u8 r_1] [CallOk P 36 [.v (.one (.slc 1)), .v (.one (.int .i64 (0 : Int)))] [(1, .own 5 .u8 m19)] (.tup [.agg [.int .i64 r29, .slc 2], .one (.int .i64 r31), .one (.int .i64 r32)]) [(2, .own 5 .u8 a30)]] (by kernel_rfl) (hone ((frame_Get_ok m19 (0 : Int) (r29, a30, r31, r32) e33).tr [(9000, .slc 1), (8900, .slc 2)] rfl (by kernel_rfl) ⟨.ownrd (e := 5) (by kernel_rfl), trivial⟩ (by kernel_rfl) (by kernel_rfl) rfl rfl)) ?_
              refine q_k ?_
              refine tr_seq ?_
              refine tr_seq ?_
              refine tr_reg hT [] [.s 3, .s 7, .s 8, .s 11, .s 12, .s 96, .h 0, .h 1, .h 2, .h 3, .h 9000] [sO 3 (.ptr 0 0), sO 7 (.slc 1), sI 8 .i64 r32, sO 11 (.ptr 3 0), sI 12 .i64 r31, sB 96 (!turned20), hB 0 41 [.int .i64 r_0, .slc 9000], hO 1 5 .u8 m19, hO 2 5 .u8 a30, hB 3 41 [.int .i64 r29, .slc 2], hR 9000 .u8 r_1] [] (by kernel_rfl) trivial ?_
              refine q_k ?_
              rcases ite_split h with ⟨hc35, h⟩ | ⟨hc35, h⟩
              · refine tr_cond_t (!turned20) (by kernel_rfl) hc35 ?_
                refine tr_seq ?_
                rcases ite_split h with ⟨hb36, h⟩ | ⟨hb45, h⟩
                · rcases ite_split h with ⟨hb37, h⟩ | ⟨hb44, h⟩
                  · obtain ⟨b38, e39, h⟩ := bind_some h
                    rcases ite_split h with ⟨hb40, h⟩ | ⟨hb43, h⟩
                    · obtain ⟨b41, e42, h⟩ := bind_some h
                      refine tr_reg hT [(2, .dec true), (8, .dec true), (13, .call [2, 9000] (.v (.one (.bool b38))) []), (15, .dec true), (16, .call [] (.v (.one (.bool b41))) [])] [.s 6] [sB 6 b41] [(r32 == (0 : Int)) = true, (r31 == (↑(List.length m19) : Int)) = true, CallOk P 26 [.v (.one (.slc 2)), .v (.one (.slc 9000))] [(2, .own 5 .u8 a30), (9000, .rd .u8 r_1)] (.v (.one (.bool b38))) [], b38 = true, CallOk P 41 [] [] (.v (.one (.bool b41))) []] (by kernel_rfl) (hcons hb36 (hcons hb37 (hcons ((keep_Bytes_ok a30 r_1 b38 e39).tr [(9000, .slc 2), (9001, .slc 9000)] rfl (by kernel_rfl) ⟨.ownrd (e := 5) (by kernel_rfl), .rd (by kernel_rfl), trivial⟩ (by kernel_rfl) (by kernel_rfl) rfl rfl) (hcons hb40 (hone (law15_wakes_ok  b41 e42)))))) ?_
                      refine q_k ?_
                      refine tr_ret ?_
                      refine q_k_ret ?_
                      have h := Option.some.inj h
                      subst h
                      refine q_less [.s 6] [sB 6 b41] (by kernel_rfl) ?_
                      exact q_ret1 hT (.v (.one (.bool b41))) [] (by kernel_rfl) (by kernel_rfl) (by kernel_rfl)
                    · refine tr_reg hT [(2, .dec true), (8, .dec true), (13, .call [2, 9000] (.v (.one (.bool b38))) []), (15, .dec false)] [.s 6] [sB 6 false] [(r32 == (0 : Int)) = true, (r31 == (↑(List.length m19) : Int)) = true, CallOk P 26 [.v (.one (.slc 2)), .v (.one (.slc 9000))] [(2, .own 5 .u8 a30), (9000, .rd .u8 r_1)] (.v (.one (.bool b38))) [], b38 = false] (by kernel_rfl) (hcons hb36 (hcons hb37 (hcons ((keep_Bytes_ok a30 r_1 b38 e39).tr [(9000, .slc 2), (9001, .slc 9000)] rfl (by kernel_rfl) ⟨.ownrd (e := 5) (by kernel_rfl), .rd (by kernel_rfl), trivial⟩ (by kernel_rfl) (by kernel_rfl) rfl rfl) (hone hb43)))) ?_
                      refine q_k ?_
                      refine tr_ret ?_
                      refine q_k_ret ?_
                      have h := Option.some.inj h
                      subst h
                      refine q_less [.s 6] [sB 6 false] (by kernel_rfl) ?_
                      exact q_ret1 hT (.v (.one (.bool false))) [] (by kernel_rfl) (by kernel_rfl) (by kernel_rfl)
                  · refine tr_reg hT [(2, .dec true), (8, .dec false)] [.s 6] [sB 6 false] [(r32 == (0 : Int)) = true, (r31 == (↑(List.length m19) : Int)) = false] (by kernel_rfl) (hcons hb36 (hone hb44)) ?_
                    refine q_k ?_
                    refine tr_ret ?_
                    refine q_k_ret ?_
                    have h := Option.some.inj h
                    subst h
                    refine q_less [.s 6] [sB 6 false] (by kernel_rfl) ?_
                    exact q_ret1 hT (.v (.one (.bool false))) [] (by kernel_rfl) (by kernel_rfl) (by kernel_rfl)
                · refine tr_reg hT [(2, .dec false)] [.s 6] [sB 6 false] [(r32 == (0 : Int)) = false] (by kernel_rfl) (hone hb45) ?_
                  refine q_k ?_
                  refine tr_ret ?_
                  refine q_k_ret ?_
                  have h := Option.some.inj h
                  subst h
                  refine q_less [.s 6] [sB 6 false] (by kernel_rfl) ?_
                  exact q_ret1 hT (.v (.one (.bool false))) [] (by kernel_rfl) (by kernel_rfl) (by kernel_rfl)
              · refine tr_cond_f (!turned20) (by kernel_rfl) hc35 ?_
                refine tr_skip ?_
                refine q_k ?_
                refine tr_seq ?_
                rcases ite_split h with ⟨hb46, h⟩ | ⟨hb53, h⟩
                · rcases ite_split h with ⟨hb47, h⟩ | ⟨hb52, h⟩
                  · rcases ite_split h with ⟨hb48, h⟩ | ⟨hb51, h⟩
                    · obtain ⟨b49, e50, h⟩ := bind_some h
                      refine tr_reg hT [(2, .dec true), (6, .dec true), (12, .dec true), (13, .call [] (.v (.one (.bool b49))) [])] [.s 6] [sB 6 b49] [(r32 == (6 : Int)) = true, (r31 == (0 : Int)) = true, ((↑(List.length a30) : Int) == (0 : Int)) = true, CallOk P 41 [] [] (.v (.one (.bool b49))) []] (by kernel_rfl) (hcons hb46 (hcons hb47 (hcons hb48 (hone (law15_wakes_ok  b49 e50))))) ?_
                      refine q_k ?_
                      refine tr_ret ?_
                      have h := Option.some.inj h
                      subst h
                      refine q_less [.s 6] [sB 6 b49] (by kernel_rfl) ?_
                      exact q_ret1 hT (.v (.one (.bool b49))) [] (by kernel_rfl) (by kernel_rfl) (by kernel_rfl)
                    · refine tr_reg hT [(2, .dec true), (6, .dec true), (12, .dec false)] [.s 6] [sB 6 false] [(r32 == (6 : Int)) = true, (r31 == (0 : Int)) = true, ((↑(List.length a30) : Int) == (0 : Int)) = false] (by kernel_rfl) (hcons hb46 (hcons hb47 (hone hb51))) ?_
                      refine q_k ?_
                      refine tr_ret ?_
                      have h := Option.some.inj h
                      subst h
                      refine q_less [.s 6] [sB 6 false] (by kernel_rfl) ?_
                      exact q_ret1 hT (.v (.one (.bool false))) [] (by kernel_rfl) (by kernel_rfl) (by kernel_rfl)
                  · refine tr_reg hT [(2, .dec true), (6, .dec false)] [.s 6] [sB 6 false] [(r32 == (6 : Int)) = true, (r31 == (0 : Int)) = false] (by kernel_rfl) (hcons hb46 (hone hb52)) ?_
                    refine q_k ?_
                    refine tr_ret ?_
                    have h := Option.some.inj h
                    subst h
                    refine q_less [.s 6] [sB 6 false] (by kernel_rfl) ?_
                    exact q_ret1 hT (.v (.one (.bool false))) [] (by kernel_rfl) (by kernel_rfl) (by kernel_rfl)
                · refine tr_reg hT [(2, .dec false)] [.s 6] [sB 6 false] [(r32 == (6 : Int)) = false] (by kernel_rfl) (hone hb53) ?_
                  refine q_k ?_
                  refine tr_ret ?_
                  have h := Option.some.inj h
                  subst h
                  refine q_less [.s 6] [sB 6 false] (by kernel_rfl) ?_
                  exact q_ret1 hT (.v (.one (.bool false))) [] (by kernel_rfl) (by kernel_rfl) (by kernel_rfl)
            · clear h e28
              intro k ih0 hx0 z h
              obtain ⟨m16, turned17, i18⟩ := z
              replace h : (if (decide (i18 < (32 : Int))) = true then if (decide ((IntKind.i64.wrap ((IntKind.i64.wrap ((IntKind.u64.wrap at_2).tmod (IntKind.u64.wrap (IntKind.i64.wrap ((8 : Int) * (↑(List.length r_1) : Int)))))) + i18)) < (IntKind.i64.wrap ((8 : Int) * (↑(List.length r_1) : Int))))) = true then if 0 ≤ (IntKind.u64.wrap i18) then if ((band .u32 (shr .u32 bits_3 (IntKind.u64.wrap i18)) (1 : Int)) == (1 : Int)) = true then if 0 ≤ (IntKind.i64.wrap ((7 : Int) + (IntKind.i64.wrap ((IntKind.i64.wrap ((IntKind.i64.wrap ((IntKind.u64.wrap at_2).tmod (IntKind.u64.wrap (IntKind.i64.wrap ((8 : Int) * (↑(List.length r_1) : Int)))))) + i18)).tdiv (8 : Int))))) ∧ (IntKind.i64.wrap ((7 : Int) + (IntKind.i64.wrap ((IntKind.i64.wrap ((IntKind.i64.wrap ((IntKind.u64.wrap at_2).tmod (IntKind.u64.wrap (IntKind.i64.wrap ((8 : Int) * (↑(List.length r_1) : Int)))))) + i18)).tdiv (8 : Int))))) < ↑(List.length m16) then if 0 ≤ (IntKind.u64.wrap ((IntKind.i64.wrap ((IntKind.i64.wrap ((IntKind.u64.wrap at_2).tmod (IntKind.u64.wrap (IntKind.i64.wrap ((8 : Int) * (↑(List.length r_1) : Int)))))) + i18)).tmod (8 : Int))) then law15_FrameSpoilt_l0 r_0 r_1 at_2 bits_3 k (m16.set (IntKind.i64.wrap ((7 : Int) + (IntKind.i64.wrap ((IntKind.i64.wrap ((IntKind.i64.wrap ((IntKind.u64.wrap at_2).tmod (IntKind.u64.wrap (IntKind.i64.wrap ((8 : Int) * (↑(List.length r_1) : Int)))))) + i18)).tdiv (8 : Int))))).toNat (bxor .u8 (m16.getD (IntKind.i64.wrap ((7 : Int) + (IntKind.i64.wrap ((IntKind.i64.wrap ((IntKind.i64.wrap ((IntKind.u64.wrap at_2).tmod (IntKind.u64.wrap (IntKind.i64.wrap ((8 : Int) * (↑(List.length r_1) : Int)))))) + i18)).tdiv (8 : Int))))).toNat 0) (shl .u8 (1 : Int) (IntKind.u64.wrap ((IntKind.i64.wrap ((IntKind.i64.wrap ((IntKind.u64.wrap at_2).tmod (IntKind.u64.wrap (IntKind.i64.wrap ((8 : Int) * (↑(List.length r_1) : Int)))))) + i18)).tmod (8 : Int)))))) true (IntKind.i64.wrap (i18 + (1 : Int))) else none else none else law15_FrameSpoilt_l0 r_0 r_1 at_2 bits_3 k m16 turned17 (IntKind.i64.wrap (i18 + (1 : Int))) else none else some (m16, turned17) else some (m16, turned17)) = _ := h
              refine tr_seq ?_
              refine tr_seq ?_
              rcases ite_split h with ⟨hb21, h⟩ | ⟨hb27, h⟩
              · refine tr_reg hT [(2, .dec true)] [.s 1, .s 2, .s 3, .s 7, .s 9, .s 10, .s 64, .h 0, .h 1, .h 9000] [sI 1 .i64 (IntKind.i64.wrap ((IntKind.u64.wrap at_2).tmod (IntKind.u64.wrap (IntKind.i64.wrap ((8 : Int) * (↑(List.length r_1) : Int)))))), sI 2 .u32 bits_3, sO 3 (.ptr 0 0), sO 7 (.slc 1), sB 9 turned17, sI 10 .i64 i18, sB 64 (decide ((IntKind.i64.wrap ((IntKind.i64.wrap ((IntKind.u64.wrap at_2).tmod (IntKind.u64.wrap (IntKind.i64.wrap ((8 : Int) * (↑(List.length r_1) : Int)))))) + i18)) < (IntKind.i64.wrap ((8 : Int) * (↑(List.length r_1) : Int))))), hB 0 41 [.int .i64 r_0, .slc 9000], hO 1 5 .u8 m16, hR 9000 .u8 r_1] [(decide (i18 < (32 : Int))) = true] (by kernel_rfl) (hone hb21) ?_
                refine q_k ?_
                rcases ite_split h with ⟨hc22, h⟩ | ⟨hc22, h⟩
                · refine tr_cond_t (decide ((IntKind.i64.wrap ((IntKind.i64.wrap ((IntKind.u64.wrap at_2).tmod (IntKind.u64.wrap (IntKind.i64.wrap ((8 : Int) * (↑(List.length r_1) : Int)))))) + i18)) < (IntKind.i64.wrap ((8 : Int) * (↑(List.length r_1) : Int))))) (by kernel_rfl) hc22 ?_
                  refine tr_skip ?_
                  refine q_k ?_
                  refine tr_seq ?_
                  refine tr_block ?_
                  refine tr_seq ?_
                  obtain ⟨hn23, h⟩ := ite_some h
                  refine tr_reg hT [] [.s 1, .s 2, .s 3, .s 7, .s 9, .s 10, .s 72, .h 0, .h 1, .h 9000] [sI 1 .i64 (IntKind.i64.wrap ((IntKind.u64.wrap at_2).tmod (IntKind.u64.wrap (IntKind.i64.wrap ((8 : Int) * (↑(List.length r_1) : Int)))))), sI 2 .u32 bits_3, sO 3 (.ptr 0 0), sO 7 (.slc 1), sB 9 turned17, sI 10 .i64 i18, sB 72 ((band .u32 (shr .u32 bits_3 (IntKind.u64.wrap i18)) (1 : Int)) == (1 : Int)), hB 0 41 [.int .i64 r_0, .slc 9000], hO 1 5 .u8 m16, hR 9000 .u8 r_1] [0 ≤ (IntKind.u64.wrap i18)] (by kernel_rfl) (hone hn23) ?_
                  refine q_k ?_
                  rcases ite_split h with ⟨hc24, h⟩ | ⟨hc24, h⟩
                  · refine tr_cond_t ((band .u32 (shr .u32 bits_3 (IntKind.u64.wrap i18)) (1 : Int)) == (1 : Int)) (by kernel_rfl) hc24 ?_
                    refine tr_seq ?_
                    obtain ⟨hn25, h⟩ := ite_some h
                    obtain ⟨hn26, h⟩ := ite_some h
                    refine tr_reg hT [] [.s 1, .s 2, .s 3, .s 7, .s 10, .h 0, .h 1, .h 9000] [sI 1 .i64 (IntKind.i64.wrap ((IntKind.u64.wrap at_2).tmod (IntKind.u64.wrap (IntKind.i64.wrap ((8 : Int) * (↑(List.length r_1) : Int)))))), sI 2 .u32 bits_3, sO 3 (.ptr 0 0), sO 7 (.slc 1), sI 10 .i64 i18, hB 0 41 [.int .i64 r_0, .slc 9000], hO 1 5 .u8 (m16.set (IntKind.i64.wrap ((7 : Int) + (IntKind.i64.wrap ((IntKind.i64.wrap ((IntKind.i64.wrap ((IntKind.u64.wrap at_2).tmod (IntKind.u64.wrap (IntKind.i64.wrap ((8 : Int) * (↑(List.length r_1) : Int)))))) + i18)).tdiv (8 : Int))))).toNat (bxor .u8 (m16.getD (IntKind.i64.wrap ((7 : Int) + (IntKind.i64.wrap ((IntKind.i64.wrap ((IntKind.i64.wrap ((IntKind.u64.wrap at_2).tmod (IntKind.u64.wrap (IntKind.i64.wrap ((8 : Int) * (↑(List.length r_1) : Int)))))) + i18)).tdiv (8 : Int))))).toNat 0) (shl .u8 (1 : Int) (IntKind.u64.wrap ((IntKind.i64.wrap ((IntKind.i64.wrap ((IntKind.u64.wrap at_2).tmod (IntKind.u64.wrap (IntKind.i64.wrap ((8 : Int) * (↑(List.length r_1) : Int)))))) + i18)).tmod (8 : Int)))))), hR 9000 .u8 r_1] [(8 : Int) ≠ 0, 0 ≤ (IntKind.i64.wrap ((7 : Int) + (IntKind.i64.wrap ((IntKind.i64.wrap ((IntKind.i64.wrap ((IntKind.u64.wrap at_2).tmod (IntKind.u64.wrap (IntKind.i64.wrap ((8 : Int) * (↑(List.length r_1) : Int)))))) + i18)).tdiv (8 : Int))))) ∧ (IntKind.i64.wrap ((7 : Int) + (IntKind.i64.wrap ((IntKind.i64.wrap ((IntKind.i64.wrap ((IntKind.u64.wrap at_2).tmod (IntKind.u64.wrap (IntKind.i64.wrap ((8 : Int) * (↑(List.length r_1) : Int)))))) + i18)).tdiv (8 : Int))))) < ↑(List.length m16), (IntKind.i64.wrap ((7 : Int) + (IntKind.i64.wrap ((IntKind.i64.wrap ((IntKind.i64.wrap ((IntKind.u64.wrap at_2).tmod (IntKind.u64.wrap (IntKind.i64.wrap ((8 : Int) * (↑(List.length r_1) : Int)))))) + i18)).tdiv (8 : Int))))) < ↑(List.length m16), (8 : Int) ≠ 0, 0 ≤ (IntKind.u64.wrap ((IntKind.i64.wrap ((IntKind.i64.wrap ((IntKind.u64.wrap at_2).tmod (IntKind.u64.wrap (IntKind.i64.wrap ((8 : Int) * (↑(List.length r_1) : Int)))))) + i18)).tmod (8 : Int))), 0 ≤ (IntKind.i64.wrap ((7 : Int) + (IntKind.i64.wrap ((IntKind.i64.wrap ((IntKind.i64.wrap ((IntKind.u64.wrap at_2).tmod (IntKind.u64.wrap (IntKind.i64.wrap ((8 : Int) * (↑(List.length r_1) : Int)))))) + i18)).tdiv (8 : Int))))) ∧ (IntKind.i64.wrap ((7 : Int) + (IntKind.i64.wrap ((IntKind.i64.wrap ((IntKind.i64.wrap ((IntKind.u64.wrap at_2).tmod (IntKind.u64.wrap (IntKind.i64.wrap ((8 : Int) * (↑(List.length r_1) : Int)))))) + i18)).tdiv (8 : Int))))) < ↑(List.length m16), (IntKind.i64.wrap ((7 : Int) + (IntKind.i64.wrap ((IntKind.i64.wrap ((IntKind.i64.wrap ((IntKind.u64.wrap at_2).tmod (IntKind.u64.wrap (IntKind.i64.wrap ((8 : Int) * (↑(List.length r_1) : Int)))))) + i18)).tdiv (8 : Int))))) < ↑(List.length m16)] (by kernel_rfl) (hcons (by decide) (hcons hn25 (hcons hn25.2 (hcons (by decide) (hcons hn26 (hcons hn25 (hone hn25.2))))))) ?_
                    refine q_k ?_
                    refine tr_reg hT [] [.s 1, .s 2, .s 3, .s 7, .s 9, .s 10, .h 0, .h 1, .h 9000] [sI 1 .i64 (IntKind.i64.wrap ((IntKind.u64.wrap at_2).tmod (IntKind.u64.wrap (IntKind.i64.wrap ((8 : Int) * (↑(List.length r_1) : Int)))))), sI 2 .u32 bits_3, sO 3 (.ptr 0 0), sO 7 (.slc 1), sB 9 true, sI 10 .i64 i18, hB 0 41 [.int .i64 r_0, .slc 9000], hO 1 5 .u8 (m16.set (IntKind.i64.wrap ((7 : Int) + (IntKind.i64.wrap ((IntKind.i64.wrap ((IntKind.i64.wrap ((IntKind.u64.wrap at_2).tmod (IntKind.u64.wrap (IntKind.i64.wrap ((8 : Int) * (↑(List.length r_1) : Int)))))) + i18)).tdiv (8 : Int))))).toNat (bxor .u8 (m16.getD (IntKind.i64.wrap ((7 : Int) + (IntKind.i64.wrap ((IntKind.i64.wrap ((IntKind.i64.wrap ((IntKind.u64.wrap at_2).tmod (IntKind.u64.wrap (IntKind.i64.wrap ((8 : Int) * (↑(List.length r_1) : Int)))))) + i18)).tdiv (8 : Int))))).toNat 0) (shl .u8 (1 : Int) (IntKind.u64.wrap ((IntKind.i64.wrap ((IntKind.i64.wrap ((IntKind.u64.wrap at_2).tmod (IntKind.u64.wrap (IntKind.i64.wrap ((8 : Int) * (↑(List.length r_1) : Int)))))) + i18)).tmod (8 : Int)))))), hR 9000 .u8 r_1] [] (by kernel_rfl) trivial ?_
                    refine q_b 1 ?_
                    refine q_k ?_
                    refine tr_reg hT [] [.s 1, .s 2, .s 3, .s 7, .s 9, .s 10, .h 0, .h 1, .h 9000] [sI 1 .i64 (IntKind.i64.wrap ((IntKind.u64.wrap at_2).tmod (IntKind.u64.wrap (IntKind.i64.wrap ((8 : Int) * (↑(List.length r_1) : Int)))))), sI 2 .u32 bits_3, sO 3 (.ptr 0 0), sO 7 (.slc 1), sB 9 true, sI 10 .i64 (IntKind.i64.wrap (i18 + (1 : Int))), hB 0 41 [.int .i64 r_0, .slc 9000], hO 1 5 .u8 (m16.set (IntKind.i64.wrap ((7 : Int) + (IntKind.i64.wrap ((IntKind.i64.wrap ((IntKind.i64.wrap ((IntKind.u64.wrap at_2).tmod (IntKind.u64.wrap (IntKind.i64.wrap ((8 : Int) * (↑(List.length r_1) : Int)))))) + i18)).tdiv (8 : Int))))).toNat (bxor .u8 (m16.getD (IntKind.i64.wrap ((7 : Int) + (IntKind.i64.wrap ((IntKind.i64.wrap ((IntKind.i64.wrap ((IntKind.u64.wrap at_2).tmod (IntKind.u64.wrap (IntKind.i64.wrap ((8 : Int) * (↑(List.length r_1) : Int)))))) + i18)).tdiv (8 : Int))))).toNat 0) (shl .u8 (1 : Int) (IntKind.u64.wrap ((IntKind.i64.wrap ((IntKind.i64.wrap ((IntKind.u64.wrap at_2).tmod (IntKind.u64.wrap (IntKind.i64.wrap ((8 : Int) * (↑(List.length r_1) : Int)))))) + i18)).tmod (8 : Int)))))), hR 9000 .u8 r_1] [] (by kernel_rfl) trivial ?_
                    refine q_kr ?_
                    exact trR_fit [] [sI 1 .i64 (IntKind.i64.wrap ((IntKind.u64.wrap at_2).tmod (IntKind.u64.wrap (IntKind.i64.wrap ((8 : Int) * (↑(List.length r_1) : Int)))))), sI 2 .u32 bits_3, sO 3 (.ptr 0 0), sO 7 (.slc 1), sB 9 true, sI 10 .i64 (IntKind.i64.wrap (i18 + (1 : Int))), hB 0 41 [.int .i64 r_0, .slc 9000], hO 1 5 .u8 (m16.set (IntKind.i64.wrap ((7 : Int) + (IntKind.i64.wrap ((IntKind.i64.wrap ((IntKind.i64.wrap ((IntKind.u64.wrap at_2).tmod (IntKind.u64.wrap (IntKind.i64.wrap ((8 : Int) * (↑(List.length r_1) : Int)))))) + i18)).tdiv (8 : Int))))).toNat (bxor .u8 (m16.getD (IntKind.i64.wrap ((7 : Int) + (IntKind.i64.wrap ((IntKind.i64.wrap ((IntKind.i64.wrap ((IntKind.u64.wrap at_2).tmod (IntKind.u64.wrap (IntKind.i64.wrap ((8 : Int) * (↑(List.length r_1) : Int)))))) + i18)).tdiv (8 : Int))))).toNat 0) (shl .u8 (1 : Int) (IntKind.u64.wrap ((IntKind.i64.wrap ((IntKind.i64.wrap ((IntKind.u64.wrap at_2).tmod (IntKind.u64.wrap (IntKind.i64.wrap ((8 : Int) * (↑(List.length r_1) : Int)))))) + i18)).tmod (8 : Int)))))), hR 9000 .u8 r_1] [(0, .blk 41 [.int .i64 r_0, .slc 9000]), (1, .own 5 .u8 (m16.set (IntKind.i64.wrap ((7 : Int) + (IntKind.i64.wrap ((IntKind.i64.wrap ((IntKind.i64.wrap ((IntKind.u64.wrap at_2).tmod (IntKind.u64.wrap (IntKind.i64.wrap ((8 : Int) * (↑(List.length r_1) : Int)))))) + i18)).tdiv (8 : Int))))).toNat (bxor .u8 (m16.getD (IntKind.i64.wrap ((7 : Int) + (IntKind.i64.wrap ((IntKind.i64.wrap ((IntKind.i64.wrap ((IntKind.u64.wrap at_2).tmod (IntKind.u64.wrap (IntKind.i64.wrap ((8 : Int) * (↑(List.length r_1) : Int)))))) + i18)).tdiv (8 : Int))))).toNat 0) (shl .u8 (1 : Int) (IntKind.u64.wrap ((IntKind.i64.wrap ((IntKind.i64.wrap ((IntKind.u64.wrap at_2).tmod (IntKind.u64.wrap (IntKind.i64.wrap ((8 : Int) * (↑(List.length r_1) : Int)))))) + i18)).tmod (8 : Int))))))), (9000, .rd .u8 r_1)] (by kernel_rfl) (by kernel_rfl) (by kernel_rfl) rfl ⟨.blk (by kernel_rfl) (by kernel_rfl), .own (by kernel_rfl), .rd (by kernel_rfl), trivial⟩ (by kernel_rfl) (ih0 ((m16.set (IntKind.i64.wrap ((7 : Int) + (IntKind.i64.wrap ((IntKind.i64.wrap ((IntKind.i64.wrap ((IntKind.u64.wrap at_2).tmod (IntKind.u64.wrap (IntKind.i64.wrap ((8 : Int) * (↑(List.length r_1) : Int)))))) + i18)).tdiv (8 : Int))))).toNat (bxor .u8 (m16.getD (IntKind.i64.wrap ((7 : Int) + (IntKind.i64.wrap ((IntKind.i64.wrap ((IntKind.i64.wrap ((IntKind.u64.wrap at_2).tmod (IntKind.u64.wrap (IntKind.i64.wrap ((8 : Int) * (↑(List.length r_1) : Int)))))) + i18)).tdiv (8 : Int))))).toNat 0) (shl .u8 (1 : Int) (IntKind.u64.wrap ((IntKind.i64.wrap ((IntKind.i64.wrap ((IntKind.u64.wrap at_2).tmod (IntKind.u64.wrap (IntKind.i64.wrap ((8 : Int) * (↑(List.length r_1) : Int)))))) + i18)).tmod (8 : Int)))))), true, (IntKind.i64.wrap (i18 + (1 : Int)))) h)
                  · refine tr_cond_f ((band .u32 (shr .u32 bits_3 (IntKind.u64.wrap i18)) (1 : Int)) == (1 : Int)) (by kernel_rfl) hc24 ?_
                    refine tr_skip ?_
                    refine q_b 1 ?_
                    refine q_k ?_
                    refine tr_reg hT [] [.s 1, .s 2, .s 3, .s 7, .s 9, .s 10, .h 0, .h 1, .h 9000] [sI 1 .i64 (IntKind.i64.wrap ((IntKind.u64.wrap at_2).tmod (IntKind.u64.wrap (IntKind.i64.wrap ((8 : Int) * (↑(List.length r_1) : Int)))))), sI 2 .u32 bits_3, sO 3 (.ptr 0 0), sO 7 (.slc 1), sB 9 turned17, sI 10 .i64 (IntKind.i64.wrap (i18 + (1 : Int))), hB 0 41 [.int .i64 r_0, .slc 9000], hO 1 5 .u8 m16, hR 9000 .u8 r_1] [] (by kernel_rfl) trivial ?_
                    refine q_kr ?_
                    exact trR_less [.s 1, .s 2, .s 3, .s 7, .s 9, .s 10, .h 0, .h 1, .h 9000] [sI 1 .i64 (IntKind.i64.wrap ((IntKind.u64.wrap at_2).tmod (IntKind.u64.wrap (IntKind.i64.wrap ((8 : Int) * (↑(List.length r_1) : Int)))))), sI 2 .u32 bits_3, sO 3 (.ptr 0 0), sO 7 (.slc 1), sB 9 turned17, sI 10 .i64 (IntKind.i64.wrap (i18 + (1 : Int))), hB 0 41 [.int .i64 r_0, .slc 9000], hO 1 5 .u8 m16, hR 9000 .u8 r_1] (by kernel_rfl) (ih0 (m16, turned17, (IntKind.i64.wrap (i18 + (1 : Int)))) h)
                · refine tr_cond_f (decide ((IntKind.i64.wrap ((IntKind.i64.wrap ((IntKind.u64.wrap at_2).tmod (IntKind.u64.wrap (IntKind.i64.wrap ((8 : Int) * (↑(List.length r_1) : Int)))))) + i18)) < (IntKind.i64.wrap ((8 : Int) * (↑(List.length r_1) : Int))))) (by kernel_rfl) hc22 ?_
                  refine tr_exit ?_
                  refine q_k_exit ?_
                  refine q_kr_exit ?_
                  have h := Option.some.inj h
                  subst h
                  exact q_less [.s 3, .s 7, .s 9, .h 0, .h 1, .h 9000] [sO 3 (.ptr 0 0), sO 7 (.slc 1), sB 9 turned17, hB 0 41 [.int .i64 r_0, .slc 9000], hO 1 5 .u8 m16, hR 9000 .u8 r_1] (by kernel_rfl) hx0
              · refine tr_reg hT [(2, .dec false)] [.s 1, .s 2, .s 3, .s 7, .s 9, .s 10, .s 64, .h 0, .h 1, .h 9000] [sI 1 .i64 (IntKind.i64.wrap ((IntKind.u64.wrap at_2).tmod (IntKind.u64.wrap (IntKind.i64.wrap ((8 : Int) * (↑(List.length r_1) : Int)))))), sI 2 .u32 bits_3, sO 3 (.ptr 0 0), sO 7 (.slc 1), sB 9 turned17, sI 10 .i64 i18, sB 64 false, hB 0 41 [.int .i64 r_0, .slc 9000], hO 1 5 .u8 m16, hR 9000 .u8 r_1] [(decide (i18 < (32 : Int))) = false] (by kernel_rfl) (hone hb27) ?_
                refine q_k ?_
                refine tr_cond_f false (by kernel_rfl) rfl ?_
                refine tr_exit ?_
                refine q_k_exit ?_
                refine q_kr_exit ?_
                have h := Option.some.inj h
                subst h
                exact q_less [.s 3, .s 7, .s 9, .h 0, .h 1, .h 9000] [sO 3 (.ptr 0 0), sO 7 (.slc 1), sB 9 turned17, hB 0 41 [.int .i64 r_0, .slc 9000], hO 1 5 .u8 m16, hR 9000 .u8 r_1] (by kernel_rfl) hx0

theorem law15_FrameEnds_ok (over_0 : Int) (kind_1 : Int) (r : Bool) (h : law15_FrameEnds over_0 kind_1 = some r) {pre : List (Nat × Ent)} : CallOk P 14 [.v (.one (.int .i64 over_0)), .v (.one (.int .i64 kind_1))] pre (.v (.one (.bool r))) [] := by
  refine call0 (N := 93) Try.func14 (by kernel_rfl) rfl rfl rfl pre ?_
  intro _ w
  show Tr P (Ge w) 93 _ _ _ (RetQ P Try.f14 (R0 _ w))
  unfold law15_FrameEnds at h
  refine tr_seq ?_
  refine tr_reg hT [] [.s 0, .s 1] [sI 0 .i64 over_0, sI 1 .i64 kind_1] [] (by kernel_rfl) trivial ?_
  refine q_k ?_
  refine tr_seq ?_
  refine tr_reg hT [] [.s 0, .s 1] [sI 0 .i64 (IntKind.i64.wrap ((IntKind.u64.wrap over_0).tmod (2 : Int))), sI 1 .i64 kind_1] [(2 : Int) ≠ 0] (by kernel_rfl) (hone (by decide)) ?_
  refine q_k ?_
  refine tr_seq ?_
  obtain ⟨hn1, h⟩ := ite_some h
  refine tr_reg hT [(2, .key 0), (4, .key 1)] [.s 0, .s 1, .s 5, .h 0, .h 1] [sI 0 .i64 (IntKind.i64.wrap ((IntKind.u64.wrap over_0).tmod (2 : Int))), sI 1 .i64 kind_1, sO 5 (.ptr 1 0), hO 0 5 .u8 (List.replicate (IntKind.i64.wrap ((2000 : Int) + (IntKind.i64.wrap ((IntKind.u64.wrap over_0).tmod (2 : Int))))).toNat (0 : Int)), hB 1 41 [.int .i64 (1 : Int), .slc 0]] [(IntKind.i64.wrap ((2000 : Int) + (IntKind.i64.wrap ((IntKind.u64.wrap over_0).tmod (2 : Int))))) = (IntKind.i64.wrap ((2000 : Int) + (IntKind.i64.wrap ((IntKind.u64.wrap over_0).tmod (2 : Int))))), 0 ≤ (IntKind.i64.wrap ((2000 : Int) + (IntKind.i64.wrap ((IntKind.u64.wrap over_0).tmod (2 : Int))))) ∧ (IntKind.i64.wrap ((2000 : Int) + (IntKind.i64.wrap ((IntKind.u64.wrap over_0).tmod (2 : Int))))) ≤ (↑maxN : Int)] (by kernel_rfl) (hcons rfl (hone hn1)) ?_
  refine q_k ?_
  refine tr_seq ?_
  obtain ⟨⟨a2, r3⟩, e4, h⟩ := bind_some h
  refine tr_reg hT [(1, .call [0] (.tup [.one (.slc 2), .one (.int .i64 r3)]) [(2, .own 5 .u8 a2)])] [.s 0, .s 1, .s 6, .s 7, .h 2] [sI 0 .i64 (IntKind.i64.wrap ((IntKind.u64.wrap over_0).tmod (2 : Int))), sI 1 .i64 kind_1, sO 6 (.slc 2), sI 7 .i64 r3, hO 2 5 .u8 a2] [CallOk P 32 [.v (.one (.nils)), .v (.agg [.int .i64 (1 : Int), .slc 0])] [(0, .own 5 .u8 (List.replicate (IntKind.i64.wrap ((2000 : Int) + (IntKind.i64.wrap ((IntKind.u64.wrap over_0).tmod (2 : Int))))).toNat (0 : Int)))] (.tup [.one (.slc 2), .one (.int .i64 r3)]) [(2, .own 5 .u8 a2)]] (by kernel_rfl) (hone ((frame_Put_ok [] (1 : Int) (List.replicate (IntKind.i64.wrap ((2000 : Int) + (IntKind.i64.wrap ((IntKind.u64.wrap over_0).tmod (2 : Int))))).toNat (0 : Int)) (a2, r3) e4).tr [(9000, .nils), (9001, .slc 0), (8900, .slc 2)] rfl (by kernel_rfl) ⟨.nilrd, .ownrd (e := 5) (by kernel_rfl), trivial⟩ (by kernel_rfl) (by kernel_rfl) rfl rfl)) ?_
  refine q_k ?_
  refine tr_seq ?_
  obtain ⟨⟨a6, r7⟩, e8, h⟩ := bind_some h
  refine tr_reg hT [(2, .call [] (.tup [.one (.slc 3), .one (.int .i64 r7)]) [(3, .own 5 .u8 a6)])] [.s 0, .s 1, .s 6, .s 7, .s 8, .s 9, .h 2, .h 3] [sI 0 .i64 (IntKind.i64.wrap ((IntKind.u64.wrap over_0).tmod (2 : Int))), sI 1 .i64 kind_1, sO 6 (.slc 2), sI 7 .i64 r3, sO 8 (.slc 3), sI 9 .i64 r7, hO 2 5 .u8 a2, hO 3 5 .u8 a6] [CallOk P 32 [.v (.one (.nils)), .v (.agg [.int .i64 kind_1, .nils])] [] (.tup [.one (.slc 3), .one (.int .i64 r7)]) [(3, .own 5 .u8 a6)]] (by kernel_rfl) (hone ((frame_Put_ok [] kind_1 [] (a6, r7) e8).tr [(9000, .nils), (9001, .nils), (8900, .slc 3)] rfl (by kernel_rfl) ⟨.nilrd, .nilrd, trivial⟩ (by kernel_rfl) (by kernel_rfl) rfl rfl)) ?_
  refine q_k ?_
  refine tr_seq ?_
  refine tr_seq ?_
  rcases ite_split h with ⟨hb10, h⟩ | ⟨hb64, h⟩
  · rcases ite_split h with ⟨hb11, h⟩ | ⟨hb12, h⟩
    · refine tr_reg hT [(4, .dec true), (9, .dec true)] [.s 0, .s 6, .s 7, .s 53, .h 2] [sI 0 .i64 (IntKind.i64.wrap ((IntKind.u64.wrap over_0).tmod (2 : Int))), sO 6 (.slc 2), sI 7 .i64 r3, sB 53 true, hO 2 5 .u8 a2] [(kind_1 == (1 : Int)) = true, (!((r7 == (0 : Int)) == true)) = true] (by kernel_rfl) (hcons hb10 (hone hb11)) ?_
      refine q_k ?_
      refine tr_cond_t true (by kernel_rfl) rfl ?_
      refine tr_seq ?_
      refine tr_reg hT [] [.s 4] [sB 4 false] [] (by kernel_rfl) trivial ?_
      refine q_k ?_
      refine tr_ret ?_
      refine q_k_ret ?_
      have h := Option.some.inj h
      subst h
      exact q_ret0 hT (.v (.one (.bool false))) rfl (by kernel_rfl)
    · rcases ite_split h with ⟨hb13, h⟩ | ⟨hb40, h⟩
      · rcases ite_split h with ⟨hb14, h⟩ | ⟨hb15, h⟩
        · refine tr_reg hT [(4, .dec true), (9, .dec false), (12, .dec true), (15, .dec true)] [.s 0, .s 6, .s 7, .s 53, .h 2] [sI 0 .i64 (IntKind.i64.wrap ((IntKind.u64.wrap over_0).tmod (2 : Int))), sO 6 (.slc 2), sI 7 .i64 r3, sB 53 true, hO 2 5 .u8 a2] [(kind_1 == (1 : Int)) = true, (!((r7 == (0 : Int)) == true)) = false, (r7 != (0 : Int)) = true, (r7 != (1 : Int)) = true] (by kernel_rfl) (hcons hb10 (hcons hb12 (hcons hb13 (hone hb14)))) ?_
          refine q_k ?_
          refine tr_cond_t true (by kernel_rfl) rfl ?_
          refine tr_seq ?_
          refine tr_reg hT [] [.s 4] [sB 4 false] [] (by kernel_rfl) trivial ?_
          refine q_k ?_
          refine tr_ret ?_
          refine q_k_ret ?_
          have h := Option.some.inj h
          subst h
          exact q_ret0 hT (.v (.one (.bool false))) rfl (by kernel_rfl)
        · refine tr_reg hT [(4, .dec true), (9, .dec false), (12, .dec true), (15, .dec false)] [.s 0, .s 6, .s 7, .s 53, .h 2] [sI 0 .i64 (IntKind.i64.wrap ((IntKind.u64.wrap over_0).tmod (2 : Int))), sO 6 (.slc 2), sI 7 .i64 r3, sB 53 (decide ((↑(List.length a6) : Int) > (0 : Int))), hO 2 5 .u8 a2] [(kind_1 == (1 : Int)) = true, (!((r7 == (0 : Int)) == true)) = false, (r7 != (0 : Int)) = true, (r7 != (1 : Int)) = false] (by kernel_rfl) (hcons hb10 (hcons hb12 (hcons hb13 (hone hb15)))) ?_
          refine q_k ?_
          rcases ite_split h with ⟨hc16, h⟩ | ⟨hc16, h⟩
          · refine tr_cond_t (decide ((↑(List.length a6) : Int) > (0 : Int))) (by kernel_rfl) hc16 ?_
            refine tr_seq ?_
            refine tr_reg hT [] [.s 4] [sB 4 false] [] (by kernel_rfl) trivial ?_
            refine q_k ?_
            refine tr_ret ?_
            refine q_k_ret ?_
            have h := Option.some.inj h
            subst h
            exact q_ret0 hT (.v (.one (.bool false))) rfl (by kernel_rfl)
          · refine tr_cond_f (decide ((↑(List.length a6) : Int) > (0 : Int))) (by kernel_rfl) hc16 ?_
            refine tr_skip ?_
            refine q_k ?_
            refine tr_seq ?_
            refine tr_seq ?_
            refine tr_reg hT [] [.s 6, .s 7, .s 55, .h 2] [sO 6 (.slc 2), sI 7 .i64 r3, sB 55 (decide ((IntKind.i64.wrap ((IntKind.u64.wrap over_0).tmod (2 : Int))) > (0 : Int))), hO 2 5 .u8 a2] [] (by kernel_rfl) trivial ?_
            refine q_k ?_
            rcases ite_split h with ⟨hc17, h⟩ | ⟨hc17, h⟩
            · refine tr_cond_t (decide ((IntKind.i64.wrap ((IntKind.u64.wrap over_0).tmod (2 : Int))) > (0 : Int))) (by kernel_rfl) hc17 ?_
              refine tr_seq ?_
              rcases ite_split h with ⟨hb18, h⟩ | ⟨hb23, h⟩
              · rcases ite_split h with ⟨hb19, h⟩ | ⟨hb22, h⟩
                · obtain ⟨b20, e21, h⟩ := bind_some h
                  refine tr_reg hT [(2, .dec true), (7, .dec true), (8, .call [] (.v (.one (.bool b20))) [])] [.s 4] [sB 4 b20] [(r3 == (2 : Int)) = true, ((↑(List.length a2) : Int) == (0 : Int)) = true, CallOk P 41 [] [] (.v (.one (.bool b20))) []] (by kernel_rfl) (hcons hb18 (hcons hb19 (hone (law15_wakes_ok  b20 e21)))) ?_
                  refine q_k ?_
                  refine tr_ret ?_
                  refine q_k_ret ?_
                  have h := Option.some.inj h
                  subst h
                  exact q_ret0 hT (.v (.one (.bool b20))) rfl (by kernel_rfl)
                · refine tr_reg hT [(2, .dec true), (7, .dec false)] [.s 4] [sB 4 false] [(r3 == (2 : Int)) = true, ((↑(List.length a2) : Int) == (0 : Int)) = false] (by kernel_rfl) (hcons hb18 (hone hb22)) ?_
                  refine q_k ?_
                  refine tr_ret ?_
                  refine q_k_ret ?_
                  have h := Option.some.inj h
                  subst h
                  exact q_ret0 hT (.v (.one (.bool false))) rfl (by kernel_rfl)
              · refine tr_reg hT [(2, .dec false)] [.s 4] [sB 4 false] [(r3 == (2 : Int)) = false] (by kernel_rfl) (hone hb23) ?_
                refine q_k ?_
                refine tr_ret ?_
                refine q_k_ret ?_
                have h := Option.some.inj h
                subst h
                exact q_ret0 hT (.v (.one (.bool false))) rfl (by kernel_rfl)
            · refine tr_cond_f (decide ((IntKind.i64.wrap ((IntKind.u64.wrap over_0).tmod (2 : Int))) > (0 : Int))) (by kernel_rfl) hc17 ?_
              refine tr_skip ?_
              refine q_k ?_
              refine tr_seq ?_
              obtain ⟨⟨r24, a25, r26, r27⟩, e28, h⟩ := bind_some h
              refine tr_reg hT [(1, .call [2] (.tup [.agg [.int .i64 r24, .slc 4], .one (.int .i64 r26), .one (.int .i64 r27)]) [(4, .own 5 .u8 a25)]), (6, .key 5)] [.s 6, .s 7, .s 10, .s 11, .s 12, .h 2, .h 4, .h 5] [sO 6 (.slc 2), sI 7 .i64 r3, sO 10 (.ptr 5 0), sI 11 .i64 r26, sI 12 .i64 r27, hO 2 5 .u8 a2, hO 4 5 .u8 a25, hB 5 41 [.int .i64 r24, .slc 4]] [CallOk P 36 [.v (.one (.slc 2)), .v (.one (.int .i64 (0 : Int)))] [(2, .own 5 .u8 a2)] (.tup [.agg [.int .i64 r24, .slc 4], .one (.int .i64 r26), .one (.int .i64 r27)]) [(4, .own 5 .u8 a25)]] (by kernel_rfl) (hone ((frame_Get_ok a2 (0 : Int) (r24, a25, r26, r27) e28).tr [(9000, .slc 2), (8900, .slc 4)] rfl (by kernel_rfl) ⟨.ownrd (e := 5) (by kernel_rfl), trivial⟩ (by kernel_rfl) (by kernel_rfl) rfl rfl)) ?_
              refine q_k ?_
              refine tr_seq ?_
              rcases ite_split h with ⟨hb30, h⟩ | ⟨hb39, h⟩
              · rcases ite_split h with ⟨hb31, h⟩ | ⟨hb38, h⟩
                · rcases ite_split h with ⟨hb32, h⟩ | ⟨hb37, h⟩
                  · rcases ite_split h with ⟨hb33, h⟩ | ⟨hb36, h⟩
                    · obtain ⟨b34, e35, h⟩ := bind_some h
                      refine tr_reg hT [(2, .dec true), (6, .dec true), (12, .dec true), (18, .dec true), (19, .call [] (.v (.one (.bool b34))) [])] [.s 4] [sB 4 b34] [(r3 == (0 : Int)) = true, (r27 == (0 : Int)) = true, (r26 == (↑(List.length a2) : Int)) = true, ((↑(List.length a25) : Int) == (2000 : Int)) = true, CallOk P 41 [] [] (.v (.one (.bool b34))) []] (by kernel_rfl) (hcons hb30 (hcons hb31 (hcons hb32 (hcons hb33 (hone (law15_wakes_ok  b34 e35)))))) ?_
                      refine q_k ?_
                      refine tr_ret ?_
                      have h := Option.some.inj h
                      subst h
                      exact q_ret0 hT (.v (.one (.bool b34))) rfl (by kernel_rfl)
                    · refine tr_reg hT [(2, .dec true), (6, .dec true), (12, .dec true), (18, .dec false)] [.s 4] [sB 4 false] [(r3 == (0 : Int)) = true, (r27 == (0 : Int)) = true, (r26 == (↑(List.length a2) : Int)) = true, ((↑(List.length a25) : Int) == (2000 : Int)) = false] (by kernel_rfl) (hcons hb30 (hcons hb31 (hcons hb32 (hone hb36)))) ?_
                      refine q_k ?_
                      refine tr_ret ?_
                      have h := Option.some.inj h
                      subst h
                      exact q_ret0 hT (.v (.one (.bool false))) rfl (by kernel_rfl)
                  · refine tr_reg hT [(2, .dec true), (6, .dec true), (12, .dec false)] [.s 4] [sB 4 false] [(r3 == (0 : Int)) = true, (r27 == (0 : Int)) = true, (r26 == (↑(List.length a2) : Int)) = false] (by kernel_rfl) (hcons hb30 (hcons hb31 (hone hb37))) ?_
                    refine q_k ?_
                    refine tr_ret ?_
                    have h := Option.some.inj h
                    subst h
                    exact q_ret0 hT (.v (.one (.bool false))) rfl (by kernel_rfl)
                · refine tr_reg hT [(2, .dec true), (6, .dec false)] [.s 4] [sB 4 false] [(r3 == (0 : Int)) = true, (r27 == (0 : Int)) = false] (by kernel_rfl) (hcons hb30 (hone hb38)) ?_
                  refine q_k ?_
                  refine tr_ret ?_
                  have h := Option.some.inj h
                  subst h
                  exact q_ret0 hT (.v (.one (.bool false))) rfl (by kernel_rfl)
              · refine tr_reg hT [(2, .dec false)] [.s 4] [sB 4 false] [(r3 == (0 : Int)) = false] (by kernel_rfl) (hone hb39) ?_
                refine q_k ?_
                refine tr_ret ?_
                have h := Option.some.inj h
                subst h
                exact q_ret0 hT (.v (.one (.bool false))) rfl (by kernel_rfl)
      · refine tr_reg hT [(4, .dec true), (9, .dec false), (12, .dec false)] [.s 0, .s 6, .s 7, .s 53, .h 2] [sI 0 .i64 (IntKind.i64.wrap ((IntKind.u64.wrap over_0).tmod (2 : Int))), sO 6 (.slc 2), sI 7 .i64 r3, sB 53 false, hO 2 5 .u8 a2] [(kind_1 == (1 : Int)) = true, (!((r7 == (0 : Int)) == true)) = false, (r7 != (0 : Int)) = false] (by kernel_rfl) (hcons hb10 (hcons hb12 (hone hb40))) ?_
        refine q_k ?_
        refine tr_cond_f false (by kernel_rfl) rfl ?_
        refine tr_skip ?_
        refine q_k ?_
        refine tr_seq ?_
        refine tr_seq ?_
        refine tr_reg hT [] [.s 6, .s 7, .s 55, .h 2] [sO 6 (.slc 2), sI 7 .i64 r3, sB 55 (decide ((IntKind.i64.wrap ((IntKind.u64.wrap over_0).tmod (2 : Int))) > (0 : Int))), hO 2 5 .u8 a2] [] (by kernel_rfl) trivial ?_
        refine q_k ?_
        rcases ite_split h with ⟨hc41, h⟩ | ⟨hc41, h⟩
        · refine tr_cond_t (decide ((IntKind.i64.wrap ((IntKind.u64.wrap over_0).tmod (2 : Int))) > (0 : Int))) (by kernel_rfl) hc41 ?_
          refine tr_seq ?_
          rcases ite_split h with ⟨hb42, h⟩ | ⟨hb47, h⟩
          · rcases ite_split h with ⟨hb43, h⟩ | ⟨hb46, h⟩
            · obtain ⟨b44, e45, h⟩ := bind_some h
              refine tr_reg hT [(2, .dec true), (7, .dec true), (8, .call [] (.v (.one (.bool b44))) [])] [.s 4] [sB 4 b44] [(r3 == (2 : Int)) = true, ((↑(List.length a2) : Int) == (0 : Int)) = true, CallOk P 41 [] [] (.v (.one (.bool b44))) []] (by kernel_rfl) (hcons hb42 (hcons hb43 (hone (law15_wakes_ok  b44 e45)))) ?_
              refine q_k ?_
              refine tr_ret ?_
              refine q_k_ret ?_
              have h := Option.some.inj h
              subst h
              exact q_ret0 hT (.v (.one (.bool b44))) rfl (by kernel_rfl)
            · refine tr_reg hT [(2, .dec true), (7, .dec false)] [.s 4] [sB 4 false] [(r3 == (2 : Int)) = true, ((↑(List.length a2) : Int) == (0 : Int)) = false] (by kernel_rfl) (hcons hb42 (hone hb46)) ?_
              refine q_k ?_
              refine tr_ret ?_
              refine q_k_ret ?_
              have h := Option.some.inj h
              subst h
              exact q_ret0 hT (.v (.one (.bool false))) rfl (by kernel_rfl)
          · refine tr_reg hT [(2, .dec false)] [.s 4] [sB 4 false] [(r3 == (2 : Int)) = false] (by kernel_rfl) (hone hb47) ?_
            refine q_k ?_
            refine tr_ret ?_
            refine q_k_ret ?_
            have h := Option.some.inj h
            subst h
            exact q_ret0 hT (.v (.one (.bool false))) rfl (by kernel_rfl)
        · refine tr_cond_f (decide ((IntKind.i64.wrap ((IntKind.u64.wrap over_0).tmod (2 : Int))) > (0 : Int))) (by kernel_rfl) hc41 ?_
          refine tr_skip ?_
          refine q_k ?_
          refine tr_seq ?_
          obtain ⟨⟨r48, a49, r50, r51⟩, e52, h⟩ := bind_some h
          refine tr_reg hT [(1, .call [2] (.tup [.agg [.int .i64 r48, .slc 6], .one (.int .i64 r50), .one (.int .i64 r51)]) [(6, .own 5 .u8 a49)]), (6, .key 7)] [.s 6, .s 7, .s 10, .s 11, .s 12, .h 2, .h 6, .h 7] [sO 6 (.slc 2), sI 7 .i64 r3, sO 10 (.ptr 7 0), sI 11 .i64 r50, sI 12 .i64 r51, hO 2 5 .u8 a2, hO 6 5 .u8 a49, hB 7 41 [.int .i64 r48, .slc 6]] [CallOk P 36 [.v (.one (.slc 2)), .v (.one (.int .i64 (0 : Int)))] [(2, .own 5 .u8 a2)] (.tup [.agg [.int .i64 r48, .slc 6], .one (.int .i64 r50), .one (.int .i64 r51)]) [(6, .own 5 .u8 a49)]] (by kernel_rfl) (hone ((frame_Get_ok a2 (0 : Int) (r48, a49, r50, r51) e52).tr [(9000, .slc 2), (8900, .slc 6)] rfl (by kernel_rfl) ⟨.ownrd (e := 5) (by kernel_rfl), trivial⟩ (by kernel_rfl) (by kernel_rfl) rfl rfl)) ?_
          refine q_k ?_
          refine tr_seq ?_
          rcases ite_split h with ⟨hb54, h⟩ | ⟨hb63, h⟩
          · rcases ite_split h with ⟨hb55, h⟩ | ⟨hb62, h⟩
            · rcases ite_split h with ⟨hb56, h⟩ | ⟨hb61, h⟩
              · rcases ite_split h with ⟨hb57, h⟩ | ⟨hb60, h⟩
                · obtain ⟨b58, e59, h⟩ := bind_some h
                  refine tr_reg hT [(2, .dec true), (6, .dec true), (12, .dec true), (18, .dec true), (19, .call [] (.v (.one (.bool b58))) [])] [.s 4] [sB 4 b58] [(r3 == (0 : Int)) = true, (r51 == (0 : Int)) = true, (r50 == (↑(List.length a2) : Int)) = true, ((↑(List.length a49) : Int) == (2000 : Int)) = true, CallOk P 41 [] [] (.v (.one (.bool b58))) []] (by kernel_rfl) (hcons hb54 (hcons hb55 (hcons hb56 (hcons hb57 (hone (law15_wakes_ok  b58 e59)))))) ?_
                  refine q_k ?_
                  refine tr_ret ?_
                  have h := Option.some.inj h
                  subst h
                  exact q_ret0 hT (.v (.one (.bool b58))) rfl (by kernel_rfl)
                · refine tr_reg hT [(2, .dec true), (6, .dec true), (12, .dec true), (18, .dec false)] [.s 4] [sB 4 false] [(r3 == (0 : Int)) = true, (r51 == (0 : Int)) = true, (r50 == (↑(List.length a2) : Int)) = true, ((↑(List.length a49) : Int) == (2000 : Int)) = false] (by kernel_rfl) (hcons hb54 (hcons hb55 (hcons hb56 (hone hb60)))) ?_
                  refine q_k ?_
                  refine tr_ret ?_
                  have h := Option.some.inj h
                  subst h
                  exact q_ret0 hT (.v (.one (.bool false))) rfl (by kernel_rfl)
              · refine tr_reg hT [(2, .dec true), (6, .dec true), (12, .dec false)] [.s 4] [sB 4 false] [(r3 == (0 : Int)) = true, (r51 == (0 : Int)) = true, (r50 == (↑(List.length a2) : Int)) = false] (by kernel_rfl) (hcons hb54 (hcons hb55 (hone hb61))) ?_
                refine q_k ?_
                refine tr_ret ?_
                have h := Option.some.inj h
                subst h
                exact q_ret0 hT (.v (.one (.bool false))) rfl (by kernel_rfl)
            · refine tr_reg hT [(2, .dec true), (6, .dec false)] [.s 4] [sB 4 false] [(r3 == (0 : Int)) = true, (r51 == (0 : Int)) = false] (by kernel_rfl) (hcons hb54 (hone hb62)) ?_
              refine q_k ?_
              refine tr_ret ?_
              have h := Option.some.inj h
              subst h
              exact q_ret0 hT (.v (.one (.bool false))) rfl (by kernel_rfl)
          · refine tr_reg hT [(2, .dec false)] [.s 4] [sB 4 false] [(r3 == (0 : Int)) = false] (by kernel_rfl) (hone hb63) ?_
            refine q_k ?_
            refine tr_ret ?_
            have h := Option.some.inj h
            subst h
            exact q_ret0 hT (.v (.one (.bool false))) rfl (by kernel_rfl)
  · rcases ite_split h with ⟨hb65, h⟩ | ⟨hb66, h⟩
    · refine tr_reg hT [(4, .dec false), (9, .dec true)] [.s 0, .s 6, .s 7, .s 53, .h 2] [sI 0 .i64 (IntKind.i64.wrap ((IntKind.u64.wrap over_0).tmod (2 : Int))), sO 6 (.slc 2), sI 7 .i64 r3, sB 53 true, hO 2 5 .u8 a2] [(kind_1 == (1 : Int)) = false, (!((r7 == (0 : Int)) == (kind_1 == (2 : Int)))) = true] (by kernel_rfl) (hcons hb64 (hone hb65)) ?_
      refine q_k ?_
      refine tr_cond_t true (by kernel_rfl) rfl ?_
      refine tr_seq ?_
      refine tr_reg hT [] [.s 4] [sB 4 false] [] (by kernel_rfl) trivial ?_
      refine q_k ?_
      refine tr_ret ?_
      refine q_k_ret ?_
      have h := Option.some.inj h
      subst h
      exact q_ret0 hT (.v (.one (.bool false))) rfl (by kernel_rfl)
    · rcases ite_split h with ⟨hb67, h⟩ | ⟨hb94, h⟩
      · rcases ite_split h with ⟨hb68, h⟩ | ⟨hb69, h⟩
        · refine tr_reg hT [(4, .dec false), (9, .dec false), (12, .dec true), (15, .dec true)] [.s 0, .s 6, .s 7, .s 53, .h 2] [sI 0 .i64 (IntKind.i64.wrap ((IntKind.u64.wrap over_0).tmod (2 : Int))), sO 6 (.slc 2), sI 7 .i64 r3, sB 53 true, hO 2 5 .u8 a2] [(kind_1 == (1 : Int)) = false, (!((r7 == (0 : Int)) == (kind_1 == (2 : Int)))) = false, (r7 != (0 : Int)) = true, (r7 != (1 : Int)) = true] (by kernel_rfl) (hcons hb64 (hcons hb66 (hcons hb67 (hone hb68)))) ?_
          refine q_k ?_
          refine tr_cond_t true (by kernel_rfl) rfl ?_
          refine tr_seq ?_
          refine tr_reg hT [] [.s 4] [sB 4 false] [] (by kernel_rfl) trivial ?_
          refine q_k ?_
          refine tr_ret ?_
          refine q_k_ret ?_
          have h := Option.some.inj h
          subst h
          exact q_ret0 hT (.v (.one (.bool false))) rfl (by kernel_rfl)
        · refine tr_reg hT [(4, .dec false), (9, .dec false), (12, .dec true), (15, .dec false)] [.s 0, .s 6, .s 7, .s 53, .h 2] [sI 0 .i64 (IntKind.i64.wrap ((IntKind.u64.wrap over_0).tmod (2 : Int))), sO 6 (.slc 2), sI 7 .i64 r3, sB 53 (decide ((↑(List.length a6) : Int) > (0 : Int))), hO 2 5 .u8 a2] [(kind_1 == (1 : Int)) = false, (!((r7 == (0 : Int)) == (kind_1 == (2 : Int)))) = false, (r7 != (0 : Int)) = true, (r7 != (1 : Int)) = false] (by kernel_rfl) (hcons hb64 (hcons hb66 (hcons hb67 (hone hb69)))) ?_
          refine q_k ?_
          rcases ite_split h with ⟨hc70, h⟩ | ⟨hc70, h⟩
          · refine tr_cond_t (decide ((↑(List.length a6) : Int) > (0 : Int))) (by kernel_rfl) hc70 ?_
            refine tr_seq ?_
            refine tr_reg hT [] [.s 4] [sB 4 false] [] (by kernel_rfl) trivial ?_
            refine q_k ?_
            refine tr_ret ?_
            refine q_k_ret ?_
            have h := Option.some.inj h
            subst h
            exact q_ret0 hT (.v (.one (.bool false))) rfl (by kernel_rfl)
          · refine tr_cond_f (decide ((↑(List.length a6) : Int) > (0 : Int))) (by kernel_rfl) hc70 ?_
            refine tr_skip ?_
            refine q_k ?_
            refine tr_seq ?_
            refine tr_seq ?_
            refine tr_reg hT [] [.s 6, .s 7, .s 55, .h 2] [sO 6 (.slc 2), sI 7 .i64 r3, sB 55 (decide ((IntKind.i64.wrap ((IntKind.u64.wrap over_0).tmod (2 : Int))) > (0 : Int))), hO 2 5 .u8 a2] [] (by kernel_rfl) trivial ?_
            refine q_k ?_
            rcases ite_split h with ⟨hc71, h⟩ | ⟨hc71, h⟩
            · refine tr_cond_t (decide ((IntKind.i64.wrap ((IntKind.u64.wrap over_0).tmod (2 : Int))) > (0 : Int))) (by kernel_rfl) hc71 ?_
              refine tr_seq ?_
              rcases ite_split h with ⟨hb72, h⟩ | ⟨hb77, h⟩
              · rcases ite_split h with ⟨hb73, h⟩ | ⟨hb76, h⟩
                · obtain ⟨b74, e75, h⟩ := bind_some h
                  refine tr_reg hT [(2, .dec true), (7, .dec true), (8, .call [] (.v (.one (.bool b74))) [])] [.s 4] [sB 4 b74] [(r3 == (2 : Int)) = true, ((↑(List.length a2) : Int) == (0 : Int)) = true, CallOk P 41 [] [] (.v (.one (.bool b74))) []] (by kernel_rfl) (hcons hb72 (hcons hb73 (hone (law15_wakes_ok  b74 e75)))) ?_
                  refine q_k ?_
                  refine tr_ret ?_
                  refine q_k_ret ?_
                  have h := Option.some.inj h
                  subst h
                  exact q_ret0 hT (.v (.one (.bool b74))) rfl (by kernel_rfl)
                · refine tr_reg hT [(2, .dec true), (7, .dec false)] [.s 4] [sB 4 false] [(r3 == (2 : Int)) = true, ((↑(List.length a2) : Int) == (0 : Int)) = false] (by kernel_rfl) (hcons hb72 (hone hb76)) ?_
                  refine q_k ?_
                  refine tr_ret ?_
                  refine q_k_ret ?_
                  have h := Option.some.inj h
                  subst h
                  exact q_ret0 hT (.v (.one (.bool false))) rfl (by kernel_rfl)
              · refine tr_reg hT [(2, .dec false)] [.s 4] [sB 4 false] [(r3 == (2 : Int)) = false] (by kernel_rfl) (hone hb77) ?_
                refine q_k ?_
                refine tr_ret ?_
                refine q_k_ret ?_
                have h := Option.some.inj h
                subst h
                exact q_ret0 hT (.v (.one (.bool false))) rfl (by kernel_rfl)
            · refine tr_cond_f (decide ((IntKind.i64.wrap ((IntKind.u64.wrap over_0).tmod (2 : Int))) > (0 : Int))) (by kernel_rfl) hc71 ?_
              refine tr_skip ?_
              refine q_k ?_
              refine tr_seq ?_
              obtain ⟨⟨r78, a79, r80, r81⟩, e82, h⟩ := bind_some h
              refine tr_reg hT [(1, .call [2] (.tup [.agg [.int .i64 r78, .slc 8], .one (.int .i64 r80), .one (.int .i64 r81)]) [(8, .own 5 .u8 a79)]), (6, .key 9)] [.s 6, .s 7, .s 10, .s 11, .s 12, .h 2, .h 8, .h 9] [sO 6 (.slc 2), sI 7 .i64 r3, sO 10 (.ptr 9 0), sI 11 .i64 r80, sI 12 .i64 r81, hO 2 5 .u8 a2, hO 8 5 .u8 a79, hB 9 41 [.int .i64 r78, .slc 8]] [CallOk P 36 [.v (.one (.slc 2)), .v (.one (.int .i64 (0 : Int)))] [(2, .own 5 .u8 a2)] (.tup [.agg [.int .i64 r78, .slc 8], .one (.int .i64 r80), .one (.int .i64 r81)]) [(8, .own 5 .u8 a79)]] (by kernel_rfl) (hone ((frame_Get_ok a2 (0 : Int) (r78, a79, r80, r81) e82).tr [(9000, .slc 2), (8900, .slc 8)] rfl (by kernel_rfl) ⟨.ownrd (e := 5) (by kernel_rfl), trivial⟩ (by kernel_rfl) (by kernel_rfl) rfl rfl)) ?_
              refine q_k ?_
              refine tr_seq ?_
              rcases ite_split h with ⟨hb84, h⟩ | ⟨hb93, h⟩
              · rcases ite_split h with ⟨hb85, h⟩ | ⟨hb92, h⟩
                · rcases ite_split h with ⟨hb86, h⟩ | ⟨hb91, h⟩
                  · rcases ite_split h with ⟨hb87, h⟩ | ⟨hb90, h⟩
                    · obtain ⟨b88, e89, h⟩ := bind_some h
                      refine tr_reg hT [(2, .dec true), (6, .dec true), (12, .dec true), (18, .dec true), (19, .call [] (.v (.one (.bool b88))) [])] [.s 4] [sB 4 b88] [(r3 == (0 : Int)) = true, (r81 == (0 : Int)) = true, (r80 == (↑(List.length a2) : Int)) = true, ((↑(List.length a79) : Int) == (2000 : Int)) = true, CallOk P 41 [] [] (.v (.one (.bool b88))) []] (by kernel_rfl) (hcons hb84 (hcons hb85 (hcons hb86 (hcons hb87 (hone (law15_wakes_ok  b88 e89)))))) ?_
                      refine q_k ?_
                      refine tr_ret ?_
                      have h := Option.some.inj h
                      subst h
                      exact q_ret0 hT (.v (.one (.bool b88))) rfl (by kernel_rfl)
                    · refine tr_reg hT [(2, .dec true), (6, .dec true), (12, .dec true), (18, .dec false)] [.s 4] [sB 4 false] [(r3 == (0 : Int)) = true, (r81 == (0 : Int)) = true, (r80 == (↑(List.length a2) : Int)) = true, ((↑(List.length a79) : Int) == (2000 : Int)) = false] (by kernel_rfl) (hcons hb84 (hcons hb85 (hcons hb86 (hone hb90)))) ?_
                      refine q_k ?_
                      refine tr_ret ?_
                      have h := Option.some.inj h
                      subst h
                      exact q_ret0 hT (.v (.one (.bool false))) rfl (by kernel_rfl)
                  · refine tr_reg hT [(2, .dec true), (6, .dec true), (12, .dec false)] [.s 4] [sB 4 false] [(r3 == (0 : Int)) = true, (r81 == (0 : Int)) = true, (r80 == (↑(List.length a2) : Int)) = false] (by kernel_rfl) (hcons hb84 (hcons hb85 (hone hb91))) ?_
                    refine q_k ?_
                    refine tr_ret ?_
                    have h := Option.some.inj h
                    subst h
                    exact q_ret0 hT (.v (.one (.bool false))) rfl (by kernel_rfl)
                · refine tr_reg hT [(2, .dec true), (6, .dec false)] [.s 4] [sB 4 false] [(r3 == (0 : Int)) = true, (r81 == (0 : Int)) = false] (by kernel_rfl) (hcons hb84 (hone hb92)) ?_
                  refine q_k ?_
                  refine tr_ret ?_
                  have h := Option.some.inj h
                  subst h
                  exact q_ret0 hT (.v (.one (.bool false))) rfl (by kernel_rfl)
              · refine tr_reg hT [(2, .dec false)] [.s 4] [sB 4 false] [(r3 == (0 : Int)) = false] (by kernel_rfl) (hone hb93) ?_
                refine q_k ?_
                refine tr_ret ?_
                have h := Option.some.inj h
                subst h
                exact q_ret0 hT (.v (.one (.bool false))) rfl (by kernel_rfl)
      · refine tr_reg hT [(4, .dec false), (9, .dec false), (12, .dec false)] [.s 0, .s 6, .s 7, .s 53, .h 2] [sI 0 .i64 (IntKind.i64.wrap ((IntKind.u64.wrap over_0).tmod (2 : Int))), sO 6 (.slc 2), sI 7 .i64 r3, sB 53 false, hO 2 5 .u8 a2] [(kind_1 == (1 : Int)) = false, (!((r7 == (0 : Int)) == (kind_1 == (2 : Int)))) = false, (r7 != (0 : Int)) = false] (by kernel_rfl) (hcons hb64 (hcons hb66 (hone hb94))) ?_
        refine q_k ?_
        refine tr_cond_f false (by kernel_rfl) rfl ?_
        refine tr_skip ?_
        refine q_k ?_
        refine tr_seq ?_
        refine tr_seq ?_
        refine tr_reg hT [] [.s 6, .s 7, .s 55, .h 2] [sO 6 (.slc 2), sI 7 .i64 r3, sB 55 (decide ((IntKind.i64.wrap ((IntKind.u64.wrap over_0).tmod (2 : Int))) > (0 : Int))), hO 2 5 .u8 a2] [] (by kernel_rfl) trivial ?_
        refine q_k ?_
        rcases ite_split h with ⟨hc95, h⟩ | ⟨hc95, h⟩
        · refine tr_cond_t (decide ((IntKind.i64.wrap ((IntKind.u64.wrap over_0).tmod (2 : Int))) > (0 : Int))) (by kernel_rfl) hc95 ?_
          refine tr_seq ?_
          rcases ite_split h with ⟨hb96, h⟩ | ⟨hb101, h⟩
          · rcases ite_split h with ⟨hb97, h⟩ | ⟨hb100, h⟩
            · obtain ⟨b98, e99, h⟩ := bind_some h
              refine tr_reg hT [(2, .dec true), (7, .dec true), (8, .call [] (.v (.one (.bool b98))) [])] [.s 4] [sB 4 b98] [(r3 == (2 : Int)) = true, ((↑(List.length a2) : Int) == (0 : Int)) = true, CallOk P 41 [] [] (.v (.one (.bool b98))) []] (by kernel_rfl) (hcons hb96 (hcons hb97 (hone (law15_wakes_ok  b98 e99)))) ?_
              refine q_k ?_
              refine tr_ret ?_
              refine q_k_ret ?_
              have h := Option.some.inj h
              subst h
              exact q_ret0 hT (.v (.one (.bool b98))) rfl (by kernel_rfl)
            · refine tr_reg hT [(2, .dec true), (7, .dec false)] [.s 4] [sB 4 false] [(r3 == (2 : Int)) = true, ((↑(List.length a2) : Int) == (0 : Int)) = false] (by kernel_rfl) (hcons hb96 (hone hb100)) ?_
              refine q_k ?_
              refine tr_ret ?_
              refine q_k_ret ?_
              have h := Option.some.inj h
              subst h
              exact q_ret0 hT (.v (.one (.bool false))) rfl (by kernel_rfl)
          · refine tr_reg hT [(2, .dec false)] [.s 4] [sB 4 false] [(r3 == (2 : Int)) = false] (by kernel_rfl) (hone hb101) ?_
            refine q_k ?_
            refine tr_ret ?_
            refine q_k_ret ?_
            have h := Option.some.inj h
            subst h
            exact q_ret0 hT (.v (.one (.bool false))) rfl (by kernel_rfl)
        · refine tr_cond_f (decide ((IntKind.i64.wrap ((IntKind.u64.wrap over_0).tmod (2 : Int))) > (0 : Int))) (by kernel_rfl) hc95 ?_
          refine tr_skip ?_
          refine q_k ?_
          refine tr_seq ?_
          obtain ⟨⟨r102, a103, r104, r105⟩, e106, h⟩ := bind_some h
          refine tr_reg hT [(1, .call [2] (.tup [.agg [.int .i64 r102, .slc 10], .one (.int .i64 r104), .one (.int .i64 r105)]) [(10, .own 5 .u8 a103)]), (6, .key 11)] [.s 6, .s 7, .s 10, .s 11, .s 12, .h 2, .h 10, .h 11] [sO 6 (.slc 2), sI 7 .i64 r3, sO 10 (.ptr 11 0), sI 11 .i64 r104, sI 12 .i64 r105, hO 2 5 .u8 a2, hO 10 5 .u8 a103, hB 11 41 [.int .i64 r102, .slc 10]] [CallOk P 36 [.v (.one (.slc 2)), .v (.one (.int .i64 (0 : Int)))] [(2, .own 5 .u8 a2)] (.tup [.agg [.int .i64 r102, .slc 10], .one (.int .i64 r104), .one (.int .i64 r105)]) [(10, .own 5 .u8 a103)]] (by kernel_rfl) (hone ((frame_Get_ok a2 (0 : Int) (r102, a103, r104, r105) e106).tr [(9000, .slc 2), (8900, .slc 10)] rfl (by kernel_rfl) ⟨.ownrd (e := 5) (by kernel_rfl), trivial⟩ (by kernel_rfl) (by kernel_rfl) rfl rfl)) ?_
          refine q_k ?_
          refine tr_seq ?_
          rcases ite_split h with ⟨hb108, h⟩ | ⟨hb117, h⟩
          · rcases ite_split h with ⟨hb109, h⟩ | ⟨hb116, h⟩
            · rcases ite_split h with ⟨hb110, h⟩ | ⟨hb115, h⟩
              · rcases ite_split h with ⟨hb111, h⟩ | ⟨hb114, h⟩
                · obtain ⟨b112, e113, h⟩ := bind_some h
                  refine tr_reg hT [(2, .dec true), (6, .dec true), (12, .dec true), (18, .dec true), (19, .call [] (.v (.one (.bool b112))) [])] [.s 4] [sB 4 b112] [(r3 == (0 : Int)) = true, (r105 == (0 : Int)) = true, (r104 == (↑(List.length a2) : Int)) = true, ((↑(List.length a103) : Int) == (2000 : Int)) = true, CallOk P 41 [] [] (.v (.one (.bool b112))) []] (by kernel_rfl) (hcons hb108 (hcons hb109 (hcons hb110 (hcons hb111 (hone (law15_wakes_ok  b112 e113)))))) ?_
                  refine q_k ?_
                  refine tr_ret ?_
                  have h := Option.some.inj h
                  subst h
                  exact q_ret0 hT (.v (.one (.bool b112))) rfl (by kernel_rfl)
                · refine tr_reg hT [(2, .dec true), (6, .dec true), (12, .dec true), (18, .dec false)] [.s 4] [sB 4 false] [(r3 == (0 : Int)) = true, (r105 == (0 : Int)) = true, (r104 == (↑(List.length a2) : Int)) = true, ((↑(List.length a103) : Int) == (2000 : Int)) = false] (by kernel_rfl) (hcons hb108 (hcons hb109 (hcons hb110 (hone hb114)))) ?_
                  refine q_k ?_
                  refine tr_ret ?_
                  have h := Option.some.inj h
                  subst h
                  exact q_ret0 hT (.v (.one (.bool false))) rfl (by kernel_rfl)
              · refine tr_reg hT [(2, .dec true), (6, .dec true), (12, .dec false)] [.s 4] [sB 4 false] [(r3 == (0 : Int)) = true, (r105 == (0 : Int)) = true, (r104 == (↑(List.length a2) : Int)) = false] (by kernel_rfl) (hcons hb108 (hcons hb109 (hone hb115))) ?_
                refine q_k ?_
                refine tr_ret ?_
                have h := Option.some.inj h
                subst h
                exact q_ret0 hT (.v (.one (.bool false))) rfl (by kernel_rfl)
            · refine tr_reg hT [(2, .dec true), (6, .dec false)] [.s 4] [sB 4 false] [(r3 == (0 : Int)) = true, (r105 == (0 : Int)) = false] (by kernel_rfl) (hcons hb108 (hone hb116)) ?_
              refine q_k ?_
              refine tr_ret ?_
              have h := Option.some.inj h
              subst h
              exact q_ret0 hT (.v (.one (.bool false))) rfl (by kernel_rfl)
          · refine tr_reg hT [(2, .dec false)] [.s 4] [sB 4 false] [(r3 == (0 : Int)) = false] (by kernel_rfl) (hone hb117) ?_
            refine q_k ?_
            refine tr_ret ?_
            have h := Option.some.inj h
            subst h
            exact q_ret0 hT (.v (.one (.bool false))) rfl (by kernel_rfl)

theorem law15_FrameSum_ok (r_0 : Int) (r_1 : List Int) (r : Bool) (h : law15_FrameSum r_0 r_1 = some r) : CallOk P 15 [.v (.agg [.int .i64 r_0, .slc 9000])] [(9000, .rd .u8 r_1)] (.v (.one (.bool r))) [] := by
  refine call1 (N := 106) Try.func15 (by kernel_rfl) rfl rfl rfl [(9000, .rd .u8 r_1)] (by kernel_rfl) ?_
  intro _ B w0
  show Tr P B 106 w0 _ _ (RetQ P Try.f15 (R1 _ _ B w0))
  unfold law15_FrameSum at h
  refine tr_seq ?_
  refine tr_reg hT [(0, .key 0)] [.s 1, .h 0, .h 9000] [sO 1 (.ptr 0 0), hB 0 41 [.int .i64 r_0, .slc 9000], hR 9000 .u8 r_1] [] (by kernel_rfl) trivial ?_
  refine q_k ?_
  refine tr_seq ?_
  refine tr_seq ?_
  obtain ⟨r1, e2, h⟩ := bind_some h
  rcases ite_split h with ⟨hb3, h⟩ | ⟨hb4, h⟩
  · refine tr_reg hT [(1, .call [9000] (.v (.one (.int .i64 r1))) []), (3, .dec true)] [.s 1, .s 14, .h 0, .h 9000] [sO 1 (.ptr 0 0), sB 14 true, hB 0 41 [.int .i64 r_0, .slc 9000], hR 9000 .u8 r_1] [CallOk P 33 [.v (.agg [.int .i64 r_0, .slc 9000])] [(9000, .rd .u8 r_1)] (.v (.one (.int .i64 r1))) [], (r1 != (0 : Int)) = true] (by kernel_rfl) (hcons ((ref14_Rec_ok r_0 r_1 r1 e2).tr [(9000, .slc 9000)] rfl (by kernel_rfl) ⟨.rd (by kernel_rfl), trivial⟩ (by kernel_rfl) (by kernel_rfl) rfl rfl) (hone hb3)) ?_
    refine q_k ?_
    refine tr_cond_t true (by kernel_rfl) rfl ?_
    refine tr_seq ?_
    refine tr_reg hT [] [.s 2] [sB 2 true] [] (by kernel_rfl) trivial ?_
    refine q_k ?_
    refine tr_ret ?_
    refine q_k_ret ?_
    have h := Option.some.inj h
    subst h
    refine q_less [.s 2] [sB 2 true] (by kernel_rfl) ?_
    exact q_ret1 hT (.v (.one (.bool true))) [] (by kernel_rfl) (by kernel_rfl) (by kernel_rfl)
  · refine tr_reg hT [(1, .call [9000] (.v (.one (.int .i64 r1))) []), (3, .dec false)] [.s 1, .s 14, .h 0, .h 9000] [sO 1 (.ptr 0 0), sB 14 (decide ((↑(List.length r_1) : Int) > (300 : Int))), hB 0 41 [.int .i64 r_0, .slc 9000], hR 9000 .u8 r_1] [CallOk P 33 [.v (.agg [.int .i64 r_0, .slc 9000])] [(9000, .rd .u8 r_1)] (.v (.one (.int .i64 r1))) [], (r1 != (0 : Int)) = false] (by kernel_rfl) (hcons ((ref14_Rec_ok r_0 r_1 r1 e2).tr [(9000, .slc 9000)] rfl (by kernel_rfl) ⟨.rd (by kernel_rfl), trivial⟩ (by kernel_rfl) (by kernel_rfl) rfl rfl) (hone hb4)) ?_
    refine q_k ?_
    rcases ite_split h with ⟨hc5, h⟩ | ⟨hc5, h⟩
    · refine tr_cond_t (decide ((↑(List.length r_1) : Int) > (300 : Int))) (by kernel_rfl) hc5 ?_
      refine tr_seq ?_
      refine tr_reg hT [] [.s 2] [sB 2 true] [] (by kernel_rfl) trivial ?_
      refine q_k ?_
      refine tr_ret ?_
      refine q_k_ret ?_
      have h := Option.some.inj h
      subst h
      refine q_less [.s 2] [sB 2 true] (by kernel_rfl) ?_
      exact q_ret1 hT (.v (.one (.bool true))) [] (by kernel_rfl) (by kernel_rfl) (by kernel_rfl)
    · refine tr_cond_f (decide ((↑(List.length r_1) : Int) > (300 : Int))) (by kernel_rfl) hc5 ?_
      refine tr_skip ?_
      refine q_k ?_
      refine tr_seq ?_
      obtain ⟨⟨a6, r7⟩, e8, h⟩ := bind_some h
      refine tr_reg hT [(1, .call [9000] (.tup [.one (.slc 1), .one (.int .i64 r7)]) [(1, .own 5 .u8 a6)])] [.s 1, .s 3, .s 4, .h 0, .h 1, .h 9000] [sO 1 (.ptr 0 0), sO 3 (.slc 1), sI 4 .i64 r7, hB 0 41 [.int .i64 r_0, .slc 9000], hO 1 5 .u8 a6, hR 9000 .u8 r_1] [CallOk P 32 [.v (.one (.nils)), .v (.agg [.int .i64 r_0, .slc 9000])] [(9000, .rd .u8 r_1)] (.tup [.one (.slc 1), .one (.int .i64 r7)]) [(1, .own 5 .u8 a6)]] (by kernel_rfl) (hone ((frame_Put_ok [] r_0 r_1 (a6, r7) e8).tr [(9000, .nils), (9001, .slc 9000), (8900, .slc 1)] rfl (by kernel_rfl) ⟨.nilrd, .rd (by kernel_rfl), trivial⟩ (by kernel_rfl) (by kernel_rfl) rfl rfl)) ?_
      refine q_k ?_
      refine tr_seq ?_
      refine tr_seq ?_
      rcases ite_split h with ⟨hb10, h⟩ | ⟨hb11, h⟩
      · refine tr_reg hT [(2, .dec true)] [.s 1, .s 3, .s 30, .h 0, .h 1, .h 9000] [sO 1 (.ptr 0 0), sO 3 (.slc 1), sB 30 true, hB 0 41 [.int .i64 r_0, .slc 9000], hO 1 5 .u8 a6, hR 9000 .u8 r_1] [(r7 != (0 : Int)) = true] (by kernel_rfl) (hone hb10) ?_
        refine q_k ?_
        refine tr_cond_t true (by kernel_rfl) rfl ?_
        refine tr_seq ?_
        refine tr_reg hT [] [.s 2] [sB 2 false] [] (by kernel_rfl) trivial ?_
        refine q_k ?_
        refine tr_ret ?_
        refine q_k_ret ?_
        have h := Option.some.inj h
        subst h
        refine q_less [.s 2] [sB 2 false] (by kernel_rfl) ?_
        exact q_ret1 hT (.v (.one (.bool false))) [] (by kernel_rfl) (by kernel_rfl) (by kernel_rfl)
      · refine tr_reg hT [(2, .dec false)] [.s 1, .s 3, .s 30, .h 0, .h 1, .h 9000] [sO 1 (.ptr 0 0), sO 3 (.slc 1), sB 30 ((↑(List.length a6) : Int) != (IntKind.i64.wrap ((7 : Int) + (↑(List.length r_1) : Int)))), hB 0 41 [.int .i64 r_0, .slc 9000], hO 1 5 .u8 a6, hR 9000 .u8 r_1] [(r7 != (0 : Int)) = false] (by kernel_rfl) (hone hb11) ?_
        refine q_k ?_
        rcases ite_split h with ⟨hc12, h⟩ | ⟨hc12, h⟩
        · refine tr_cond_t ((↑(List.length a6) : Int) != (IntKind.i64.wrap ((7 : Int) + (↑(List.length r_1) : Int)))) (by kernel_rfl) hc12 ?_
          refine tr_seq ?_
          refine tr_reg hT [] [.s 2] [sB 2 false] [] (by kernel_rfl) trivial ?_
          refine q_k ?_
          refine tr_ret ?_
          refine q_k_ret ?_
          have h := Option.some.inj h
          subst h
          refine q_less [.s 2] [sB 2 false] (by kernel_rfl) ?_
          exact q_ret1 hT (.v (.one (.bool false))) [] (by kernel_rfl) (by kernel_rfl) (by kernel_rfl)
        · refine tr_cond_f ((↑(List.length a6) : Int) != (IntKind.i64.wrap ((7 : Int) + (↑(List.length r_1) : Int)))) (by kernel_rfl) hc12 ?_
          refine tr_skip ?_
          refine q_k ?_
          refine tr_seq ?_
          refine tr_fit [] [sO 1 (.ptr 0 0), sO 3 (.slc 1), hB 0 41 [.int .i64 r_0, .slc 9000], hR 1 .u8 a6, hR 9000 .u8 r_1] [(0, .blk 41 [.int .i64 r_0, .slc 9000]), (1, .rd .u8 a6), (9000, .rd .u8 r_1)] (by kernel_rfl) (by kernel_rfl) (by kernel_rfl) rfl ⟨.blk (by kernel_rfl) (by kernel_rfl), .ownrd (e := 5) (by kernel_rfl), .rd (by kernel_rfl), trivial⟩ (by kernel_rfl) ?_
          obtain ⟨hn13, h⟩ := ite_some h
          obtain ⟨a14, e15, h⟩ := bind_some h
          obtain ⟨hn16, h⟩ := ite_some h
          obtain ⟨r17, e18, h⟩ := bind_some h
          refine tr_regd hT hM [(1, .key 2), (2, .call [2] (.v (.one (.slc 3))) [(3, .own 5 .u8 a14)]), (5, .key 4), (6, .call [4] (.v (.one (.int .u32 r17))) [])] [.s 1, .s 3, .s 5, .h 0, .h 1, .h 9000] [sO 1 (.ptr 0 0), sO 3 (.slc 1), sI 5 .u32 r17, hB 0 41 [.int .i64 r_0, .slc 9000], hR 1 .u8 a6, hR 9000 .u8 r_1] [0 ≤ (0 : Int) ∧ (0 : Int) ≤ (3 : Int) ∧ (3 : Int) ≤ (↑(List.length a6) : Int), CallOk P 23 [.v (.one (.slc 2))] [(2, .rd .u8 ((a6.take (3)).drop 0))] (.v (.one (.slc 3))) [(3, .own 5 .u8 a14)], List.length (a14 ++ r_1) ≤ maxN, CallOk P 24 [.v (.one (.slc 4))] [(4, .own 5 .u8 (a14 ++ r_1))] (.v (.one (.int .u32 r17))) []] (by kernel_rfl) (hcons hn13 (hcons ((keep_Twin_ok ((a6.take (3)).drop 0) a14 e15).tr [(9000, .slc 2), (8900, .slc 3)] rfl (by kernel_rfl) ⟨.rd (by kernel_rfl), trivial⟩ (by kernel_rfl) (by kernel_rfl) rfl rfl) (hcons hn16 (hone ((crc_Sum_ok (a14 ++ r_1) r17 e18).tr [(9000, .slc 4)] rfl (by kernel_rfl) ⟨.ownrd (e := 5) (by kernel_rfl), trivial⟩ (by kernel_rfl) (by kernel_rfl) rfl rfl))))) ?_
          refine q_k ?_
          refine tr_seq ?_
          obtain ⟨hn19, h⟩ := ite_some h
          rcases ite_split h with ⟨hb20, h⟩ | ⟨hb44, h⟩
          · obtain ⟨hn21, h⟩ := ite_some h
            obtain ⟨hn22, h⟩ := ite_some h
            rcases ite_split h with ⟨hb23, h⟩ | ⟨hb43, h⟩
            · obtain ⟨hn24, h⟩ := ite_some h
              rcases ite_split h with ⟨hb25, h⟩ | ⟨hb42, h⟩
              · obtain ⟨hn26, h⟩ := ite_some h
                rcases ite_split h with ⟨hb27, h⟩ | ⟨hb41, h⟩
                · obtain ⟨hn28, h⟩ := ite_some h
                  rcases ite_split h with ⟨hb29, h⟩ | ⟨hb40, h⟩
                  · obtain ⟨hn30, h⟩ := ite_some h
                    rcases ite_split h with ⟨hb31, h⟩ | ⟨hb39, h⟩
                    · obtain ⟨hn32, h⟩ := ite_some h
                      obtain ⟨b33, e34, h⟩ := bind_some h
                      rcases ite_split h with ⟨hb35, h⟩ | ⟨hb38, h⟩
                      · obtain ⟨b36, e37, h⟩ := bind_some h
                        refine tr_regd hT hM [(7, .dec true), (23, .dec true), (32, .dec true), (41, .dec true), (50, .dec true), (58, .dec true), (60, .key 5), (63, .call [5, 9000] (.v (.one (.bool b33))) []), (65, .dec true), (66, .call [] (.v (.one (.bool b36))) [])] [.s 2] [sB 2 b36] [0 ≤ (0 : Int) ∧ (0 : Int) < ↑(List.length a6), (0 : Int) < ↑(List.length a6), ((IntKind.i64.wrap (a6.getD 0 0)) == r_0) = true, 0 ≤ (1 : Int) ∧ (1 : Int) < ↑(List.length a6), (1 : Int) < ↑(List.length a6), 0 ≤ (8 : Int), 0 ≤ (2 : Int) ∧ (2 : Int) < ↑(List.length a6), (2 : Int) < ↑(List.length a6), ((bor .i64 (shl .i64 (IntKind.i64.wrap (a6.getD 1 0)) (8 : Int)) (IntKind.i64.wrap (a6.getD 2 0))) == (↑(List.length r_1) : Int)) = true, 0 ≤ (3 : Int) ∧ (3 : Int) < ↑(List.length a6), (3 : Int) < ↑(List.length a6), 0 ≤ (24 : Int), ((a6.getD 3 0) == (IntKind.u8.wrap (shr .u32 r17 (24 : Int)))) = true, 0 ≤ (4 : Int) ∧ (4 : Int) < ↑(List.length a6), (4 : Int) < ↑(List.length a6), 0 ≤ (16 : Int), ((a6.getD 4 0) == (IntKind.u8.wrap (shr .u32 r17 (16 : Int)))) = true, 0 ≤ (5 : Int) ∧ (5 : Int) < ↑(List.length a6), (5 : Int) < ↑(List.length a6), 0 ≤ (8 : Int), ((a6.getD 5 0) == (IntKind.u8.wrap (shr .u32 r17 (8 : Int)))) = true, 0 ≤ (6 : Int) ∧ (6 : Int) < ↑(List.length a6), (6 : Int) < ↑(List.length a6), ((a6.getD 6 0) == (IntKind.u8.wrap r17)) = true, 0 ≤ (7 : Int) ∧ (7 : Int) ≤ (↑(List.length a6) : Int) ∧ (↑(List.length a6) : Int) ≤ (↑(List.length a6) : Int), CallOk P 26 [.v (.one (.slc 5)), .v (.one (.slc 9000))] [(5, .rd .u8 ((a6.take (((↑(List.length a6) : Int)).toNat)).drop 7)), (9000, .rd .u8 r_1)] (.v (.one (.bool b33))) [], b33 = true, CallOk P 41 [] [] (.v (.one (.bool b36))) []] (by kernel_rfl) (hcons hn19 (hcons hn19.2 (hcons hb20 (hcons hn21 (hcons hn21.2 (hcons (by decide) (hcons hn22 (hcons hn22.2 (hcons hb23 (hcons hn24 (hcons hn24.2 (hcons (by decide) (hcons hb25 (hcons hn26 (hcons hn26.2 (hcons (by decide) (hcons hb27 (hcons hn28 (hcons hn28.2 (hcons (by decide) (hcons hb29 (hcons hn30 (hcons hn30.2 (hcons hb31 (hcons hn32 (hcons ((keep_Bytes_ok ((a6.take (((↑(List.length a6) : Int)).toNat)).drop 7) r_1 b33 e34).tr [(9000, .slc 5), (9001, .slc 9000)] rfl (by kernel_rfl) ⟨.rd (by kernel_rfl), .rd (by kernel_rfl), trivial⟩ (by kernel_rfl) (by kernel_rfl) rfl rfl) (hcons hb35 (hone (law15_wakes_ok  b36 e37))))))))))))))))))))))))))))) ?_
                        refine q_k ?_
                        refine tr_ret ?_
                        have h := Option.some.inj h
                        subst h
                        refine q_less [.s 2] [sB 2 b36] (by kernel_rfl) ?_
                        exact q_ret1 hT (.v (.one (.bool b36))) [] (by kernel_rfl) (by kernel_rfl) (by kernel_rfl)
                      · refine tr_regd hT hM [(7, .dec true), (23, .dec true), (32, .dec true), (41, .dec true), (50, .dec true), (58, .dec true), (60, .key 5), (63, .call [5, 9000] (.v (.one (.bool b33))) []), (65, .dec false)] [.s 2] [sB 2 false] [0 ≤ (0 : Int) ∧ (0 : Int) < ↑(List.length a6), (0 : Int) < ↑(List.length a6), ((IntKind.i64.wrap (a6.getD 0 0)) == r_0) = true, 0 ≤ (1 : Int) ∧ (1 : Int) < ↑(List.length a6), (1 : Int) < ↑(List.length a6), 0 ≤ (8 : Int), 0 ≤ (2 : Int) ∧ (2 : Int) < ↑(List.length a6), (2 : Int) < ↑(List.length a6), ((bor .i64 (shl .i64 (IntKind.i64.wrap (a6.getD 1 0)) (8 : Int)) (IntKind.i64.wrap (a6.getD 2 0))) == (↑(List.length r_1) : Int)) = true, 0 ≤ (3 : Int) ∧ (3 : Int) < ↑(List.length a6), (3 : Int) < ↑(List.length a6), 0 ≤ (24 : Int), ((a6.getD 3 0) == (IntKind.u8.wrap (shr .u32 r17 (24 : Int)))) = true, 0 ≤ (4 : Int) ∧ (4 : Int) < ↑(List.length a6), (4 : Int) < ↑(List.length a6), 0 ≤ (16 : Int), ((a6.getD 4 0) == (IntKind.u8.wrap (shr .u32 r17 (16 : Int)))) = true, 0 ≤ (5 : Int) ∧ (5 : Int) < ↑(List.length a6), (5 : Int) < ↑(List.length a6), 0 ≤ (8 : Int), ((a6.getD 5 0) == (IntKind.u8.wrap (shr .u32 r17 (8 : Int)))) = true, 0 ≤ (6 : Int) ∧ (6 : Int) < ↑(List.length a6), (6 : Int) < ↑(List.length a6), ((a6.getD 6 0) == (IntKind.u8.wrap r17)) = true, 0 ≤ (7 : Int) ∧ (7 : Int) ≤ (↑(List.length a6) : Int) ∧ (↑(List.length a6) : Int) ≤ (↑(List.length a6) : Int), CallOk P 26 [.v (.one (.slc 5)), .v (.one (.slc 9000))] [(5, .rd .u8 ((a6.take (((↑(List.length a6) : Int)).toNat)).drop 7)), (9000, .rd .u8 r_1)] (.v (.one (.bool b33))) [], b33 = false] (by kernel_rfl) (hcons hn19 (hcons hn19.2 (hcons hb20 (hcons hn21 (hcons hn21.2 (hcons (by decide) (hcons hn22 (hcons hn22.2 (hcons hb23 (hcons hn24 (hcons hn24.2 (hcons (by decide) (hcons hb25 (hcons hn26 (hcons hn26.2 (hcons (by decide) (hcons hb27 (hcons hn28 (hcons hn28.2 (hcons (by decide) (hcons hb29 (hcons hn30 (hcons hn30.2 (hcons hb31 (hcons hn32 (hcons ((keep_Bytes_ok ((a6.take (((↑(List.length a6) : Int)).toNat)).drop 7) r_1 b33 e34).tr [(9000, .slc 5), (9001, .slc 9000)] rfl (by kernel_rfl) ⟨.rd (by kernel_rfl), .rd (by kernel_rfl), trivial⟩ (by kernel_rfl) (by kernel_rfl) rfl rfl) (hone hb38))))))))))))))))))))))))))) ?_
                        refine q_k ?_
                        refine tr_ret ?_
                        have h := Option.some.inj h
                        subst h
                        refine q_less [.s 2] [sB 2 false] (by kernel_rfl) ?_
                        exact q_ret1 hT (.v (.one (.bool false))) [] (by kernel_rfl) (by kernel_rfl) (by kernel_rfl)
                    · refine tr_regd hT hM [(7, .dec true), (23, .dec true), (32, .dec true), (41, .dec true), (50, .dec true), (58, .dec false)] [.s 2] [sB 2 false] [0 ≤ (0 : Int) ∧ (0 : Int) < ↑(List.length a6), (0 : Int) < ↑(List.length a6), ((IntKind.i64.wrap (a6.getD 0 0)) == r_0) = true, 0 ≤ (1 : Int) ∧ (1 : Int) < ↑(List.length a6), (1 : Int) < ↑(List.length a6), 0 ≤ (8 : Int), 0 ≤ (2 : Int) ∧ (2 : Int) < ↑(List.length a6), (2 : Int) < ↑(List.length a6), ((bor .i64 (shl .i64 (IntKind.i64.wrap (a6.getD 1 0)) (8 : Int)) (IntKind.i64.wrap (a6.getD 2 0))) == (↑(List.length r_1) : Int)) = true, 0 ≤ (3 : Int) ∧ (3 : Int) < ↑(List.length a6), (3 : Int) < ↑(List.length a6), 0 ≤ (24 : Int), ((a6.getD 3 0) == (IntKind.u8.wrap (shr .u32 r17 (24 : Int)))) = true, 0 ≤ (4 : Int) ∧ (4 : Int) < ↑(List.length a6), (4 : Int) < ↑(List.length a6), 0 ≤ (16 : Int), ((a6.getD 4 0) == (IntKind.u8.wrap (shr .u32 r17 (16 : Int)))) = true, 0 ≤ (5 : Int) ∧ (5 : Int) < ↑(List.length a6), (5 : Int) < ↑(List.length a6), 0 ≤ (8 : Int), ((a6.getD 5 0) == (IntKind.u8.wrap (shr .u32 r17 (8 : Int)))) = true, 0 ≤ (6 : Int) ∧ (6 : Int) < ↑(List.length a6), (6 : Int) < ↑(List.length a6), ((a6.getD 6 0) == (IntKind.u8.wrap r17)) = false] (by kernel_rfl) (hcons hn19 (hcons hn19.2 (hcons hb20 (hcons hn21 (hcons hn21.2 (hcons (by decide) (hcons hn22 (hcons hn22.2 (hcons hb23 (hcons hn24 (hcons hn24.2 (hcons (by decide) (hcons hb25 (hcons hn26 (hcons hn26.2 (hcons (by decide) (hcons hb27 (hcons hn28 (hcons hn28.2 (hcons (by decide) (hcons hb29 (hcons hn30 (hcons hn30.2 (hone hb39)))))))))))))))))))))))) ?_
                      refine q_k ?_
                      refine tr_ret ?_
                      have h := Option.some.inj h
                      subst h
                      refine q_less [.s 2] [sB 2 false] (by kernel_rfl) ?_
                      exact q_ret1 hT (.v (.one (.bool false))) [] (by kernel_rfl) (by kernel_rfl) (by kernel_rfl)
                  · refine tr_regd hT hM [(7, .dec true), (23, .dec true), (32, .dec true), (41, .dec true), (50, .dec false)] [.s 2] [sB 2 false] [0 ≤ (0 : Int) ∧ (0 : Int) < ↑(List.length a6), (0 : Int) < ↑(List.length a6), ((IntKind.i64.wrap (a6.getD 0 0)) == r_0) = true, 0 ≤ (1 : Int) ∧ (1 : Int) < ↑(List.length a6), (1 : Int) < ↑(List.length a6), 0 ≤ (8 : Int), 0 ≤ (2 : Int) ∧ (2 : Int) < ↑(List.length a6), (2 : Int) < ↑(List.length a6), ((bor .i64 (shl .i64 (IntKind.i64.wrap (a6.getD 1 0)) (8 : Int)) (IntKind.i64.wrap (a6.getD 2 0))) == (↑(List.length r_1) : Int)) = true, 0 ≤ (3 : Int) ∧ (3 : Int) < ↑(List.length a6), (3 : Int) < ↑(List.length a6), 0 ≤ (24 : Int), ((a6.getD 3 0) == (IntKind.u8.wrap (shr .u32 r17 (24 : Int)))) = true, 0 ≤ (4 : Int) ∧ (4 : Int) < ↑(List.length a6), (4 : Int) < ↑(List.length a6), 0 ≤ (16 : Int), ((a6.getD 4 0) == (IntKind.u8.wrap (shr .u32 r17 (16 : Int)))) = true, 0 ≤ (5 : Int) ∧ (5 : Int) < ↑(List.length a6), (5 : Int) < ↑(List.length a6), 0 ≤ (8 : Int), ((a6.getD 5 0) == (IntKind.u8.wrap (shr .u32 r17 (8 : Int)))) = false] (by kernel_rfl) (hcons hn19 (hcons hn19.2 (hcons hb20 (hcons hn21 (hcons hn21.2 (hcons (by decide) (hcons hn22 (hcons hn22.2 (hcons hb23 (hcons hn24 (hcons hn24.2 (hcons (by decide) (hcons hb25 (hcons hn26 (hcons hn26.2 (hcons (by decide) (hcons hb27 (hcons hn28 (hcons hn28.2 (hcons (by decide) (hone hb40))))))))))))))))))))) ?_
                    refine q_k ?_
                    refine tr_ret ?_
                    have h := Option.some.inj h
                    subst h
                    refine q_less [.s 2] [sB 2 false] (by kernel_rfl) ?_
                    exact q_ret1 hT (.v (.one (.bool false))) [] (by kernel_rfl) (by kernel_rfl) (by kernel_rfl)
                · refine tr_regd hT hM [(7, .dec true), (23, .dec true), (32, .dec true), (41, .dec false)] [.s 2] [sB 2 false] [0 ≤ (0 : Int) ∧ (0 : Int) < ↑(List.length a6), (0 : Int) < ↑(List.length a6), ((IntKind.i64.wrap (a6.getD 0 0)) == r_0) = true, 0 ≤ (1 : Int) ∧ (1 : Int) < ↑(List.length a6), (1 : Int) < ↑(List.length a6), 0 ≤ (8 : Int), 0 ≤ (2 : Int) ∧ (2 : Int) < ↑(List.length a6), (2 : Int) < ↑(List.length a6), ((bor .i64 (shl .i64 (IntKind.i64.wrap (a6.getD 1 0)) (8 : Int)) (IntKind.i64.wrap (a6.getD 2 0))) == (↑(List.length r_1) : Int)) = true, 0 ≤ (3 : Int) ∧ (3 : Int) < ↑(List.length a6), (3 : Int) < ↑(List.length a6), 0 ≤ (24 : Int), ((a6.getD 3 0) == (IntKind.u8.wrap (shr .u32 r17 (24 : Int)))) = true, 0 ≤ (4 : Int) ∧ (4 : Int) < ↑(List.length a6), (4 : Int) < ↑(List.length a6), 0 ≤ (16 : Int), ((a6.getD 4 0) == (IntKind.u8.wrap (shr .u32 r17 (16 : Int)))) = false] (by kernel_rfl) (hcons hn19 (hcons hn19.2 (hcons hb20 (hcons hn21 (hcons hn21.2 (hcons (by decide) (hcons hn22 (hcons hn22.2 (hcons hb23 (hcons hn24 (hcons hn24.2 (hcons (by decide) (hcons hb25 (hcons hn26 (hcons hn26.2 (hcons (by decide) (hone hb41))))))))))))))))) ?_
                  refine q_k ?_
                  refine tr_ret ?_
                  have h := Option.some.inj h
                  subst h
                  refine q_less [.s 2] [sB 2 false] (by kernel_rfl) ?_
                  exact q_ret1 hT (.v (.one (.bool false))) [] (by kernel_rfl) (by kernel_rfl) (by kernel_rfl)
              · refine tr_regd hT hM [(7, .dec true), (23, .dec true), (32, .dec false)] [.s 2] [sB 2 false] [0 ≤ (0 : Int) ∧ (0 : Int) < ↑(List.length a6), (0 : Int) < ↑(List.length a6), ((IntKind.i64.wrap (a6.getD 0 0)) == r_0) = true, 0 ≤ (1 : Int) ∧ (1 : Int) < ↑(List.length a6), (1 : Int) < ↑(List.length a6), 0 ≤ (8 : Int), 0 ≤ (2 : Int) ∧ (2 : Int) < ↑(List.length a6), (2 : Int) < ↑(List.length a6), ((bor .i64 (shl .i64 (IntKind.i64.wrap (a6.getD 1 0)) (8 : Int)) (IntKind.i64.wrap (a6.getD 2 0))) == (↑(List.length r_1) : Int)) = true, 0 ≤ (3 : Int) ∧ (3 : Int) < ↑(List.length a6), (3 : Int) < ↑(List.length a6), 0 ≤ (24 : Int), ((a6.getD 3 0) == (IntKind.u8.wrap (shr .u32 r17 (24 : Int)))) = false] (by kernel_rfl) (hcons hn19 (hcons hn19.2 (hcons hb20 (hcons hn21 (hcons hn21.2 (hcons (by decide) (hcons hn22 (hcons hn22.2 (hcons hb23 (hcons hn24 (hcons hn24.2 (hcons (by decide) (hone hb42))))))))))))) ?_
                refine q_k ?_
                refine tr_ret ?_
                have h := Option.some.inj h
                subst h
                refine q_less [.s 2] [sB 2 false] (by kernel_rfl) ?_
                exact q_ret1 hT (.v (.one (.bool false))) [] (by kernel_rfl) (by kernel_rfl) (by kernel_rfl)
            · refine tr_regd hT hM [(7, .dec true), (23, .dec false)] [.s 2] [sB 2 false] [0 ≤ (0 : Int) ∧ (0 : Int) < ↑(List.length a6), (0 : Int) < ↑(List.length a6), ((IntKind.i64.wrap (a6.getD 0 0)) == r_0) = true, 0 ≤ (1 : Int) ∧ (1 : Int) < ↑(List.length a6), (1 : Int) < ↑(List.length a6), 0 ≤ (8 : Int), 0 ≤ (2 : Int) ∧ (2 : Int) < ↑(List.length a6), (2 : Int) < ↑(List.length a6), ((bor .i64 (shl .i64 (IntKind.i64.wrap (a6.getD 1 0)) (8 : Int)) (IntKind.i64.wrap (a6.getD 2 0))) == (↑(List.length r_1) : Int)) = false] (by kernel_rfl) (hcons hn19 (hcons hn19.2 (hcons hb20 (hcons hn21 (hcons hn21.2 (hcons (by decide) (hcons hn22 (hcons hn22.2 (hone hb43))))))))) ?_
              refine q_k ?_
              refine tr_ret ?_
              have h := Option.some.inj h
              subst h
              refine q_less [.s 2] [sB 2 false] (by kernel_rfl) ?_
              exact q_ret1 hT (.v (.one (.bool false))) [] (by kernel_rfl) (by kernel_rfl) (by kernel_rfl)
          · refine tr_regd hT hM [(7, .dec false)] [.s 2] [sB 2 false] [0 ≤ (0 : Int) ∧ (0 : Int) < ↑(List.length a6), (0 : Int) < ↑(List.length a6), ((IntKind.i64.wrap (a6.getD 0 0)) == r_0) = false] (by kernel_rfl) (hcons hn19 (hcons hn19.2 (hone hb44))) ?_
            refine q_k ?_
            refine tr_ret ?_
            have h := Option.some.inj h
            subst h
            refine q_less [.s 2] [sB 2 false] (by kernel_rfl) ?_
            exact q_ret1 hT (.v (.one (.bool false))) [] (by kernel_rfl) (by kernel_rfl) (by kernel_rfl)

theorem law15_FrameNoughts_ok (r_0 : Int) (r_1 : List Int) (n_2 : Int) (tail_3 : Int) (tail_4 : List Int) (r : Bool) (h : law15_FrameNoughts r_0 r_1 n_2 tail_3 tail_4 = some r) : CallOk P 16 [.v (.agg [.int .i64 r_0, .slc 9000]), .v (.one (.int .i64 n_2)), .v (.agg [.int .i64 tail_3, .slc 9001])] [(9000, .rd .u8 r_1), (9001, .rd .u8 tail_4)] (.v (.one (.bool r))) [] := by
  refine call1 (N := 118) Try.func16 (by kernel_rfl) rfl rfl rfl [(9000, .rd .u8 r_1), (9001, .rd .u8 tail_4)] (by kernel_rfl) ?_
  intro _ B w0
  show Tr P B 118 w0 _ _ (RetQ P Try.f16 (R1 _ _ B w0))
  unfold law15_FrameNoughts at h
  refine tr_seq ?_
  refine tr_reg hT [(0, .key 0), (1, .key 1)] [.s 1, .s 3, .s 5, .h 0, .h 1, .h 9000, .h 9001] [sI 1 .i64 n_2, sO 3 (.ptr 0 0), sO 5 (.ptr 1 0), hB 0 41 [.int .i64 r_0, .slc 9000], hB 1 41 [.int .i64 tail_3, .slc 9001], hR 9000 .u8 r_1, hR 9001 .u8 tail_4] [] (by kernel_rfl) trivial ?_
  refine q_k ?_
  refine tr_seq ?_
  refine tr_seq ?_
  obtain ⟨r1, e2, h⟩ := bind_some h
  rcases ite_split h with ⟨hb3, h⟩ | ⟨hb4, h⟩
  · refine tr_reg hT [(1, .call [9000] (.v (.one (.int .i64 r1))) []), (3, .dec true)] [.s 1, .s 3, .s 5, .s 38, .h 0, .h 1, .h 9000, .h 9001] [sI 1 .i64 n_2, sO 3 (.ptr 0 0), sO 5 (.ptr 1 0), sB 38 true, hB 0 41 [.int .i64 r_0, .slc 9000], hB 1 41 [.int .i64 tail_3, .slc 9001], hR 9000 .u8 r_1, hR 9001 .u8 tail_4] [CallOk P 33 [.v (.agg [.int .i64 r_0, .slc 9000])] [(9000, .rd .u8 r_1)] (.v (.one (.int .i64 r1))) [], (r1 != (0 : Int)) = true] (by kernel_rfl) (hcons ((ref14_Rec_ok r_0 r_1 r1 e2).tr [(9000, .slc 9000)] rfl (by kernel_rfl) ⟨.rd (by kernel_rfl), trivial⟩ (by kernel_rfl) (by kernel_rfl) rfl rfl) (hone hb3)) ?_
    refine q_k ?_
    refine tr_cond_t true (by kernel_rfl) rfl ?_
    refine tr_seq ?_
    refine tr_reg hT [] [.s 6] [sB 6 true] [] (by kernel_rfl) trivial ?_
    refine q_k ?_
    refine tr_ret ?_
    refine q_k_ret ?_
    have h := Option.some.inj h
    subst h
    refine q_less [.s 6] [sB 6 true] (by kernel_rfl) ?_
    exact q_ret1 hT (.v (.one (.bool true))) [] (by kernel_rfl) (by kernel_rfl) (by kernel_rfl)
  · obtain ⟨r5, e6, h⟩ := bind_some h
    rcases ite_split h with ⟨hb7, h⟩ | ⟨hb8, h⟩
    · refine tr_reg hT [(1, .call [9000] (.v (.one (.int .i64 r1))) []), (3, .dec false), (5, .call [9001] (.v (.one (.int .i64 r5))) []), (8, .dec true)] [.s 1, .s 3, .s 5, .s 38, .h 0, .h 1, .h 9000, .h 9001] [sI 1 .i64 n_2, sO 3 (.ptr 0 0), sO 5 (.ptr 1 0), sB 38 true, hB 0 41 [.int .i64 r_0, .slc 9000], hB 1 41 [.int .i64 tail_3, .slc 9001], hR 9000 .u8 r_1, hR 9001 .u8 tail_4] [CallOk P 33 [.v (.agg [.int .i64 r_0, .slc 9000])] [(9000, .rd .u8 r_1)] (.v (.one (.int .i64 r1))) [], (r1 != (0 : Int)) = false, CallOk P 33 [.v (.agg [.int .i64 tail_3, .slc 9001])] [(9001, .rd .u8 tail_4)] (.v (.one (.int .i64 r5))) [], (r5 != (0 : Int)) = true] (by kernel_rfl) (hcons ((ref14_Rec_ok r_0 r_1 r1 e2).tr [(9000, .slc 9000)] rfl (by kernel_rfl) ⟨.rd (by kernel_rfl), trivial⟩ (by kernel_rfl) (by kernel_rfl) rfl rfl) (hcons hb4 (hcons ((ref14_Rec_ok tail_3 tail_4 r5 e6).tr [(9000, .slc 9001)] rfl (by kernel_rfl) ⟨.rd (by kernel_rfl), trivial⟩ (by kernel_rfl) (by kernel_rfl) rfl rfl) (hone hb7)))) ?_
      refine q_k ?_
      refine tr_cond_t true (by kernel_rfl) rfl ?_
      refine tr_seq ?_
      refine tr_reg hT [] [.s 6] [sB 6 true] [] (by kernel_rfl) trivial ?_
      refine q_k ?_
      refine tr_ret ?_
      refine q_k_ret ?_
      have h := Option.some.inj h
      subst h
      refine q_less [.s 6] [sB 6 true] (by kernel_rfl) ?_
      exact q_ret1 hT (.v (.one (.bool true))) [] (by kernel_rfl) (by kernel_rfl) (by kernel_rfl)
    · rcases ite_split h with ⟨hb9, h⟩ | ⟨hb10, h⟩
      · refine tr_reg hT [(1, .call [9000] (.v (.one (.int .i64 r1))) []), (3, .dec false), (5, .call [9001] (.v (.one (.int .i64 r5))) []), (8, .dec false), (14, .dec true)] [.s 1, .s 3, .s 5, .s 38, .h 0, .h 1, .h 9000, .h 9001] [sI 1 .i64 n_2, sO 3 (.ptr 0 0), sO 5 (.ptr 1 0), sB 38 true, hB 0 41 [.int .i64 r_0, .slc 9000], hB 1 41 [.int .i64 tail_3, .slc 9001], hR 9000 .u8 r_1, hR 9001 .u8 tail_4] [CallOk P 33 [.v (.agg [.int .i64 r_0, .slc 9000])] [(9000, .rd .u8 r_1)] (.v (.one (.int .i64 r1))) [], (r1 != (0 : Int)) = false, CallOk P 33 [.v (.agg [.int .i64 tail_3, .slc 9001])] [(9001, .rd .u8 tail_4)] (.v (.one (.int .i64 r5))) [], (r5 != (0 : Int)) = false, (decide ((↑(List.length r_1) : Int) > (300 : Int))) = true] (by kernel_rfl) (hcons ((ref14_Rec_ok r_0 r_1 r1 e2).tr [(9000, .slc 9000)] rfl (by kernel_rfl) ⟨.rd (by kernel_rfl), trivial⟩ (by kernel_rfl) (by kernel_rfl) rfl rfl) (hcons hb4 (hcons ((ref14_Rec_ok tail_3 tail_4 r5 e6).tr [(9000, .slc 9001)] rfl (by kernel_rfl) ⟨.rd (by kernel_rfl), trivial⟩ (by kernel_rfl) (by kernel_rfl) rfl rfl) (hcons hb8 (hone hb9))))) ?_
        refine q_k ?_
        refine tr_cond_t true (by kernel_rfl) rfl ?_
        refine tr_seq ?_
        refine tr_reg hT [] [.s 6] [sB 6 true] [] (by kernel_rfl) trivial ?_
        refine q_k ?_
        refine tr_ret ?_
        refine q_k_ret ?_
        have h := Option.some.inj h
        subst h
        refine q_less [.s 6] [sB 6 true] (by kernel_rfl) ?_
        exact q_ret1 hT (.v (.one (.bool true))) [] (by kernel_rfl) (by kernel_rfl) (by kernel_rfl)
      · refine tr_reg hT [(1, .call [9000] (.v (.one (.int .i64 r1))) []), (3, .dec false), (5, .call [9001] (.v (.one (.int .i64 r5))) []), (8, .dec false), (14, .dec false)] [.s 1, .s 3, .s 5, .s 38, .h 0, .h 1, .h 9000, .h 9001] [sI 1 .i64 n_2, sO 3 (.ptr 0 0), sO 5 (.ptr 1 0), sB 38 (decide ((↑(List.length tail_4) : Int) > (300 : Int))), hB 0 41 [.int .i64 r_0, .slc 9000], hB 1 41 [.int .i64 tail_3, .slc 9001], hR 9000 .u8 r_1, hR 9001 .u8 tail_4] [CallOk P 33 [.v (.agg [.int .i64 r_0, .slc 9000])] [(9000, .rd .u8 r_1)] (.v (.one (.int .i64 r1))) [], (r1 != (0 : Int)) = false, CallOk P 33 [.v (.agg [.int .i64 tail_3, .slc 9001])] [(9001, .rd .u8 tail_4)] (.v (.one (.int .i64 r5))) [], (r5 != (0 : Int)) = false, (decide ((↑(List.length r_1) : Int) > (300 : Int))) = false] (by kernel_rfl) (hcons ((ref14_Rec_ok r_0 r_1 r1 e2).tr [(9000, .slc 9000)] rfl (by kernel_rfl) ⟨.rd (by kernel_rfl), trivial⟩ (by kernel_rfl) (by kernel_rfl) rfl rfl) (hcons hb4 (hcons ((ref14_Rec_ok tail_3 tail_4 r5 e6).tr [(9000, .slc 9001)] rfl (by kernel_rfl) ⟨.rd (by kernel_rfl), trivial⟩ (by kernel_rfl) (by kernel_rfl) rfl rfl) (hcons hb8 (hone hb10))))) ?_
        refine q_k ?_
        rcases ite_split h with ⟨hc11, h⟩ | ⟨hc11, h⟩
        · refine tr_cond_t (decide ((↑(List.length tail_4) : Int) > (300 : Int))) (by kernel_rfl) hc11 ?_
          refine tr_seq ?_
          refine tr_reg hT [] [.s 6] [sB 6 true] [] (by kernel_rfl) trivial ?_
          refine q_k ?_
          refine tr_ret ?_
          refine q_k_ret ?_
          have h := Option.some.inj h
          subst h
          refine q_less [.s 6] [sB 6 true] (by kernel_rfl) ?_
          exact q_ret1 hT (.v (.one (.bool true))) [] (by kernel_rfl) (by kernel_rfl) (by kernel_rfl)
        · refine tr_cond_f (decide ((↑(List.length tail_4) : Int) > (300 : Int))) (by kernel_rfl) hc11 ?_
          refine tr_skip ?_
          refine q_k ?_
          refine tr_seq ?_
          refine tr_reg hT [] [.s 1, .s 3, .s 5, .h 0, .h 1, .h 9000, .h 9001] [sI 1 .i64 (IntKind.i64.wrap ((1 : Int) + (IntKind.i64.wrap ((IntKind.u64.wrap n_2).tmod (50 : Int))))), sO 3 (.ptr 0 0), sO 5 (.ptr 1 0), hB 0 41 [.int .i64 r_0, .slc 9000], hB 1 41 [.int .i64 tail_3, .slc 9001], hR 9000 .u8 r_1, hR 9001 .u8 tail_4] [(50 : Int) ≠ 0] (by kernel_rfl) (hone (by decide)) ?_
          refine q_k ?_
          refine tr_seq ?_
          obtain ⟨⟨a12, r13⟩, e14, h⟩ := bind_some h
          refine tr_reg hT [(1, .call [9000] (.tup [.one (.slc 2), .one (.int .i64 r13)]) [(2, .own 5 .u8 a12)])] [.s 1, .s 3, .s 5, .s 7, .s 8, .h 0, .h 1, .h 2, .h 9000, .h 9001] [sI 1 .i64 (IntKind.i64.wrap ((1 : Int) + (IntKind.i64.wrap ((IntKind.u64.wrap n_2).tmod (50 : Int))))), sO 3 (.ptr 0 0), sO 5 (.ptr 1 0), sO 7 (.slc 2), sI 8 .i64 r13, hB 0 41 [.int .i64 r_0, .slc 9000], hB 1 41 [.int .i64 tail_3, .slc 9001], hO 2 5 .u8 a12, hR 9000 .u8 r_1, hR 9001 .u8 tail_4] [CallOk P 32 [.v (.one (.nils)), .v (.agg [.int .i64 r_0, .slc 9000])] [(9000, .rd .u8 r_1)] (.tup [.one (.slc 2), .one (.int .i64 r13)]) [(2, .own 5 .u8 a12)]] (by kernel_rfl) (hone ((frame_Put_ok [] r_0 r_1 (a12, r13) e14).tr [(9000, .nils), (9001, .slc 9000), (8900, .slc 2)] rfl (by kernel_rfl) ⟨.nilrd, .rd (by kernel_rfl), trivial⟩ (by kernel_rfl) (by kernel_rfl) rfl rfl)) ?_
          refine q_k ?_
          refine tr_seq ?_
          refine tr_seq ?_
          refine tr_reg hT [] [.s 1, .s 3, .s 5, .s 7, .s 50, .h 0, .h 1, .h 2, .h 9000, .h 9001] [sI 1 .i64 (IntKind.i64.wrap ((1 : Int) + (IntKind.i64.wrap ((IntKind.u64.wrap n_2).tmod (50 : Int))))), sO 3 (.ptr 0 0), sO 5 (.ptr 1 0), sO 7 (.slc 2), sB 50 (r13 != (0 : Int)), hB 0 41 [.int .i64 r_0, .slc 9000], hB 1 41 [.int .i64 tail_3, .slc 9001], hO 2 5 .u8 a12, hR 9000 .u8 r_1, hR 9001 .u8 tail_4] [] (by kernel_rfl) trivial ?_
          refine q_k ?_
          rcases ite_split h with ⟨hc16, h⟩ | ⟨hc16, h⟩
          · refine tr_cond_t (r13 != (0 : Int)) (by kernel_rfl) hc16 ?_
            refine tr_seq ?_
            refine tr_reg hT [] [.s 6] [sB 6 false] [] (by kernel_rfl) trivial ?_
            refine q_k ?_
            refine tr_ret ?_
            refine q_k_ret ?_
            have h := Option.some.inj h
            subst h
            refine q_less [.s 6] [sB 6 false] (by kernel_rfl) ?_
            exact q_ret1 hT (.v (.one (.bool false))) [] (by kernel_rfl) (by kernel_rfl) (by kernel_rfl)
          · refine tr_cond_f (r13 != (0 : Int)) (by kernel_rfl) hc16 ?_
            refine tr_skip ?_
            refine q_k ?_
            refine tr_seq ?_
            refine tr_reg hT [] [.s 1, .s 3, .s 5, .s 7, .s 9, .h 0, .h 1, .h 2, .h 9000, .h 9001] [sI 1 .i64 (IntKind.i64.wrap ((1 : Int) + (IntKind.i64.wrap ((IntKind.u64.wrap n_2).tmod (50 : Int))))), sO 3 (.ptr 0 0), sO 5 (.ptr 1 0), sO 7 (.slc 2), sI 9 .i64 (↑(List.length a12) : Int), hB 0 41 [.int .i64 r_0, .slc 9000], hB 1 41 [.int .i64 tail_3, .slc 9001], hO 2 5 .u8 a12, hR 9000 .u8 r_1, hR 9001 .u8 tail_4] [] (by kernel_rfl) trivial ?_
            refine q_k ?_
            refine tr_seq ?_
            obtain ⟨a17, e18, h⟩ := bind_some h
            obtain ⟨hn19, h⟩ := ite_some h
            obtain ⟨⟨a20, r21⟩, e22, h⟩ := bind_some h
            refine tr_regd hT hM [(1, .call [2] (.v (.one (.slc 3))) [(3, .own 5 .u8 a17)]), (3, .key 4), (5, .call [4, 9001] (.tup [.one (.slc 5), .one (.int .i64 r21)]) [(5, .own 5 .u8 a20)])] [.s 1, .s 3, .s 5, .s 8, .s 9, .s 10, .h 0, .h 1, .h 5, .h 9000, .h 9001] [sI 1 .i64 (IntKind.i64.wrap ((1 : Int) + (IntKind.i64.wrap ((IntKind.u64.wrap n_2).tmod (50 : Int))))), sO 3 (.ptr 0 0), sO 5 (.ptr 1 0), sI 8 .i64 r21, sI 9 .i64 (↑(List.length a12) : Int), sO 10 (.slc 5), hB 0 41 [.int .i64 r_0, .slc 9000], hB 1 41 [.int .i64 tail_3, .slc 9001], hO 5 5 .u8 a20, hR 9000 .u8 r_1, hR 9001 .u8 tail_4] [CallOk P 23 [.v (.one (.slc 2))] [(2, .own 5 .u8 a12)] (.v (.one (.slc 3))) [(3, .own 5 .u8 a17)], 0 < (IntKind.i64.wrap ((1 : Int) + (IntKind.i64.wrap ((IntKind.u64.wrap n_2).tmod (50 : Int))))) ∧ (↑(List.length a17) : Int) + (IntKind.i64.wrap ((1 : Int) + (IntKind.i64.wrap ((IntKind.u64.wrap n_2).tmod (50 : Int))))) ≤ (↑maxN : Int), CallOk P 32 [.v (.one (.slc 4)), .v (.agg [.int .i64 tail_3, .slc 9001])] [(4, .own 5 .u8 (a17 ++ List.replicate (IntKind.i64.wrap ((1 : Int) + (IntKind.i64.wrap ((IntKind.u64.wrap n_2).tmod (50 : Int))))).toNat (0 : Int))), (9001, .rd .u8 tail_4)] (.tup [.one (.slc 5), .one (.int .i64 r21)]) [(5, .own 5 .u8 a20)]] (by kernel_rfl) (hcons ((keep_Twin_ok a12 a17 e18).tr [(9000, .slc 2), (8900, .slc 3)] rfl (by kernel_rfl) ⟨.ownrd (e := 5) (by kernel_rfl), trivial⟩ (by kernel_rfl) (by kernel_rfl) rfl rfl) (hcons hn19 (hone ((frame_Put_ok (a17 ++ List.replicate (IntKind.i64.wrap ((1 : Int) + (IntKind.i64.wrap ((IntKind.u64.wrap n_2).tmod (50 : Int))))).toNat (0 : Int)) tail_3 tail_4 (a20, r21) e22).tr [(9000, .slc 4), (9001, .slc 9001), (8900, .slc 5)] rfl (by kernel_rfl) ⟨.ownrd (e := 5) (by kernel_rfl), .rd (by kernel_rfl), trivial⟩ (by kernel_rfl) (by kernel_rfl) rfl rfl)))) ?_
            refine q_k ?_
            refine tr_seq ?_
            refine tr_seq ?_
            refine tr_reg hT [] [.s 1, .s 3, .s 5, .s 9, .s 10, .s 63, .h 0, .h 1, .h 5, .h 9000, .h 9001] [sI 1 .i64 (IntKind.i64.wrap ((1 : Int) + (IntKind.i64.wrap ((IntKind.u64.wrap n_2).tmod (50 : Int))))), sO 3 (.ptr 0 0), sO 5 (.ptr 1 0), sI 9 .i64 (↑(List.length a12) : Int), sO 10 (.slc 5), sB 63 (r21 != (0 : Int)), hB 0 41 [.int .i64 r_0, .slc 9000], hB 1 41 [.int .i64 tail_3, .slc 9001], hO 5 5 .u8 a20, hR 9000 .u8 r_1, hR 9001 .u8 tail_4] [] (by kernel_rfl) trivial ?_
            refine q_k ?_
            rcases ite_split h with ⟨hc24, h⟩ | ⟨hc24, h⟩
            · refine tr_cond_t (r21 != (0 : Int)) (by kernel_rfl) hc24 ?_
              refine tr_seq ?_
              refine tr_reg hT [] [.s 6] [sB 6 false] [] (by kernel_rfl) trivial ?_
              refine q_k ?_
              refine tr_ret ?_
              refine q_k_ret ?_
              have h := Option.some.inj h
              subst h
              refine q_less [.s 6] [sB 6 false] (by kernel_rfl) ?_
              exact q_ret1 hT (.v (.one (.bool false))) [] (by kernel_rfl) (by kernel_rfl) (by kernel_rfl)
            · refine tr_cond_f (r21 != (0 : Int)) (by kernel_rfl) hc24 ?_
              refine tr_skip ?_
              refine q_k ?_
              refine tr_seq ?_
              obtain ⟨⟨a25, r26⟩, e27, h⟩ := bind_some h
              refine tr_reg hT [(1, .call [5] (.tup [.one (.slc 6), .one (.int .i64 r26)]) [(6, .orows 41 (.rc a25))])] [.s 1, .s 3, .s 5, .s 9, .s 10, .s 11, .s 12, .h 0, .h 1, .h 5, .h 6, .h 9000, .h 9001] [sI 1 .i64 (IntKind.i64.wrap ((1 : Int) + (IntKind.i64.wrap ((IntKind.u64.wrap n_2).tmod (50 : Int))))), sO 3 (.ptr 0 0), sO 5 (.ptr 1 0), sI 9 .i64 (↑(List.length a12) : Int), sO 10 (.slc 5), sO 11 (.slc 6), sI 12 .i64 r26, hB 0 41 [.int .i64 r_0, .slc 9000], hB 1 41 [.int .i64 tail_3, .slc 9001], hO 5 5 .u8 a20, hV 6 41 (.rc a25), hR 9000 .u8 r_1, hR 9001 .u8 tail_4] [CallOk P 39 [.v (.one (.slc 5))] [(5, .own 5 .u8 a20)] (.tup [.one (.slc 6), .one (.int .i64 r26)]) [(6, .orows 41 (.rc a25))]] (by kernel_rfl) (hone ((frame_Split_ok a20 (a25, r26) e27).tr [(9000, .slc 5), (8900, .slc 6)] rfl (by kernel_rfl) ⟨.ownrd (e := 5) (by kernel_rfl), trivial⟩ (by kernel_rfl) (by kernel_rfl) rfl rfl)) ?_
              refine q_k ?_
              refine tr_seq ?_
              obtain ⟨⟨r29, a30, r31, r32⟩, e33, h⟩ := bind_some h
              refine tr_reg hT [(2, .call [5] (.tup [.agg [.int .i64 r29, .slc 7], .one (.int .i64 r31), .one (.int .i64 r32)]) [(7, .own 5 .u8 a30)]), (7, .key 8)] [.s 1, .s 3, .s 5, .s 9, .s 10, .s 11, .s 12, .s 15, .h 0, .h 1, .h 5, .h 6, .h 9000, .h 9001] [sI 1 .i64 (IntKind.i64.wrap ((1 : Int) + (IntKind.i64.wrap ((IntKind.u64.wrap n_2).tmod (50 : Int))))), sO 3 (.ptr 0 0), sO 5 (.ptr 1 0), sI 9 .i64 (↑(List.length a12) : Int), sO 10 (.slc 5), sO 11 (.slc 6), sI 12 .i64 r26, sI 15 .i64 r32, hB 0 41 [.int .i64 r_0, .slc 9000], hB 1 41 [.int .i64 tail_3, .slc 9001], hO 5 5 .u8 a20, hV 6 41 (.rc a25), hR 9000 .u8 r_1, hR 9001 .u8 tail_4] [CallOk P 36 [.v (.one (.slc 5)), .v (.one (.int .i64 (↑(List.length a12) : Int)))] [(5, .own 5 .u8 a20)] (.tup [.agg [.int .i64 r29, .slc 7], .one (.int .i64 r31), .one (.int .i64 r32)]) [(7, .own 5 .u8 a30)]] (by kernel_rfl) (hone ((frame_Get_ok a20 (↑(List.length a12) : Int) (r29, a30, r31, r32) e33).tr [(9000, .slc 5), (8900, .slc 7)] rfl (by kernel_rfl) ⟨.ownrd (e := 5) (by kernel_rfl), trivial⟩ (by kernel_rfl) (by kernel_rfl) rfl rfl)) ?_
              refine q_k ?_
              refine tr_seq ?_
              obtain ⟨⟨r35, a36, r37, r38⟩, e39, h⟩ := bind_some h
              refine tr_reg hT [(4, .call [5] (.tup [.agg [.int .i64 r35, .slc 9], .one (.int .i64 r37), .one (.int .i64 r38)]) [(9, .own 5 .u8 a36)]), (9, .key 10)] [.s 3, .s 5, .s 9, .s 10, .s 11, .s 12, .s 15, .s 16, .s 17, .s 18, .h 0, .h 1, .h 5, .h 6, .h 9, .h 10, .h 9000, .h 9001] [sO 3 (.ptr 0 0), sO 5 (.ptr 1 0), sI 9 .i64 (↑(List.length a12) : Int), sO 10 (.slc 5), sO 11 (.slc 6), sI 12 .i64 r26, sI 15 .i64 r32, sO 16 (.ptr 10 0), sI 17 .i64 r37, sI 18 .i64 r38, hB 0 41 [.int .i64 r_0, .slc 9000], hB 1 41 [.int .i64 tail_3, .slc 9001], hO 5 5 .u8 a20, hV 6 41 (.rc a25), hO 9 5 .u8 a36, hB 10 41 [.int .i64 r35, .slc 9], hR 9000 .u8 r_1, hR 9001 .u8 tail_4] [CallOk P 36 [.v (.one (.slc 5)), .v (.one (.int .i64 (IntKind.i64.wrap ((↑(List.length a12) : Int) + (IntKind.i64.wrap ((1 : Int) + (IntKind.i64.wrap ((IntKind.u64.wrap n_2).tmod (50 : Int)))))))))] [(5, .own 5 .u8 a20)] (.tup [.agg [.int .i64 r35, .slc 9], .one (.int .i64 r37), .one (.int .i64 r38)]) [(9, .own 5 .u8 a36)]] (by kernel_rfl) (hone ((frame_Get_ok a20 (IntKind.i64.wrap ((↑(List.length a12) : Int) + (IntKind.i64.wrap ((1 : Int) + (IntKind.i64.wrap ((IntKind.u64.wrap n_2).tmod (50 : Int))))))) (r35, a36, r37, r38) e39).tr [(9000, .slc 5), (8900, .slc 9)] rfl (by kernel_rfl) ⟨.ownrd (e := 5) (by kernel_rfl), trivial⟩ (by kernel_rfl) (by kernel_rfl) rfl rfl)) ?_
              refine q_k ?_
              refine tr_seq ?_
              rcases ite_split h with ⟨hb41, h⟩ | ⟨hb58, h⟩
              · obtain ⟨b42, e43, h⟩ := bind_some h
                rcases ite_split h with ⟨hb44, h⟩ | ⟨hb57, h⟩
                · rcases ite_split h with ⟨hb45, h⟩ | ⟨hb56, h⟩
                  · rcases ite_split h with ⟨hb46, h⟩ | ⟨hb55, h⟩
                    · rcases ite_split h with ⟨hb47, h⟩ | ⟨hb54, h⟩
                      · obtain ⟨b48, e49, h⟩ := bind_some h
                        rcases ite_split h with ⟨hb50, h⟩ | ⟨hb53, h⟩
                        · obtain ⟨b51, e52, h⟩ := bind_some h
                          refine tr_reg hT [(3, .dec true), (6, .key 11), (7, .call [6, 11] (.v (.one (.bool b42))) []), (9, .dec true), (13, .dec true), (17, .dec true), (23, .dec true), (25, .key 12), (27, .key 13), (28, .call [12, 13] (.v (.one (.bool b48))) []), (30, .dec true), (31, .call [] (.v (.one (.bool b51))) [])] [.s 6] [sB 6 b51] [(r26 == (↑(List.length a12) : Int)) = true, CallOk P 38 [.v (.one (.slc 6)), .v (.one (.slc 11))] [(6, .orows 41 (.rc a25)), (11, .rows (.rc [(r_0, r_1)]))] (.v (.one (.bool b42))) [], b42 = true, (r32 == (3 : Int)) = true, (r38 == (0 : Int)) = true, (r37 == (↑(List.length a20) : Int)) = true, CallOk P 38 [.v (.one (.slc 12)), .v (.one (.slc 13))] [(12, .orows 41 (.rc [(r35, a36)])), (13, .rows (.rc [(tail_3, tail_4)]))] (.v (.one (.bool b48))) [], b48 = true, CallOk P 41 [] [] (.v (.one (.bool b51))) []] (by kernel_rfl) (hcons hb41 (hcons ((keep_Recs_ok a25 [(r_0, r_1)] b42 e43).tr [(9000, .slc 6), (9001, .slc 11)] rfl (by kernel_rfl) ⟨.orowsr (e := 41) (by kernel_rfl), .rows (by kernel_rfl), trivial⟩ (by kernel_rfl) (by kernel_rfl) rfl rfl) (hcons hb44 (hcons hb45 (hcons hb46 (hcons hb47 (hcons ((keep_Recs_ok [(r35, a36)] [(tail_3, tail_4)] b48 e49).tr [(9000, .slc 12), (9001, .slc 13)] rfl (by kernel_rfl) ⟨.orowsr (e := 41) (by kernel_rfl), .rows (by kernel_rfl), trivial⟩ (by kernel_rfl) (by kernel_rfl) rfl rfl) (hcons hb50 (hone (law15_wakes_ok  b51 e52)))))))))) ?_
                          refine q_k ?_
                          refine tr_ret ?_
                          have h := Option.some.inj h
                          subst h
                          refine q_less [.s 6] [sB 6 b51] (by kernel_rfl) ?_
                          exact q_ret1 hT (.v (.one (.bool b51))) [] (by kernel_rfl) (by kernel_rfl) (by kernel_rfl)
                        · refine tr_reg hT [(3, .dec true), (6, .key 11), (7, .call [6, 11] (.v (.one (.bool b42))) []), (9, .dec true), (13, .dec true), (17, .dec true), (23, .dec true), (25, .key 12), (27, .key 13), (28, .call [12, 13] (.v (.one (.bool b48))) []), (30, .dec false)] [.s 6] [sB 6 false] [(r26 == (↑(List.length a12) : Int)) = true, CallOk P 38 [.v (.one (.slc 6)), .v (.one (.slc 11))] [(6, .orows 41 (.rc a25)), (11, .rows (.rc [(r_0, r_1)]))] (.v (.one (.bool b42))) [], b42 = true, (r32 == (3 : Int)) = true, (r38 == (0 : Int)) = true, (r37 == (↑(List.length a20) : Int)) = true, CallOk P 38 [.v (.one (.slc 12)), .v (.one (.slc 13))] [(12, .orows 41 (.rc [(r35, a36)])), (13, .rows (.rc [(tail_3, tail_4)]))] (.v (.one (.bool b48))) [], b48 = false] (by kernel_rfl) (hcons hb41 (hcons ((keep_Recs_ok a25 [(r_0, r_1)] b42 e43).tr [(9000, .slc 6), (9001, .slc 11)] rfl (by kernel_rfl) ⟨.orowsr (e := 41) (by kernel_rfl), .rows (by kernel_rfl), trivial⟩ (by kernel_rfl) (by kernel_rfl) rfl rfl) (hcons hb44 (hcons hb45 (hcons hb46 (hcons hb47 (hcons ((keep_Recs_ok [(r35, a36)] [(tail_3, tail_4)] b48 e49).tr [(9000, .slc 12), (9001, .slc 13)] rfl (by kernel_rfl) ⟨.orowsr (e := 41) (by kernel_rfl), .rows (by kernel_rfl), trivial⟩ (by kernel_rfl) (by kernel_rfl) rfl rfl) (hone hb53)))))))) ?_
                          refine q_k ?_
                          refine tr_ret ?_
                          have h := Option.some.inj h
                          subst h
                          refine q_less [.s 6] [sB 6 false] (by kernel_rfl) ?_
                          exact q_ret1 hT (.v (.one (.bool false))) [] (by kernel_rfl) (by kernel_rfl) (by kernel_rfl)
                      · refine tr_reg hT [(3, .dec true), (6, .key 11), (7, .call [6, 11] (.v (.one (.bool b42))) []), (9, .dec true), (13, .dec true), (17, .dec true), (23, .dec false)] [.s 6] [sB 6 false] [(r26 == (↑(List.length a12) : Int)) = true, CallOk P 38 [.v (.one (.slc 6)), .v (.one (.slc 11))] [(6, .orows 41 (.rc a25)), (11, .rows (.rc [(r_0, r_1)]))] (.v (.one (.bool b42))) [], b42 = true, (r32 == (3 : Int)) = true, (r38 == (0 : Int)) = true, (r37 == (↑(List.length a20) : Int)) = false] (by kernel_rfl) (hcons hb41 (hcons ((keep_Recs_ok a25 [(r_0, r_1)] b42 e43).tr [(9000, .slc 6), (9001, .slc 11)] rfl (by kernel_rfl) ⟨.orowsr (e := 41) (by kernel_rfl), .rows (by kernel_rfl), trivial⟩ (by kernel_rfl) (by kernel_rfl) rfl rfl) (hcons hb44 (hcons hb45 (hcons hb46 (hone hb54)))))) ?_
                        refine q_k ?_
                        refine tr_ret ?_
                        have h := Option.some.inj h
                        subst h
                        refine q_less [.s 6] [sB 6 false] (by kernel_rfl) ?_
                        exact q_ret1 hT (.v (.one (.bool false))) [] (by kernel_rfl) (by kernel_rfl) (by kernel_rfl)
                    · refine tr_reg hT [(3, .dec true), (6, .key 11), (7, .call [6, 11] (.v (.one (.bool b42))) []), (9, .dec true), (13, .dec true), (17, .dec false)] [.s 6] [sB 6 false] [(r26 == (↑(List.length a12) : Int)) = true, CallOk P 38 [.v (.one (.slc 6)), .v (.one (.slc 11))] [(6, .orows 41 (.rc a25)), (11, .rows (.rc [(r_0, r_1)]))] (.v (.one (.bool b42))) [], b42 = true, (r32 == (3 : Int)) = true, (r38 == (0 : Int)) = false] (by kernel_rfl) (hcons hb41 (hcons ((keep_Recs_ok a25 [(r_0, r_1)] b42 e43).tr [(9000, .slc 6), (9001, .slc 11)] rfl (by kernel_rfl) ⟨.orowsr (e := 41) (by kernel_rfl), .rows (by kernel_rfl), trivial⟩ (by kernel_rfl) (by kernel_rfl) rfl rfl) (hcons hb44 (hcons hb45 (hone hb55))))) ?_
                      refine q_k ?_
                      refine tr_ret ?_
                      have h := Option.some.inj h
                      subst h
                      refine q_less [.s 6] [sB 6 false] (by kernel_rfl) ?_
                      exact q_ret1 hT (.v (.one (.bool false))) [] (by kernel_rfl) (by kernel_rfl) (by kernel_rfl)
                  · refine tr_reg hT [(3, .dec true), (6, .key 11), (7, .call [6, 11] (.v (.one (.bool b42))) []), (9, .dec true), (13, .dec false)] [.s 6] [sB 6 false] [(r26 == (↑(List.length a12) : Int)) = true, CallOk P 38 [.v (.one (.slc 6)), .v (.one (.slc 11))] [(6, .orows 41 (.rc a25)), (11, .rows (.rc [(r_0, r_1)]))] (.v (.one (.bool b42))) [], b42 = true, (r32 == (3 : Int)) = false] (by kernel_rfl) (hcons hb41 (hcons ((keep_Recs_ok a25 [(r_0, r_1)] b42 e43).tr [(9000, .slc 6), (9001, .slc 11)] rfl (by kernel_rfl) ⟨.orowsr (e := 41) (by kernel_rfl), .rows (by kernel_rfl), trivial⟩ (by kernel_rfl) (by kernel_rfl) rfl rfl) (hcons hb44 (hone hb56)))) ?_
                    refine q_k ?_
                    refine tr_ret ?_
                    have h := Option.some.inj h
                    subst h
                    refine q_less [.s 6] [sB 6 false] (by kernel_rfl) ?_
                    exact q_ret1 hT (.v (.one (.bool false))) [] (by kernel_rfl) (by kernel_rfl) (by kernel_rfl)
                · refine tr_reg hT [(3, .dec true), (6, .key 11), (7, .call [6, 11] (.v (.one (.bool b42))) []), (9, .dec false)] [.s 6] [sB 6 false] [(r26 == (↑(List.length a12) : Int)) = true, CallOk P 38 [.v (.one (.slc 6)), .v (.one (.slc 11))] [(6, .orows 41 (.rc a25)), (11, .rows (.rc [(r_0, r_1)]))] (.v (.one (.bool b42))) [], b42 = false] (by kernel_rfl) (hcons hb41 (hcons ((keep_Recs_ok a25 [(r_0, r_1)] b42 e43).tr [(9000, .slc 6), (9001, .slc 11)] rfl (by kernel_rfl) ⟨.orowsr (e := 41) (by kernel_rfl), .rows (by kernel_rfl), trivial⟩ (by kernel_rfl) (by kernel_rfl) rfl rfl) (hone hb57))) ?_
                  refine q_k ?_
                  refine tr_ret ?_
                  have h := Option.some.inj h
                  subst h
                  refine q_less [.s 6] [sB 6 false] (by kernel_rfl) ?_
                  exact q_ret1 hT (.v (.one (.bool false))) [] (by kernel_rfl) (by kernel_rfl) (by kernel_rfl)
              · refine tr_reg hT [(3, .dec false)] [.s 6] [sB 6 false] [(r26 == (↑(List.length a12) : Int)) = false] (by kernel_rfl) (hone hb58) ?_
                refine q_k ?_
                refine tr_ret ?_
                have h := Option.some.inj h
                subst h
                refine q_less [.s 6] [sB 6 false] (by kernel_rfl) ?_
                exact q_ret1 hT (.v (.one (.bool false))) [] (by kernel_rfl) (by kernel_rfl) (by kernel_rfl)

theorem law15_FrameRest_ok (a_0 : List Int) (r_1 : Int) (r_2 : List Int) (c_3 : List Int) (r : Bool) (h : law15_FrameRest a_0 r_1 r_2 c_3 = some r) : CallOk P 17 [.v (.one (.slc 9000)), .v (.agg [.int .i64 r_1, .slc 9001]), .v (.one (.slc 9002))] [(9000, .rd .u8 a_0), (9001, .rd .u8 r_2), (9002, .rd .u8 c_3)] (.v (.one (.bool r))) [] := by
  refine call1 (N := 144) Try.func17 (by kernel_rfl) rfl rfl rfl [(9000, .rd .u8 a_0), (9001, .rd .u8 r_2), (9002, .rd .u8 c_3)] (by kernel_rfl) ?_
  intro _ B w0
  show Tr P B 144 w0 _ _ (RetQ P Try.f17 (R1 _ _ B w0))
  unfold law15_FrameRest at h
  refine tr_seq ?_
  refine tr_reg hT [(0, .key 0)] [.s 0, .s 2, .s 4, .h 0, .h 9000, .h 9001, .h 9002] [sO 0 (.slc 9000), sO 2 (.slc 9002), sO 4 (.ptr 0 0), hB 0 41 [.int .i64 r_1, .slc 9001], hR 9000 .u8 a_0, hR 9001 .u8 r_2, hR 9002 .u8 c_3] [] (by kernel_rfl) trivial ?_
  refine q_k ?_
  refine tr_seq ?_
  refine tr_seq ?_
  rcases ite_split h with ⟨hb1, h⟩ | ⟨hb2, h⟩
  · refine tr_reg hT [(3, .dec true)] [.s 0, .s 2, .s 4, .s 38, .h 0, .h 9000, .h 9001, .h 9002] [sO 0 (.slc 9000), sO 2 (.slc 9002), sO 4 (.ptr 0 0), sB 38 true, hB 0 41 [.int .i64 r_1, .slc 9001], hR 9000 .u8 a_0, hR 9001 .u8 r_2, hR 9002 .u8 c_3] [(decide ((↑(List.length a_0) : Int) > (300 : Int))) = true] (by kernel_rfl) (hone hb1) ?_
    refine q_k ?_
    refine tr_cond_t true (by kernel_rfl) rfl ?_
    refine tr_seq ?_
    refine tr_reg hT [] [.s 6] [sB 6 true] [] (by kernel_rfl) trivial ?_
    refine q_k ?_
    refine tr_ret ?_
    refine q_k_ret ?_
    have h := Option.some.inj h
    subst h
    refine q_less [.s 6] [sB 6 true] (by kernel_rfl) ?_
    exact q_ret1 hT (.v (.one (.bool true))) [] (by kernel_rfl) (by kernel_rfl) (by kernel_rfl)
  · rcases ite_split h with ⟨hb3, h⟩ | ⟨hb4, h⟩
    · refine tr_reg hT [(3, .dec false), (8, .dec true)] [.s 0, .s 2, .s 4, .s 38, .h 0, .h 9000, .h 9001, .h 9002] [sO 0 (.slc 9000), sO 2 (.slc 9002), sO 4 (.ptr 0 0), sB 38 true, hB 0 41 [.int .i64 r_1, .slc 9001], hR 9000 .u8 a_0, hR 9001 .u8 r_2, hR 9002 .u8 c_3] [(decide ((↑(List.length a_0) : Int) > (300 : Int))) = false, (decide ((↑(List.length c_3) : Int) > (300 : Int))) = true] (by kernel_rfl) (hcons hb2 (hone hb3)) ?_
      refine q_k ?_
      refine tr_cond_t true (by kernel_rfl) rfl ?_
      refine tr_seq ?_
      refine tr_reg hT [] [.s 6] [sB 6 true] [] (by kernel_rfl) trivial ?_
      refine q_k ?_
      refine tr_ret ?_
      refine q_k_ret ?_
      have h := Option.some.inj h
      subst h
      refine q_less [.s 6] [sB 6 true] (by kernel_rfl) ?_
      exact q_ret1 hT (.v (.one (.bool true))) [] (by kernel_rfl) (by kernel_rfl) (by kernel_rfl)
    · rcases ite_split h with ⟨hb5, h⟩ | ⟨hb6, h⟩
      · refine tr_reg hT [(3, .dec false), (8, .dec false), (14, .dec true)] [.s 0, .s 2, .s 4, .s 38, .h 0, .h 9000, .h 9001, .h 9002] [sO 0 (.slc 9000), sO 2 (.slc 9002), sO 4 (.ptr 0 0), sB 38 true, hB 0 41 [.int .i64 r_1, .slc 9001], hR 9000 .u8 a_0, hR 9001 .u8 r_2, hR 9002 .u8 c_3] [(decide ((↑(List.length a_0) : Int) > (300 : Int))) = false, (decide ((↑(List.length c_3) : Int) > (300 : Int))) = false, (decide ((↑(List.length r_2) : Int) > (300 : Int))) = true] (by kernel_rfl) (hcons hb2 (hcons hb4 (hone hb5))) ?_
        refine q_k ?_
        refine tr_cond_t true (by kernel_rfl) rfl ?_
        refine tr_seq ?_
        refine tr_reg hT [] [.s 6] [sB 6 true] [] (by kernel_rfl) trivial ?_
        refine q_k ?_
        refine tr_ret ?_
        refine q_k_ret ?_
        have h := Option.some.inj h
        subst h
        refine q_less [.s 6] [sB 6 true] (by kernel_rfl) ?_
        exact q_ret1 hT (.v (.one (.bool true))) [] (by kernel_rfl) (by kernel_rfl) (by kernel_rfl)
      · obtain ⟨r7, e8, h⟩ := bind_some h
        refine tr_reg hT [(3, .dec false), (8, .dec false), (14, .dec false), (16, .call [9001] (.v (.one (.int .i64 r7))) [])] [.s 0, .s 2, .s 4, .s 38, .h 0, .h 9000, .h 9001, .h 9002] [sO 0 (.slc 9000), sO 2 (.slc 9002), sO 4 (.ptr 0 0), sB 38 (r7 != (0 : Int)), hB 0 41 [.int .i64 r_1, .slc 9001], hR 9000 .u8 a_0, hR 9001 .u8 r_2, hR 9002 .u8 c_3] [(decide ((↑(List.length a_0) : Int) > (300 : Int))) = false, (decide ((↑(List.length c_3) : Int) > (300 : Int))) = false, (decide ((↑(List.length r_2) : Int) > (300 : Int))) = false, CallOk P 33 [.v (.agg [.int .i64 r_1, .slc 9001])] [(9001, .rd .u8 r_2)] (.v (.one (.int .i64 r7))) []] (by kernel_rfl) (hcons hb2 (hcons hb4 (hcons hb6 (hone ((ref14_Rec_ok r_1 r_2 r7 e8).tr [(9000, .slc 9001)] rfl (by kernel_rfl) ⟨.rd (by kernel_rfl), trivial⟩ (by kernel_rfl) (by kernel_rfl) rfl rfl))))) ?_
        refine q_k ?_
        rcases ite_split h with ⟨hc9, h⟩ | ⟨hc9, h⟩
        · refine tr_cond_t (r7 != (0 : Int)) (by kernel_rfl) hc9 ?_
          refine tr_seq ?_
          refine tr_reg hT [] [.s 6] [sB 6 true] [] (by kernel_rfl) trivial ?_
          refine q_k ?_
          refine tr_ret ?_
          refine q_k_ret ?_
          have h := Option.some.inj h
          subst h
          refine q_less [.s 6] [sB 6 true] (by kernel_rfl) ?_
          exact q_ret1 hT (.v (.one (.bool true))) [] (by kernel_rfl) (by kernel_rfl) (by kernel_rfl)
        · refine tr_cond_f (r7 != (0 : Int)) (by kernel_rfl) hc9 ?_
          refine tr_skip ?_
          refine q_k ?_
          refine tr_seq ?_
          obtain ⟨⟨a10, r11⟩, e12, h⟩ := bind_some h
          refine tr_reg hT [(2, .call [9000, 9001] (.tup [.one (.slc 1), .one (.int .i64 r11)]) [(1, .own 5 .u8 a10)])] [.s 0, .s 2, .s 4, .s 7, .s 8, .h 0, .h 1, .h 9000, .h 9001, .h 9002] [sO 0 (.slc 9000), sO 2 (.slc 9002), sO 4 (.ptr 0 0), sO 7 (.slc 1), sI 8 .i64 r11, hB 0 41 [.int .i64 r_1, .slc 9001], hO 1 5 .u8 a10, hR 9000 .u8 a_0, hR 9001 .u8 r_2, hR 9002 .u8 c_3] [CallOk P 32 [.v (.one (.slc 9000)), .v (.agg [.int .i64 r_1, .slc 9001])] [(9000, .rd .u8 a_0), (9001, .rd .u8 r_2)] (.tup [.one (.slc 1), .one (.int .i64 r11)]) [(1, .own 5 .u8 a10)]] (by kernel_rfl) (hone ((frame_Put_ok a_0 r_1 r_2 (a10, r11) e12).tr [(9000, .slc 9000), (9001, .slc 9001), (8900, .slc 1)] rfl (by kernel_rfl) ⟨.rd (by kernel_rfl), .rd (by kernel_rfl), trivial⟩ (by kernel_rfl) (by kernel_rfl) rfl rfl)) ?_
          refine q_k ?_
          refine tr_seq ?_
          refine tr_seq ?_
          refine tr_fit [] [sO 0 (.slc 9000), sO 2 (.slc 9002), sO 4 (.ptr 0 0), sO 7 (.slc 1), sI 8 .i64 r11, hB 0 41 [.int .i64 r_1, .slc 9001], hR 1 .u8 a10, hR 9000 .u8 a_0, hR 9001 .u8 r_2, hR 9002 .u8 c_3] [(0, .blk 41 [.int .i64 r_1, .slc 9001]), (1, .rd .u8 a10), (9000, .rd .u8 a_0), (9001, .rd .u8 r_2), (9002, .rd .u8 c_3)] (by kernel_rfl) (by kernel_rfl) (by kernel_rfl) rfl ⟨.blk (by kernel_rfl) (by kernel_rfl), .ownrd (e := 5) (by kernel_rfl), .rd (by kernel_rfl), .rd (by kernel_rfl), .rd (by kernel_rfl), trivial⟩ (by kernel_rfl) ?_
          rcases ite_split h with ⟨hb14, h⟩ | ⟨hb15, h⟩
          · refine tr_reg hT [(2, .dec true)] [.s 0, .s 2, .s 4, .s 7, .s 62, .h 0, .h 1, .h 9000, .h 9001, .h 9002] [sO 0 (.slc 9000), sO 2 (.slc 9002), sO 4 (.ptr 0 0), sO 7 (.slc 1), sB 62 true, hB 0 41 [.int .i64 r_1, .slc 9001], hR 1 .u8 a10, hR 9000 .u8 a_0, hR 9001 .u8 r_2, hR 9002 .u8 c_3] [(r11 != (0 : Int)) = true] (by kernel_rfl) (hone hb14) ?_
            refine q_k ?_
            refine tr_cond_t true (by kernel_rfl) rfl ?_
            refine tr_seq ?_
            refine tr_reg hT [] [.s 6] [sB 6 false] [] (by kernel_rfl) trivial ?_
            refine q_k ?_
            refine tr_ret ?_
            refine q_k_ret ?_
            have h := Option.some.inj h
            subst h
            refine q_less [.s 6] [sB 6 false] (by kernel_rfl) ?_
            exact q_ret1 hT (.v (.one (.bool false))) [] (by kernel_rfl) (by kernel_rfl) (by kernel_rfl)
          · rcases ite_split h with ⟨hb16, h⟩ | ⟨hb17, h⟩
            · refine tr_reg hT [(2, .dec false), (9, .dec true)] [.s 0, .s 2, .s 4, .s 7, .s 62, .h 0, .h 1, .h 9000, .h 9001, .h 9002] [sO 0 (.slc 9000), sO 2 (.slc 9002), sO 4 (.ptr 0 0), sO 7 (.slc 1), sB 62 true, hB 0 41 [.int .i64 r_1, .slc 9001], hR 1 .u8 a10, hR 9000 .u8 a_0, hR 9001 .u8 r_2, hR 9002 .u8 c_3] [(r11 != (0 : Int)) = false, (decide ((↑(List.length a10) : Int) < (↑(List.length a_0) : Int))) = true] (by kernel_rfl) (hcons hb15 (hone hb16)) ?_
              refine q_k ?_
              refine tr_cond_t true (by kernel_rfl) rfl ?_
              refine tr_seq ?_
              refine tr_reg hT [] [.s 6] [sB 6 false] [] (by kernel_rfl) trivial ?_
              refine q_k ?_
              refine tr_ret ?_
              refine q_k_ret ?_
              have h := Option.some.inj h
              subst h
              refine q_less [.s 6] [sB 6 false] (by kernel_rfl) ?_
              exact q_ret1 hT (.v (.one (.bool false))) [] (by kernel_rfl) (by kernel_rfl) (by kernel_rfl)
            · obtain ⟨hn18, h⟩ := ite_some h
              obtain ⟨b19, e20, h⟩ := bind_some h
              refine tr_reg hT [(2, .dec false), (9, .dec false), (13, .key 2), (15, .call [2, 9000] (.v (.one (.bool b19))) [])] [.s 0, .s 2, .s 4, .s 7, .s 62, .h 0, .h 1, .h 9000, .h 9001, .h 9002] [sO 0 (.slc 9000), sO 2 (.slc 9002), sO 4 (.ptr 0 0), sO 7 (.slc 1), sB 62 (!b19), hB 0 41 [.int .i64 r_1, .slc 9001], hR 1 .u8 a10, hR 9000 .u8 a_0, hR 9001 .u8 r_2, hR 9002 .u8 c_3] [(r11 != (0 : Int)) = false, (decide ((↑(List.length a10) : Int) < (↑(List.length a_0) : Int))) = false, 0 ≤ (0 : Int) ∧ (0 : Int) ≤ (↑(List.length a_0) : Int) ∧ (↑(List.length a_0) : Int) ≤ (↑(List.length a10) : Int), CallOk P 26 [.v (.one (.slc 2)), .v (.one (.slc 9000))] [(2, .rd .u8 ((a10.take ((↑(List.length a_0) : Int).toNat)).drop 0)), (9000, .rd .u8 a_0)] (.v (.one (.bool b19))) []] (by kernel_rfl) (hcons hb15 (hcons hb17 (hcons hn18 (hone ((keep_Bytes_ok ((a10.take ((↑(List.length a_0) : Int).toNat)).drop 0) a_0 b19 e20).tr [(9000, .slc 2), (9001, .slc 9000)] rfl (by kernel_rfl) ⟨.rd (by kernel_rfl), .rd (by kernel_rfl), trivial⟩ (by kernel_rfl) (by kernel_rfl) rfl rfl))))) ?_
              refine q_k ?_
              rcases ite_split h with ⟨hc21, h⟩ | ⟨hc21, h⟩
              · refine tr_cond_t (!b19) (by kernel_rfl) hc21 ?_
                refine tr_seq ?_
                refine tr_reg hT [] [.s 6] [sB 6 false] [] (by kernel_rfl) trivial ?_
                refine q_k ?_
                refine tr_ret ?_
                refine q_k_ret ?_
                have h := Option.some.inj h
                subst h
                refine q_less [.s 6] [sB 6 false] (by kernel_rfl) ?_
                exact q_ret1 hT (.v (.one (.bool false))) [] (by kernel_rfl) (by kernel_rfl) (by kernel_rfl)
              · refine tr_cond_f (!b19) (by kernel_rfl) hc21 ?_
                refine tr_skip ?_
                refine q_k ?_
                refine tr_seq ?_
                obtain ⟨a22, e23, h⟩ := bind_some h
                obtain ⟨hn24, h⟩ := ite_some h
                obtain ⟨⟨r25, a26, r27, r28⟩, e29, h⟩ := bind_some h
                refine tr_reg hT [(1, .call [1] (.v (.one (.slc 3))) [(3, .own 5 .u8 a22)]), (3, .key 4), (6, .call [4] (.tup [.agg [.int .i64 r25, .slc 5], .one (.int .i64 r27), .one (.int .i64 r28)]) [(5, .own 5 .u8 a26)]), (11, .key 6)] [.s 0, .s 4, .s 7, .s 8, .s 9, .s 10, .h 0, .h 1, .h 5, .h 6, .h 9000, .h 9001] [sO 0 (.slc 9000), sO 4 (.ptr 0 0), sO 7 (.slc 1), sI 8 .i64 r28, sO 9 (.ptr 6 0), sI 10 .i64 r27, hB 0 41 [.int .i64 r_1, .slc 9001], hR 1 .u8 a10, hO 5 5 .u8 a26, hB 6 41 [.int .i64 r25, .slc 5], hR 9000 .u8 a_0, hR 9001 .u8 r_2] [CallOk P 23 [.v (.one (.slc 1))] [(1, .rd .u8 a10)] (.v (.one (.slc 3))) [(3, .own 5 .u8 a22)], List.length (a22 ++ c_3) ≤ maxN, CallOk P 36 [.v (.one (.slc 4)), .v (.one (.int .i64 (↑(List.length a_0) : Int)))] [(4, .own 5 .u8 (a22 ++ c_3))] (.tup [.agg [.int .i64 r25, .slc 5], .one (.int .i64 r27), .one (.int .i64 r28)]) [(5, .own 5 .u8 a26)]] (by kernel_rfl) (hcons ((keep_Twin_ok a10 a22 e23).tr [(9000, .slc 1), (8900, .slc 3)] rfl (by kernel_rfl) ⟨.rd (by kernel_rfl), trivial⟩ (by kernel_rfl) (by kernel_rfl) rfl rfl) (hcons hn24 (hone ((frame_Get_ok (a22 ++ c_3) (↑(List.length a_0) : Int) (r25, a26, r27, r28) e29).tr [(9000, .slc 4), (8900, .slc 5)] rfl (by kernel_rfl) ⟨.ownrd (e := 5) (by kernel_rfl), trivial⟩ (by kernel_rfl) (by kernel_rfl) rfl rfl)))) ?_
                refine q_k ?_
                refine tr_seq ?_
                obtain ⟨hn31, h⟩ := ite_some h
                obtain ⟨⟨r32, a33, r34, r35⟩, e36, h⟩ := bind_some h
                refine tr_reg hT [(3, .key 7), (4, .call [7] (.tup [.agg [.int .i64 r32, .slc 8], .one (.int .i64 r34), .one (.int .i64 r35)]) [(8, .own 5 .u8 a33)]), (9, .key 9)] [.s 0, .s 4, .s 7, .s 8, .s 9, .s 10, .s 11, .s 12, .s 13, .h 0, .h 1, .h 5, .h 6, .h 8, .h 9, .h 9000, .h 9001] [sO 0 (.slc 9000), sO 4 (.ptr 0 0), sO 7 (.slc 1), sI 8 .i64 r28, sO 9 (.ptr 6 0), sI 10 .i64 r27, sO 11 (.ptr 9 0), sI 12 .i64 r34, sI 13 .i64 r35, hB 0 41 [.int .i64 r_1, .slc 9001], hR 1 .u8 a10, hO 5 5 .u8 a26, hB 6 41 [.int .i64 r25, .slc 5], hO 8 5 .u8 a33, hB 9 41 [.int .i64 r32, .slc 8], hR 9000 .u8 a_0, hR 9001 .u8 r_2] [0 ≤ (↑(List.length a_0) : Int) ∧ (↑(List.length a_0) : Int) ≤ (↑(List.length a10) : Int) ∧ (↑(List.length a10) : Int) ≤ (↑(List.length a10) : Int), CallOk P 36 [.v (.one (.slc 7)), .v (.one (.int .i64 (0 : Int)))] [(7, .rd .u8 ((a10.take (((↑(List.length a10) : Int)).toNat)).drop (↑(List.length a_0) : Int).toNat))] (.tup [.agg [.int .i64 r32, .slc 8], .one (.int .i64 r34), .one (.int .i64 r35)]) [(8, .own 5 .u8 a33)]] (by kernel_rfl) (hcons hn31 (hone ((frame_Get_ok ((a10.take (((↑(List.length a10) : Int)).toNat)).drop (↑(List.length a_0) : Int).toNat) (0 : Int) (r32, a33, r34, r35) e36).tr [(9000, .slc 7), (8900, .slc 8)] rfl (by kernel_rfl) ⟨.rd (by kernel_rfl), trivial⟩ (by kernel_rfl) (by kernel_rfl) rfl rfl))) ?_
                refine q_k ?_
                refine tr_seq ?_
                obtain ⟨⟨r38, a39, r40, r41⟩, e42, h⟩ := bind_some h
                refine tr_reg hT [(4, .call [1] (.tup [.agg [.int .i64 r38, .slc 10], .one (.int .i64 r40), .one (.int .i64 r41)]) [(10, .own 5 .u8 a39)]), (9, .key 11)] [.s 0, .s 4, .s 7, .s 8, .s 9, .s 10, .s 11, .s 12, .s 13, .s 16, .h 0, .h 1, .h 5, .h 6, .h 8, .h 9, .h 9000, .h 9001] [sO 0 (.slc 9000), sO 4 (.ptr 0 0), sO 7 (.slc 1), sI 8 .i64 r28, sO 9 (.ptr 6 0), sI 10 .i64 r27, sO 11 (.ptr 9 0), sI 12 .i64 r34, sI 13 .i64 r35, sI 16 .i64 r41, hB 0 41 [.int .i64 r_1, .slc 9001], hR 1 .u8 a10, hO 5 5 .u8 a26, hB 6 41 [.int .i64 r25, .slc 5], hO 8 5 .u8 a33, hB 9 41 [.int .i64 r32, .slc 8], hR 9000 .u8 a_0, hR 9001 .u8 r_2] [CallOk P 36 [.v (.one (.slc 1)), .v (.one (.int .i64 (IntKind.i64.wrap ((↑(List.length a10) : Int) + (1 : Int)))))] [(1, .rd .u8 a10)] (.tup [.agg [.int .i64 r38, .slc 10], .one (.int .i64 r40), .one (.int .i64 r41)]) [(10, .own 5 .u8 a39)]] (by kernel_rfl) (hone ((frame_Get_ok a10 (IntKind.i64.wrap ((↑(List.length a10) : Int) + (1 : Int))) (r38, a39, r40, r41) e42).tr [(9000, .slc 1), (8900, .slc 10)] rfl (by kernel_rfl) ⟨.rd (by kernel_rfl), trivial⟩ (by kernel_rfl) (by kernel_rfl) rfl rfl)) ?_
                refine q_k ?_
                refine tr_seq ?_
                obtain ⟨⟨r44, a45, r46, r47⟩, e48, h⟩ := bind_some h
                refine tr_reg hT [(1, .call [1] (.tup [.agg [.int .i64 r44, .slc 12], .one (.int .i64 r46), .one (.int .i64 r47)]) [(12, .own 5 .u8 a45)]), (6, .key 13)] [.s 0, .s 4, .s 7, .s 8, .s 9, .s 10, .s 11, .s 12, .s 13, .s 16, .s 19, .h 0, .h 1, .h 5, .h 6, .h 8, .h 9, .h 9000, .h 9001] [sO 0 (.slc 9000), sO 4 (.ptr 0 0), sO 7 (.slc 1), sI 8 .i64 r28, sO 9 (.ptr 6 0), sI 10 .i64 r27, sO 11 (.ptr 9 0), sI 12 .i64 r34, sI 13 .i64 r35, sI 16 .i64 r41, sI 19 .i64 r47, hB 0 41 [.int .i64 r_1, .slc 9001], hR 1 .u8 a10, hO 5 5 .u8 a26, hB 6 41 [.int .i64 r25, .slc 5], hO 8 5 .u8 a33, hB 9 41 [.int .i64 r32, .slc 8], hR 9000 .u8 a_0, hR 9001 .u8 r_2] [CallOk P 36 [.v (.one (.slc 1)), .v (.one (.int .i64 (-1 : Int)))] [(1, .rd .u8 a10)] (.tup [.agg [.int .i64 r44, .slc 12], .one (.int .i64 r46), .one (.int .i64 r47)]) [(12, .own 5 .u8 a45)]] (by kernel_rfl) (hone ((frame_Get_ok a10 (-1 : Int) (r44, a45, r46, r47) e48).tr [(9000, .slc 1), (8900, .slc 12)] rfl (by kernel_rfl) ⟨.rd (by kernel_rfl), trivial⟩ (by kernel_rfl) (by kernel_rfl) rfl rfl)) ?_
                refine q_k ?_
                refine tr_seq ?_
                rcases ite_split h with ⟨hb50, h⟩ | ⟨hb71, h⟩
                · rcases ite_split h with ⟨hb51, h⟩ | ⟨hb70, h⟩
                  · rcases ite_split h with ⟨hb52, h⟩ | ⟨hb69, h⟩
                    · rcases ite_split h with ⟨hb53, h⟩ | ⟨hb68, h⟩
                      · rcases ite_split h with ⟨hb54, h⟩ | ⟨hb67, h⟩
                        · rcases ite_split h with ⟨hb55, h⟩ | ⟨hb66, h⟩
                          · obtain ⟨b56, e57, h⟩ := bind_some h
                            rcases ite_split h with ⟨hb58, h⟩ | ⟨hb65, h⟩
                            · obtain ⟨b59, e60, h⟩ := bind_some h
                              rcases ite_split h with ⟨hb61, h⟩ | ⟨hb64, h⟩
                              · obtain ⟨b62, e63, h⟩ := bind_some h
                                refine tr_reg hT [(2, .dec true), (6, .dec true), (10, .dec true), (14, .dec true), (20, .dec true), (29, .dec true), (31, .key 14), (33, .key 15), (34, .call [14, 15] (.v (.one (.bool b56))) []), (36, .dec true), (38, .key 16), (40, .key 17), (41, .call [16, 17] (.v (.one (.bool b59))) []), (43, .dec true), (44, .call [] (.v (.one (.bool b62))) [])] [.s 6] [sB 6 b62] [(r28 == (0 : Int)) = true, (r35 == (0 : Int)) = true, (r41 == (1 : Int)) = true, (r47 == (1 : Int)) = true, (r27 == (↑(List.length a10) : Int)) = true, (r34 == (IntKind.i64.wrap ((↑(List.length a10) : Int) - (↑(List.length a_0) : Int)))) = true, CallOk P 38 [.v (.one (.slc 14)), .v (.one (.slc 15))] [(14, .orows 41 (.rc [(r25, a26)])), (15, .orows 41 (.rc [(r32, a33)]))] (.v (.one (.bool b56))) [], b56 = true, CallOk P 38 [.v (.one (.slc 16)), .v (.one (.slc 17))] [(16, .rows (.rc [(r25, a26)])), (17, .rows (.rc [(r_1, r_2)]))] (.v (.one (.bool b59))) [], b59 = true, CallOk P 41 [] [] (.v (.one (.bool b62))) []] (by kernel_rfl) (hcons hb50 (hcons hb51 (hcons hb52 (hcons hb53 (hcons hb54 (hcons hb55 (hcons ((keep_Recs_ok [(r25, a26)] [(r32, a33)] b56 e57).tr [(9000, .slc 14), (9001, .slc 15)] rfl (by kernel_rfl) ⟨.orowsr (e := 41) (by kernel_rfl), .orowsr (e := 41) (by kernel_rfl), trivial⟩ (by kernel_rfl) (by kernel_rfl) rfl rfl) (hcons hb58 (hcons ((keep_Recs_ok [(r25, a26)] [(r_1, r_2)] b59 e60).tr [(9000, .slc 16), (9001, .slc 17)] rfl (by kernel_rfl) ⟨.rows (by kernel_rfl), .rows (by kernel_rfl), trivial⟩ (by kernel_rfl) (by kernel_rfl) rfl rfl) (hcons hb61 (hone (law15_wakes_ok  b62 e63)))))))))))) ?_
                                refine q_k ?_
                                refine tr_ret ?_
                                have h := Option.some.inj h
                                subst h
                                refine q_less [.s 6] [sB 6 b62] (by kernel_rfl) ?_
                                exact q_ret1 hT (.v (.one (.bool b62))) [] (by kernel_rfl) (by kernel_rfl) (by kernel_rfl)
                              · refine tr_reg hT [(2, .dec true), (6, .dec true), (10, .dec true), (14, .dec true), (20, .dec true), (29, .dec true), (31, .key 14), (33, .key 15), (34, .call [14, 15] (.v (.one (.bool b56))) []), (36, .dec true), (38, .key 16), (40, .key 17), (41, .call [16, 17] (.v (.one (.bool b59))) []), (43, .dec false)] [.s 6] [sB 6 false] [(r28 == (0 : Int)) = true, (r35 == (0 : Int)) = true, (r41 == (1 : Int)) = true, (r47 == (1 : Int)) = true, (r27 == (↑(List.length a10) : Int)) = true, (r34 == (IntKind.i64.wrap ((↑(List.length a10) : Int) - (↑(List.length a_0) : Int)))) = true, CallOk P 38 [.v (.one (.slc 14)), .v (.one (.slc 15))] [(14, .orows 41 (.rc [(r25, a26)])), (15, .orows 41 (.rc [(r32, a33)]))] (.v (.one (.bool b56))) [], b56 = true, CallOk P 38 [.v (.one (.slc 16)), .v (.one (.slc 17))] [(16, .rows (.rc [(r25, a26)])), (17, .rows (.rc [(r_1, r_2)]))] (.v (.one (.bool b59))) [], b59 = false] (by kernel_rfl) (hcons hb50 (hcons hb51 (hcons hb52 (hcons hb53 (hcons hb54 (hcons hb55 (hcons ((keep_Recs_ok [(r25, a26)] [(r32, a33)] b56 e57).tr [(9000, .slc 14), (9001, .slc 15)] rfl (by kernel_rfl) ⟨.orowsr (e := 41) (by kernel_rfl), .orowsr (e := 41) (by kernel_rfl), trivial⟩ (by kernel_rfl) (by kernel_rfl) rfl rfl) (hcons hb58 (hcons ((keep_Recs_ok [(r25, a26)] [(r_1, r_2)] b59 e60).tr [(9000, .slc 16), (9001, .slc 17)] rfl (by kernel_rfl) ⟨.rows (by kernel_rfl), .rows (by kernel_rfl), trivial⟩ (by kernel_rfl) (by kernel_rfl) rfl rfl) (hone hb64)))))))))) ?_
                                refine q_k ?_
                                refine tr_ret ?_
                                have h := Option.some.inj h
                                subst h
                                refine q_less [.s 6] [sB 6 false] (by kernel_rfl) ?_
                                exact q_ret1 hT (.v (.one (.bool false))) [] (by kernel_rfl) (by kernel_rfl) (by kernel_rfl)
                            · refine tr_reg hT [(2, .dec true), (6, .dec true), (10, .dec true), (14, .dec true), (20, .dec true), (29, .dec true), (31, .key 14), (33, .key 15), (34, .call [14, 15] (.v (.one (.bool b56))) []), (36, .dec false)] [.s 6] [sB 6 false] [(r28 == (0 : Int)) = true, (r35 == (0 : Int)) = true, (r41 == (1 : Int)) = true, (r47 == (1 : Int)) = true, (r27 == (↑(List.length a10) : Int)) = true, (r34 == (IntKind.i64.wrap ((↑(List.length a10) : Int) - (↑(List.length a_0) : Int)))) = true, CallOk P 38 [.v (.one (.slc 14)), .v (.one (.slc 15))] [(14, .orows 41 (.rc [(r25, a26)])), (15, .orows 41 (.rc [(r32, a33)]))] (.v (.one (.bool b56))) [], b56 = false] (by kernel_rfl) (hcons hb50 (hcons hb51 (hcons hb52 (hcons hb53 (hcons hb54 (hcons hb55 (hcons ((keep_Recs_ok [(r25, a26)] [(r32, a33)] b56 e57).tr [(9000, .slc 14), (9001, .slc 15)] rfl (by kernel_rfl) ⟨.orowsr (e := 41) (by kernel_rfl), .orowsr (e := 41) (by kernel_rfl), trivial⟩ (by kernel_rfl) (by kernel_rfl) rfl rfl) (hone hb65)))))))) ?_
                              refine q_k ?_
                              refine tr_ret ?_
                              have h := Option.some.inj h
                              subst h
                              refine q_less [.s 6] [sB 6 false] (by kernel_rfl) ?_
                              exact q_ret1 hT (.v (.one (.bool false))) [] (by kernel_rfl) (by kernel_rfl) (by kernel_rfl)
                          · refine tr_reg hT [(2, .dec true), (6, .dec true), (10, .dec true), (14, .dec true), (20, .dec true), (29, .dec false)] [.s 6] [sB 6 false] [(r28 == (0 : Int)) = true, (r35 == (0 : Int)) = true, (r41 == (1 : Int)) = true, (r47 == (1 : Int)) = true, (r27 == (↑(List.length a10) : Int)) = true, (r34 == (IntKind.i64.wrap ((↑(List.length a10) : Int) - (↑(List.length a_0) : Int)))) = false] (by kernel_rfl) (hcons hb50 (hcons hb51 (hcons hb52 (hcons hb53 (hcons hb54 (hone hb66)))))) ?_
                            refine q_k ?_
                            refine tr_ret ?_
                            have h := Option.some.inj h
                            subst h
                            refine q_less [.s 6] [sB 6 false] (by kernel_rfl) ?_
                            exact q_ret1 hT (.v (.one (.bool false))) [] (by kernel_rfl) (by kernel_rfl) (by kernel_rfl)
                        · refine tr_reg hT [(2, .dec true), (6, .dec true), (10, .dec true), (14, .dec true), (20, .dec false)] [.s 6] [sB 6 false] [(r28 == (0 : Int)) = true, (r35 == (0 : Int)) = true, (r41 == (1 : Int)) = true, (r47 == (1 : Int)) = true, (r27 == (↑(List.length a10) : Int)) = false] (by kernel_rfl) (hcons hb50 (hcons hb51 (hcons hb52 (hcons hb53 (hone hb67))))) ?_
                          refine q_k ?_
                          refine tr_ret ?_
                          have h := Option.some.inj h
                          subst h
                          refine q_less [.s 6] [sB 6 false] (by kernel_rfl) ?_
                          exact q_ret1 hT (.v (.one (.bool false))) [] (by kernel_rfl) (by kernel_rfl) (by kernel_rfl)
                      · refine tr_reg hT [(2, .dec true), (6, .dec true), (10, .dec true), (14, .dec false)] [.s 6] [sB 6 false] [(r28 == (0 : Int)) = true, (r35 == (0 : Int)) = true, (r41 == (1 : Int)) = true, (r47 == (1 : Int)) = false] (by kernel_rfl) (hcons hb50 (hcons hb51 (hcons hb52 (hone hb68)))) ?_
                        refine q_k ?_
                        refine tr_ret ?_
                        have h := Option.some.inj h
                        subst h
                        refine q_less [.s 6] [sB 6 false] (by kernel_rfl) ?_
                        exact q_ret1 hT (.v (.one (.bool false))) [] (by kernel_rfl) (by kernel_rfl) (by kernel_rfl)
                    · refine tr_reg hT [(2, .dec true), (6, .dec true), (10, .dec false)] [.s 6] [sB 6 false] [(r28 == (0 : Int)) = true, (r35 == (0 : Int)) = true, (r41 == (1 : Int)) = false] (by kernel_rfl) (hcons hb50 (hcons hb51 (hone hb69))) ?_
                      refine q_k ?_
                      refine tr_ret ?_
                      have h := Option.some.inj h
                      subst h
                      refine q_less [.s 6] [sB 6 false] (by kernel_rfl) ?_
                      exact q_ret1 hT (.v (.one (.bool false))) [] (by kernel_rfl) (by kernel_rfl) (by kernel_rfl)
                  · refine tr_reg hT [(2, .dec true), (6, .dec false)] [.s 6] [sB 6 false] [(r28 == (0 : Int)) = true, (r35 == (0 : Int)) = false] (by kernel_rfl) (hcons hb50 (hone hb70)) ?_
                    refine q_k ?_
                    refine tr_ret ?_
                    have h := Option.some.inj h
                    subst h
                    refine q_less [.s 6] [sB 6 false] (by kernel_rfl) ?_
                    exact q_ret1 hT (.v (.one (.bool false))) [] (by kernel_rfl) (by kernel_rfl) (by kernel_rfl)
                · refine tr_reg hT [(2, .dec false)] [.s 6] [sB 6 false] [(r28 == (0 : Int)) = false] (by kernel_rfl) (hone hb71) ?_
                  refine q_k ?_
                  refine tr_ret ?_
                  have h := Option.some.inj h
                  subst h
                  refine q_less [.s 6] [sB 6 false] (by kernel_rfl) ?_
                  exact q_ret1 hT (.v (.one (.bool false))) [] (by kernel_rfl) (by kernel_rfl) (by kernel_rfl)

end Go.Proofs.Sa
