/- Walks, printed by a program of this session (gowalk.py): each Go function comes to its plain function's answer. -/
import Derived.Test.YtdcdanfeepncmaaSbA
import Derived.Test.YtdcdanfeepncmaaSbD
import Derived.Test.YtdcdanfeepncmaaSbI
import Derived.Test.YtdcdanfeepncmaaSbV6
import Derived.Test.YtdcdanfeepncmaaSbV7
import Derived.Test.YtdcdanfeepncmaaSbV8
namespace Go.Proofs.Sb
open Go Go.Gw D
set_option linter.unusedVariables false
set_option maxRecDepth 20000

theorem law06_CurveExact_ok (a_0 : List Int) (b_1 : List Int) (n_2 : List Int) (r : Bool) (h : law06_CurveExact a_0 b_1 n_2 = some r) {pre : List (Nat × Ent)} : CallOk P 25 [.v (.agg [.arr .u8 32 a_0]), .v (.agg [.arr .u8 32 b_1]), .v (.agg [.arr .u8 32 n_2])] pre (.v (.one (.bool r))) [] := by
  refine call0 (N := 109) Try.func25 (by kernel_rfl) rfl rfl rfl pre ?_
  intro _ w
  show Tr P (Ge w) 109 _ _ _ (RetQ P Try.f25 (R0 _ w))
  unfold law06_CurveExact at h
  refine tr_seq ?_
  refine tr_reg hT [(0, .key 0), (1, .key 1), (2, .key 2)] [.s 3, .s 4, .s 5, .h 0, .h 1, .h 2] [sO 3 (.ptr 0 0), sO 4 (.ptr 1 0), sO 5 (.ptr 2 0), hB 0 22 [.arr .u8 32 a_0], hB 1 22 [.arr .u8 32 b_1], hB 2 22 [.arr .u8 32 n_2]] [] (by kernel_rfl) trivial ?_
  refine q_k ?_
  refine tr_seq ?_
  obtain ⟨⟨a1, a2, a3, a4, b5⟩, e6, h⟩ := bind_some h
  refine tr_reg hT [(1, .call [] (.tup [.agg [.arr .u64 4 a1, .arr .u64 4 a2, .arr .u64 4 a3, .arr .u64 4 a4], .one (.bool b5)]) []), (5, .key 3)] [.s 3, .s 4, .s 5, .s 8, .h 0, .h 1, .h 2] [sO 3 (.ptr 0 0), sO 4 (.ptr 1 0), sO 5 (.ptr 2 0), sB 8 b5, hB 0 22 [.arr .u8 32 a_0], hB 1 22 [.arr .u8 32 b_1], hB 2 22 [.arr .u8 32 n_2]] [CallOk P 62 [.v (.agg [.arr .u8 32 a_0])] [] (.tup [.agg [.arr .u64 4 a1, .arr .u64 4 a2, .arr .u64 4 a3, .arr .u64 4 a4], .one (.bool b5)]) []] (by kernel_rfl) (hone (ref04_Decode_ok a_0 (a1, a2, a3, a4, b5) e6)) ?_
  refine q_k ?_
  refine tr_seq ?_
  refine tr_seq ?_
  obtain ⟨b8, e9, h⟩ := bind_some h
  refine tr_reg hT [(1, .call [] (.v (.one (.bool b8))) [])] [.s 3, .s 4, .s 5, .s 21, .h 0, .h 1, .h 2] [sO 3 (.ptr 0 0), sO 4 (.ptr 1 0), sO 5 (.ptr 2 0), sB 21 (!(b8 == b5)), hB 0 22 [.arr .u8 32 a_0], hB 1 22 [.arr .u8 32 b_1], hB 2 22 [.arr .u8 32 n_2]] [CallOk P 58 [.v (.agg [.arr .u8 32 a_0])] [] (.v (.one (.bool b8))) []] (by kernel_rfl) (hone (curve_Check_ok a_0 b8 e9)) ?_
  refine q_k ?_
  rcases ite_split h with ⟨hc10, h⟩ | ⟨hc10, h⟩
  · refine tr_cond_t (!(b8 == b5)) (by kernel_rfl) hc10 ?_
    refine tr_seq ?_
    refine tr_reg hT [] [.s 6] [sB 6 false] [] (by kernel_rfl) trivial ?_
    refine q_k ?_
    refine tr_ret ?_
    refine q_k_ret ?_
    have h := Option.some.inj h
    subst h
    exact q_ret0 hT (.v (.one (.bool false))) rfl (by kernel_rfl)
  · refine tr_cond_f (!(b8 == b5)) (by kernel_rfl) hc10 ?_
    refine tr_skip ?_
    refine q_k ?_
    refine tr_seq ?_
    obtain ⟨⟨a11, r12⟩, e13, h⟩ := bind_some h
    refine tr_reg hT [(2, .call [] (.tup [.agg [.arr .u8 32 a11], .one (.int .i64 r12)]) []), (6, .key 4)] [.s 3, .s 4, .s 5, .s 9, .s 10, .h 0, .h 1, .h 2, .h 4] [sO 3 (.ptr 0 0), sO 4 (.ptr 1 0), sO 5 (.ptr 2 0), sO 9 (.ptr 4 0), sI 10 .i64 r12, hB 0 22 [.arr .u8 32 a_0], hB 1 22 [.arr .u8 32 b_1], hB 2 22 [.arr .u8 32 n_2], hB 4 22 [.arr .u8 32 a11]] [CallOk P 60 [.v (.agg [.arr .u8 32 a_0]), .v (.agg [.arr .u8 32 b_1])] [] (.tup [.agg [.arr .u8 32 a11], .one (.int .i64 r12)]) []] (by kernel_rfl) (hone (curve_Add_ok a_0 b_1 (a11, r12) e13)) ?_
    refine q_k ?_
    refine tr_seq ?_
    obtain ⟨⟨a15, b16⟩, e17, h⟩ := bind_some h
    refine tr_reg hT [(2, .call [] (.tup [.agg [.arr .u8 32 a15], .one (.bool b16)]) []), (6, .key 5)] [.s 3, .s 5, .s 9, .s 10, .s 11, .s 12, .h 0, .h 2, .h 4, .h 5] [sO 3 (.ptr 0 0), sO 5 (.ptr 2 0), sO 9 (.ptr 4 0), sI 10 .i64 r12, sO 11 (.ptr 5 0), sB 12 b16, hB 0 22 [.arr .u8 32 a_0], hB 2 22 [.arr .u8 32 n_2], hB 4 22 [.arr .u8 32 a11], hB 5 22 [.arr .u8 32 a15]] [CallOk P 63 [.v (.agg [.arr .u8 32 a_0]), .v (.agg [.arr .u8 32 b_1])] [] (.tup [.agg [.arr .u8 32 a15], .one (.bool b16)]) []] (by kernel_rfl) (hone (ref04_Sum_ok a_0 b_1 (a15, b16) e17)) ?_
    refine q_k ?_
    refine tr_seq ?_
    refine tr_seq ?_
    rcases ite_split h with ⟨hb19, h⟩ | ⟨hb20, h⟩
    · refine tr_reg hT [(4, .dec true)] [.s 3, .s 5, .s 9, .s 11, .s 50, .h 0, .h 2, .h 4, .h 5] [sO 3 (.ptr 0 0), sO 5 (.ptr 2 0), sO 9 (.ptr 4 0), sO 11 (.ptr 5 0), sB 50 true, hB 0 22 [.arr .u8 32 a_0], hB 2 22 [.arr .u8 32 n_2], hB 4 22 [.arr .u8 32 a11], hB 5 22 [.arr .u8 32 a15]] [(!(b16 == (r12 == (0 : Int)))) = true] (by kernel_rfl) (hone hb19) ?_
      refine q_k ?_
      refine tr_cond_t true (by kernel_rfl) rfl ?_
      refine tr_seq ?_
      refine tr_reg hT [] [.s 6] [sB 6 false] [] (by kernel_rfl) trivial ?_
      refine q_k ?_
      refine tr_ret ?_
      refine q_k_ret ?_
      have h := Option.some.inj h
      subst h
      exact q_ret0 hT (.v (.one (.bool false))) rfl (by kernel_rfl)
    · rcases ite_split h with ⟨hb21, h⟩ | ⟨hb85, h⟩
      · rcases ite_split h with ⟨hb22, h⟩ | ⟨hb23, h⟩
        · refine tr_reg hT [(4, .dec false), (7, .dec true), (12, .dec true)] [.s 3, .s 5, .s 9, .s 11, .s 50, .h 0, .h 2, .h 4, .h 5] [sO 3 (.ptr 0 0), sO 5 (.ptr 2 0), sO 9 (.ptr 4 0), sO 11 (.ptr 5 0), sB 50 true, hB 0 22 [.arr .u8 32 a_0], hB 2 22 [.arr .u8 32 n_2], hB 4 22 [.arr .u8 32 a11], hB 5 22 [.arr .u8 32 a15]] [(!(b16 == (r12 == (0 : Int)))) = false, (!b16) = true, (r12 != (1 : Int)) = true] (by kernel_rfl) (hcons hb20 (hcons hb21 (hone hb22))) ?_
          refine q_k ?_
          refine tr_cond_t true (by kernel_rfl) rfl ?_
          refine tr_seq ?_
          refine tr_reg hT [] [.s 6] [sB 6 false] [] (by kernel_rfl) trivial ?_
          refine q_k ?_
          refine tr_ret ?_
          refine q_k_ret ?_
          have h := Option.some.inj h
          subst h
          exact q_ret0 hT (.v (.one (.bool false))) rfl (by kernel_rfl)
        · refine tr_reg hT [(4, .dec false), (7, .dec true), (12, .dec false)] [.s 3, .s 5, .s 9, .s 11, .s 50, .h 0, .h 2, .h 4, .h 5] [sO 3 (.ptr 0 0), sO 5 (.ptr 2 0), sO 9 (.ptr 4 0), sO 11 (.ptr 5 0), sB 50 (!(decide (a11 = a15))), hB 0 22 [.arr .u8 32 a_0], hB 2 22 [.arr .u8 32 n_2], hB 4 22 [.arr .u8 32 a11], hB 5 22 [.arr .u8 32 a15]] [(!(b16 == (r12 == (0 : Int)))) = false, (!b16) = true, (r12 != (1 : Int)) = false] (by kernel_rfl) (hcons hb20 (hcons hb21 (hone hb23))) ?_
          refine q_k ?_
          rcases ite_split h with ⟨hc24, h⟩ | ⟨hc24, h⟩
          · refine tr_cond_t (!(decide (a11 = a15))) (by kernel_rfl) hc24 ?_
            refine tr_seq ?_
            refine tr_reg hT [] [.s 6] [sB 6 false] [] (by kernel_rfl) trivial ?_
            refine q_k ?_
            refine tr_ret ?_
            refine q_k_ret ?_
            have h := Option.some.inj h
            subst h
            exact q_ret0 hT (.v (.one (.bool false))) rfl (by kernel_rfl)
          · refine tr_cond_f (!(decide (a11 = a15))) (by kernel_rfl) hc24 ?_
            refine tr_skip ?_
            refine q_k ?_
            refine tr_seq ?_
            obtain ⟨⟨a25, r26⟩, e27, h⟩ := bind_some h
            refine tr_reg hT [(1, .call [] (.tup [.agg [.arr .u8 32 a25], .one (.int .i64 r26)]) [])] [.s 3, .s 5, .s 9, .s 10, .s 11, .h 0, .h 2, .h 4, .h 5] [sO 3 (.ptr 0 0), sO 5 (.ptr 2 0), sO 9 (.ptr 4 0), sI 10 .i64 r26, sO 11 (.ptr 5 0), hB 0 22 [.arr .u8 32 a_0], hB 2 22 [.arr .u8 32 n_2], hB 4 22 [.arr .u8 32 a25], hB 5 22 [.arr .u8 32 a15]] [CallOk P 61 [.v (.agg [.arr .u8 32 a_0])] [] (.tup [.agg [.arr .u8 32 a25], .one (.int .i64 r26)]) []] (by kernel_rfl) (hone (curve_Neg_ok a_0 (a25, r26) e27)) ?_
            refine q_k ?_
            refine tr_seq ?_
            obtain ⟨⟨a29, b30⟩, e31, h⟩ := bind_some h
            refine tr_reg hT [(1, .call [] (.tup [.agg [.arr .u8 32 a29], .one (.bool b30)]) [])] [.s 3, .s 5, .s 9, .s 10, .s 11, .s 12, .h 0, .h 2, .h 4, .h 5] [sO 3 (.ptr 0 0), sO 5 (.ptr 2 0), sO 9 (.ptr 4 0), sI 10 .i64 r26, sO 11 (.ptr 5 0), sB 12 b30, hB 0 22 [.arr .u8 32 a_0], hB 2 22 [.arr .u8 32 n_2], hB 4 22 [.arr .u8 32 a25], hB 5 22 [.arr .u8 32 a29]] [CallOk P 64 [.v (.agg [.arr .u8 32 a_0])] [] (.tup [.agg [.arr .u8 32 a29], .one (.bool b30)]) []] (by kernel_rfl) (hone (ref04_Negate_ok a_0 (a29, b30) e31)) ?_
            refine q_k ?_
            refine tr_seq ?_
            refine tr_seq ?_
            rcases ite_split h with ⟨hb33, h⟩ | ⟨hb34, h⟩
            · refine tr_reg hT [(4, .dec true)] [.s 3, .s 5, .s 9, .s 11, .s 77, .h 0, .h 2, .h 4, .h 5] [sO 3 (.ptr 0 0), sO 5 (.ptr 2 0), sO 9 (.ptr 4 0), sO 11 (.ptr 5 0), sB 77 true, hB 0 22 [.arr .u8 32 a_0], hB 2 22 [.arr .u8 32 n_2], hB 4 22 [.arr .u8 32 a25], hB 5 22 [.arr .u8 32 a29]] [(!(b30 == (r26 == (0 : Int)))) = true] (by kernel_rfl) (hone hb33) ?_
              refine q_k ?_
              refine tr_cond_t true (by kernel_rfl) rfl ?_
              refine tr_seq ?_
              refine tr_reg hT [] [.s 6] [sB 6 false] [] (by kernel_rfl) trivial ?_
              refine q_k ?_
              refine tr_ret ?_
              refine q_k_ret ?_
              have h := Option.some.inj h
              subst h
              exact q_ret0 hT (.v (.one (.bool false))) rfl (by kernel_rfl)
            · rcases ite_split h with ⟨hb35, h⟩ | ⟨hb61, h⟩
              · rcases ite_split h with ⟨hb36, h⟩ | ⟨hb37, h⟩
                · refine tr_reg hT [(4, .dec false), (7, .dec true), (12, .dec true)] [.s 3, .s 5, .s 9, .s 11, .s 77, .h 0, .h 2, .h 4, .h 5] [sO 3 (.ptr 0 0), sO 5 (.ptr 2 0), sO 9 (.ptr 4 0), sO 11 (.ptr 5 0), sB 77 true, hB 0 22 [.arr .u8 32 a_0], hB 2 22 [.arr .u8 32 n_2], hB 4 22 [.arr .u8 32 a25], hB 5 22 [.arr .u8 32 a29]] [(!(b30 == (r26 == (0 : Int)))) = false, (!b30) = true, (r26 != (1 : Int)) = true] (by kernel_rfl) (hcons hb34 (hcons hb35 (hone hb36))) ?_
                  refine q_k ?_
                  refine tr_cond_t true (by kernel_rfl) rfl ?_
                  refine tr_seq ?_
                  refine tr_reg hT [] [.s 6] [sB 6 false] [] (by kernel_rfl) trivial ?_
                  refine q_k ?_
                  refine tr_ret ?_
                  refine q_k_ret ?_
                  have h := Option.some.inj h
                  subst h
                  exact q_ret0 hT (.v (.one (.bool false))) rfl (by kernel_rfl)
                · refine tr_reg hT [(4, .dec false), (7, .dec true), (12, .dec false)] [.s 3, .s 5, .s 9, .s 11, .s 77, .h 0, .h 2, .h 4, .h 5] [sO 3 (.ptr 0 0), sO 5 (.ptr 2 0), sO 9 (.ptr 4 0), sO 11 (.ptr 5 0), sB 77 (!(decide (a25 = a29))), hB 0 22 [.arr .u8 32 a_0], hB 2 22 [.arr .u8 32 n_2], hB 4 22 [.arr .u8 32 a25], hB 5 22 [.arr .u8 32 a29]] [(!(b30 == (r26 == (0 : Int)))) = false, (!b30) = true, (r26 != (1 : Int)) = false] (by kernel_rfl) (hcons hb34 (hcons hb35 (hone hb37))) ?_
                  refine q_k ?_
                  rcases ite_split h with ⟨hc38, h⟩ | ⟨hc38, h⟩
                  · refine tr_cond_t (!(decide (a25 = a29))) (by kernel_rfl) hc38 ?_
                    refine tr_seq ?_
                    refine tr_reg hT [] [.s 6] [sB 6 false] [] (by kernel_rfl) trivial ?_
                    refine q_k ?_
                    refine tr_ret ?_
                    refine q_k_ret ?_
                    have h := Option.some.inj h
                    subst h
                    exact q_ret0 hT (.v (.one (.bool false))) rfl (by kernel_rfl)
                  · refine tr_cond_f (!(decide (a25 = a29))) (by kernel_rfl) hc38 ?_
                    refine tr_skip ?_
                    refine q_k ?_
                    refine tr_seq ?_
                    obtain ⟨⟨a39, r40⟩, e41, h⟩ := bind_some h
                    refine tr_reg hT [(2, .call [] (.tup [.agg [.arr .u8 32 a39], .one (.int .i64 r40)]) [])] [.s 3, .s 5, .s 9, .s 10, .s 11, .h 0, .h 2, .h 4, .h 5] [sO 3 (.ptr 0 0), sO 5 (.ptr 2 0), sO 9 (.ptr 4 0), sI 10 .i64 r40, sO 11 (.ptr 5 0), hB 0 22 [.arr .u8 32 a_0], hB 2 22 [.arr .u8 32 n_2], hB 4 22 [.arr .u8 32 a39], hB 5 22 [.arr .u8 32 a29]] [CallOk P 55 [.v (.agg [.arr .u8 32 n_2]), .v (.agg [.arr .u8 32 a_0])] [] (.tup [.agg [.arr .u8 32 a39], .one (.int .i64 r40)]) []] (by kernel_rfl) (hone (curve_Mul_ok n_2 a_0 (a39, r40) e41)) ?_
                    refine q_k ?_
                    refine tr_seq ?_
                    obtain ⟨⟨a43, b44⟩, e45, h⟩ := bind_some h
                    refine tr_reg hT [(2, .call [] (.tup [.agg [.arr .u8 32 a43], .one (.bool b44)]) [])] [.s 9, .s 10, .s 11, .s 12, .h 4, .h 5] [sO 9 (.ptr 4 0), sI 10 .i64 r40, sO 11 (.ptr 5 0), sB 12 b44, hB 4 22 [.arr .u8 32 a39], hB 5 22 [.arr .u8 32 a43]] [CallOk P 65 [.v (.agg [.arr .u8 32 n_2]), .v (.agg [.arr .u8 32 a_0])] [] (.tup [.agg [.arr .u8 32 a43], .one (.bool b44)]) []] (by kernel_rfl) (hone (ref04_Times_ok n_2 a_0 (a43, b44) e45)) ?_
                    refine q_k ?_
                    refine tr_seq ?_
                    rcases ite_split h with ⟨hb47, h⟩ | ⟨hb60, h⟩
                    · rcases ite_split h with ⟨hb48, h⟩ | ⟨hb53, h⟩
                      · rcases ite_split h with ⟨hb49, h⟩ | ⟨hb52, h⟩
                        · obtain ⟨b50, e51, h⟩ := bind_some h
                          refine tr_reg hT [(4, .dec true), (6, .dec true), (16, .dec true), (17, .call [] (.v (.one (.bool b50))) [])] [.s 6] [sB 6 b50] [(b44 == (r40 == (0 : Int))) = true, b44 = true, (decide (a39 = a43)) = true, CallOk P 59 [] [] (.v (.one (.bool b50))) []] (by kernel_rfl) (hcons hb47 (hcons hb48 (hcons hb49 (hone (law06_wakes_ok  b50 e51))))) ?_
                          refine q_k ?_
                          refine tr_ret ?_
                          have h := Option.some.inj h
                          subst h
                          exact q_ret0 hT (.v (.one (.bool b50))) rfl (by kernel_rfl)
                        · refine tr_reg hT [(4, .dec true), (6, .dec true), (16, .dec false)] [.s 6] [sB 6 false] [(b44 == (r40 == (0 : Int))) = true, b44 = true, (decide (a39 = a43)) = false] (by kernel_rfl) (hcons hb47 (hcons hb48 (hone hb52))) ?_
                          refine q_k ?_
                          refine tr_ret ?_
                          have h := Option.some.inj h
                          subst h
                          exact q_ret0 hT (.v (.one (.bool false))) rfl (by kernel_rfl)
                      · rcases ite_split h with ⟨hb54, h⟩ | ⟨hb59, h⟩
                        · rcases ite_split h with ⟨hb55, h⟩ | ⟨hb58, h⟩
                          · obtain ⟨b56, e57, h⟩ := bind_some h
                            refine tr_reg hT [(4, .dec true), (6, .dec false), (11, .dec true), (16, .dec true), (17, .call [] (.v (.one (.bool b56))) [])] [.s 6] [sB 6 b56] [(b44 == (r40 == (0 : Int))) = true, b44 = false, (r40 == (1 : Int)) = true, (decide (a39 = a43)) = true, CallOk P 59 [] [] (.v (.one (.bool b56))) []] (by kernel_rfl) (hcons hb47 (hcons hb53 (hcons hb54 (hcons hb55 (hone (law06_wakes_ok  b56 e57)))))) ?_
                            refine q_k ?_
                            refine tr_ret ?_
                            have h := Option.some.inj h
                            subst h
                            exact q_ret0 hT (.v (.one (.bool b56))) rfl (by kernel_rfl)
                          · refine tr_reg hT [(4, .dec true), (6, .dec false), (11, .dec true), (16, .dec false)] [.s 6] [sB 6 false] [(b44 == (r40 == (0 : Int))) = true, b44 = false, (r40 == (1 : Int)) = true, (decide (a39 = a43)) = false] (by kernel_rfl) (hcons hb47 (hcons hb53 (hcons hb54 (hone hb58)))) ?_
                            refine q_k ?_
                            refine tr_ret ?_
                            have h := Option.some.inj h
                            subst h
                            exact q_ret0 hT (.v (.one (.bool false))) rfl (by kernel_rfl)
                        · refine tr_reg hT [(4, .dec true), (6, .dec false), (11, .dec false)] [.s 6] [sB 6 false] [(b44 == (r40 == (0 : Int))) = true, b44 = false, (r40 == (1 : Int)) = false] (by kernel_rfl) (hcons hb47 (hcons hb53 (hone hb59))) ?_
                          refine q_k ?_
                          refine tr_ret ?_
                          have h := Option.some.inj h
                          subst h
                          exact q_ret0 hT (.v (.one (.bool false))) rfl (by kernel_rfl)
                    · refine tr_reg hT [(4, .dec false)] [.s 6] [sB 6 false] [(b44 == (r40 == (0 : Int))) = false] (by kernel_rfl) (hone hb60) ?_
                      refine q_k ?_
                      refine tr_ret ?_
                      have h := Option.some.inj h
                      subst h
                      exact q_ret0 hT (.v (.one (.bool false))) rfl (by kernel_rfl)
              · refine tr_reg hT [(4, .dec false), (7, .dec false)] [.s 3, .s 5, .s 9, .s 11, .s 77, .h 0, .h 2, .h 4, .h 5] [sO 3 (.ptr 0 0), sO 5 (.ptr 2 0), sO 9 (.ptr 4 0), sO 11 (.ptr 5 0), sB 77 (!(decide (a25 = a29))), hB 0 22 [.arr .u8 32 a_0], hB 2 22 [.arr .u8 32 n_2], hB 4 22 [.arr .u8 32 a25], hB 5 22 [.arr .u8 32 a29]] [(!(b30 == (r26 == (0 : Int)))) = false, (!b30) = false] (by kernel_rfl) (hcons hb34 (hone hb61)) ?_
                refine q_k ?_
                rcases ite_split h with ⟨hc62, h⟩ | ⟨hc62, h⟩
                · refine tr_cond_t (!(decide (a25 = a29))) (by kernel_rfl) hc62 ?_
                  refine tr_seq ?_
                  refine tr_reg hT [] [.s 6] [sB 6 false] [] (by kernel_rfl) trivial ?_
                  refine q_k ?_
                  refine tr_ret ?_
                  refine q_k_ret ?_
                  have h := Option.some.inj h
                  subst h
                  exact q_ret0 hT (.v (.one (.bool false))) rfl (by kernel_rfl)
                · refine tr_cond_f (!(decide (a25 = a29))) (by kernel_rfl) hc62 ?_
                  refine tr_skip ?_
                  refine q_k ?_
                  refine tr_seq ?_
                  obtain ⟨⟨a63, r64⟩, e65, h⟩ := bind_some h
                  refine tr_reg hT [(2, .call [] (.tup [.agg [.arr .u8 32 a63], .one (.int .i64 r64)]) [])] [.s 3, .s 5, .s 9, .s 10, .s 11, .h 0, .h 2, .h 4, .h 5] [sO 3 (.ptr 0 0), sO 5 (.ptr 2 0), sO 9 (.ptr 4 0), sI 10 .i64 r64, sO 11 (.ptr 5 0), hB 0 22 [.arr .u8 32 a_0], hB 2 22 [.arr .u8 32 n_2], hB 4 22 [.arr .u8 32 a63], hB 5 22 [.arr .u8 32 a29]] [CallOk P 55 [.v (.agg [.arr .u8 32 n_2]), .v (.agg [.arr .u8 32 a_0])] [] (.tup [.agg [.arr .u8 32 a63], .one (.int .i64 r64)]) []] (by kernel_rfl) (hone (curve_Mul_ok n_2 a_0 (a63, r64) e65)) ?_
                  refine q_k ?_
                  refine tr_seq ?_
                  obtain ⟨⟨a67, b68⟩, e69, h⟩ := bind_some h
                  refine tr_reg hT [(2, .call [] (.tup [.agg [.arr .u8 32 a67], .one (.bool b68)]) [])] [.s 9, .s 10, .s 11, .s 12, .h 4, .h 5] [sO 9 (.ptr 4 0), sI 10 .i64 r64, sO 11 (.ptr 5 0), sB 12 b68, hB 4 22 [.arr .u8 32 a63], hB 5 22 [.arr .u8 32 a67]] [CallOk P 65 [.v (.agg [.arr .u8 32 n_2]), .v (.agg [.arr .u8 32 a_0])] [] (.tup [.agg [.arr .u8 32 a67], .one (.bool b68)]) []] (by kernel_rfl) (hone (ref04_Times_ok n_2 a_0 (a67, b68) e69)) ?_
                  refine q_k ?_
                  refine tr_seq ?_
                  rcases ite_split h with ⟨hb71, h⟩ | ⟨hb84, h⟩
                  · rcases ite_split h with ⟨hb72, h⟩ | ⟨hb77, h⟩
                    · rcases ite_split h with ⟨hb73, h⟩ | ⟨hb76, h⟩
                      · obtain ⟨b74, e75, h⟩ := bind_some h
                        refine tr_reg hT [(4, .dec true), (6, .dec true), (16, .dec true), (17, .call [] (.v (.one (.bool b74))) [])] [.s 6] [sB 6 b74] [(b68 == (r64 == (0 : Int))) = true, b68 = true, (decide (a63 = a67)) = true, CallOk P 59 [] [] (.v (.one (.bool b74))) []] (by kernel_rfl) (hcons hb71 (hcons hb72 (hcons hb73 (hone (law06_wakes_ok  b74 e75))))) ?_
                        refine q_k ?_
                        refine tr_ret ?_
                        have h := Option.some.inj h
                        subst h
                        exact q_ret0 hT (.v (.one (.bool b74))) rfl (by kernel_rfl)
                      · refine tr_reg hT [(4, .dec true), (6, .dec true), (16, .dec false)] [.s 6] [sB 6 false] [(b68 == (r64 == (0 : Int))) = true, b68 = true, (decide (a63 = a67)) = false] (by kernel_rfl) (hcons hb71 (hcons hb72 (hone hb76))) ?_
                        refine q_k ?_
                        refine tr_ret ?_
                        have h := Option.some.inj h
                        subst h
                        exact q_ret0 hT (.v (.one (.bool false))) rfl (by kernel_rfl)
                    · rcases ite_split h with ⟨hb78, h⟩ | ⟨hb83, h⟩
                      · rcases ite_split h with ⟨hb79, h⟩ | ⟨hb82, h⟩
                        · obtain ⟨b80, e81, h⟩ := bind_some h
                          refine tr_reg hT [(4, .dec true), (6, .dec false), (11, .dec true), (16, .dec true), (17, .call [] (.v (.one (.bool b80))) [])] [.s 6] [sB 6 b80] [(b68 == (r64 == (0 : Int))) = true, b68 = false, (r64 == (1 : Int)) = true, (decide (a63 = a67)) = true, CallOk P 59 [] [] (.v (.one (.bool b80))) []] (by kernel_rfl) (hcons hb71 (hcons hb77 (hcons hb78 (hcons hb79 (hone (law06_wakes_ok  b80 e81)))))) ?_
                          refine q_k ?_
                          refine tr_ret ?_
                          have h := Option.some.inj h
                          subst h
                          exact q_ret0 hT (.v (.one (.bool b80))) rfl (by kernel_rfl)
                        · refine tr_reg hT [(4, .dec true), (6, .dec false), (11, .dec true), (16, .dec false)] [.s 6] [sB 6 false] [(b68 == (r64 == (0 : Int))) = true, b68 = false, (r64 == (1 : Int)) = true, (decide (a63 = a67)) = false] (by kernel_rfl) (hcons hb71 (hcons hb77 (hcons hb78 (hone hb82)))) ?_
                          refine q_k ?_
                          refine tr_ret ?_
                          have h := Option.some.inj h
                          subst h
                          exact q_ret0 hT (.v (.one (.bool false))) rfl (by kernel_rfl)
                      · refine tr_reg hT [(4, .dec true), (6, .dec false), (11, .dec false)] [.s 6] [sB 6 false] [(b68 == (r64 == (0 : Int))) = true, b68 = false, (r64 == (1 : Int)) = false] (by kernel_rfl) (hcons hb71 (hcons hb77 (hone hb83))) ?_
                        refine q_k ?_
                        refine tr_ret ?_
                        have h := Option.some.inj h
                        subst h
                        exact q_ret0 hT (.v (.one (.bool false))) rfl (by kernel_rfl)
                  · refine tr_reg hT [(4, .dec false)] [.s 6] [sB 6 false] [(b68 == (r64 == (0 : Int))) = false] (by kernel_rfl) (hone hb84) ?_
                    refine q_k ?_
                    refine tr_ret ?_
                    have h := Option.some.inj h
                    subst h
                    exact q_ret0 hT (.v (.one (.bool false))) rfl (by kernel_rfl)
      · refine tr_reg hT [(4, .dec false), (7, .dec false)] [.s 3, .s 5, .s 9, .s 11, .s 50, .h 0, .h 2, .h 4, .h 5] [sO 3 (.ptr 0 0), sO 5 (.ptr 2 0), sO 9 (.ptr 4 0), sO 11 (.ptr 5 0), sB 50 (!(decide (a11 = a15))), hB 0 22 [.arr .u8 32 a_0], hB 2 22 [.arr .u8 32 n_2], hB 4 22 [.arr .u8 32 a11], hB 5 22 [.arr .u8 32 a15]] [(!(b16 == (r12 == (0 : Int)))) = false, (!b16) = false] (by kernel_rfl) (hcons hb20 (hone hb85)) ?_
        refine q_k ?_
        rcases ite_split h with ⟨hc86, h⟩ | ⟨hc86, h⟩
        · refine tr_cond_t (!(decide (a11 = a15))) (by kernel_rfl) hc86 ?_
          refine tr_seq ?_
          refine tr_reg hT [] [.s 6] [sB 6 false] [] (by kernel_rfl) trivial ?_
          refine q_k ?_
          refine tr_ret ?_
          refine q_k_ret ?_
          have h := Option.some.inj h
          subst h
          exact q_ret0 hT (.v (.one (.bool false))) rfl (by kernel_rfl)
        · refine tr_cond_f (!(decide (a11 = a15))) (by kernel_rfl) hc86 ?_
          refine tr_skip ?_
          refine q_k ?_
          refine tr_seq ?_
          obtain ⟨⟨a87, r88⟩, e89, h⟩ := bind_some h
          refine tr_reg hT [(1, .call [] (.tup [.agg [.arr .u8 32 a87], .one (.int .i64 r88)]) [])] [.s 3, .s 5, .s 9, .s 10, .s 11, .h 0, .h 2, .h 4, .h 5] [sO 3 (.ptr 0 0), sO 5 (.ptr 2 0), sO 9 (.ptr 4 0), sI 10 .i64 r88, sO 11 (.ptr 5 0), hB 0 22 [.arr .u8 32 a_0], hB 2 22 [.arr .u8 32 n_2], hB 4 22 [.arr .u8 32 a87], hB 5 22 [.arr .u8 32 a15]] [CallOk P 61 [.v (.agg [.arr .u8 32 a_0])] [] (.tup [.agg [.arr .u8 32 a87], .one (.int .i64 r88)]) []] (by kernel_rfl) (hone (curve_Neg_ok a_0 (a87, r88) e89)) ?_
          refine q_k ?_
          refine tr_seq ?_
          obtain ⟨⟨a91, b92⟩, e93, h⟩ := bind_some h
          refine tr_reg hT [(1, .call [] (.tup [.agg [.arr .u8 32 a91], .one (.bool b92)]) [])] [.s 3, .s 5, .s 9, .s 10, .s 11, .s 12, .h 0, .h 2, .h 4, .h 5] [sO 3 (.ptr 0 0), sO 5 (.ptr 2 0), sO 9 (.ptr 4 0), sI 10 .i64 r88, sO 11 (.ptr 5 0), sB 12 b92, hB 0 22 [.arr .u8 32 a_0], hB 2 22 [.arr .u8 32 n_2], hB 4 22 [.arr .u8 32 a87], hB 5 22 [.arr .u8 32 a91]] [CallOk P 64 [.v (.agg [.arr .u8 32 a_0])] [] (.tup [.agg [.arr .u8 32 a91], .one (.bool b92)]) []] (by kernel_rfl) (hone (ref04_Negate_ok a_0 (a91, b92) e93)) ?_
          refine q_k ?_
          refine tr_seq ?_
          refine tr_seq ?_
          rcases ite_split h with ⟨hb95, h⟩ | ⟨hb96, h⟩
          · refine tr_reg hT [(4, .dec true)] [.s 3, .s 5, .s 9, .s 11, .s 77, .h 0, .h 2, .h 4, .h 5] [sO 3 (.ptr 0 0), sO 5 (.ptr 2 0), sO 9 (.ptr 4 0), sO 11 (.ptr 5 0), sB 77 true, hB 0 22 [.arr .u8 32 a_0], hB 2 22 [.arr .u8 32 n_2], hB 4 22 [.arr .u8 32 a87], hB 5 22 [.arr .u8 32 a91]] [(!(b92 == (r88 == (0 : Int)))) = true] (by kernel_rfl) (hone hb95) ?_
            refine q_k ?_
            refine tr_cond_t true (by kernel_rfl) rfl ?_
            refine tr_seq ?_
            refine tr_reg hT [] [.s 6] [sB 6 false] [] (by kernel_rfl) trivial ?_
            refine q_k ?_
            refine tr_ret ?_
            refine q_k_ret ?_
            have h := Option.some.inj h
            subst h
            exact q_ret0 hT (.v (.one (.bool false))) rfl (by kernel_rfl)
          · rcases ite_split h with ⟨hb97, h⟩ | ⟨hb123, h⟩
            · rcases ite_split h with ⟨hb98, h⟩ | ⟨hb99, h⟩
              · refine tr_reg hT [(4, .dec false), (7, .dec true), (12, .dec true)] [.s 3, .s 5, .s 9, .s 11, .s 77, .h 0, .h 2, .h 4, .h 5] [sO 3 (.ptr 0 0), sO 5 (.ptr 2 0), sO 9 (.ptr 4 0), sO 11 (.ptr 5 0), sB 77 true, hB 0 22 [.arr .u8 32 a_0], hB 2 22 [.arr .u8 32 n_2], hB 4 22 [.arr .u8 32 a87], hB 5 22 [.arr .u8 32 a91]] [(!(b92 == (r88 == (0 : Int)))) = false, (!b92) = true, (r88 != (1 : Int)) = true] (by kernel_rfl) (hcons hb96 (hcons hb97 (hone hb98))) ?_
                refine q_k ?_
                refine tr_cond_t true (by kernel_rfl) rfl ?_
                refine tr_seq ?_
                refine tr_reg hT [] [.s 6] [sB 6 false] [] (by kernel_rfl) trivial ?_
                refine q_k ?_
                refine tr_ret ?_
                refine q_k_ret ?_
                have h := Option.some.inj h
                subst h
                exact q_ret0 hT (.v (.one (.bool false))) rfl (by kernel_rfl)
              · refine tr_reg hT [(4, .dec false), (7, .dec true), (12, .dec false)] [.s 3, .s 5, .s 9, .s 11, .s 77, .h 0, .h 2, .h 4, .h 5] [sO 3 (.ptr 0 0), sO 5 (.ptr 2 0), sO 9 (.ptr 4 0), sO 11 (.ptr 5 0), sB 77 (!(decide (a87 = a91))), hB 0 22 [.arr .u8 32 a_0], hB 2 22 [.arr .u8 32 n_2], hB 4 22 [.arr .u8 32 a87], hB 5 22 [.arr .u8 32 a91]] [(!(b92 == (r88 == (0 : Int)))) = false, (!b92) = true, (r88 != (1 : Int)) = false] (by kernel_rfl) (hcons hb96 (hcons hb97 (hone hb99))) ?_
                refine q_k ?_
                rcases ite_split h with ⟨hc100, h⟩ | ⟨hc100, h⟩
                · refine tr_cond_t (!(decide (a87 = a91))) (by kernel_rfl) hc100 ?_
                  refine tr_seq ?_
                  refine tr_reg hT [] [.s 6] [sB 6 false] [] (by kernel_rfl) trivial ?_
                  refine q_k ?_
                  refine tr_ret ?_
                  refine q_k_ret ?_
                  have h := Option.some.inj h
                  subst h
                  exact q_ret0 hT (.v (.one (.bool false))) rfl (by kernel_rfl)
                · refine tr_cond_f (!(decide (a87 = a91))) (by kernel_rfl) hc100 ?_
                  refine tr_skip ?_
                  refine q_k ?_
                  refine tr_seq ?_
                  obtain ⟨⟨a101, r102⟩, e103, h⟩ := bind_some h
                  refine tr_reg hT [(2, .call [] (.tup [.agg [.arr .u8 32 a101], .one (.int .i64 r102)]) [])] [.s 3, .s 5, .s 9, .s 10, .s 11, .h 0, .h 2, .h 4, .h 5] [sO 3 (.ptr 0 0), sO 5 (.ptr 2 0), sO 9 (.ptr 4 0), sI 10 .i64 r102, sO 11 (.ptr 5 0), hB 0 22 [.arr .u8 32 a_0], hB 2 22 [.arr .u8 32 n_2], hB 4 22 [.arr .u8 32 a101], hB 5 22 [.arr .u8 32 a91]] [CallOk P 55 [.v (.agg [.arr .u8 32 n_2]), .v (.agg [.arr .u8 32 a_0])] [] (.tup [.agg [.arr .u8 32 a101], .one (.int .i64 r102)]) []] (by kernel_rfl) (hone (curve_Mul_ok n_2 a_0 (a101, r102) e103)) ?_
                  refine q_k ?_
                  refine tr_seq ?_
                  obtain ⟨⟨a105, b106⟩, e107, h⟩ := bind_some h
                  refine tr_reg hT [(2, .call [] (.tup [.agg [.arr .u8 32 a105], .one (.bool b106)]) [])] [.s 9, .s 10, .s 11, .s 12, .h 4, .h 5] [sO 9 (.ptr 4 0), sI 10 .i64 r102, sO 11 (.ptr 5 0), sB 12 b106, hB 4 22 [.arr .u8 32 a101], hB 5 22 [.arr .u8 32 a105]] [CallOk P 65 [.v (.agg [.arr .u8 32 n_2]), .v (.agg [.arr .u8 32 a_0])] [] (.tup [.agg [.arr .u8 32 a105], .one (.bool b106)]) []] (by kernel_rfl) (hone (ref04_Times_ok n_2 a_0 (a105, b106) e107)) ?_
                  refine q_k ?_
                  refine tr_seq ?_
                  rcases ite_split h with ⟨hb109, h⟩ | ⟨hb122, h⟩
                  · rcases ite_split h with ⟨hb110, h⟩ | ⟨hb115, h⟩
                    · rcases ite_split h with ⟨hb111, h⟩ | ⟨hb114, h⟩
                      · obtain ⟨b112, e113, h⟩ := bind_some h
                        refine tr_reg hT [(4, .dec true), (6, .dec true), (16, .dec true), (17, .call [] (.v (.one (.bool b112))) [])] [.s 6] [sB 6 b112] [(b106 == (r102 == (0 : Int))) = true, b106 = true, (decide (a101 = a105)) = true, CallOk P 59 [] [] (.v (.one (.bool b112))) []] (by kernel_rfl) (hcons hb109 (hcons hb110 (hcons hb111 (hone (law06_wakes_ok  b112 e113))))) ?_
                        refine q_k ?_
                        refine tr_ret ?_
                        have h := Option.some.inj h
                        subst h
                        exact q_ret0 hT (.v (.one (.bool b112))) rfl (by kernel_rfl)
                      · refine tr_reg hT [(4, .dec true), (6, .dec true), (16, .dec false)] [.s 6] [sB 6 false] [(b106 == (r102 == (0 : Int))) = true, b106 = true, (decide (a101 = a105)) = false] (by kernel_rfl) (hcons hb109 (hcons hb110 (hone hb114))) ?_
                        refine q_k ?_
                        refine tr_ret ?_
                        have h := Option.some.inj h
                        subst h
                        exact q_ret0 hT (.v (.one (.bool false))) rfl (by kernel_rfl)
                    · rcases ite_split h with ⟨hb116, h⟩ | ⟨hb121, h⟩
                      · rcases ite_split h with ⟨hb117, h⟩ | ⟨hb120, h⟩
                        · obtain ⟨b118, e119, h⟩ := bind_some h
                          refine tr_reg hT [(4, .dec true), (6, .dec false), (11, .dec true), (16, .dec true), (17, .call [] (.v (.one (.bool b118))) [])] [.s 6] [sB 6 b118] [(b106 == (r102 == (0 : Int))) = true, b106 = false, (r102 == (1 : Int)) = true, (decide (a101 = a105)) = true, CallOk P 59 [] [] (.v (.one (.bool b118))) []] (by kernel_rfl) (hcons hb109 (hcons hb115 (hcons hb116 (hcons hb117 (hone (law06_wakes_ok  b118 e119)))))) ?_
                          refine q_k ?_
                          refine tr_ret ?_
                          have h := Option.some.inj h
                          subst h
                          exact q_ret0 hT (.v (.one (.bool b118))) rfl (by kernel_rfl)
                        · refine tr_reg hT [(4, .dec true), (6, .dec false), (11, .dec true), (16, .dec false)] [.s 6] [sB 6 false] [(b106 == (r102 == (0 : Int))) = true, b106 = false, (r102 == (1 : Int)) = true, (decide (a101 = a105)) = false] (by kernel_rfl) (hcons hb109 (hcons hb115 (hcons hb116 (hone hb120)))) ?_
                          refine q_k ?_
                          refine tr_ret ?_
                          have h := Option.some.inj h
                          subst h
                          exact q_ret0 hT (.v (.one (.bool false))) rfl (by kernel_rfl)
                      · refine tr_reg hT [(4, .dec true), (6, .dec false), (11, .dec false)] [.s 6] [sB 6 false] [(b106 == (r102 == (0 : Int))) = true, b106 = false, (r102 == (1 : Int)) = false] (by kernel_rfl) (hcons hb109 (hcons hb115 (hone hb121))) ?_
                        refine q_k ?_
                        refine tr_ret ?_
                        have h := Option.some.inj h
                        subst h
                        exact q_ret0 hT (.v (.one (.bool false))) rfl (by kernel_rfl)
                  · refine tr_reg hT [(4, .dec false)] [.s 6] [sB 6 false] [(b106 == (r102 == (0 : Int))) = false] (by kernel_rfl) (hone hb122) ?_
                    refine q_k ?_
                    refine tr_ret ?_
                    have h := Option.some.inj h
                    subst h
                    exact q_ret0 hT (.v (.one (.bool false))) rfl (by kernel_rfl)
            · refine tr_reg hT [(4, .dec false), (7, .dec false)] [.s 3, .s 5, .s 9, .s 11, .s 77, .h 0, .h 2, .h 4, .h 5] [sO 3 (.ptr 0 0), sO 5 (.ptr 2 0), sO 9 (.ptr 4 0), sO 11 (.ptr 5 0), sB 77 (!(decide (a87 = a91))), hB 0 22 [.arr .u8 32 a_0], hB 2 22 [.arr .u8 32 n_2], hB 4 22 [.arr .u8 32 a87], hB 5 22 [.arr .u8 32 a91]] [(!(b92 == (r88 == (0 : Int)))) = false, (!b92) = false] (by kernel_rfl) (hcons hb96 (hone hb123)) ?_
              refine q_k ?_
              rcases ite_split h with ⟨hc124, h⟩ | ⟨hc124, h⟩
              · refine tr_cond_t (!(decide (a87 = a91))) (by kernel_rfl) hc124 ?_
                refine tr_seq ?_
                refine tr_reg hT [] [.s 6] [sB 6 false] [] (by kernel_rfl) trivial ?_
                refine q_k ?_
                refine tr_ret ?_
                refine q_k_ret ?_
                have h := Option.some.inj h
                subst h
                exact q_ret0 hT (.v (.one (.bool false))) rfl (by kernel_rfl)
              · refine tr_cond_f (!(decide (a87 = a91))) (by kernel_rfl) hc124 ?_
                refine tr_skip ?_
                refine q_k ?_
                refine tr_seq ?_
                obtain ⟨⟨a125, r126⟩, e127, h⟩ := bind_some h
                refine tr_reg hT [(2, .call [] (.tup [.agg [.arr .u8 32 a125], .one (.int .i64 r126)]) [])] [.s 3, .s 5, .s 9, .s 10, .s 11, .h 0, .h 2, .h 4, .h 5] [sO 3 (.ptr 0 0), sO 5 (.ptr 2 0), sO 9 (.ptr 4 0), sI 10 .i64 r126, sO 11 (.ptr 5 0), hB 0 22 [.arr .u8 32 a_0], hB 2 22 [.arr .u8 32 n_2], hB 4 22 [.arr .u8 32 a125], hB 5 22 [.arr .u8 32 a91]] [CallOk P 55 [.v (.agg [.arr .u8 32 n_2]), .v (.agg [.arr .u8 32 a_0])] [] (.tup [.agg [.arr .u8 32 a125], .one (.int .i64 r126)]) []] (by kernel_rfl) (hone (curve_Mul_ok n_2 a_0 (a125, r126) e127)) ?_
                refine q_k ?_
                refine tr_seq ?_
                obtain ⟨⟨a129, b130⟩, e131, h⟩ := bind_some h
                refine tr_reg hT [(2, .call [] (.tup [.agg [.arr .u8 32 a129], .one (.bool b130)]) [])] [.s 9, .s 10, .s 11, .s 12, .h 4, .h 5] [sO 9 (.ptr 4 0), sI 10 .i64 r126, sO 11 (.ptr 5 0), sB 12 b130, hB 4 22 [.arr .u8 32 a125], hB 5 22 [.arr .u8 32 a129]] [CallOk P 65 [.v (.agg [.arr .u8 32 n_2]), .v (.agg [.arr .u8 32 a_0])] [] (.tup [.agg [.arr .u8 32 a129], .one (.bool b130)]) []] (by kernel_rfl) (hone (ref04_Times_ok n_2 a_0 (a129, b130) e131)) ?_
                refine q_k ?_
                refine tr_seq ?_
                rcases ite_split h with ⟨hb133, h⟩ | ⟨hb146, h⟩
                · rcases ite_split h with ⟨hb134, h⟩ | ⟨hb139, h⟩
                  · rcases ite_split h with ⟨hb135, h⟩ | ⟨hb138, h⟩
                    · obtain ⟨b136, e137, h⟩ := bind_some h
                      refine tr_reg hT [(4, .dec true), (6, .dec true), (16, .dec true), (17, .call [] (.v (.one (.bool b136))) [])] [.s 6] [sB 6 b136] [(b130 == (r126 == (0 : Int))) = true, b130 = true, (decide (a125 = a129)) = true, CallOk P 59 [] [] (.v (.one (.bool b136))) []] (by kernel_rfl) (hcons hb133 (hcons hb134 (hcons hb135 (hone (law06_wakes_ok  b136 e137))))) ?_
                      refine q_k ?_
                      refine tr_ret ?_
                      have h := Option.some.inj h
                      subst h
                      exact q_ret0 hT (.v (.one (.bool b136))) rfl (by kernel_rfl)
                    · refine tr_reg hT [(4, .dec true), (6, .dec true), (16, .dec false)] [.s 6] [sB 6 false] [(b130 == (r126 == (0 : Int))) = true, b130 = true, (decide (a125 = a129)) = false] (by kernel_rfl) (hcons hb133 (hcons hb134 (hone hb138))) ?_
                      refine q_k ?_
                      refine tr_ret ?_
                      have h := Option.some.inj h
                      subst h
                      exact q_ret0 hT (.v (.one (.bool false))) rfl (by kernel_rfl)
                  · rcases ite_split h with ⟨hb140, h⟩ | ⟨hb145, h⟩
                    · rcases ite_split h with ⟨hb141, h⟩ | ⟨hb144, h⟩
                      · obtain ⟨b142, e143, h⟩ := bind_some h
                        refine tr_reg hT [(4, .dec true), (6, .dec false), (11, .dec true), (16, .dec true), (17, .call [] (.v (.one (.bool b142))) [])] [.s 6] [sB 6 b142] [(b130 == (r126 == (0 : Int))) = true, b130 = false, (r126 == (1 : Int)) = true, (decide (a125 = a129)) = true, CallOk P 59 [] [] (.v (.one (.bool b142))) []] (by kernel_rfl) (hcons hb133 (hcons hb139 (hcons hb140 (hcons hb141 (hone (law06_wakes_ok  b142 e143)))))) ?_
                        refine q_k ?_
                        refine tr_ret ?_
                        have h := Option.some.inj h
                        subst h
                        exact q_ret0 hT (.v (.one (.bool b142))) rfl (by kernel_rfl)
                      · refine tr_reg hT [(4, .dec true), (6, .dec false), (11, .dec true), (16, .dec false)] [.s 6] [sB 6 false] [(b130 == (r126 == (0 : Int))) = true, b130 = false, (r126 == (1 : Int)) = true, (decide (a125 = a129)) = false] (by kernel_rfl) (hcons hb133 (hcons hb139 (hcons hb140 (hone hb144)))) ?_
                        refine q_k ?_
                        refine tr_ret ?_
                        have h := Option.some.inj h
                        subst h
                        exact q_ret0 hT (.v (.one (.bool false))) rfl (by kernel_rfl)
                    · refine tr_reg hT [(4, .dec true), (6, .dec false), (11, .dec false)] [.s 6] [sB 6 false] [(b130 == (r126 == (0 : Int))) = true, b130 = false, (r126 == (1 : Int)) = false] (by kernel_rfl) (hcons hb133 (hcons hb139 (hone hb145))) ?_
                      refine q_k ?_
                      refine tr_ret ?_
                      have h := Option.some.inj h
                      subst h
                      exact q_ret0 hT (.v (.one (.bool false))) rfl (by kernel_rfl)
                · refine tr_reg hT [(4, .dec false)] [.s 6] [sB 6 false] [(b130 == (r126 == (0 : Int))) = false] (by kernel_rfl) (hone hb146) ?_
                  refine q_k ?_
                  refine tr_ret ?_
                  have h := Option.some.inj h
                  subst h
                  exact q_ret0 hT (.v (.one (.bool false))) rfl (by kernel_rfl)

end Go.Proofs.Sb
