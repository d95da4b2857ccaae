/- Walks, printed by a program of this session (gowalk.py): each Go function comes to its plain function's answer. -/
import Derived.Test.YtdcdanfeepncmaaSbA
import Derived.Test.YtdcdanfeepncmaaSbD
import Derived.Test.YtdcdanfeepncmaaSbI
import Derived.Test.YtdcdanfeepncmaaSbV0
import Derived.Test.YtdcdanfeepncmaaSbV1
import Derived.Test.YtdcdanfeepncmaaSbV2
namespace Go.Proofs.Sb
open Go Go.Gw D
set_option linter.unusedVariables false
set_option maxRecDepth 20000

theorem law04_FieldSmall_ok (a_0 : Int) (b_1 : Int) (r : Bool) (h : law04_FieldSmall a_0 b_1 = some r) {pre : List (Nat × Ent)} : CallOk P 13 [.v (.one (.int .i64 a_0)), .v (.one (.int .i64 b_1))] pre (.v (.one (.bool r))) [] := by
  refine call0 (N := 59) Try.func13 (by kernel_rfl) rfl rfl rfl pre ?_
  intro _ w
  show Tr P w.heap.size 59 w _ _ (RetQ P Try.f13 (R0 _ w))
  unfold law04_FieldSmall at h
  refine tr_seq ?_
  refine tr_reg hT [] [.s 0, .s 1] [sI 0 .i64 a_0, sI 1 .i64 b_1] [] (by kernel_rfl) trivial ?_
  refine q_k ?_
  refine tr_seq ?_
  refine tr_reg hT [] [.s 0, .s 1] [sI 0 .i64 (band .i64 a_0 (1073741823 : Int)), sI 1 .i64 (band .i64 b_1 (1073741823 : Int))] [] (by kernel_rfl) trivial ?_
  refine q_k ?_
  refine tr_seq ?_
  obtain ⟨a1, e2, h⟩ := bind_some h
  obtain ⟨a3, e4, h⟩ := bind_some h
  obtain ⟨a5, e6, h⟩ := bind_some h
  obtain ⟨a7, e8, h⟩ := bind_some h
  rcases ite_split h with ⟨hb9, h⟩ | ⟨hb38, h⟩
  · obtain ⟨a10, e11, h⟩ := bind_some h
    obtain ⟨a12, e13, h⟩ := bind_some h
    obtain ⟨a14, e15, h⟩ := bind_some h
    obtain ⟨a16, e17, h⟩ := bind_some h
    rcases ite_split h with ⟨hb18, h⟩ | ⟨hb37, h⟩
    · obtain ⟨a19, e20, h⟩ := bind_some h
      obtain ⟨a21, e22, h⟩ := bind_some h
      obtain ⟨a23, e24, h⟩ := bind_some h
      obtain ⟨a25, e26, h⟩ := bind_some h
      rcases ite_split h with ⟨hb27, h⟩ | ⟨hb36, h⟩
      · obtain ⟨a28, e29, h⟩ := bind_some h
        obtain ⟨b30, e31, h⟩ := bind_some h
        rcases ite_split h with ⟨hb32, h⟩ | ⟨hb35, h⟩
        · obtain ⟨b33, e34, h⟩ := bind_some h
          refine tr_reg hT [(1, .call (.v (.agg [.arr .u8 32 a1])) []), (3, .call (.v (.agg [.arr .u8 32 a3])) []), (4, .call (.v (.agg [.arr .u8 32 a5])) []), (8, .call (.v (.agg [.arr .u8 32 a7])) []), (10, .dec true), (12, .call (.v (.agg [.arr .u8 32 a10])) []), (14, .call (.v (.agg [.arr .u8 32 a12])) []), (15, .call (.v (.agg [.arr .u8 32 a14])) []), (19, .call (.v (.agg [.arr .u8 32 a16])) []), (22, .dec true), (26, .call (.v (.agg [.arr .u8 32 a19])) []), (30, .call (.v (.agg [.arr .u8 32 a21])) []), (31, .call (.v (.agg [.arr .u8 32 a23])) []), (39, .call (.v (.agg [.arr .u8 32 a25])) []), (42, .dec true), (44, .call (.v (.agg [.arr .u8 32 a28])) []), (45, .call (.v (.one (.bool b30))) []), (47, .dec true), (48, .call (.v (.one (.bool b33))) [])] [.s 4] [sB 4 b33] [CallOk P 26 [.v (.one (.int .i64 (band .i64 a_0 (1073741823 : Int))))] [] (.v (.agg [.arr .u8 32 a1])) [], CallOk P 26 [.v (.one (.int .i64 (band .i64 b_1 (1073741823 : Int))))] [] (.v (.agg [.arr .u8 32 a3])) [], CallOk P 40 [.v (.agg [.arr .u8 32 a1]), .v (.agg [.arr .u8 32 a3])] [] (.v (.agg [.arr .u8 32 a5])) [], CallOk P 26 [.v (.one (.int .i64 (IntKind.i64.wrap ((band .i64 a_0 (1073741823 : Int)) + (band .i64 b_1 (1073741823 : Int))))))] [] (.v (.agg [.arr .u8 32 a7])) [], (decide (a5 = a7)) = true, CallOk P 26 [.v (.one (.int .i64 (band .i64 a_0 (1073741823 : Int))))] [] (.v (.agg [.arr .u8 32 a10])) [], CallOk P 26 [.v (.one (.int .i64 (band .i64 b_1 (1073741823 : Int))))] [] (.v (.agg [.arr .u8 32 a12])) [], CallOk P 34 [.v (.agg [.arr .u8 32 a10]), .v (.agg [.arr .u8 32 a12])] [] (.v (.agg [.arr .u8 32 a14])) [], CallOk P 26 [.v (.one (.int .i64 (IntKind.i64.wrap ((band .i64 a_0 (1073741823 : Int)) * (band .i64 b_1 (1073741823 : Int))))))] [] (.v (.agg [.arr .u8 32 a16])) [], (decide (a14 = a16)) = true, CallOk P 26 [.v (.one (.int .i64 (if (band .i64 b_1 (1073741823 : Int)) > (band .i64 a_0 (1073741823 : Int)) then (band .i64 b_1 (1073741823 : Int)) else (band .i64 a_0 (1073741823 : Int)))))] [] (.v (.agg [.arr .u8 32 a19])) [], CallOk P 26 [.v (.one (.int .i64 (if (band .i64 b_1 (1073741823 : Int)) < (band .i64 a_0 (1073741823 : Int)) then (band .i64 b_1 (1073741823 : Int)) else (band .i64 a_0 (1073741823 : Int)))))] [] (.v (.agg [.arr .u8 32 a21])) [], CallOk P 41 [.v (.agg [.arr .u8 32 a19]), .v (.agg [.arr .u8 32 a21])] [] (.v (.agg [.arr .u8 32 a23])) [], CallOk P 26 [.v (.one (.int .i64 (IntKind.i64.wrap ((if (band .i64 b_1 (1073741823 : Int)) > (band .i64 a_0 (1073741823 : Int)) then (band .i64 b_1 (1073741823 : Int)) else (band .i64 a_0 (1073741823 : Int))) - (if (band .i64 b_1 (1073741823 : Int)) < (band .i64 a_0 (1073741823 : Int)) then (band .i64 b_1 (1073741823 : Int)) else (band .i64 a_0 (1073741823 : Int)))))))] [] (.v (.agg [.arr .u8 32 a25])) [], (decide (a23 = a25)) = true, CallOk P 26 [.v (.one (.int .i64 (band .i64 a_0 (1073741823 : Int))))] [] (.v (.agg [.arr .u8 32 a28])) [], CallOk P 42 [.v (.agg [.arr .u8 32 a28])] [] (.v (.one (.bool b30))) [], b30 = true, CallOk P 35 [] [] (.v (.one (.bool b33))) []] (by kernel_rfl) (hcons (law04_Num_ok (band .i64 a_0 (1073741823 : Int)) a1 e2) (hcons (law04_Num_ok (band .i64 b_1 (1073741823 : Int)) a3 e4) (hcons (field_Add_ok a1 a3 a5 e6) (hcons (law04_Num_ok (IntKind.i64.wrap ((band .i64 a_0 (1073741823 : Int)) + (band .i64 b_1 (1073741823 : Int)))) a7 e8) (hcons hb9 (hcons (law04_Num_ok (band .i64 a_0 (1073741823 : Int)) a10 e11) (hcons (law04_Num_ok (band .i64 b_1 (1073741823 : Int)) a12 e13) (hcons (field_Mul_ok a10 a12 a14 e15) (hcons (law04_Num_ok (IntKind.i64.wrap ((band .i64 a_0 (1073741823 : Int)) * (band .i64 b_1 (1073741823 : Int)))) a16 e17) (hcons hb18 (hcons (law04_Num_ok (if (band .i64 b_1 (1073741823 : Int)) > (band .i64 a_0 (1073741823 : Int)) then (band .i64 b_1 (1073741823 : Int)) else (band .i64 a_0 (1073741823 : Int))) a19 e20) (hcons (law04_Num_ok (if (band .i64 b_1 (1073741823 : Int)) < (band .i64 a_0 (1073741823 : Int)) then (band .i64 b_1 (1073741823 : Int)) else (band .i64 a_0 (1073741823 : Int))) a21 e22) (hcons (field_Sub_ok a19 a21 a23 e24) (hcons (law04_Num_ok (IntKind.i64.wrap ((if (band .i64 b_1 (1073741823 : Int)) > (band .i64 a_0 (1073741823 : Int)) then (band .i64 b_1 (1073741823 : Int)) else (band .i64 a_0 (1073741823 : Int))) - (if (band .i64 b_1 (1073741823 : Int)) < (band .i64 a_0 (1073741823 : Int)) then (band .i64 b_1 (1073741823 : Int)) else (band .i64 a_0 (1073741823 : Int))))) a25 e26) (hcons hb27 (hcons (law04_Num_ok (band .i64 a_0 (1073741823 : Int)) a28 e29) (hcons (field_Check_ok a28 b30 e31) (hcons hb32 (hone (law04_wakes_ok  b33 e34)))))))))))))))))))) ?_
          refine q_k ?_
          refine tr_ret ?_
          have h := Option.some.inj h
          subst h
          exact q_ret0 hT (.v (.one (.bool b33))) rfl (by kernel_rfl)
        · refine tr_reg hT [(1, .call (.v (.agg [.arr .u8 32 a1])) []), (3, .call (.v (.agg [.arr .u8 32 a3])) []), (4, .call (.v (.agg [.arr .u8 32 a5])) []), (8, .call (.v (.agg [.arr .u8 32 a7])) []), (10, .dec true), (12, .call (.v (.agg [.arr .u8 32 a10])) []), (14, .call (.v (.agg [.arr .u8 32 a12])) []), (15, .call (.v (.agg [.arr .u8 32 a14])) []), (19, .call (.v (.agg [.arr .u8 32 a16])) []), (22, .dec true), (26, .call (.v (.agg [.arr .u8 32 a19])) []), (30, .call (.v (.agg [.arr .u8 32 a21])) []), (31, .call (.v (.agg [.arr .u8 32 a23])) []), (39, .call (.v (.agg [.arr .u8 32 a25])) []), (42, .dec true), (44, .call (.v (.agg [.arr .u8 32 a28])) []), (45, .call (.v (.one (.bool b30))) []), (47, .dec false)] [.s 4] [sB 4 false] [CallOk P 26 [.v (.one (.int .i64 (band .i64 a_0 (1073741823 : Int))))] [] (.v (.agg [.arr .u8 32 a1])) [], CallOk P 26 [.v (.one (.int .i64 (band .i64 b_1 (1073741823 : Int))))] [] (.v (.agg [.arr .u8 32 a3])) [], CallOk P 40 [.v (.agg [.arr .u8 32 a1]), .v (.agg [.arr .u8 32 a3])] [] (.v (.agg [.arr .u8 32 a5])) [], CallOk P 26 [.v (.one (.int .i64 (IntKind.i64.wrap ((band .i64 a_0 (1073741823 : Int)) + (band .i64 b_1 (1073741823 : Int))))))] [] (.v (.agg [.arr .u8 32 a7])) [], (decide (a5 = a7)) = true, CallOk P 26 [.v (.one (.int .i64 (band .i64 a_0 (1073741823 : Int))))] [] (.v (.agg [.arr .u8 32 a10])) [], CallOk P 26 [.v (.one (.int .i64 (band .i64 b_1 (1073741823 : Int))))] [] (.v (.agg [.arr .u8 32 a12])) [], CallOk P 34 [.v (.agg [.arr .u8 32 a10]), .v (.agg [.arr .u8 32 a12])] [] (.v (.agg [.arr .u8 32 a14])) [], CallOk P 26 [.v (.one (.int .i64 (IntKind.i64.wrap ((band .i64 a_0 (1073741823 : Int)) * (band .i64 b_1 (1073741823 : Int))))))] [] (.v (.agg [.arr .u8 32 a16])) [], (decide (a14 = a16)) = true, CallOk P 26 [.v (.one (.int .i64 (if (band .i64 b_1 (1073741823 : Int)) > (band .i64 a_0 (1073741823 : Int)) then (band .i64 b_1 (1073741823 : Int)) else (band .i64 a_0 (1073741823 : Int)))))] [] (.v (.agg [.arr .u8 32 a19])) [], CallOk P 26 [.v (.one (.int .i64 (if (band .i64 b_1 (1073741823 : Int)) < (band .i64 a_0 (1073741823 : Int)) then (band .i64 b_1 (1073741823 : Int)) else (band .i64 a_0 (1073741823 : Int)))))] [] (.v (.agg [.arr .u8 32 a21])) [], CallOk P 41 [.v (.agg [.arr .u8 32 a19]), .v (.agg [.arr .u8 32 a21])] [] (.v (.agg [.arr .u8 32 a23])) [], CallOk P 26 [.v (.one (.int .i64 (IntKind.i64.wrap ((if (band .i64 b_1 (1073741823 : Int)) > (band .i64 a_0 (1073741823 : Int)) then (band .i64 b_1 (1073741823 : Int)) else (band .i64 a_0 (1073741823 : Int))) - (if (band .i64 b_1 (1073741823 : Int)) < (band .i64 a_0 (1073741823 : Int)) then (band .i64 b_1 (1073741823 : Int)) else (band .i64 a_0 (1073741823 : Int)))))))] [] (.v (.agg [.arr .u8 32 a25])) [], (decide (a23 = a25)) = true, CallOk P 26 [.v (.one (.int .i64 (band .i64 a_0 (1073741823 : Int))))] [] (.v (.agg [.arr .u8 32 a28])) [], CallOk P 42 [.v (.agg [.arr .u8 32 a28])] [] (.v (.one (.bool b30))) [], b30 = false] (by kernel_rfl) (hcons (law04_Num_ok (band .i64 a_0 (1073741823 : Int)) a1 e2) (hcons (law04_Num_ok (band .i64 b_1 (1073741823 : Int)) a3 e4) (hcons (field_Add_ok a1 a3 a5 e6) (hcons (law04_Num_ok (IntKind.i64.wrap ((band .i64 a_0 (1073741823 : Int)) + (band .i64 b_1 (1073741823 : Int)))) a7 e8) (hcons hb9 (hcons (law04_Num_ok (band .i64 a_0 (1073741823 : Int)) a10 e11) (hcons (law04_Num_ok (band .i64 b_1 (1073741823 : Int)) a12 e13) (hcons (field_Mul_ok a10 a12 a14 e15) (hcons (law04_Num_ok (IntKind.i64.wrap ((band .i64 a_0 (1073741823 : Int)) * (band .i64 b_1 (1073741823 : Int)))) a16 e17) (hcons hb18 (hcons (law04_Num_ok (if (band .i64 b_1 (1073741823 : Int)) > (band .i64 a_0 (1073741823 : Int)) then (band .i64 b_1 (1073741823 : Int)) else (band .i64 a_0 (1073741823 : Int))) a19 e20) (hcons (law04_Num_ok (if (band .i64 b_1 (1073741823 : Int)) < (band .i64 a_0 (1073741823 : Int)) then (band .i64 b_1 (1073741823 : Int)) else (band .i64 a_0 (1073741823 : Int))) a21 e22) (hcons (field_Sub_ok a19 a21 a23 e24) (hcons (law04_Num_ok (IntKind.i64.wrap ((if (band .i64 b_1 (1073741823 : Int)) > (band .i64 a_0 (1073741823 : Int)) then (band .i64 b_1 (1073741823 : Int)) else (band .i64 a_0 (1073741823 : Int))) - (if (band .i64 b_1 (1073741823 : Int)) < (band .i64 a_0 (1073741823 : Int)) then (band .i64 b_1 (1073741823 : Int)) else (band .i64 a_0 (1073741823 : Int))))) a25 e26) (hcons hb27 (hcons (law04_Num_ok (band .i64 a_0 (1073741823 : Int)) a28 e29) (hcons (field_Check_ok a28 b30 e31) (hone hb35)))))))))))))))))) ?_
          refine q_k ?_
          refine tr_ret ?_
          have h := Option.some.inj h
          subst h
          exact q_ret0 hT (.v (.one (.bool false))) rfl (by kernel_rfl)
      · refine tr_reg hT [(1, .call (.v (.agg [.arr .u8 32 a1])) []), (3, .call (.v (.agg [.arr .u8 32 a3])) []), (4, .call (.v (.agg [.arr .u8 32 a5])) []), (8, .call (.v (.agg [.arr .u8 32 a7])) []), (10, .dec true), (12, .call (.v (.agg [.arr .u8 32 a10])) []), (14, .call (.v (.agg [.arr .u8 32 a12])) []), (15, .call (.v (.agg [.arr .u8 32 a14])) []), (19, .call (.v (.agg [.arr .u8 32 a16])) []), (22, .dec true), (26, .call (.v (.agg [.arr .u8 32 a19])) []), (30, .call (.v (.agg [.arr .u8 32 a21])) []), (31, .call (.v (.agg [.arr .u8 32 a23])) []), (39, .call (.v (.agg [.arr .u8 32 a25])) []), (42, .dec false)] [.s 4] [sB 4 false] [CallOk P 26 [.v (.one (.int .i64 (band .i64 a_0 (1073741823 : Int))))] [] (.v (.agg [.arr .u8 32 a1])) [], CallOk P 26 [.v (.one (.int .i64 (band .i64 b_1 (1073741823 : Int))))] [] (.v (.agg [.arr .u8 32 a3])) [], CallOk P 40 [.v (.agg [.arr .u8 32 a1]), .v (.agg [.arr .u8 32 a3])] [] (.v (.agg [.arr .u8 32 a5])) [], CallOk P 26 [.v (.one (.int .i64 (IntKind.i64.wrap ((band .i64 a_0 (1073741823 : Int)) + (band .i64 b_1 (1073741823 : Int))))))] [] (.v (.agg [.arr .u8 32 a7])) [], (decide (a5 = a7)) = true, CallOk P 26 [.v (.one (.int .i64 (band .i64 a_0 (1073741823 : Int))))] [] (.v (.agg [.arr .u8 32 a10])) [], CallOk P 26 [.v (.one (.int .i64 (band .i64 b_1 (1073741823 : Int))))] [] (.v (.agg [.arr .u8 32 a12])) [], CallOk P 34 [.v (.agg [.arr .u8 32 a10]), .v (.agg [.arr .u8 32 a12])] [] (.v (.agg [.arr .u8 32 a14])) [], CallOk P 26 [.v (.one (.int .i64 (IntKind.i64.wrap ((band .i64 a_0 (1073741823 : Int)) * (band .i64 b_1 (1073741823 : Int))))))] [] (.v (.agg [.arr .u8 32 a16])) [], (decide (a14 = a16)) = true, CallOk P 26 [.v (.one (.int .i64 (if (band .i64 b_1 (1073741823 : Int)) > (band .i64 a_0 (1073741823 : Int)) then (band .i64 b_1 (1073741823 : Int)) else (band .i64 a_0 (1073741823 : Int)))))] [] (.v (.agg [.arr .u8 32 a19])) [], CallOk P 26 [.v (.one (.int .i64 (if (band .i64 b_1 (1073741823 : Int)) < (band .i64 a_0 (1073741823 : Int)) then (band .i64 b_1 (1073741823 : Int)) else (band .i64 a_0 (1073741823 : Int)))))] [] (.v (.agg [.arr .u8 32 a21])) [], CallOk P 41 [.v (.agg [.arr .u8 32 a19]), .v (.agg [.arr .u8 32 a21])] [] (.v (.agg [.arr .u8 32 a23])) [], CallOk P 26 [.v (.one (.int .i64 (IntKind.i64.wrap ((if (band .i64 b_1 (1073741823 : Int)) > (band .i64 a_0 (1073741823 : Int)) then (band .i64 b_1 (1073741823 : Int)) else (band .i64 a_0 (1073741823 : Int))) - (if (band .i64 b_1 (1073741823 : Int)) < (band .i64 a_0 (1073741823 : Int)) then (band .i64 b_1 (1073741823 : Int)) else (band .i64 a_0 (1073741823 : Int)))))))] [] (.v (.agg [.arr .u8 32 a25])) [], (decide (a23 = a25)) = false] (by kernel_rfl) (hcons (law04_Num_ok (band .i64 a_0 (1073741823 : Int)) a1 e2) (hcons (law04_Num_ok (band .i64 b_1 (1073741823 : Int)) a3 e4) (hcons (field_Add_ok a1 a3 a5 e6) (hcons (law04_Num_ok (IntKind.i64.wrap ((band .i64 a_0 (1073741823 : Int)) + (band .i64 b_1 (1073741823 : Int)))) a7 e8) (hcons hb9 (hcons (law04_Num_ok (band .i64 a_0 (1073741823 : Int)) a10 e11) (hcons (law04_Num_ok (band .i64 b_1 (1073741823 : Int)) a12 e13) (hcons (field_Mul_ok a10 a12 a14 e15) (hcons (law04_Num_ok (IntKind.i64.wrap ((band .i64 a_0 (1073741823 : Int)) * (band .i64 b_1 (1073741823 : Int)))) a16 e17) (hcons hb18 (hcons (law04_Num_ok (if (band .i64 b_1 (1073741823 : Int)) > (band .i64 a_0 (1073741823 : Int)) then (band .i64 b_1 (1073741823 : Int)) else (band .i64 a_0 (1073741823 : Int))) a19 e20) (hcons (law04_Num_ok (if (band .i64 b_1 (1073741823 : Int)) < (band .i64 a_0 (1073741823 : Int)) then (band .i64 b_1 (1073741823 : Int)) else (band .i64 a_0 (1073741823 : Int))) a21 e22) (hcons (field_Sub_ok a19 a21 a23 e24) (hcons (law04_Num_ok (IntKind.i64.wrap ((if (band .i64 b_1 (1073741823 : Int)) > (band .i64 a_0 (1073741823 : Int)) then (band .i64 b_1 (1073741823 : Int)) else (band .i64 a_0 (1073741823 : Int))) - (if (band .i64 b_1 (1073741823 : Int)) < (band .i64 a_0 (1073741823 : Int)) then (band .i64 b_1 (1073741823 : Int)) else (band .i64 a_0 (1073741823 : Int))))) a25 e26) (hone hb36))))))))))))))) ?_
        refine q_k ?_
        refine tr_ret ?_
        have h := Option.some.inj h
        subst h
        exact q_ret0 hT (.v (.one (.bool false))) rfl (by kernel_rfl)
    · refine tr_reg hT [(1, .call (.v (.agg [.arr .u8 32 a1])) []), (3, .call (.v (.agg [.arr .u8 32 a3])) []), (4, .call (.v (.agg [.arr .u8 32 a5])) []), (8, .call (.v (.agg [.arr .u8 32 a7])) []), (10, .dec true), (12, .call (.v (.agg [.arr .u8 32 a10])) []), (14, .call (.v (.agg [.arr .u8 32 a12])) []), (15, .call (.v (.agg [.arr .u8 32 a14])) []), (19, .call (.v (.agg [.arr .u8 32 a16])) []), (22, .dec false)] [.s 4] [sB 4 false] [CallOk P 26 [.v (.one (.int .i64 (band .i64 a_0 (1073741823 : Int))))] [] (.v (.agg [.arr .u8 32 a1])) [], CallOk P 26 [.v (.one (.int .i64 (band .i64 b_1 (1073741823 : Int))))] [] (.v (.agg [.arr .u8 32 a3])) [], CallOk P 40 [.v (.agg [.arr .u8 32 a1]), .v (.agg [.arr .u8 32 a3])] [] (.v (.agg [.arr .u8 32 a5])) [], CallOk P 26 [.v (.one (.int .i64 (IntKind.i64.wrap ((band .i64 a_0 (1073741823 : Int)) + (band .i64 b_1 (1073741823 : Int))))))] [] (.v (.agg [.arr .u8 32 a7])) [], (decide (a5 = a7)) = true, CallOk P 26 [.v (.one (.int .i64 (band .i64 a_0 (1073741823 : Int))))] [] (.v (.agg [.arr .u8 32 a10])) [], CallOk P 26 [.v (.one (.int .i64 (band .i64 b_1 (1073741823 : Int))))] [] (.v (.agg [.arr .u8 32 a12])) [], CallOk P 34 [.v (.agg [.arr .u8 32 a10]), .v (.agg [.arr .u8 32 a12])] [] (.v (.agg [.arr .u8 32 a14])) [], CallOk P 26 [.v (.one (.int .i64 (IntKind.i64.wrap ((band .i64 a_0 (1073741823 : Int)) * (band .i64 b_1 (1073741823 : Int))))))] [] (.v (.agg [.arr .u8 32 a16])) [], (decide (a14 = a16)) = false] (by kernel_rfl) (hcons (law04_Num_ok (band .i64 a_0 (1073741823 : Int)) a1 e2) (hcons (law04_Num_ok (band .i64 b_1 (1073741823 : Int)) a3 e4) (hcons (field_Add_ok a1 a3 a5 e6) (hcons (law04_Num_ok (IntKind.i64.wrap ((band .i64 a_0 (1073741823 : Int)) + (band .i64 b_1 (1073741823 : Int)))) a7 e8) (hcons hb9 (hcons (law04_Num_ok (band .i64 a_0 (1073741823 : Int)) a10 e11) (hcons (law04_Num_ok (band .i64 b_1 (1073741823 : Int)) a12 e13) (hcons (field_Mul_ok a10 a12 a14 e15) (hcons (law04_Num_ok (IntKind.i64.wrap ((band .i64 a_0 (1073741823 : Int)) * (band .i64 b_1 (1073741823 : Int)))) a16 e17) (hone hb37)))))))))) ?_
      refine q_k ?_
      refine tr_ret ?_
      have h := Option.some.inj h
      subst h
      exact q_ret0 hT (.v (.one (.bool false))) rfl (by kernel_rfl)
  · refine tr_reg hT [(1, .call (.v (.agg [.arr .u8 32 a1])) []), (3, .call (.v (.agg [.arr .u8 32 a3])) []), (4, .call (.v (.agg [.arr .u8 32 a5])) []), (8, .call (.v (.agg [.arr .u8 32 a7])) []), (10, .dec false)] [.s 4] [sB 4 false] [CallOk P 26 [.v (.one (.int .i64 (band .i64 a_0 (1073741823 : Int))))] [] (.v (.agg [.arr .u8 32 a1])) [], CallOk P 26 [.v (.one (.int .i64 (band .i64 b_1 (1073741823 : Int))))] [] (.v (.agg [.arr .u8 32 a3])) [], CallOk P 40 [.v (.agg [.arr .u8 32 a1]), .v (.agg [.arr .u8 32 a3])] [] (.v (.agg [.arr .u8 32 a5])) [], CallOk P 26 [.v (.one (.int .i64 (IntKind.i64.wrap ((band .i64 a_0 (1073741823 : Int)) + (band .i64 b_1 (1073741823 : Int))))))] [] (.v (.agg [.arr .u8 32 a7])) [], (decide (a5 = a7)) = false] (by kernel_rfl) (hcons (law04_Num_ok (band .i64 a_0 (1073741823 : Int)) a1 e2) (hcons (law04_Num_ok (band .i64 b_1 (1073741823 : Int)) a3 e4) (hcons (field_Add_ok a1 a3 a5 e6) (hcons (law04_Num_ok (IntKind.i64.wrap ((band .i64 a_0 (1073741823 : Int)) + (band .i64 b_1 (1073741823 : Int)))) a7 e8) (hone hb38))))) ?_
    refine q_k ?_
    refine tr_ret ?_
    have h := Option.some.inj h
    subst h
    exact q_ret0 hT (.v (.one (.bool false))) rfl (by kernel_rfl)

theorem ref04_Mod_ok (a_0 : List Int) (r : List Int) (h : ref04_Mod a_0 = some r) {pre : List (Nat × Ent)} : CallOk P 46 [.v (.agg [.arr .u64 4 a_0])] pre (.v (.agg [.arr .u64 4 r])) [] := by
  refine call0 (N := 19) Try.func46 (by kernel_rfl) rfl rfl rfl pre ?_
  intro _ w
  show Tr P w.heap.size 19 w _ _ (RetQ P Try.f46 (R0 _ w))
  unfold ref04_Mod at h
  refine tr_seq ?_
  refine tr_reg hT [(0, .key 0), (1, .key 1)] [.s 1, .s 2, .h 0, .h 1] [sO 1 (.ptr 0 0), sO 2 (.ptr 1 0), hB 0 31 [.arr .u64 4 a_0], hB 1 31 [.arr .u64 4 (List.replicate 4 0)]] [] (by kernel_rfl) trivial ?_
  refine q_k ?_
  refine tr_seq ?_
  refine tr_seq ?_
  refine tr_reg hT [] [.s 1, .s 2, .s 3, .h 0, .h 1] [sO 1 (.ptr 0 0), sO 2 (.ptr 1 0), sI 3 .i64 (0 : Int), hB 0 31 [.arr .u64 4 a_0], hB 1 31 [.arr .u64 4 (List.replicate 4 0)]] [] (by kernel_rfl) trivial ?_
  refine q_k ?_
  refine tr_block ?_
  obtain ⟨m15, e16, h⟩ := bind_some h
  refine tr_less [.s 1, .s 2, .s 3, .h 0, .h 1] [sO 1 (.ptr 0 0), sO 2 (.ptr 1 0), sI 3 .i64 (0 : Int), hB 0 31 [.arr .u64 4 a_0], hB 1 31 [.arr .u64 4 (List.replicate 4 0)]] (by kernel_rfl) ?_
  refine tr_loop_fuel (id := 0) (α := List Int × Int) (β := List Int) (fun z => [sO 1 (.ptr 0 0), sO 2 (.ptr 1 0), sI 3 .i64 z.2, hB 0 31 [.arr .u64 4 z.1], hB 1 31 [.arr .u64 4 (List.replicate 4 0)]]) (fun z => [sO 1 (.ptr 0 0), sO 2 (.ptr 1 0), hB 0 31 [.arr .u64 4 z], hB 1 31 [.arr .u64 4 (List.replicate 4 0)]]) (fun k z => ref04_Mod_l0 k z.1 z.2) m15 (fun _ => rfl) (((3 : Int) - (0 : Int)).toNat + 1) (a_0, (0 : Int)) e16 ?_ ?_
  · skip
    replace h : (some m15) = _ := h
    refine q_b_this ?_
    refine q_k ?_
    refine tr_seq ?_
    refine tr_reg hT [] [.s 2, .h 1] [sO 2 (.ptr 1 0), hB 1 31 [.arr .u64 4 m15]] [] (by kernel_rfl) trivial ?_
    refine q_k ?_
    refine tr_ret ?_
    have h := Option.some.inj h
    subst h
    exact q_ret0 hT (.v (.agg [.arr .u64 4 m15])) rfl (by kernel_rfl)
  · clear h e16
    intro k ih0 hx0 z h
    obtain ⟨m1, i2⟩ := z
    replace h : (if (decide (i2 < (3 : Int))) = true then (ref04_P).bind (fun a4 => (ref04_less m1 a4).bind (fun b6 => if (!b6) = true then (ref04_P).bind (fun a9 => (ref04_sub m1 a9).bind (fun (a11, r12) => ref04_Mod_l0 k a11 (IntKind.i64.wrap (i2 + (1 : Int))))) else ref04_Mod_l0 k m1 (IntKind.i64.wrap (i2 + (1 : Int))))) else some m1) = _ := h
    refine tr_seq ?_
    refine tr_seq ?_
    refine tr_reg hT [] [.s 1, .s 2, .s 3, .s 5, .h 0, .h 1] [sO 1 (.ptr 0 0), sO 2 (.ptr 1 0), sI 3 .i64 i2, sB 5 (decide (i2 < (3 : Int))), hB 0 31 [.arr .u64 4 m1], hB 1 31 [.arr .u64 4 (List.replicate 4 0)]] [] (by kernel_rfl) trivial ?_
    refine q_k ?_
    rcases ite_split h with ⟨hc3, h⟩ | ⟨hc3, h⟩
    · refine tr_cond_t (decide (i2 < (3 : Int))) (by kernel_rfl) hc3 ?_
      refine tr_skip ?_
      refine q_k ?_
      refine tr_seq ?_
      refine tr_block ?_
      refine tr_seq ?_
      obtain ⟨a4, e5, h⟩ := bind_some h
      obtain ⟨b6, e7, h⟩ := bind_some h
      refine tr_regd hT hM [(1, .call (.v (.agg [.arr .u64 4 a4])) []), (2, .call (.v (.one (.bool b6))) [])] [.s 1, .s 2, .s 3, .s 11, .h 0, .h 1] [sO 1 (.ptr 0 0), sO 2 (.ptr 1 0), sI 3 .i64 i2, sB 11 (!b6), hB 0 31 [.arr .u64 4 m1], hB 1 31 [.arr .u64 4 (List.replicate 4 0)]] [CallOk P 43 [] [] (.v (.agg [.arr .u64 4 a4])) [], CallOk P 75 [.v (.agg [.arr .u64 4 m1]), .v (.agg [.arr .u64 4 a4])] [] (.v (.one (.bool b6))) []] (by kernel_rfl) (hcons (ref04_P_ok  a4 e5) (hone (ref04_less_ok m1 a4 b6 e7))) ?_
      refine q_k ?_
      rcases ite_split h with ⟨hc8, h⟩ | ⟨hc8, h⟩
      · refine tr_cond_t (!b6) (by kernel_rfl) hc8 ?_
        obtain ⟨a9, e10, h⟩ := bind_some h
        obtain ⟨⟨a11, r12⟩, e13, h⟩ := bind_some h
        refine tr_regd hT hM [(1, .call (.v (.agg [.arr .u64 4 a9])) []), (2, .call (.tup [.agg [.arr .u64 4 a11], .one (.int .u64 r12)]) [])] [.s 1, .s 2, .s 3, .h 0, .h 1] [sO 1 (.ptr 0 0), sO 2 (.ptr 1 0), sI 3 .i64 i2, hB 0 31 [.arr .u64 4 a11], hB 1 31 [.arr .u64 4 (List.replicate 4 0)]] [CallOk P 43 [] [] (.v (.agg [.arr .u64 4 a9])) [], CallOk P 81 [.v (.agg [.arr .u64 4 m1]), .v (.agg [.arr .u64 4 a9])] [] (.tup [.agg [.arr .u64 4 a11], .one (.int .u64 r12)]) []] (by kernel_rfl) (hcons (ref04_P_ok  a9 e10) (hone (ref04_sub_ok m1 a9 (a11, r12) e13))) ?_
        refine q_b 1 ?_
        refine q_k ?_
        refine tr_reg hT [] [.s 1, .s 2, .s 3, .h 0, .h 1] [sO 1 (.ptr 0 0), sO 2 (.ptr 1 0), sI 3 .i64 (IntKind.i64.wrap (i2 + (1 : Int))), hB 0 31 [.arr .u64 4 a11], hB 1 31 [.arr .u64 4 (List.replicate 4 0)]] [] (by kernel_rfl) trivial ?_
        refine q_kr ?_
        exact trR_less [.s 1, .s 2, .s 3, .h 0, .h 1] [sO 1 (.ptr 0 0), sO 2 (.ptr 1 0), sI 3 .i64 (IntKind.i64.wrap (i2 + (1 : Int))), hB 0 31 [.arr .u64 4 a11], hB 1 31 [.arr .u64 4 (List.replicate 4 0)]] (by kernel_rfl) (ih0 (a11, (IntKind.i64.wrap (i2 + (1 : Int)))) h)
      · refine tr_cond_f (!b6) (by kernel_rfl) hc8 ?_
        refine tr_skip ?_
        refine q_b 1 ?_
        refine q_k ?_
        refine tr_reg hT [] [.s 1, .s 2, .s 3, .h 0, .h 1] [sO 1 (.ptr 0 0), sO 2 (.ptr 1 0), sI 3 .i64 (IntKind.i64.wrap (i2 + (1 : Int))), hB 0 31 [.arr .u64 4 m1], hB 1 31 [.arr .u64 4 (List.replicate 4 0)]] [] (by kernel_rfl) trivial ?_
        refine q_kr ?_
        exact trR_less [.s 1, .s 2, .s 3, .h 0, .h 1] [sO 1 (.ptr 0 0), sO 2 (.ptr 1 0), sI 3 .i64 (IntKind.i64.wrap (i2 + (1 : Int))), hB 0 31 [.arr .u64 4 m1], hB 1 31 [.arr .u64 4 (List.replicate 4 0)]] (by kernel_rfl) (ih0 (m1, (IntKind.i64.wrap (i2 + (1 : Int)))) h)
    · refine tr_cond_f (decide (i2 < (3 : Int))) (by kernel_rfl) hc3 ?_
      refine tr_exit ?_
      refine q_k_exit ?_
      refine q_kr_exit ?_
      have h := Option.some.inj h
      subst h
      exact q_less [.s 1, .s 2, .h 0, .h 1] [sO 1 (.ptr 0 0), sO 2 (.ptr 1 0), hB 0 31 [.arr .u64 4 m1], hB 1 31 [.arr .u64 4 (List.replicate 4 0)]] (by kernel_rfl) hx0

theorem law04_right_ok (a_0 : List Int) (r : Bool) (h : law04_right a_0 = some r) {pre : List (Nat × Ent)} : CallOk P 45 [.v (.agg [.arr .u8 32 a_0])] pre (.v (.one (.bool r))) [] := by
  refine call0 (N := 9) Try.func45 (by kernel_rfl) rfl rfl rfl pre ?_
  intro _ w
  show Tr P w.heap.size 9 w _ _ (RetQ P Try.f45 (R0 _ w))
  unfold law04_right at h
  refine tr_seq ?_
  refine tr_reg hT [(0, .key 0)] [.s 1, .h 0] [sO 1 (.ptr 0 0), hB 0 22 [.arr .u8 32 a_0]] [] (by kernel_rfl) trivial ?_
  refine q_k ?_
  refine tr_seq ?_
  obtain ⟨a1, e2, h⟩ := bind_some h
  obtain ⟨a3, e4, h⟩ := bind_some h
  obtain ⟨a5, e6, h⟩ := bind_some h
  refine tr_regd hT hM [(1, .call (.v (.agg [.arr .u64 4 a1])) []), (2, .call (.v (.agg [.arr .u64 4 a3])) []), (3, .call (.v (.agg [.arr .u8 32 a5])) [])] [.s 2] [sB 2 (decide (a5 = a_0))] [CallOk P 44 [.v (.agg [.arr .u8 32 a_0])] [] (.v (.agg [.arr .u64 4 a1])) [], CallOk P 46 [.v (.agg [.arr .u64 4 a1])] [] (.v (.agg [.arr .u64 4 a3])) [], CallOk P 29 [.v (.agg [.arr .u64 4 a3])] [] (.v (.agg [.arr .u8 32 a5])) []] (by kernel_rfl) (hcons (ref04_Of_ok a_0 a1 e2) (hcons (ref04_Mod_ok a1 a3 e4) (hone (ref04_Bytes_ok a3 a5 e6)))) ?_
  refine q_k ?_
  refine tr_ret ?_
  have h := Option.some.inj h
  subst h
  exact q_ret0 hT (.v (.one (.bool (decide (a5 = a_0))))) rfl (by kernel_rfl)

theorem ref04_Add_ok (a_0 : List Int) (b_1 : List Int) (r : List Int) (h : ref04_Add a_0 b_1 = some r) {pre : List (Nat × Ent)} : CallOk P 47 [.v (.agg [.arr .u64 4 a_0]), .v (.agg [.arr .u64 4 b_1])] pre (.v (.agg [.arr .u64 4 r])) [] := by
  refine call0 (N := 18) Try.func47 (by kernel_rfl) rfl rfl rfl pre ?_
  intro _ w
  show Tr P w.heap.size 18 w _ _ (RetQ P Try.f47 (R0 _ w))
  unfold ref04_Add at h
  refine tr_seq ?_
  refine tr_reg hT [(0, .key 0), (1, .key 1), (2, .key 2)] [.s 2, .s 3, .s 4, .h 0, .h 1, .h 2] [sO 2 (.ptr 0 0), sO 3 (.ptr 1 0), sO 4 (.ptr 2 0), hB 0 31 [.arr .u64 4 a_0], hB 1 31 [.arr .u64 4 b_1], hB 2 31 [.arr .u64 4 (List.replicate 4 0)]] [] (by kernel_rfl) trivial ?_
  refine q_k ?_
  refine tr_seq ?_
  obtain ⟨a1, e2, h⟩ := bind_some h
  obtain ⟨a3, e4, h⟩ := bind_some h
  obtain ⟨⟨a5, r6⟩, e7, h⟩ := bind_some h
  refine tr_regd hT hM [(1, .call (.v (.agg [.arr .u64 4 a1])) []), (3, .call (.v (.agg [.arr .u64 4 a3])) []), (4, .call (.tup [.agg [.arr .u64 4 a5], .one (.int .u64 r6)]) []), (8, .key 3)] [.s 4, .s 5, .s 6, .h 2, .h 3] [sO 4 (.ptr 2 0), sO 5 (.ptr 3 0), sI 6 .u64 r6, hB 2 31 [.arr .u64 4 (List.replicate 4 0)], hB 3 31 [.arr .u64 4 a5]] [CallOk P 46 [.v (.agg [.arr .u64 4 a_0])] [] (.v (.agg [.arr .u64 4 a1])) [], CallOk P 46 [.v (.agg [.arr .u64 4 b_1])] [] (.v (.agg [.arr .u64 4 a3])) [], CallOk P 82 [.v (.agg [.arr .u64 4 a1]), .v (.agg [.arr .u64 4 a3])] [] (.tup [.agg [.arr .u64 4 a5], .one (.int .u64 r6)]) []] (by kernel_rfl) (hcons (ref04_Mod_ok a_0 a1 e2) (hcons (ref04_Mod_ok b_1 a3 e4) (hone (ref04_add_ok a1 a3 (a5, r6) e7)))) ?_
  refine q_k ?_
  refine tr_seq ?_
  refine tr_reg hT [] [.s 4, .s 5, .h 2, .h 3] [sO 4 (.ptr 2 0), sO 5 (.ptr 3 0), hB 2 31 [.arr .u64 4 (List.replicate 4 0)], hB 3 31 [.arr .u64 4 a5]] [] (by kernel_rfl) trivial ?_
  refine q_k ?_
  refine tr_seq ?_
  obtain ⟨a9, e10, h⟩ := bind_some h
  refine tr_reg hT [(1, .call (.v (.agg [.arr .u64 4 a9])) [])] [.s 4, .h 2] [sO 4 (.ptr 2 0), hB 2 31 [.arr .u64 4 a9]] [CallOk P 46 [.v (.agg [.arr .u64 4 a5])] [] (.v (.agg [.arr .u64 4 a9])) []] (by kernel_rfl) (hone (ref04_Mod_ok a5 a9 e10)) ?_
  refine q_k ?_
  refine tr_ret ?_
  have h := Option.some.inj h
  subst h
  exact q_ret0 hT (.v (.agg [.arr .u64 4 a9])) rfl (by kernel_rfl)

theorem ref04_Sub_ok (a_0 : List Int) (b_1 : List Int) (r : List Int) (h : ref04_Sub a_0 b_1 = some r) {pre : List (Nat × Ent)} : CallOk P 48 [.v (.agg [.arr .u64 4 a_0]), .v (.agg [.arr .u64 4 b_1])] pre (.v (.agg [.arr .u64 4 r])) [] := by
  refine call0 (N := 23) Try.func48 (by kernel_rfl) rfl rfl rfl pre ?_
  intro _ w
  show Tr P w.heap.size 23 w _ _ (RetQ P Try.f48 (R0 _ w))
  unfold ref04_Sub at h
  refine tr_seq ?_
  refine tr_reg hT [(0, .key 0), (1, .key 1), (2, .key 2)] [.s 2, .s 3, .s 4, .h 0, .h 1, .h 2] [sO 2 (.ptr 0 0), sO 3 (.ptr 1 0), sO 4 (.ptr 2 0), hB 0 31 [.arr .u64 4 a_0], hB 1 31 [.arr .u64 4 b_1], hB 2 31 [.arr .u64 4 (List.replicate 4 0)]] [] (by kernel_rfl) trivial ?_
  refine q_k ?_
  refine tr_seq ?_
  obtain ⟨a1, e2, h⟩ := bind_some h
  obtain ⟨a3, e4, h⟩ := bind_some h
  obtain ⟨⟨a5, r6⟩, e7, h⟩ := bind_some h
  refine tr_reg hT [(1, .call (.v (.agg [.arr .u64 4 a1])) []), (2, .call (.v (.agg [.arr .u64 4 a3])) []), (3, .call (.tup [.agg [.arr .u64 4 a5], .one (.int .u64 r6)]) []), (7, .key 3)] [.s 3, .s 4, .s 5, .h 1, .h 2, .h 3] [sO 3 (.ptr 1 0), sO 4 (.ptr 2 0), sO 5 (.ptr 3 0), hB 1 31 [.arr .u64 4 b_1], hB 2 31 [.arr .u64 4 (List.replicate 4 0)], hB 3 31 [.arr .u64 4 a5]] [CallOk P 46 [.v (.agg [.arr .u64 4 a_0])] [] (.v (.agg [.arr .u64 4 a1])) [], CallOk P 43 [] [] (.v (.agg [.arr .u64 4 a3])) [], CallOk P 82 [.v (.agg [.arr .u64 4 a1]), .v (.agg [.arr .u64 4 a3])] [] (.tup [.agg [.arr .u64 4 a5], .one (.int .u64 r6)]) []] (by kernel_rfl) (hcons (ref04_Mod_ok a_0 a1 e2) (hcons (ref04_P_ok  a3 e4) (hone (ref04_add_ok a1 a3 (a5, r6) e7)))) ?_
  refine q_k ?_
  refine tr_seq ?_
  obtain ⟨a9, e10, h⟩ := bind_some h
  obtain ⟨⟨a11, r12⟩, e13, h⟩ := bind_some h
  refine tr_regd hT hM [(2, .call (.v (.agg [.arr .u64 4 a9])) []), (3, .call (.tup [.agg [.arr .u64 4 a11], .one (.int .u64 r12)]) [])] [.s 4, .s 5, .h 2, .h 3] [sO 4 (.ptr 2 0), sO 5 (.ptr 3 0), hB 2 31 [.arr .u64 4 (List.replicate 4 0)], hB 3 31 [.arr .u64 4 a11]] [CallOk P 46 [.v (.agg [.arr .u64 4 b_1])] [] (.v (.agg [.arr .u64 4 a9])) [], CallOk P 81 [.v (.agg [.arr .u64 4 a5]), .v (.agg [.arr .u64 4 a9])] [] (.tup [.agg [.arr .u64 4 a11], .one (.int .u64 r12)]) []] (by kernel_rfl) (hcons (ref04_Mod_ok b_1 a9 e10) (hone (ref04_sub_ok a5 a9 (a11, r12) e13))) ?_
  refine q_k ?_
  refine tr_seq ?_
  obtain ⟨a15, e16, h⟩ := bind_some h
  refine tr_reg hT [(1, .call (.v (.agg [.arr .u64 4 a15])) [])] [.s 4, .h 2] [sO 4 (.ptr 2 0), hB 2 31 [.arr .u64 4 a15]] [CallOk P 46 [.v (.agg [.arr .u64 4 a11])] [] (.v (.agg [.arr .u64 4 a15])) []] (by kernel_rfl) (hone (ref04_Mod_ok a11 a15 e16)) ?_
  refine q_k ?_
  refine tr_ret ?_
  have h := Option.some.inj h
  subst h
  exact q_ret0 hT (.v (.agg [.arr .u64 4 a15])) rfl (by kernel_rfl)

theorem ref04_Mul_ok (a_0 : List Int) (b_1 : List Int) (r : List Int) (h : ref04_Mul a_0 b_1 = some r) {pre : List (Nat × Ent)} : CallOk P 49 [.v (.agg [.arr .u64 4 a_0]), .v (.agg [.arr .u64 4 b_1])] pre (.v (.agg [.arr .u64 4 r])) [] := by
  refine call0 (N := 62) Try.func49 (by kernel_rfl) rfl rfl rfl pre ?_
  intro _ w
  show Tr P w.heap.size 62 w _ _ (RetQ P Try.f49 (R0 _ w))
  unfold ref04_Mul at h
  refine tr_seq ?_
  refine tr_reg hT [(0, .key 0), (1, .key 1), (2, .key 2)] [.s 2, .s 3, .s 4, .h 0, .h 1, .h 2] [sO 2 (.ptr 0 0), sO 3 (.ptr 1 0), sO 4 (.ptr 2 0), hB 0 31 [.arr .u64 4 a_0], hB 1 31 [.arr .u64 4 b_1], hB 2 31 [.arr .u64 4 (List.replicate 4 0)]] [] (by kernel_rfl) trivial ?_
  refine q_k ?_
  refine tr_seq ?_
  obtain ⟨a1, e2, h⟩ := bind_some h
  refine tr_reg hT [(2, .call (.v (.agg [.arr .u64 8 a1])) []), (3, .key 3)] [.s 4, .s 5, .h 2, .h 3] [sO 4 (.ptr 2 0), sO 5 (.ptr 3 0), hB 2 31 [.arr .u64 4 (List.replicate 4 0)], hB 3 75 [.arr .u64 8 a1]] [CallOk P 77 [.v (.agg [.arr .u64 4 a_0]), .v (.agg [.arr .u64 4 b_1])] [] (.v (.agg [.arr .u64 8 a1])) []] (by kernel_rfl) (hone (ref04_times_ok a_0 b_1 a1 e2)) ?_
  refine q_k ?_
  refine tr_seq ?_
  refine tr_reg hT [(9, .key 4)] [.s 4, .s 5, .s 6, .h 2, .h 3, .h 4] [sO 4 (.ptr 2 0), sO 5 (.ptr 3 0), sO 6 (.ptr 4 0), hB 2 31 [.arr .u64 4 (List.replicate 4 0)], hB 3 75 [.arr .u64 8 a1], hB 4 31 [.arr .u64 4 [(a1.getD 0 0), (a1.getD 1 0), (a1.getD 2 0), (a1.getD 3 0)]]] [0 ≤ (0 : Int) ∧ (0 : Int) < ((8 : Nat) : Int), 0 ≤ (1 : Int) ∧ (1 : Int) < ((8 : Nat) : Int), 0 ≤ (2 : Int) ∧ (2 : Int) < ((8 : Nat) : Int), 0 ≤ (3 : Int) ∧ (3 : Int) < ((8 : Nat) : Int)] (by kernel_rfl) (hcons (by decide) (hcons (by decide) (hcons (by decide) (hone (by decide))))) ?_
  refine q_k ?_
  refine tr_seq ?_
  refine tr_reg hT [(9, .key 5)] [.s 4, .s 6, .s 7, .h 2, .h 4, .h 5] [sO 4 (.ptr 2 0), sO 6 (.ptr 4 0), sO 7 (.ptr 5 0), hB 2 31 [.arr .u64 4 (List.replicate 4 0)], hB 4 31 [.arr .u64 4 [(a1.getD 0 0), (a1.getD 1 0), (a1.getD 2 0), (a1.getD 3 0)]], hB 5 31 [.arr .u64 4 [(a1.getD 4 0), (a1.getD 5 0), (a1.getD 6 0), (a1.getD 7 0)]]] [0 ≤ (4 : Int) ∧ (4 : Int) < ((8 : Nat) : Int), 0 ≤ (5 : Int) ∧ (5 : Int) < ((8 : Nat) : Int), 0 ≤ (6 : Int) ∧ (6 : Int) < ((8 : Nat) : Int), 0 ≤ (7 : Int) ∧ (7 : Int) < ((8 : Nat) : Int)] (by kernel_rfl) (hcons (by decide) (hcons (by decide) (hcons (by decide) (hone (by decide))))) ?_
  refine q_k ?_
  refine tr_seq ?_
  refine tr_seq ?_
  refine tr_reg hT [] [.s 4, .s 6, .s 7, .s 8, .h 2, .h 4, .h 5] [sO 4 (.ptr 2 0), sO 6 (.ptr 4 0), sO 7 (.ptr 5 0), sB 8 true, hB 2 31 [.arr .u64 4 (List.replicate 4 0)], hB 4 31 [.arr .u64 4 [(a1.getD 0 0), (a1.getD 1 0), (a1.getD 2 0), (a1.getD 3 0)]], hB 5 31 [.arr .u64 4 [(a1.getD 4 0), (a1.getD 5 0), (a1.getD 6 0), (a1.getD 7 0)]]] [] (by kernel_rfl) trivial ?_
  refine q_k ?_
  refine tr_block ?_
  obtain ⟨m13, e14, h⟩ := bind_some h
  refine tr_less [.s 4, .s 6, .s 7, .s 8, .h 2, .h 4, .h 5] [sO 4 (.ptr 2 0), sO 6 (.ptr 4 0), sO 7 (.ptr 5 0), sB 8 true, hB 2 31 [.arr .u64 4 (List.replicate 4 0)], hB 4 31 [.arr .u64 4 [(a1.getD 0 0), (a1.getD 1 0), (a1.getD 2 0), (a1.getD 3 0)]], hB 5 31 [.arr .u64 4 [(a1.getD 4 0), (a1.getD 5 0), (a1.getD 6 0), (a1.getD 7 0)]]] (by kernel_rfl) ?_
  refine tr_loop_fuel (id := 0) (α := List Int × List Int × Bool) (β := List Int) (fun z => [sO 4 (.ptr 2 0), sO 6 (.ptr 4 0), sO 7 (.ptr 5 0), sB 8 z.2.2, hB 2 31 [.arr .u64 4 (List.replicate 4 0)], hB 4 31 [.arr .u64 4 z.1], hB 5 31 [.arr .u64 4 z.2.1]]) (fun z => [sO 4 (.ptr 2 0), sO 6 (.ptr 4 0), hB 2 31 [.arr .u64 4 (List.replicate 4 0)], hB 4 31 [.arr .u64 4 z]]) (fun k z => ref04_Mul_l0 k z.1 z.2.1 z.2.2) m13 (fun _ => rfl) (10) ([(a1.getD 0 0), (a1.getD 1 0), (a1.getD 2 0), (a1.getD 3 0)], [(a1.getD 4 0), (a1.getD 5 0), (a1.getD 6 0), (a1.getD 7 0)], true) e14 ?_ ?_
  · skip
    replace h : ((ref04_Mod m13).bind (fun a15 => some a15)) = _ := h
    refine q_b_this ?_
    refine q_k ?_
    refine tr_seq ?_
    obtain ⟨a15, e16, h⟩ := bind_some h
    refine tr_reg hT [(1, .call (.v (.agg [.arr .u64 4 a15])) [])] [.s 4, .h 2] [sO 4 (.ptr 2 0), hB 2 31 [.arr .u64 4 a15]] [CallOk P 46 [.v (.agg [.arr .u64 4 m13])] [] (.v (.agg [.arr .u64 4 a15])) []] (by kernel_rfl) (hone (ref04_Mod_ok m13 a15 e16)) ?_
    refine q_k ?_
    refine tr_ret ?_
    have h := Option.some.inj h
    subst h
    exact q_ret0 hT (.v (.agg [.arr .u64 4 a15])) rfl (by kernel_rfl)
  · clear h e14
    intro k ih0 hx0 z h
    obtain ⟨m3, m4, more5⟩ := z
    replace h : (if more5 = true then (ref04_times m4 [(38 : Int), (0 : Int), (0 : Int), (0 : Int)]).bind (fun a7 => (ref04_add m3 [(a7.getD 0 0), (a7.getD 1 0), (a7.getD 2 0), (a7.getD 3 0)]).bind (fun (a9, r10) => ref04_Mul_l0 k a9 [(IntKind.u64.wrap ((a7.getD 4 0) + r10)), (0 : Int), (0 : Int), (0 : Int)] (([(IntKind.u64.wrap ((a7.getD 4 0) + r10)), (0 : Int), (0 : Int), (0 : Int)].getD 0 0) != (0 : Int)))) else some m3) = _ := h
    refine tr_seq ?_
    refine tr_seq ?_
    refine tr_reg hT [] [.s 4, .s 6, .s 7, .s 33, .h 2, .h 4, .h 5] [sO 4 (.ptr 2 0), sO 6 (.ptr 4 0), sO 7 (.ptr 5 0), sB 33 more5, hB 2 31 [.arr .u64 4 (List.replicate 4 0)], hB 4 31 [.arr .u64 4 m3], hB 5 31 [.arr .u64 4 m4]] [] (by kernel_rfl) trivial ?_
    refine q_k ?_
    rcases ite_split h with ⟨hc6, h⟩ | ⟨hc6, h⟩
    · refine tr_cond_t more5 (by kernel_rfl) hc6 ?_
      refine tr_skip ?_
      refine q_k ?_
      refine tr_block ?_
      refine tr_seq ?_
      obtain ⟨a7, e8, h⟩ := bind_some h
      refine tr_reg hT [(2, .call (.v (.agg [.arr .u64 8 a7])) []), (3, .key 6)] [.s 4, .s 6, .s 7, .s 9, .h 2, .h 4, .h 5, .h 6] [sO 4 (.ptr 2 0), sO 6 (.ptr 4 0), sO 7 (.ptr 5 0), sO 9 (.ptr 6 0), hB 2 31 [.arr .u64 4 (List.replicate 4 0)], hB 4 31 [.arr .u64 4 m3], hB 5 31 [.arr .u64 4 m4], hB 6 75 [.arr .u64 8 a7]] [CallOk P 77 [.v (.agg [.arr .u64 4 m4]), .v (.agg [.arr .u64 4 [(38 : Int), (0 : Int), (0 : Int), (0 : Int)]])] [] (.v (.agg [.arr .u64 8 a7])) []] (by kernel_rfl) (hone (ref04_times_ok m4 [(38 : Int), (0 : Int), (0 : Int), (0 : Int)] a7 e8)) ?_
      refine q_k ?_
      refine tr_seq ?_
      obtain ⟨⟨a9, r10⟩, e11, h⟩ := bind_some h
      refine tr_reg hT [(10, .call (.tup [.agg [.arr .u64 4 a9], .one (.int .u64 r10)]) []), (14, .key 7)] [.s 4, .s 6, .s 7, .s 9, .s 10, .s 11, .h 2, .h 4, .h 5, .h 6, .h 7] [sO 4 (.ptr 2 0), sO 6 (.ptr 4 0), sO 7 (.ptr 5 0), sO 9 (.ptr 6 0), sO 10 (.ptr 7 0), sI 11 .u64 r10, hB 2 31 [.arr .u64 4 (List.replicate 4 0)], hB 4 31 [.arr .u64 4 m3], hB 5 31 [.arr .u64 4 m4], hB 6 75 [.arr .u64 8 a7], hB 7 31 [.arr .u64 4 a9]] [0 ≤ (0 : Int) ∧ (0 : Int) < ((8 : Nat) : Int), 0 ≤ (1 : Int) ∧ (1 : Int) < ((8 : Nat) : Int), 0 ≤ (2 : Int) ∧ (2 : Int) < ((8 : Nat) : Int), 0 ≤ (3 : Int) ∧ (3 : Int) < ((8 : Nat) : Int), CallOk P 82 [.v (.agg [.arr .u64 4 m3]), .v (.agg [.arr .u64 4 [(a7.getD 0 0), (a7.getD 1 0), (a7.getD 2 0), (a7.getD 3 0)]])] [] (.tup [.agg [.arr .u64 4 a9], .one (.int .u64 r10)]) []] (by kernel_rfl) (hcons (by decide) (hcons (by decide) (hcons (by decide) (hcons (by decide) (hone (ref04_add_ok m3 [(a7.getD 0 0), (a7.getD 1 0), (a7.getD 2 0), (a7.getD 3 0)] (a9, r10) e11)))))) ?_
      refine q_k ?_
      refine tr_seq ?_
      refine tr_regd hT hM [] [.s 4, .s 6, .s 7, .h 2, .h 4, .h 5] [sO 4 (.ptr 2 0), sO 6 (.ptr 4 0), sO 7 (.ptr 5 0), hB 2 31 [.arr .u64 4 (List.replicate 4 0)], hB 4 31 [.arr .u64 4 a9], hB 5 31 [.arr .u64 4 [(IntKind.u64.wrap ((a7.getD 4 0) + r10)), (0 : Int), (0 : Int), (0 : Int)]]] [0 ≤ (4 : Int) ∧ (4 : Int) < ((8 : Nat) : Int)] (by kernel_rfl) (hone (by decide)) ?_
      refine q_k ?_
      refine tr_reg hT [] [.s 4, .s 6, .s 7, .s 8, .h 2, .h 4, .h 5] [sO 4 (.ptr 2 0), sO 6 (.ptr 4 0), sO 7 (.ptr 5 0), sB 8 (([(IntKind.u64.wrap ((a7.getD 4 0) + r10)), (0 : Int), (0 : Int), (0 : Int)].getD 0 0) != (0 : Int)), hB 2 31 [.arr .u64 4 (List.replicate 4 0)], hB 4 31 [.arr .u64 4 a9], hB 5 31 [.arr .u64 4 [(IntKind.u64.wrap ((a7.getD 4 0) + r10)), (0 : Int), (0 : Int), (0 : Int)]]] [0 ≤ (0 : Int) ∧ (0 : Int) < ((4 : Nat) : Int)] (by kernel_rfl) (hone (by decide)) ?_
      refine q_b 1 ?_
      refine q_kr ?_
      exact trR_less [.s 4, .s 6, .s 7, .s 8, .h 2, .h 4, .h 5] [sO 4 (.ptr 2 0), sO 6 (.ptr 4 0), sO 7 (.ptr 5 0), sB 8 (([(IntKind.u64.wrap ((a7.getD 4 0) + r10)), (0 : Int), (0 : Int), (0 : Int)].getD 0 0) != (0 : Int)), hB 2 31 [.arr .u64 4 (List.replicate 4 0)], hB 4 31 [.arr .u64 4 a9], hB 5 31 [.arr .u64 4 [(IntKind.u64.wrap ((a7.getD 4 0) + r10)), (0 : Int), (0 : Int), (0 : Int)]]] (by kernel_rfl) (ih0 (a9, [(IntKind.u64.wrap ((a7.getD 4 0) + r10)), (0 : Int), (0 : Int), (0 : Int)], (([(IntKind.u64.wrap ((a7.getD 4 0) + r10)), (0 : Int), (0 : Int), (0 : Int)].getD 0 0) != (0 : Int))) h)
    · refine tr_cond_f more5 (by kernel_rfl) hc6 ?_
      refine tr_exit ?_
      refine q_k_exit ?_
      refine q_kr_exit ?_
      have h := Option.some.inj h
      subst h
      exact q_less [.s 4, .s 6, .h 2, .h 4] [sO 4 (.ptr 2 0), sO 6 (.ptr 4 0), hB 2 31 [.arr .u64 4 (List.replicate 4 0)], hB 4 31 [.arr .u64 4 m3]] (by kernel_rfl) hx0

theorem law04_FieldExact_ok (a_0 : List Int) (b_1 : List Int) (r : Bool) (h : law04_FieldExact a_0 b_1 = some r) {pre : List (Nat × Ent)} : CallOk P 14 [.v (.agg [.arr .u8 32 a_0]), .v (.agg [.arr .u8 32 b_1])] pre (.v (.one (.bool r))) [] := by
  refine call0 (N := 59) Try.func14 (by kernel_rfl) rfl rfl rfl pre ?_
  intro _ w
  show Tr P w.heap.size 59 w _ _ (RetQ P Try.f14 (R0 _ w))
  unfold law04_FieldExact at h
  refine tr_seq ?_
  refine tr_reg hT [(0, .key 0), (1, .key 1)] [.s 2, .s 3, .h 0, .h 1] [sO 2 (.ptr 0 0), sO 3 (.ptr 1 0), hB 0 22 [.arr .u8 32 a_0], hB 1 22 [.arr .u8 32 b_1]] [] (by kernel_rfl) trivial ?_
  refine q_k ?_
  refine tr_seq ?_
  obtain ⟨a1, e2, h⟩ := bind_some h
  obtain ⟨a3, e4, h⟩ := bind_some h
  refine tr_regd hT hM [(1, .call (.v (.agg [.arr .u64 4 a1])) []), (3, .call (.v (.agg [.arr .u64 4 a3])) []), (4, .key 2), (5, .key 3)] [.s 2, .s 3, .s 5, .s 6, .h 0, .h 1, .h 2, .h 3] [sO 2 (.ptr 0 0), sO 3 (.ptr 1 0), sO 5 (.ptr 2 0), sO 6 (.ptr 3 0), hB 0 22 [.arr .u8 32 a_0], hB 1 22 [.arr .u8 32 b_1], hB 2 31 [.arr .u64 4 a1], hB 3 31 [.arr .u64 4 a3]] [CallOk P 44 [.v (.agg [.arr .u8 32 a_0])] [] (.v (.agg [.arr .u64 4 a1])) [], CallOk P 44 [.v (.agg [.arr .u8 32 b_1])] [] (.v (.agg [.arr .u64 4 a3])) []] (by kernel_rfl) (hcons (ref04_Of_ok a_0 a1 e2) (hone (ref04_Of_ok b_1 a3 e4))) ?_
  refine q_k ?_
  refine tr_seq ?_
  obtain ⟨b5, e6, h⟩ := bind_some h
  obtain ⟨b7, e8, h⟩ := bind_some h
  rcases ite_split h with ⟨hb9, h⟩ | ⟨hb48, h⟩
  · obtain ⟨a10, e11, h⟩ := bind_some h
    obtain ⟨a12, e13, h⟩ := bind_some h
    obtain ⟨a14, e15, h⟩ := bind_some h
    rcases ite_split h with ⟨hb16, h⟩ | ⟨hb47, h⟩
    · obtain ⟨a17, e18, h⟩ := bind_some h
      obtain ⟨a19, e20, h⟩ := bind_some h
      obtain ⟨a21, e22, h⟩ := bind_some h
      rcases ite_split h with ⟨hb23, h⟩ | ⟨hb46, h⟩
      · obtain ⟨a24, e25, h⟩ := bind_some h
        obtain ⟨a26, e27, h⟩ := bind_some h
        obtain ⟨a28, e29, h⟩ := bind_some h
        rcases ite_split h with ⟨hb30, h⟩ | ⟨hb45, h⟩
        · obtain ⟨a31, e32, h⟩ := bind_some h
          obtain ⟨a33, e34, h⟩ := bind_some h
          obtain ⟨a35, e36, h⟩ := bind_some h
          obtain ⟨a37, e38, h⟩ := bind_some h
          obtain ⟨a39, e40, h⟩ := bind_some h
          rcases ite_split h with ⟨hb41, h⟩ | ⟨hb44, h⟩
          · obtain ⟨b42, e43, h⟩ := bind_some h
            refine tr_regd hT hM [(1, .call (.v (.one (.bool b5))) []), (3, .call (.v (.one (.bool b7))) []), (5, .dec true), (7, .call (.v (.agg [.arr .u8 32 a10])) []), (9, .call (.v (.agg [.arr .u64 4 a12])) []), (10, .call (.v (.agg [.arr .u8 32 a14])) []), (13, .dec true), (16, .call (.v (.agg [.arr .u8 32 a17])) []), (19, .call (.v (.agg [.arr .u64 4 a19])) []), (20, .call (.v (.agg [.arr .u8 32 a21])) []), (23, .dec true), (26, .call (.v (.agg [.arr .u8 32 a24])) []), (29, .call (.v (.agg [.arr .u64 4 a26])) []), (30, .call (.v (.agg [.arr .u8 32 a28])) []), (33, .dec true), (36, .call (.v (.agg [.arr .u8 32 a31])) []), (38, .call (.v (.agg [.arr .u64 4 a33])) []), (40, .call (.v (.agg [.arr .u64 4 a35])) []), (41, .call (.v (.agg [.arr .u64 4 a37])) []), (42, .call (.v (.agg [.arr .u8 32 a39])) []), (45, .dec true), (46, .call (.v (.one (.bool b42))) [])] [.s 4] [sB 4 b42] [CallOk P 42 [.v (.agg [.arr .u8 32 a_0])] [] (.v (.one (.bool b5))) [], CallOk P 45 [.v (.agg [.arr .u8 32 a_0])] [] (.v (.one (.bool b7))) [], (b5 == b7) = true, CallOk P 33 [.v (.agg [.arr .u8 32 a_0])] [] (.v (.agg [.arr .u8 32 a10])) [], CallOk P 46 [.v (.agg [.arr .u64 4 a1])] [] (.v (.agg [.arr .u64 4 a12])) [], CallOk P 29 [.v (.agg [.arr .u64 4 a12])] [] (.v (.agg [.arr .u8 32 a14])) [], (decide (a10 = a14)) = true, CallOk P 40 [.v (.agg [.arr .u8 32 a_0]), .v (.agg [.arr .u8 32 b_1])] [] (.v (.agg [.arr .u8 32 a17])) [], CallOk P 47 [.v (.agg [.arr .u64 4 a1]), .v (.agg [.arr .u64 4 a3])] [] (.v (.agg [.arr .u64 4 a19])) [], CallOk P 29 [.v (.agg [.arr .u64 4 a19])] [] (.v (.agg [.arr .u8 32 a21])) [], (decide (a17 = a21)) = true, CallOk P 41 [.v (.agg [.arr .u8 32 a_0]), .v (.agg [.arr .u8 32 b_1])] [] (.v (.agg [.arr .u8 32 a24])) [], CallOk P 48 [.v (.agg [.arr .u64 4 a1]), .v (.agg [.arr .u64 4 a3])] [] (.v (.agg [.arr .u64 4 a26])) [], CallOk P 29 [.v (.agg [.arr .u64 4 a26])] [] (.v (.agg [.arr .u8 32 a28])) [], (decide (a24 = a28)) = true, CallOk P 34 [.v (.agg [.arr .u8 32 a_0]), .v (.agg [.arr .u8 32 b_1])] [] (.v (.agg [.arr .u8 32 a31])) [], CallOk P 46 [.v (.agg [.arr .u64 4 a1])] [] (.v (.agg [.arr .u64 4 a33])) [], CallOk P 46 [.v (.agg [.arr .u64 4 a3])] [] (.v (.agg [.arr .u64 4 a35])) [], CallOk P 49 [.v (.agg [.arr .u64 4 a33]), .v (.agg [.arr .u64 4 a35])] [] (.v (.agg [.arr .u64 4 a37])) [], CallOk P 29 [.v (.agg [.arr .u64 4 a37])] [] (.v (.agg [.arr .u8 32 a39])) [], (decide (a31 = a39)) = true, CallOk P 35 [] [] (.v (.one (.bool b42))) []] (by kernel_rfl) (hcons (field_Check_ok a_0 b5 e6) (hcons (law04_right_ok a_0 b7 e8) (hcons hb9 (hcons (field_Mod_ok a_0 a10 e11) (hcons (ref04_Mod_ok a1 a12 e13) (hcons (ref04_Bytes_ok a12 a14 e15) (hcons hb16 (hcons (field_Add_ok a_0 b_1 a17 e18) (hcons (ref04_Add_ok a1 a3 a19 e20) (hcons (ref04_Bytes_ok a19 a21 e22) (hcons hb23 (hcons (field_Sub_ok a_0 b_1 a24 e25) (hcons (ref04_Sub_ok a1 a3 a26 e27) (hcons (ref04_Bytes_ok a26 a28 e29) (hcons hb30 (hcons (field_Mul_ok a_0 b_1 a31 e32) (hcons (ref04_Mod_ok a1 a33 e34) (hcons (ref04_Mod_ok a3 a35 e36) (hcons (ref04_Mul_ok a33 a35 a37 e38) (hcons (ref04_Bytes_ok a37 a39 e40) (hcons hb41 (hone (law04_wakes_ok  b42 e43))))))))))))))))))))))) ?_
            refine q_k ?_
            refine tr_ret ?_
            have h := Option.some.inj h
            subst h
            exact q_ret0 hT (.v (.one (.bool b42))) rfl (by kernel_rfl)
          · refine tr_regd hT hM [(1, .call (.v (.one (.bool b5))) []), (3, .call (.v (.one (.bool b7))) []), (5, .dec true), (7, .call (.v (.agg [.arr .u8 32 a10])) []), (9, .call (.v (.agg [.arr .u64 4 a12])) []), (10, .call (.v (.agg [.arr .u8 32 a14])) []), (13, .dec true), (16, .call (.v (.agg [.arr .u8 32 a17])) []), (19, .call (.v (.agg [.arr .u64 4 a19])) []), (20, .call (.v (.agg [.arr .u8 32 a21])) []), (23, .dec true), (26, .call (.v (.agg [.arr .u8 32 a24])) []), (29, .call (.v (.agg [.arr .u64 4 a26])) []), (30, .call (.v (.agg [.arr .u8 32 a28])) []), (33, .dec true), (36, .call (.v (.agg [.arr .u8 32 a31])) []), (38, .call (.v (.agg [.arr .u64 4 a33])) []), (40, .call (.v (.agg [.arr .u64 4 a35])) []), (41, .call (.v (.agg [.arr .u64 4 a37])) []), (42, .call (.v (.agg [.arr .u8 32 a39])) []), (45, .dec false)] [.s 4] [sB 4 false] [CallOk P 42 [.v (.agg [.arr .u8 32 a_0])] [] (.v (.one (.bool b5))) [], CallOk P 45 [.v (.agg [.arr .u8 32 a_0])] [] (.v (.one (.bool b7))) [], (b5 == b7) = true, CallOk P 33 [.v (.agg [.arr .u8 32 a_0])] [] (.v (.agg [.arr .u8 32 a10])) [], CallOk P 46 [.v (.agg [.arr .u64 4 a1])] [] (.v (.agg [.arr .u64 4 a12])) [], CallOk P 29 [.v (.agg [.arr .u64 4 a12])] [] (.v (.agg [.arr .u8 32 a14])) [], (decide (a10 = a14)) = true, CallOk P 40 [.v (.agg [.arr .u8 32 a_0]), .v (.agg [.arr .u8 32 b_1])] [] (.v (.agg [.arr .u8 32 a17])) [], CallOk P 47 [.v (.agg [.arr .u64 4 a1]), .v (.agg [.arr .u64 4 a3])] [] (.v (.agg [.arr .u64 4 a19])) [], CallOk P 29 [.v (.agg [.arr .u64 4 a19])] [] (.v (.agg [.arr .u8 32 a21])) [], (decide (a17 = a21)) = true, CallOk P 41 [.v (.agg [.arr .u8 32 a_0]), .v (.agg [.arr .u8 32 b_1])] [] (.v (.agg [.arr .u8 32 a24])) [], CallOk P 48 [.v (.agg [.arr .u64 4 a1]), .v (.agg [.arr .u64 4 a3])] [] (.v (.agg [.arr .u64 4 a26])) [], CallOk P 29 [.v (.agg [.arr .u64 4 a26])] [] (.v (.agg [.arr .u8 32 a28])) [], (decide (a24 = a28)) = true, CallOk P 34 [.v (.agg [.arr .u8 32 a_0]), .v (.agg [.arr .u8 32 b_1])] [] (.v (.agg [.arr .u8 32 a31])) [], CallOk P 46 [.v (.agg [.arr .u64 4 a1])] [] (.v (.agg [.arr .u64 4 a33])) [], CallOk P 46 [.v (.agg [.arr .u64 4 a3])] [] (.v (.agg [.arr .u64 4 a35])) [], CallOk P 49 [.v (.agg [.arr .u64 4 a33]), .v (.agg [.arr .u64 4 a35])] [] (.v (.agg [.arr .u64 4 a37])) [], CallOk P 29 [.v (.agg [.arr .u64 4 a37])] [] (.v (.agg [.arr .u8 32 a39])) [], (decide (a31 = a39)) = false] (by kernel_rfl) (hcons (field_Check_ok a_0 b5 e6) (hcons (law04_right_ok a_0 b7 e8) (hcons hb9 (hcons (field_Mod_ok a_0 a10 e11) (hcons (ref04_Mod_ok a1 a12 e13) (hcons (ref04_Bytes_ok a12 a14 e15) (hcons hb16 (hcons (field_Add_ok a_0 b_1 a17 e18) (hcons (ref04_Add_ok a1 a3 a19 e20) (hcons (ref04_Bytes_ok a19 a21 e22) (hcons hb23 (hcons (field_Sub_ok a_0 b_1 a24 e25) (hcons (ref04_Sub_ok a1 a3 a26 e27) (hcons (ref04_Bytes_ok a26 a28 e29) (hcons hb30 (hcons (field_Mul_ok a_0 b_1 a31 e32) (hcons (ref04_Mod_ok a1 a33 e34) (hcons (ref04_Mod_ok a3 a35 e36) (hcons (ref04_Mul_ok a33 a35 a37 e38) (hcons (ref04_Bytes_ok a37 a39 e40) (hone hb44))))))))))))))))))))) ?_
            refine q_k ?_
            refine tr_ret ?_
            have h := Option.some.inj h
            subst h
            exact q_ret0 hT (.v (.one (.bool false))) rfl (by kernel_rfl)
        · refine tr_regd hT hM [(1, .call (.v (.one (.bool b5))) []), (3, .call (.v (.one (.bool b7))) []), (5, .dec true), (7, .call (.v (.agg [.arr .u8 32 a10])) []), (9, .call (.v (.agg [.arr .u64 4 a12])) []), (10, .call (.v (.agg [.arr .u8 32 a14])) []), (13, .dec true), (16, .call (.v (.agg [.arr .u8 32 a17])) []), (19, .call (.v (.agg [.arr .u64 4 a19])) []), (20, .call (.v (.agg [.arr .u8 32 a21])) []), (23, .dec true), (26, .call (.v (.agg [.arr .u8 32 a24])) []), (29, .call (.v (.agg [.arr .u64 4 a26])) []), (30, .call (.v (.agg [.arr .u8 32 a28])) []), (33, .dec false)] [.s 4] [sB 4 false] [CallOk P 42 [.v (.agg [.arr .u8 32 a_0])] [] (.v (.one (.bool b5))) [], CallOk P 45 [.v (.agg [.arr .u8 32 a_0])] [] (.v (.one (.bool b7))) [], (b5 == b7) = true, CallOk P 33 [.v (.agg [.arr .u8 32 a_0])] [] (.v (.agg [.arr .u8 32 a10])) [], CallOk P 46 [.v (.agg [.arr .u64 4 a1])] [] (.v (.agg [.arr .u64 4 a12])) [], CallOk P 29 [.v (.agg [.arr .u64 4 a12])] [] (.v (.agg [.arr .u8 32 a14])) [], (decide (a10 = a14)) = true, CallOk P 40 [.v (.agg [.arr .u8 32 a_0]), .v (.agg [.arr .u8 32 b_1])] [] (.v (.agg [.arr .u8 32 a17])) [], CallOk P 47 [.v (.agg [.arr .u64 4 a1]), .v (.agg [.arr .u64 4 a3])] [] (.v (.agg [.arr .u64 4 a19])) [], CallOk P 29 [.v (.agg [.arr .u64 4 a19])] [] (.v (.agg [.arr .u8 32 a21])) [], (decide (a17 = a21)) = true, CallOk P 41 [.v (.agg [.arr .u8 32 a_0]), .v (.agg [.arr .u8 32 b_1])] [] (.v (.agg [.arr .u8 32 a24])) [], CallOk P 48 [.v (.agg [.arr .u64 4 a1]), .v (.agg [.arr .u64 4 a3])] [] (.v (.agg [.arr .u64 4 a26])) [], CallOk P 29 [.v (.agg [.arr .u64 4 a26])] [] (.v (.agg [.arr .u8 32 a28])) [], (decide (a24 = a28)) = false] (by kernel_rfl) (hcons (field_Check_ok a_0 b5 e6) (hcons (law04_right_ok a_0 b7 e8) (hcons hb9 (hcons (field_Mod_ok a_0 a10 e11) (hcons (ref04_Mod_ok a1 a12 e13) (hcons (ref04_Bytes_ok a12 a14 e15) (hcons hb16 (hcons (field_Add_ok a_0 b_1 a17 e18) (hcons (ref04_Add_ok a1 a3 a19 e20) (hcons (ref04_Bytes_ok a19 a21 e22) (hcons hb23 (hcons (field_Sub_ok a_0 b_1 a24 e25) (hcons (ref04_Sub_ok a1 a3 a26 e27) (hcons (ref04_Bytes_ok a26 a28 e29) (hone hb45))))))))))))))) ?_
          refine q_k ?_
          refine tr_ret ?_
          have h := Option.some.inj h
          subst h
          exact q_ret0 hT (.v (.one (.bool false))) rfl (by kernel_rfl)
      · refine tr_regd hT hM [(1, .call (.v (.one (.bool b5))) []), (3, .call (.v (.one (.bool b7))) []), (5, .dec true), (7, .call (.v (.agg [.arr .u8 32 a10])) []), (9, .call (.v (.agg [.arr .u64 4 a12])) []), (10, .call (.v (.agg [.arr .u8 32 a14])) []), (13, .dec true), (16, .call (.v (.agg [.arr .u8 32 a17])) []), (19, .call (.v (.agg [.arr .u64 4 a19])) []), (20, .call (.v (.agg [.arr .u8 32 a21])) []), (23, .dec false)] [.s 4] [sB 4 false] [CallOk P 42 [.v (.agg [.arr .u8 32 a_0])] [] (.v (.one (.bool b5))) [], CallOk P 45 [.v (.agg [.arr .u8 32 a_0])] [] (.v (.one (.bool b7))) [], (b5 == b7) = true, CallOk P 33 [.v (.agg [.arr .u8 32 a_0])] [] (.v (.agg [.arr .u8 32 a10])) [], CallOk P 46 [.v (.agg [.arr .u64 4 a1])] [] (.v (.agg [.arr .u64 4 a12])) [], CallOk P 29 [.v (.agg [.arr .u64 4 a12])] [] (.v (.agg [.arr .u8 32 a14])) [], (decide (a10 = a14)) = true, CallOk P 40 [.v (.agg [.arr .u8 32 a_0]), .v (.agg [.arr .u8 32 b_1])] [] (.v (.agg [.arr .u8 32 a17])) [], CallOk P 47 [.v (.agg [.arr .u64 4 a1]), .v (.agg [.arr .u64 4 a3])] [] (.v (.agg [.arr .u64 4 a19])) [], CallOk P 29 [.v (.agg [.arr .u64 4 a19])] [] (.v (.agg [.arr .u8 32 a21])) [], (decide (a17 = a21)) = false] (by kernel_rfl) (hcons (field_Check_ok a_0 b5 e6) (hcons (law04_right_ok a_0 b7 e8) (hcons hb9 (hcons (field_Mod_ok a_0 a10 e11) (hcons (ref04_Mod_ok a1 a12 e13) (hcons (ref04_Bytes_ok a12 a14 e15) (hcons hb16 (hcons (field_Add_ok a_0 b_1 a17 e18) (hcons (ref04_Add_ok a1 a3 a19 e20) (hcons (ref04_Bytes_ok a19 a21 e22) (hone hb46))))))))))) ?_
        refine q_k ?_
        refine tr_ret ?_
        have h := Option.some.inj h
        subst h
        exact q_ret0 hT (.v (.one (.bool false))) rfl (by kernel_rfl)
    · refine tr_regd hT hM [(1, .call (.v (.one (.bool b5))) []), (3, .call (.v (.one (.bool b7))) []), (5, .dec true), (7, .call (.v (.agg [.arr .u8 32 a10])) []), (9, .call (.v (.agg [.arr .u64 4 a12])) []), (10, .call (.v (.agg [.arr .u8 32 a14])) []), (13, .dec false)] [.s 4] [sB 4 false] [CallOk P 42 [.v (.agg [.arr .u8 32 a_0])] [] (.v (.one (.bool b5))) [], CallOk P 45 [.v (.agg [.arr .u8 32 a_0])] [] (.v (.one (.bool b7))) [], (b5 == b7) = true, CallOk P 33 [.v (.agg [.arr .u8 32 a_0])] [] (.v (.agg [.arr .u8 32 a10])) [], CallOk P 46 [.v (.agg [.arr .u64 4 a1])] [] (.v (.agg [.arr .u64 4 a12])) [], CallOk P 29 [.v (.agg [.arr .u64 4 a12])] [] (.v (.agg [.arr .u8 32 a14])) [], (decide (a10 = a14)) = false] (by kernel_rfl) (hcons (field_Check_ok a_0 b5 e6) (hcons (law04_right_ok a_0 b7 e8) (hcons hb9 (hcons (field_Mod_ok a_0 a10 e11) (hcons (ref04_Mod_ok a1 a12 e13) (hcons (ref04_Bytes_ok a12 a14 e15) (hone hb47))))))) ?_
      refine q_k ?_
      refine tr_ret ?_
      have h := Option.some.inj h
      subst h
      exact q_ret0 hT (.v (.one (.bool false))) rfl (by kernel_rfl)
  · refine tr_regd hT hM [(1, .call (.v (.one (.bool b5))) []), (3, .call (.v (.one (.bool b7))) []), (5, .dec false)] [.s 4] [sB 4 false] [CallOk P 42 [.v (.agg [.arr .u8 32 a_0])] [] (.v (.one (.bool b5))) [], CallOk P 45 [.v (.agg [.arr .u8 32 a_0])] [] (.v (.one (.bool b7))) [], (b5 == b7) = false] (by kernel_rfl) (hcons (field_Check_ok a_0 b5 e6) (hcons (law04_right_ok a_0 b7 e8) (hone hb48))) ?_
    refine q_k ?_
    refine tr_ret ?_
    have h := Option.some.inj h
    subst h
    exact q_ret0 hT (.v (.one (.bool false))) rfl (by kernel_rfl)

theorem limb_Below_ok (n_0 : Int) (k_1 : Int) (r : List Int) (h : limb_Below n_0 k_1 = some r) {pre : List (Nat × Ent)} : CallOk P 104 [.v (.one (.int .i64 n_0)), .v (.one (.int .u8 k_1))] pre (.v (.agg [.arr .u8 32 r])) [] := by
  refine call0 (N := 28) Try.func104 (by kernel_rfl) rfl rfl rfl pre ?_
  intro _ w
  show Tr P w.heap.size 28 w _ _ (RetQ P Try.f104 (R0 _ w))
  unfold limb_Below at h
  refine tr_seq ?_
  refine tr_reg hT [(0, .key 0)] [.s 0, .s 1, .s 4, .h 0] [sI 0 .i64 n_0, sI 1 .u8 k_1, sO 4 (.ptr 0 0), hB 0 22 [.arr .u8 32 (List.replicate 32 0)]] [] (by kernel_rfl) trivial ?_
  refine q_k ?_
  refine tr_seq ?_
  refine tr_reg hT [(0, .key 1)] [.s 0, .s 1, .s 4, .s 5, .h 0, .h 1] [sI 0 .i64 n_0, sI 1 .u8 k_1, sO 4 (.ptr 0 0), sO 5 (.ptr 1 0), hB 0 22 [.arr .u8 32 (List.replicate 32 0)], hB 1 22 [.arr .u8 32 (List.replicate 32 0)]] [] (by kernel_rfl) trivial ?_
  refine q_k ?_
  refine tr_seq ?_
  refine tr_seq ?_
  refine tr_reg hT [] [.s 1, .s 4, .s 5, .s 7, .s 8, .h 0, .h 1] [sI 1 .u8 k_1, sO 4 (.ptr 0 0), sO 5 (.ptr 1 0), sI 7 .i64 n_0, sI 8 .i64 (0 : Int), hB 0 22 [.arr .u8 32 (List.replicate 32 0)], hB 1 22 [.arr .u8 32 (List.replicate 32 0)]] [] (by kernel_rfl) trivial ?_
  refine q_k ?_
  refine tr_block ?_
  obtain ⟨m7, e8, h⟩ := bind_some h
  refine tr_less [.s 1, .s 4, .s 5, .s 7, .s 8, .h 0, .h 1] [sI 1 .u8 k_1, sO 4 (.ptr 0 0), sO 5 (.ptr 1 0), sI 7 .i64 n_0, sI 8 .i64 (0 : Int), hB 0 22 [.arr .u8 32 (List.replicate 32 0)], hB 1 22 [.arr .u8 32 (List.replicate 32 0)]] (by kernel_rfl) ?_
  refine tr_loop_fuel (id := 0) (α := List Int × Int) (β := List Int) (fun z => [sI 1 .u8 k_1, sO 4 (.ptr 0 0), sO 5 (.ptr 1 0), sI 7 .i64 n_0, sI 8 .i64 z.2, hB 0 22 [.arr .u8 32 (List.replicate 32 0)], hB 1 22 [.arr .u8 32 z.1]]) (fun z => [sI 1 .u8 k_1, sO 4 (.ptr 0 0), sO 5 (.ptr 1 0), hB 0 22 [.arr .u8 32 (List.replicate 32 0)], hB 1 22 [.arr .u8 32 z]]) (fun k z => limb_Below_l0 n_0 k_1 k z.1 z.2) m7 (fun _ => rfl) ((n_0 - (0 : Int)).toNat + 1) ((List.replicate 32 0), (0 : Int)) e8 ?_ ?_
  · skip
    replace h : (some (m7.set 0 (IntKind.u8.wrap ((m7.getD 0 0) - (IntKind.u8.wrap (k_1 - (1 : Int))))))) = _ := h
    refine q_b_this ?_
    refine q_k ?_
    refine tr_seq ?_
    refine tr_reg hT [] [.s 4, .s 5, .h 0, .h 1] [sO 4 (.ptr 0 0), sO 5 (.ptr 1 0), hB 0 22 [.arr .u8 32 (List.replicate 32 0)], hB 1 22 [.arr .u8 32 (m7.set 0 (IntKind.u8.wrap ((m7.getD 0 0) - (IntKind.u8.wrap (k_1 - (1 : Int))))))]] [0 ≤ (0 : Int) ∧ (0 : Int) < ((32 : Nat) : Int), 0 ≤ (0 : Int) ∧ (0 : Int) < ((32 : Nat) : Int)] (by kernel_rfl) (hcons (by decide) (hone (by decide))) ?_
    refine q_k ?_
    refine tr_seq ?_
    refine tr_reg hT [] [.s 4, .h 0] [sO 4 (.ptr 0 0), hB 0 22 [.arr .u8 32 (m7.set 0 (IntKind.u8.wrap ((m7.getD 0 0) - (IntKind.u8.wrap (k_1 - (1 : Int))))))]] [] (by kernel_rfl) trivial ?_
    refine q_k ?_
    refine tr_ret ?_
    have h := Option.some.inj h
    subst h
    exact q_ret0 hT (.v (.agg [.arr .u8 32 (m7.set 0 (IntKind.u8.wrap ((m7.getD 0 0) - (IntKind.u8.wrap (k_1 - (1 : Int))))))])) rfl (by kernel_rfl)
  · clear h e8
    intro k ih0 hx0 z h
    obtain ⟨m1, x2⟩ := z
    replace h : (if (decide (x2 < n_0)) = true then if 0 ≤ (IntKind.i64.wrap (x2.tdiv (8 : Int))) ∧ (IntKind.i64.wrap (x2.tdiv (8 : Int))) < ((32 : Nat) : Int) then if 0 ≤ (x2.tmod (8 : Int)) then if 0 ≤ (IntKind.i64.wrap (x2.tdiv (8 : Int))) ∧ (IntKind.i64.wrap (x2.tdiv (8 : Int))) < ((32 : Nat) : Int) then limb_Below_l0 n_0 k_1 k (m1.set (IntKind.i64.wrap (x2.tdiv (8 : Int))).toNat (bor .u8 (m1.getD (IntKind.i64.wrap (x2.tdiv (8 : Int))).toNat 0) (shl .u8 (1 : Int) (x2.tmod (8 : Int))))) (IntKind.i64.wrap (x2 + (1 : Int))) else none else none else none else some m1) = _ := h
    refine tr_seq ?_
    refine tr_reg hT [] [.s 1, .s 4, .s 5, .s 7, .s 8, .s 9, .h 0, .h 1] [sI 1 .u8 k_1, sO 4 (.ptr 0 0), sO 5 (.ptr 1 0), sI 7 .i64 n_0, sI 8 .i64 x2, sB 9 (decide (x2 < n_0)), hB 0 22 [.arr .u8 32 (List.replicate 32 0)], hB 1 22 [.arr .u8 32 m1]] [] (by kernel_rfl) trivial ?_
    refine q_k ?_
    refine tr_seq ?_
    rcases ite_split h with ⟨hc3, h⟩ | ⟨hc3, h⟩
    · refine tr_cond_t (decide (x2 < n_0)) (by kernel_rfl) hc3 ?_
      refine tr_skip ?_
      refine q_k ?_
      refine tr_seq ?_
      refine tr_block ?_
      refine tr_seq ?_
      refine tr_reg hT [] [.s 1, .s 4, .s 5, .s 6, .s 7, .s 8, .h 0, .h 1] [sI 1 .u8 k_1, sO 4 (.ptr 0 0), sO 5 (.ptr 1 0), sI 6 .i64 x2, sI 7 .i64 n_0, sI 8 .i64 x2, hB 0 22 [.arr .u8 32 (List.replicate 32 0)], hB 1 22 [.arr .u8 32 m1]] [] (by kernel_rfl) trivial ?_
      refine q_k ?_
      obtain ⟨hn4, h⟩ := ite_some h
      obtain ⟨hn5, h⟩ := ite_some h
      obtain ⟨hn6, h⟩ := ite_some h
      refine tr_regd hT hM [] [.s 1, .s 4, .s 5, .s 7, .s 8, .h 0, .h 1] [sI 1 .u8 k_1, sO 4 (.ptr 0 0), sO 5 (.ptr 1 0), sI 7 .i64 n_0, sI 8 .i64 x2, hB 0 22 [.arr .u8 32 (List.replicate 32 0)], hB 1 22 [.arr .u8 32 (m1.set (IntKind.i64.wrap (x2.tdiv (8 : Int))).toNat (bor .u8 (m1.getD (IntKind.i64.wrap (x2.tdiv (8 : Int))).toNat 0) (shl .u8 (1 : Int) (x2.tmod (8 : Int)))))]] [(8 : Int) ≠ 0, 0 ≤ (IntKind.i64.wrap (x2.tdiv (8 : Int))) ∧ (IntKind.i64.wrap (x2.tdiv (8 : Int))) < ((32 : Nat) : Int), (8 : Int) ≠ 0, 0 ≤ (x2.tmod (8 : Int)), 0 ≤ (IntKind.i64.wrap (x2.tdiv (8 : Int))) ∧ (IntKind.i64.wrap (x2.tdiv (8 : Int))) < ((32 : Nat) : Int)] (by kernel_rfl) (hcons (by decide) (hcons hn4 (hcons (by decide) (hcons hn5 (hone hn6))))) ?_
      refine q_b 1 ?_
      refine q_k ?_
      refine tr_reg hT [] [.s 1, .s 4, .s 5, .s 7, .s 8, .h 0, .h 1] [sI 1 .u8 k_1, sO 4 (.ptr 0 0), sO 5 (.ptr 1 0), sI 7 .i64 n_0, sI 8 .i64 (IntKind.i64.wrap (x2 + (1 : Int))), hB 0 22 [.arr .u8 32 (List.replicate 32 0)], hB 1 22 [.arr .u8 32 (m1.set (IntKind.i64.wrap (x2.tdiv (8 : Int))).toNat (bor .u8 (m1.getD (IntKind.i64.wrap (x2.tdiv (8 : Int))).toNat 0) (shl .u8 (1 : Int) (x2.tmod (8 : Int)))))]] [] (by kernel_rfl) trivial ?_
      refine q_kr ?_
      exact trR_less [.s 1, .s 4, .s 5, .s 7, .s 8, .h 0, .h 1] [sI 1 .u8 k_1, sO 4 (.ptr 0 0), sO 5 (.ptr 1 0), sI 7 .i64 n_0, sI 8 .i64 (IntKind.i64.wrap (x2 + (1 : Int))), hB 0 22 [.arr .u8 32 (List.replicate 32 0)], hB 1 22 [.arr .u8 32 (m1.set (IntKind.i64.wrap (x2.tdiv (8 : Int))).toNat (bor .u8 (m1.getD (IntKind.i64.wrap (x2.tdiv (8 : Int))).toNat 0) (shl .u8 (1 : Int) (x2.tmod (8 : Int)))))]] (by kernel_rfl) (ih0 ((m1.set (IntKind.i64.wrap (x2.tdiv (8 : Int))).toNat (bor .u8 (m1.getD (IntKind.i64.wrap (x2.tdiv (8 : Int))).toNat 0) (shl .u8 (1 : Int) (x2.tmod (8 : Int))))), (IntKind.i64.wrap (x2 + (1 : Int)))) h)
    · refine tr_cond_f (decide (x2 < n_0)) (by kernel_rfl) hc3 ?_
      refine tr_exit ?_
      refine q_k_exit ?_
      refine q_kr_exit ?_
      have h := Option.some.inj h
      subst h
      exact q_less [.s 1, .s 4, .s 5, .h 0, .h 1] [sI 1 .u8 k_1, sO 4 (.ptr 0 0), sO 5 (.ptr 1 0), hB 0 22 [.arr .u8 32 (List.replicate 32 0)], hB 1 22 [.arr .u8 32 m1]] (by kernel_rfl) hx0

theorem limb_Small_ok (x_0 : Int) (r : List Int) (h : limb_Small x_0 = some r) {pre : List (Nat × Ent)} : CallOk P 87 [.v (.one (.int .u64 x_0))] pre (.v (.agg [.arr .u64 5 r])) [] := by
  refine call0 (N := 5) Try.func87 (by kernel_rfl) rfl rfl rfl pre ?_
  intro _ w
  show Tr P w.heap.size 5 w _ _ (RetQ P Try.f87 (R0 _ w))
  unfold limb_Small at h
  refine tr_seq ?_
  refine tr_reg hT [(0, .key 0)] [.s 0, .s 2, .h 0] [sI 0 .u64 x_0, sO 2 (.ptr 0 0), hB 0 71 [.arr .u64 5 (List.replicate 5 0)]] [] (by kernel_rfl) trivial ?_
  refine q_k ?_
  refine tr_seq ?_
  refine tr_reg hT [] [.s 2, .h 0] [sO 2 (.ptr 0 0), hB 0 71 [.arr .u64 5 [x_0, (0 : Int), (0 : Int), (0 : Int), (0 : Int)]]] [] (by kernel_rfl) trivial ?_
  refine q_k ?_
  refine tr_ret ?_
  have h := Option.some.inj h
  subst h
  exact q_ret0 hT (.v (.agg [.arr .u64 5 [x_0, (0 : Int), (0 : Int), (0 : Int), (0 : Int)]])) rfl (by kernel_rfl)

theorem limb_Pow_ok (a_0 : List Int) (e_1 : List Int) (r : List Int) (h : limb_Pow a_0 e_1 = some r) {pre : List (Nat × Ent)} : CallOk P 103 [.v (.agg [.arr .u64 5 a_0]), .v (.agg [.arr .u8 32 e_1])] pre (.v (.agg [.arr .u64 5 r])) [] := by
  refine call0 (N := 28) Try.func103 (by kernel_rfl) rfl rfl rfl pre ?_
  intro _ w
  show Tr P w.heap.size 28 w _ _ (RetQ P Try.f103 (R0 _ w))
  unfold limb_Pow at h
  refine tr_seq ?_
  refine tr_reg hT [(0, .key 0), (1, .key 1), (2, .key 2)] [.s 2, .s 3, .s 4, .h 0, .h 1, .h 2] [sO 2 (.ptr 0 0), sO 3 (.ptr 1 0), sO 4 (.ptr 2 0), hB 0 71 [.arr .u64 5 a_0], hB 1 22 [.arr .u8 32 e_1], hB 2 71 [.arr .u64 5 (List.replicate 5 0)]] [] (by kernel_rfl) trivial ?_
  refine q_k ?_
  refine tr_seq ?_
  obtain ⟨a1, e2, h⟩ := bind_some h
  refine tr_reg hT [(0, .call (.v (.agg [.arr .u64 5 a1])) []), (1, .key 3)] [.s 2, .s 3, .s 4, .s 5, .h 0, .h 1, .h 2, .h 3] [sO 2 (.ptr 0 0), sO 3 (.ptr 1 0), sO 4 (.ptr 2 0), sO 5 (.ptr 3 0), hB 0 71 [.arr .u64 5 a_0], hB 1 22 [.arr .u8 32 e_1], hB 2 71 [.arr .u64 5 (List.replicate 5 0)], hB 3 71 [.arr .u64 5 a1]] [CallOk P 87 [.v (.one (.int .u64 (1 : Int)))] [] (.v (.agg [.arr .u64 5 a1])) []] (by kernel_rfl) (hone (limb_Small_ok (1 : Int) a1 e2)) ?_
  refine q_k ?_
  refine tr_seq ?_
  refine tr_seq ?_
  refine tr_reg hT [] [.s 2, .s 3, .s 4, .s 5, .s 6, .h 0, .h 1, .h 2, .h 3] [sO 2 (.ptr 0 0), sO 3 (.ptr 1 0), sO 4 (.ptr 2 0), sO 5 (.ptr 3 0), sI 6 .i64 (255 : Int), hB 0 71 [.arr .u64 5 a_0], hB 1 22 [.arr .u8 32 e_1], hB 2 71 [.arr .u64 5 (List.replicate 5 0)], hB 3 71 [.arr .u64 5 a1]] [] (by kernel_rfl) trivial ?_
  refine q_k ?_
  refine tr_block ?_
  obtain ⟨m13, e14, h⟩ := bind_some h
  refine tr_less [.s 2, .s 3, .s 4, .s 5, .s 6, .h 0, .h 1, .h 2, .h 3] [sO 2 (.ptr 0 0), sO 3 (.ptr 1 0), sO 4 (.ptr 2 0), sO 5 (.ptr 3 0), sI 6 .i64 (255 : Int), hB 0 71 [.arr .u64 5 a_0], hB 1 22 [.arr .u8 32 e_1], hB 2 71 [.arr .u64 5 (List.replicate 5 0)], hB 3 71 [.arr .u64 5 a1]] (by kernel_rfl) ?_
  refine tr_loop_fuel (id := 0) (α := List Int × Int) (β := List Int) (fun z => [sO 2 (.ptr 0 0), sO 3 (.ptr 1 0), sO 4 (.ptr 2 0), sO 5 (.ptr 3 0), sI 6 .i64 z.2, hB 0 71 [.arr .u64 5 a_0], hB 1 22 [.arr .u8 32 e_1], hB 2 71 [.arr .u64 5 (List.replicate 5 0)], hB 3 71 [.arr .u64 5 z.1]]) (fun z => [sO 4 (.ptr 2 0), sO 5 (.ptr 3 0), hB 2 71 [.arr .u64 5 (List.replicate 5 0)], hB 3 71 [.arr .u64 5 z]]) (fun k z => limb_Pow_l0 a_0 e_1 k z.1 z.2) m13 (fun _ => rfl) (((255 : Int) - (0 : Int) + 1).toNat + 1) (a1, (255 : Int)) e14 ?_ ?_
  · skip
    replace h : (some m13) = _ := h
    refine q_b_this ?_
    refine q_k ?_
    refine tr_seq ?_
    refine tr_reg hT [] [.s 4, .h 2] [sO 4 (.ptr 2 0), hB 2 71 [.arr .u64 5 m13]] [] (by kernel_rfl) trivial ?_
    refine q_k ?_
    refine tr_ret ?_
    have h := Option.some.inj h
    subst h
    exact q_ret0 hT (.v (.agg [.arr .u64 5 m13])) rfl (by kernel_rfl)
  · clear h e14
    intro k ih0 hx0 z h
    obtain ⟨m3, i4⟩ := z
    replace h : (if (decide (i4 ≥ (0 : Int))) = true then (limb_Mul m3 m3).bind (fun a6 => if 0 ≤ (IntKind.i64.wrap (i4.tdiv (8 : Int))) ∧ (IntKind.i64.wrap (i4.tdiv (8 : Int))) < ((32 : Nat) : Int) then if 0 ≤ (i4.tmod (8 : Int)) then if ((band .u8 (shr .u8 (e_1.getD (IntKind.i64.wrap (i4.tdiv (8 : Int))).toNat 0) (i4.tmod (8 : Int))) (1 : Int)) == (1 : Int)) = true then (limb_Mul a6 a_0).bind (fun a11 => limb_Pow_l0 a_0 e_1 k a11 (IntKind.i64.wrap (i4 - (1 : Int)))) else limb_Pow_l0 a_0 e_1 k a6 (IntKind.i64.wrap (i4 - (1 : Int))) else none else none) else some m3) = _ := h
    refine tr_seq ?_
    refine tr_seq ?_
    refine tr_reg hT [] [.s 2, .s 3, .s 4, .s 5, .s 6, .s 9, .h 0, .h 1, .h 2, .h 3] [sO 2 (.ptr 0 0), sO 3 (.ptr 1 0), sO 4 (.ptr 2 0), sO 5 (.ptr 3 0), sI 6 .i64 i4, sB 9 (decide (i4 ≥ (0 : Int))), hB 0 71 [.arr .u64 5 a_0], hB 1 22 [.arr .u8 32 e_1], hB 2 71 [.arr .u64 5 (List.replicate 5 0)], hB 3 71 [.arr .u64 5 m3]] [] (by kernel_rfl) trivial ?_
    refine q_k ?_
    rcases ite_split h with ⟨hc5, h⟩ | ⟨hc5, h⟩
    · refine tr_cond_t (decide (i4 ≥ (0 : Int))) (by kernel_rfl) hc5 ?_
      refine tr_skip ?_
      refine q_k ?_
      refine tr_seq ?_
      refine tr_block ?_
      refine tr_seq ?_
      obtain ⟨a6, e7, h⟩ := bind_some h
      refine tr_reg hT [(2, .call (.v (.agg [.arr .u64 5 a6])) [])] [.s 2, .s 3, .s 4, .s 5, .s 6, .h 0, .h 1, .h 2, .h 3] [sO 2 (.ptr 0 0), sO 3 (.ptr 1 0), sO 4 (.ptr 2 0), sO 5 (.ptr 3 0), sI 6 .i64 i4, hB 0 71 [.arr .u64 5 a_0], hB 1 22 [.arr .u8 32 e_1], hB 2 71 [.arr .u64 5 (List.replicate 5 0)], hB 3 71 [.arr .u64 5 a6]] [CallOk P 74 [.v (.agg [.arr .u64 5 m3]), .v (.agg [.arr .u64 5 m3])] [] (.v (.agg [.arr .u64 5 a6])) []] (by kernel_rfl) (hone (limb_Mul_ok m3 m3 a6 e7)) ?_
      refine q_k ?_
      refine tr_seq ?_
      obtain ⟨hn8, h⟩ := ite_some h
      obtain ⟨hn9, h⟩ := ite_some h
      refine tr_reg hT [] [.s 2, .s 3, .s 4, .s 5, .s 6, .s 23, .h 0, .h 1, .h 2, .h 3] [sO 2 (.ptr 0 0), sO 3 (.ptr 1 0), sO 4 (.ptr 2 0), sO 5 (.ptr 3 0), sI 6 .i64 i4, sB 23 ((band .u8 (shr .u8 (e_1.getD (IntKind.i64.wrap (i4.tdiv (8 : Int))).toNat 0) (i4.tmod (8 : Int))) (1 : Int)) == (1 : Int)), hB 0 71 [.arr .u64 5 a_0], hB 1 22 [.arr .u8 32 e_1], hB 2 71 [.arr .u64 5 (List.replicate 5 0)], hB 3 71 [.arr .u64 5 a6]] [(8 : Int) ≠ 0, 0 ≤ (IntKind.i64.wrap (i4.tdiv (8 : Int))) ∧ (IntKind.i64.wrap (i4.tdiv (8 : Int))) < ((32 : Nat) : Int), (8 : Int) ≠ 0, 0 ≤ (i4.tmod (8 : Int))] (by kernel_rfl) (hcons (by decide) (hcons hn8 (hcons (by decide) (hone hn9)))) ?_
      refine q_k ?_
      rcases ite_split h with ⟨hc10, h⟩ | ⟨hc10, h⟩
      · refine tr_cond_t ((band .u8 (shr .u8 (e_1.getD (IntKind.i64.wrap (i4.tdiv (8 : Int))).toNat 0) (i4.tmod (8 : Int))) (1 : Int)) == (1 : Int)) (by kernel_rfl) hc10 ?_
        obtain ⟨a11, e12, h⟩ := bind_some h
        refine tr_reg hT [(2, .call (.v (.agg [.arr .u64 5 a11])) [])] [.s 2, .s 3, .s 4, .s 5, .s 6, .h 0, .h 1, .h 2, .h 3] [sO 2 (.ptr 0 0), sO 3 (.ptr 1 0), sO 4 (.ptr 2 0), sO 5 (.ptr 3 0), sI 6 .i64 i4, hB 0 71 [.arr .u64 5 a_0], hB 1 22 [.arr .u8 32 e_1], hB 2 71 [.arr .u64 5 (List.replicate 5 0)], hB 3 71 [.arr .u64 5 a11]] [CallOk P 74 [.v (.agg [.arr .u64 5 a6]), .v (.agg [.arr .u64 5 a_0])] [] (.v (.agg [.arr .u64 5 a11])) []] (by kernel_rfl) (hone (limb_Mul_ok a6 a_0 a11 e12)) ?_
        refine q_b 1 ?_
        refine q_k ?_
        refine tr_reg hT [] [.s 2, .s 3, .s 4, .s 5, .s 6, .h 0, .h 1, .h 2, .h 3] [sO 2 (.ptr 0 0), sO 3 (.ptr 1 0), sO 4 (.ptr 2 0), sO 5 (.ptr 3 0), sI 6 .i64 (IntKind.i64.wrap (i4 - (1 : Int))), hB 0 71 [.arr .u64 5 a_0], hB 1 22 [.arr .u8 32 e_1], hB 2 71 [.arr .u64 5 (List.replicate 5 0)], hB 3 71 [.arr .u64 5 a11]] [] (by kernel_rfl) trivial ?_
        refine q_kr ?_
        exact trR_less [.s 2, .s 3, .s 4, .s 5, .s 6, .h 0, .h 1, .h 2, .h 3] [sO 2 (.ptr 0 0), sO 3 (.ptr 1 0), sO 4 (.ptr 2 0), sO 5 (.ptr 3 0), sI 6 .i64 (IntKind.i64.wrap (i4 - (1 : Int))), hB 0 71 [.arr .u64 5 a_0], hB 1 22 [.arr .u8 32 e_1], hB 2 71 [.arr .u64 5 (List.replicate 5 0)], hB 3 71 [.arr .u64 5 a11]] (by kernel_rfl) (ih0 (a11, (IntKind.i64.wrap (i4 - (1 : Int)))) h)
      · refine tr_cond_f ((band .u8 (shr .u8 (e_1.getD (IntKind.i64.wrap (i4.tdiv (8 : Int))).toNat 0) (i4.tmod (8 : Int))) (1 : Int)) == (1 : Int)) (by kernel_rfl) hc10 ?_
        refine tr_skip ?_
        refine q_b 1 ?_
        refine q_k ?_
        refine tr_reg hT [] [.s 2, .s 3, .s 4, .s 5, .s 6, .h 0, .h 1, .h 2, .h 3] [sO 2 (.ptr 0 0), sO 3 (.ptr 1 0), sO 4 (.ptr 2 0), sO 5 (.ptr 3 0), sI 6 .i64 (IntKind.i64.wrap (i4 - (1 : Int))), hB 0 71 [.arr .u64 5 a_0], hB 1 22 [.arr .u8 32 e_1], hB 2 71 [.arr .u64 5 (List.replicate 5 0)], hB 3 71 [.arr .u64 5 a6]] [] (by kernel_rfl) trivial ?_
        refine q_kr ?_
        exact trR_less [.s 2, .s 3, .s 4, .s 5, .s 6, .h 0, .h 1, .h 2, .h 3] [sO 2 (.ptr 0 0), sO 3 (.ptr 1 0), sO 4 (.ptr 2 0), sO 5 (.ptr 3 0), sI 6 .i64 (IntKind.i64.wrap (i4 - (1 : Int))), hB 0 71 [.arr .u64 5 a_0], hB 1 22 [.arr .u8 32 e_1], hB 2 71 [.arr .u64 5 (List.replicate 5 0)], hB 3 71 [.arr .u64 5 a6]] (by kernel_rfl) (ih0 (a6, (IntKind.i64.wrap (i4 - (1 : Int)))) h)
    · refine tr_cond_f (decide (i4 ≥ (0 : Int))) (by kernel_rfl) hc5 ?_
      refine tr_exit ?_
      refine q_k_exit ?_
      refine q_kr_exit ?_
      have h := Option.some.inj h
      subst h
      exact q_less [.s 4, .s 5, .h 2, .h 3] [sO 4 (.ptr 2 0), sO 5 (.ptr 3 0), hB 2 71 [.arr .u64 5 (List.replicate 5 0)], hB 3 71 [.arr .u64 5 m3]] (by kernel_rfl) hx0

theorem limb_Inv_ok (a_0 : List Int) (r : List Int) (h : limb_Inv a_0 = some r) {pre : List (Nat × Ent)} : CallOk P 83 [.v (.agg [.arr .u64 5 a_0])] pre (.v (.agg [.arr .u64 5 r])) [] := by
  refine call0 (N := 6) Try.func83 (by kernel_rfl) rfl rfl rfl pre ?_
  intro _ w
  show Tr P w.heap.size 6 w _ _ (RetQ P Try.f83 (R0 _ w))
  unfold limb_Inv at h
  refine tr_seq ?_
  refine tr_reg hT [(0, .key 0), (1, .key 1)] [.s 1, .s 2, .h 0, .h 1] [sO 1 (.ptr 0 0), sO 2 (.ptr 1 0), hB 0 71 [.arr .u64 5 a_0], hB 1 71 [.arr .u64 5 (List.replicate 5 0)]] [] (by kernel_rfl) trivial ?_
  refine q_k ?_
  refine tr_seq ?_
  obtain ⟨a1, e2, h⟩ := bind_some h
  obtain ⟨a3, e4, h⟩ := bind_some h
  refine tr_regd hT hM [(1, .call (.v (.agg [.arr .u8 32 a1])) []), (2, .call (.v (.agg [.arr .u64 5 a3])) [])] [.s 2, .h 1] [sO 2 (.ptr 1 0), hB 1 71 [.arr .u64 5 a3]] [CallOk P 104 [.v (.one (.int .i64 (255 : Int))), .v (.one (.int .u8 (21 : Int)))] [] (.v (.agg [.arr .u8 32 a1])) [], CallOk P 103 [.v (.agg [.arr .u64 5 a_0]), .v (.agg [.arr .u8 32 a1])] [] (.v (.agg [.arr .u64 5 a3])) []] (by kernel_rfl) (hcons (limb_Below_ok (255 : Int) (21 : Int) a1 e2) (hone (limb_Pow_ok a_0 a1 a3 e4))) ?_
  refine q_k ?_
  refine tr_ret ?_
  have h := Option.some.inj h
  subst h
  exact q_ret0 hT (.v (.agg [.arr .u64 5 a3])) rfl (by kernel_rfl)

theorem field_Inv_ok (a_0 : List Int) (r : List Int) (h : field_Inv a_0 = some r) {pre : List (Nat × Ent)} : CallOk P 50 [.v (.agg [.arr .u8 32 a_0])] pre (.v (.agg [.arr .u8 32 r])) [] := by
  refine call0 (N := 7) Try.func50 (by kernel_rfl) rfl rfl rfl pre ?_
  intro _ w
  show Tr P w.heap.size 7 w _ _ (RetQ P Try.f50 (R0 _ w))
  unfold field_Inv at h
  refine tr_seq ?_
  refine tr_reg hT [(0, .key 0), (1, .key 1)] [.s 1, .s 2, .h 0, .h 1] [sO 1 (.ptr 0 0), sO 2 (.ptr 1 0), hB 0 22 [.arr .u8 32 a_0], hB 1 22 [.arr .u8 32 (List.replicate 32 0)]] [] (by kernel_rfl) trivial ?_
  refine q_k ?_
  refine tr_seq ?_
  obtain ⟨a1, e2, h⟩ := bind_some h
  obtain ⟨a3, e4, h⟩ := bind_some h
  obtain ⟨a5, e6, h⟩ := bind_some h
  refine tr_reg hT [(1, .call (.v (.agg [.arr .u64 5 a1])) []), (2, .call (.v (.agg [.arr .u64 5 a3])) []), (3, .call (.v (.agg [.arr .u8 32 a5])) [])] [.s 2, .h 1] [sO 2 (.ptr 1 0), hB 1 22 [.arr .u8 32 a5]] [CallOk P 72 [.v (.agg [.arr .u8 32 a_0])] [] (.v (.agg [.arr .u64 5 a1])) [], CallOk P 83 [.v (.agg [.arr .u64 5 a1])] [] (.v (.agg [.arr .u64 5 a3])) [], CallOk P 73 [.v (.agg [.arr .u64 5 a3])] [] (.v (.agg [.arr .u8 32 a5])) []] (by kernel_rfl) (hcons (limb_Of_ok a_0 a1 e2) (hcons (limb_Inv_ok a1 a3 e4) (hone (limb_N_Bytes_ok a3 a5 e6)))) ?_
  refine q_k ?_
  refine tr_ret ?_
  have h := Option.some.inj h
  subst h
  exact q_ret0 hT (.v (.agg [.arr .u8 32 a5])) rfl (by kernel_rfl)

end Go.Proofs.Sb
