/- Walks, printed by a program of this session (gowalk.py): each Go function comes to its plain function's answer. -/
import Derived.Test.YtdcdanfeepncmaaSbA
import Derived.Test.YtdcdanfeepncmaaSbD
import Derived.Test.YtdcdanfeepncmaaSbI
import Derived.Test.YtdcdanfeepncmaaSbV0
import Derived.Test.YtdcdanfeepncmaaSbV1
import Derived.Test.YtdcdanfeepncmaaSbV2
import Derived.Test.YtdcdanfeepncmaaSbV3
import Derived.Test.YtdcdanfeepncmaaSbV4
import Derived.Test.YtdcdanfeepncmaaSbV5
import Derived.Test.YtdcdanfeepncmaaSbV6
namespace Go.Proofs.Sb
open Go Go.Gw D
set_option linter.unusedVariables false
set_option maxRecDepth 20000

theorem ref04_d_ok (r : List Int) (h : ref04_d = some r) {pre : List (Nat × Ent)} : CallOk P 97 [] pre (.v (.agg [.arr .u64 4 r])) [] := by
  refine call0 (N := 7) Try.func97 (by kernel_rfl) rfl rfl rfl pre ?_
  intro _ w
  show Tr P (Ge w) 7 _ _ _ (RetQ P Try.f97 (R0 _ w))
  unfold ref04_d at h
  refine tr_seq ?_
  refine tr_reg hT [(0, .key 0)] [.s 0, .h 0] [sO 0 (.ptr 0 0), hB 0 31 [.arr .u64 4 (List.replicate 4 0)]] [] (by kernel_rfl) trivial ?_
  refine q_k ?_
  refine tr_seq ?_
  obtain ⟨a1, e2, h⟩ := bind_some h
  obtain ⟨a3, e4, h⟩ := bind_some h
  obtain ⟨a5, e6, h⟩ := bind_some h
  refine tr_reg hT [(2, .call [] (.v (.agg [.arr .u64 4 a1])) []), (4, .call [] (.v (.agg [.arr .u64 4 a3])) []), (5, .call [] (.v (.agg [.arr .u64 4 a5])) [])] [.s 0, .h 0] [sO 0 (.ptr 0 0), hB 0 31 [.arr .u64 4 a5]] [CallOk P 48 [.v (.agg [.arr .u64 4 (List.replicate 4 0)]), .v (.agg [.arr .u64 4 [(121665 : Int), (0 : Int), (0 : Int), (0 : Int)]])] [] (.v (.agg [.arr .u64 4 a1])) [], CallOk P 51 [.v (.agg [.arr .u64 4 [(121666 : Int), (0 : Int), (0 : Int), (0 : Int)]])] [] (.v (.agg [.arr .u64 4 a3])) [], CallOk P 49 [.v (.agg [.arr .u64 4 a1]), .v (.agg [.arr .u64 4 a3])] [] (.v (.agg [.arr .u64 4 a5])) []] (by kernel_rfl) (hcons (ref04_Sub_ok (List.replicate 4 0) [(121665 : Int), (0 : Int), (0 : Int), (0 : Int)] a1 e2) (hcons (ref04_Inv_ok [(121666 : Int), (0 : Int), (0 : Int), (0 : Int)] a3 e4) (hone (ref04_Mul_ok a1 a3 a5 e6)))) ?_
  refine q_k ?_
  refine tr_ret ?_
  have h := Option.some.inj h
  subst h
  exact q_ret0 hT (.v (.agg [.arr .u64 4 a5])) rfl (by kernel_rfl)

theorem ref04_Decode_ok (b_0 : List Int) (r : List Int × List Int × List Int × List Int × Bool) (h : ref04_Decode b_0 = some r) {pre : List (Nat × Ent)} : CallOk P 62 [.v (.agg [.arr .u8 32 b_0])] pre (.tup [.agg [.arr .u64 4 r.1, .arr .u64 4 r.2.1, .arr .u64 4 r.2.2.1, .arr .u64 4 r.2.2.2.1], .one (.bool r.2.2.2.2)]) [] := by
  refine call0 (N := 62) Try.func62 (by kernel_rfl) rfl rfl rfl pre ?_
  intro _ w
  show Tr P (Ge w) 62 _ _ _ (RetQ P Try.f62 (R0 _ w))
  unfold ref04_Decode at h
  refine tr_seq ?_
  refine tr_reg hT [(0, .key 0), (1, .key 1)] [.s 1, .s 2, .h 0, .h 1] [sO 1 (.ptr 0 0), sO 2 (.ptr 1 0), hB 0 22 [.arr .u8 32 b_0], hB 1 59 [.arr .u64 4 (List.replicate 4 0), .arr .u64 4 (List.replicate 4 0), .arr .u64 4 (List.replicate 4 0), .arr .u64 4 (List.replicate 4 0)]] [] (by kernel_rfl) trivial ?_
  refine q_k ?_
  refine tr_seq ?_
  refine tr_reg hT [] [.s 1, .s 2, .s 4, .h 0, .h 1] [sO 1 (.ptr 0 0), sO 2 (.ptr 1 0), sB 4 (decide ((b_0.getD 31 0) ≥ (128 : Int))), hB 0 22 [.arr .u8 32 b_0], hB 1 59 [.arr .u64 4 (List.replicate 4 0), .arr .u64 4 (List.replicate 4 0), .arr .u64 4 (List.replicate 4 0), .arr .u64 4 (List.replicate 4 0)]] [0 ≤ (31 : Int) ∧ (31 : Int) < ((32 : Nat) : Int)] (by kernel_rfl) (hone (by decide)) ?_
  refine q_k ?_
  refine tr_seq ?_
  refine tr_reg hT [] [.s 1, .s 2, .s 4, .h 0, .h 1] [sO 1 (.ptr 0 0), sO 2 (.ptr 1 0), sB 4 (decide ((b_0.getD 31 0) ≥ (128 : Int))), hB 0 22 [.arr .u8 32 (b_0.set 31 (band .u8 (b_0.getD 31 0) (127 : Int)))], hB 1 59 [.arr .u64 4 (List.replicate 4 0), .arr .u64 4 (List.replicate 4 0), .arr .u64 4 (List.replicate 4 0), .arr .u64 4 (List.replicate 4 0)]] [0 ≤ (31 : Int) ∧ (31 : Int) < ((32 : Nat) : Int), 0 ≤ (31 : Int) ∧ (31 : Int) < ((32 : Nat) : Int)] (by kernel_rfl) (hcons (by decide) (hone (by decide))) ?_
  refine q_k ?_
  refine tr_seq ?_
  obtain ⟨a1, e2, h⟩ := bind_some h
  refine tr_reg hT [(1, .call [] (.v (.agg [.arr .u64 4 a1])) []), (2, .key 2)] [.s 2, .s 4, .s 5, .h 1, .h 2] [sO 2 (.ptr 1 0), sB 4 (decide ((b_0.getD 31 0) ≥ (128 : Int))), sO 5 (.ptr 2 0), hB 1 59 [.arr .u64 4 (List.replicate 4 0), .arr .u64 4 (List.replicate 4 0), .arr .u64 4 (List.replicate 4 0), .arr .u64 4 (List.replicate 4 0)], hB 2 31 [.arr .u64 4 a1]] [CallOk P 44 [.v (.agg [.arr .u8 32 (b_0.set 31 (band .u8 (b_0.getD 31 0) (127 : Int)))])] [] (.v (.agg [.arr .u64 4 a1])) []] (by kernel_rfl) (hone (ref04_Of_ok (b_0.set 31 (band .u8 (b_0.getD 31 0) (127 : Int))) a1 e2)) ?_
  refine q_k ?_
  refine tr_seq ?_
  refine tr_seq ?_
  obtain ⟨a3, e4, h⟩ := bind_some h
  obtain ⟨b5, e6, h⟩ := bind_some h
  refine tr_regd hT hM [(1, .call [] (.v (.agg [.arr .u64 4 a3])) []), (2, .call [] (.v (.one (.bool b5))) [])] [.s 2, .s 4, .s 5, .s 21, .h 1, .h 2] [sO 2 (.ptr 1 0), sB 4 (decide ((b_0.getD 31 0) ≥ (128 : Int))), sO 5 (.ptr 2 0), sB 21 (!b5), hB 1 59 [.arr .u64 4 (List.replicate 4 0), .arr .u64 4 (List.replicate 4 0), .arr .u64 4 (List.replicate 4 0), .arr .u64 4 (List.replicate 4 0)], hB 2 31 [.arr .u64 4 a1]] [CallOk P 43 [] [] (.v (.agg [.arr .u64 4 a3])) [], CallOk P 75 [.v (.agg [.arr .u64 4 a1]), .v (.agg [.arr .u64 4 a3])] [] (.v (.one (.bool b5))) []] (by kernel_rfl) (hcons (ref04_P_ok  a3 e4) (hone (ref04_less_ok a1 a3 b5 e6))) ?_
  refine q_k ?_
  rcases ite_split h with ⟨hc7, h⟩ | ⟨hc7, h⟩
  · refine tr_cond_t (!b5) (by kernel_rfl) hc7 ?_
    refine tr_seq ?_
    refine tr_reg hT [] [.s 2, .s 3, .h 1] [sO 2 (.ptr 1 0), sB 3 false, hB 1 59 [.arr .u64 4 (List.replicate 4 0), .arr .u64 4 (List.replicate 4 0), .arr .u64 4 (List.replicate 4 0), .arr .u64 4 (List.replicate 4 0)]] [] (by kernel_rfl) trivial ?_
    refine q_k ?_
    refine tr_ret ?_
    refine q_k_ret ?_
    have h := Option.some.inj h
    subst h
    exact q_ret0 hT (.tup [.agg [.arr .u64 4 (List.replicate 4 0), .arr .u64 4 (List.replicate 4 0), .arr .u64 4 (List.replicate 4 0), .arr .u64 4 (List.replicate 4 0)], .one (.bool false)]) rfl (by kernel_rfl)
  · refine tr_cond_f (!b5) (by kernel_rfl) hc7 ?_
    refine tr_skip ?_
    refine q_k ?_
    refine tr_seq ?_
    obtain ⟨a8, e9, h⟩ := bind_some h
    refine tr_reg hT [(2, .call [] (.v (.agg [.arr .u64 4 a8])) []), (3, .key 3)] [.s 2, .s 4, .s 5, .s 6, .h 1, .h 2, .h 3] [sO 2 (.ptr 1 0), sB 4 (decide ((b_0.getD 31 0) ≥ (128 : Int))), sO 5 (.ptr 2 0), sO 6 (.ptr 3 0), hB 1 59 [.arr .u64 4 (List.replicate 4 0), .arr .u64 4 (List.replicate 4 0), .arr .u64 4 (List.replicate 4 0), .arr .u64 4 (List.replicate 4 0)], hB 2 31 [.arr .u64 4 a1], hB 3 31 [.arr .u64 4 a8]] [CallOk P 49 [.v (.agg [.arr .u64 4 a1]), .v (.agg [.arr .u64 4 a1])] [] (.v (.agg [.arr .u64 4 a8])) []] (by kernel_rfl) (hone (ref04_Mul_ok a1 a1 a8 e9)) ?_
    refine q_k ?_
    refine tr_seq ?_
    obtain ⟨a10, e11, h⟩ := bind_some h
    obtain ⟨a12, e13, h⟩ := bind_some h
    obtain ⟨a14, e15, h⟩ := bind_some h
    obtain ⟨a16, e17, h⟩ := bind_some h
    obtain ⟨a18, e19, h⟩ := bind_some h
    obtain ⟨a20, e21, h⟩ := bind_some h
    obtain ⟨⟨a22, b23⟩, e24, h⟩ := bind_some h
    refine tr_regd hT hM [(2, .call [] (.v (.agg [.arr .u64 4 a10])) []), (3, .call [] (.v (.agg [.arr .u64 4 a12])) []), (5, .call [] (.v (.agg [.arr .u64 4 a14])) []), (7, .call [] (.v (.agg [.arr .u64 4 a16])) []), (8, .call [] (.v (.agg [.arr .u64 4 a18])) []), (9, .call [] (.v (.agg [.arr .u64 4 a20])) []), (10, .call [] (.tup [.agg [.arr .u64 4 a22], .one (.bool b23)]) []), (14, .key 4)] [.s 2, .s 4, .s 5, .s 7, .s 8, .h 1, .h 2, .h 4] [sO 2 (.ptr 1 0), sB 4 (decide ((b_0.getD 31 0) ≥ (128 : Int))), sO 5 (.ptr 2 0), sO 7 (.ptr 4 0), sB 8 b23, hB 1 59 [.arr .u64 4 (List.replicate 4 0), .arr .u64 4 (List.replicate 4 0), .arr .u64 4 (List.replicate 4 0), .arr .u64 4 (List.replicate 4 0)], hB 2 31 [.arr .u64 4 a1], hB 4 31 [.arr .u64 4 a22]] [CallOk P 48 [.v (.agg [.arr .u64 4 a8]), .v (.agg [.arr .u64 4 [(1 : Int), (0 : Int), (0 : Int), (0 : Int)]])] [] (.v (.agg [.arr .u64 4 a10])) [], CallOk P 97 [] [] (.v (.agg [.arr .u64 4 a12])) [], CallOk P 49 [.v (.agg [.arr .u64 4 a12]), .v (.agg [.arr .u64 4 a8])] [] (.v (.agg [.arr .u64 4 a14])) [], CallOk P 47 [.v (.agg [.arr .u64 4 a14]), .v (.agg [.arr .u64 4 [(1 : Int), (0 : Int), (0 : Int), (0 : Int)]])] [] (.v (.agg [.arr .u64 4 a16])) [], CallOk P 51 [.v (.agg [.arr .u64 4 a16])] [] (.v (.agg [.arr .u64 4 a18])) [], CallOk P 49 [.v (.agg [.arr .u64 4 a10]), .v (.agg [.arr .u64 4 a18])] [] (.v (.agg [.arr .u64 4 a20])) [], CallOk P 53 [.v (.agg [.arr .u64 4 a20])] [] (.tup [.agg [.arr .u64 4 a22], .one (.bool b23)]) []] (by kernel_rfl) (hcons (ref04_Sub_ok a8 [(1 : Int), (0 : Int), (0 : Int), (0 : Int)] a10 e11) (hcons (ref04_d_ok  a12 e13) (hcons (ref04_Mul_ok a12 a8 a14 e15) (hcons (ref04_Add_ok a14 [(1 : Int), (0 : Int), (0 : Int), (0 : Int)] a16 e17) (hcons (ref04_Inv_ok a16 a18 e19) (hcons (ref04_Mul_ok a10 a18 a20 e21) (hone (ref04_Root_ok a20 (a22, b23) e24)))))))) ?_
    refine q_k ?_
    refine tr_seq ?_
    refine tr_seq ?_
    rcases ite_split h with ⟨hb26, h⟩ | ⟨hb27, h⟩
    · refine tr_reg hT [(2, .dec true)] [.s 2, .s 4, .s 5, .s 7, .s 49, .h 1, .h 2, .h 4] [sO 2 (.ptr 1 0), sB 4 (decide ((b_0.getD 31 0) ≥ (128 : Int))), sO 5 (.ptr 2 0), sO 7 (.ptr 4 0), sB 49 true, hB 1 59 [.arr .u64 4 (List.replicate 4 0), .arr .u64 4 (List.replicate 4 0), .arr .u64 4 (List.replicate 4 0), .arr .u64 4 (List.replicate 4 0)], hB 2 31 [.arr .u64 4 a1], hB 4 31 [.arr .u64 4 a22]] [(!b23) = true] (by kernel_rfl) (hone hb26) ?_
      refine q_k ?_
      refine tr_cond_t true (by kernel_rfl) rfl ?_
      refine tr_seq ?_
      refine tr_reg hT [] [.s 2, .s 3, .h 1] [sO 2 (.ptr 1 0), sB 3 false, hB 1 59 [.arr .u64 4 (List.replicate 4 0), .arr .u64 4 (List.replicate 4 0), .arr .u64 4 (List.replicate 4 0), .arr .u64 4 (List.replicate 4 0)]] [] (by kernel_rfl) trivial ?_
      refine q_k ?_
      refine tr_ret ?_
      refine q_k_ret ?_
      have h := Option.some.inj h
      subst h
      exact q_ret0 hT (.tup [.agg [.arr .u64 4 (List.replicate 4 0), .arr .u64 4 (List.replicate 4 0), .arr .u64 4 (List.replicate 4 0), .arr .u64 4 (List.replicate 4 0)], .one (.bool false)]) rfl (by kernel_rfl)
    · rcases ite_split h with ⟨hb28, h⟩ | ⟨hb37, h⟩
      · refine tr_reg hT [(2, .dec false), (6, .dec true)] [.s 2, .s 4, .s 5, .s 7, .s 49, .h 1, .h 2, .h 4] [sO 2 (.ptr 1 0), sB 4 (decide ((b_0.getD 31 0) ≥ (128 : Int))), sO 5 (.ptr 2 0), sO 7 (.ptr 4 0), sB 49 (decide ((b_0.getD 31 0) ≥ (128 : Int))), hB 1 59 [.arr .u64 4 (List.replicate 4 0), .arr .u64 4 (List.replicate 4 0), .arr .u64 4 (List.replicate 4 0), .arr .u64 4 (List.replicate 4 0)], hB 2 31 [.arr .u64 4 a1], hB 4 31 [.arr .u64 4 a22]] [(!b23) = false, (decide (a22 = (List.replicate 4 0))) = true] (by kernel_rfl) (hcons hb27 (hone hb28)) ?_
        refine q_k ?_
        rcases ite_split h with ⟨hc29, h⟩ | ⟨hc29, h⟩
        · refine tr_cond_t (decide ((b_0.getD 31 0) ≥ (128 : Int))) (by kernel_rfl) hc29 ?_
          refine tr_seq ?_
          refine tr_reg hT [] [.s 2, .s 3, .h 1] [sO 2 (.ptr 1 0), sB 3 false, hB 1 59 [.arr .u64 4 (List.replicate 4 0), .arr .u64 4 (List.replicate 4 0), .arr .u64 4 (List.replicate 4 0), .arr .u64 4 (List.replicate 4 0)]] [] (by kernel_rfl) trivial ?_
          refine q_k ?_
          refine tr_ret ?_
          refine q_k_ret ?_
          have h := Option.some.inj h
          subst h
          exact q_ret0 hT (.tup [.agg [.arr .u64 4 (List.replicate 4 0), .arr .u64 4 (List.replicate 4 0), .arr .u64 4 (List.replicate 4 0), .arr .u64 4 (List.replicate 4 0)], .one (.bool false)]) rfl (by kernel_rfl)
        · refine tr_cond_f (decide ((b_0.getD 31 0) ≥ (128 : Int))) (by kernel_rfl) hc29 ?_
          refine tr_skip ?_
          refine q_k ?_
          refine tr_seq ?_
          refine tr_seq ?_
          refine tr_reg hT [] [.s 2, .s 5, .s 7, .s 51, .h 1, .h 2, .h 4] [sO 2 (.ptr 1 0), sO 5 (.ptr 2 0), sO 7 (.ptr 4 0), sB 51 (decide ((b_0.getD 31 0) ≥ (128 : Int))), hB 1 59 [.arr .u64 4 (List.replicate 4 0), .arr .u64 4 (List.replicate 4 0), .arr .u64 4 (List.replicate 4 0), .arr .u64 4 (List.replicate 4 0)], hB 2 31 [.arr .u64 4 a1], hB 4 31 [.arr .u64 4 a22]] [] (by kernel_rfl) trivial ?_
          refine q_k ?_
          obtain ⟨m30, e36, h⟩ := bind_some h
          refine tr_join (σ1 := [sO 2 (.ptr 1 0), sO 5 (.ptr 2 0), sO 7 (.ptr 4 0), hB 1 59 [.arr .u64 4 (List.replicate 4 0), .arr .u64 4 (List.replicate 4 0), .arr .u64 4 (List.replicate 4 0), .arr .u64 4 (List.replicate 4 0)], hB 2 31 [.arr .u64 4 a1], hB 4 31 [.arr .u64 4 m30]]) ?_ ?_
          · skip
            replace h : ((ref04_Mul m30 a1).bind (fun a34 => some (m30, a1, [(1 : Int), (0 : Int), (0 : Int), (0 : Int)], a34, true))) = _ := h
            refine q_k ?_
            refine tr_seq ?_
            obtain ⟨a34, e35, h⟩ := bind_some h
            refine tr_regd hT hM [(5, .call [] (.v (.agg [.arr .u64 4 a34])) [])] [.s 2, .s 3, .h 1] [sO 2 (.ptr 1 0), sB 3 true, hB 1 59 [.arr .u64 4 m30, .arr .u64 4 a1, .arr .u64 4 [(1 : Int), (0 : Int), (0 : Int), (0 : Int)], .arr .u64 4 a34]] [CallOk P 49 [.v (.agg [.arr .u64 4 m30]), .v (.agg [.arr .u64 4 a1])] [] (.v (.agg [.arr .u64 4 a34])) []] (by kernel_rfl) (hone (ref04_Mul_ok m30 a1 a34 e35)) ?_
            refine q_k ?_
            refine tr_ret ?_
            have h := Option.some.inj h
            subst h
            exact q_ret0 hT (.tup [.agg [.arr .u64 4 m30, .arr .u64 4 a1, .arr .u64 4 [(1 : Int), (0 : Int), (0 : Int), (0 : Int)], .arr .u64 4 a34], .one (.bool true)]) rfl (by kernel_rfl)
          · intro hj0
            clear h
            have h := e36
            clear e36
            rcases ite_split h with ⟨hc31, h⟩ | ⟨hc31, h⟩
            · refine tr_cond_t (decide ((b_0.getD 31 0) ≥ (128 : Int))) (by kernel_rfl) hc31 ?_
              obtain ⟨a32, e33, h⟩ := bind_some h
              refine tr_reg hT [(2, .call [] (.v (.agg [.arr .u64 4 a32])) [])] [.s 2, .s 5, .s 7, .h 1, .h 2, .h 4] [sO 2 (.ptr 1 0), sO 5 (.ptr 2 0), sO 7 (.ptr 4 0), hB 1 59 [.arr .u64 4 (List.replicate 4 0), .arr .u64 4 (List.replicate 4 0), .arr .u64 4 (List.replicate 4 0), .arr .u64 4 (List.replicate 4 0)], hB 2 31 [.arr .u64 4 a1], hB 4 31 [.arr .u64 4 a32]] [CallOk P 48 [.v (.agg [.arr .u64 4 (List.replicate 4 0)]), .v (.agg [.arr .u64 4 a22])] [] (.v (.agg [.arr .u64 4 a32])) []] (by kernel_rfl) (hone (ref04_Sub_ok (List.replicate 4 0) a22 a32 e33)) ?_
              have h := Option.some.inj h
              subst h
              exact q_less [.s 2, .s 5, .s 7, .h 1, .h 2, .h 4] [sO 2 (.ptr 1 0), sO 5 (.ptr 2 0), sO 7 (.ptr 4 0), hB 1 59 [.arr .u64 4 (List.replicate 4 0), .arr .u64 4 (List.replicate 4 0), .arr .u64 4 (List.replicate 4 0), .arr .u64 4 (List.replicate 4 0)], hB 2 31 [.arr .u64 4 a1], hB 4 31 [.arr .u64 4 a32]] (by kernel_rfl) hj0
            · refine tr_cond_f (decide ((b_0.getD 31 0) ≥ (128 : Int))) (by kernel_rfl) hc31 ?_
              refine tr_skip ?_
              have h := Option.some.inj h
              subst h
              exact q_less [.s 2, .s 5, .s 7, .h 1, .h 2, .h 4] [sO 2 (.ptr 1 0), sO 5 (.ptr 2 0), sO 7 (.ptr 4 0), hB 1 59 [.arr .u64 4 (List.replicate 4 0), .arr .u64 4 (List.replicate 4 0), .arr .u64 4 (List.replicate 4 0), .arr .u64 4 (List.replicate 4 0)], hB 2 31 [.arr .u64 4 a1], hB 4 31 [.arr .u64 4 a22]] (by kernel_rfl) hj0
      · refine tr_reg hT [(2, .dec false), (6, .dec false)] [.s 2, .s 4, .s 5, .s 7, .s 49, .h 1, .h 2, .h 4] [sO 2 (.ptr 1 0), sB 4 (decide ((b_0.getD 31 0) ≥ (128 : Int))), sO 5 (.ptr 2 0), sO 7 (.ptr 4 0), sB 49 false, hB 1 59 [.arr .u64 4 (List.replicate 4 0), .arr .u64 4 (List.replicate 4 0), .arr .u64 4 (List.replicate 4 0), .arr .u64 4 (List.replicate 4 0)], hB 2 31 [.arr .u64 4 a1], hB 4 31 [.arr .u64 4 a22]] [(!b23) = false, (decide (a22 = (List.replicate 4 0))) = false] (by kernel_rfl) (hcons hb27 (hone hb37)) ?_
        refine q_k ?_
        refine tr_cond_f false (by kernel_rfl) rfl ?_
        refine tr_skip ?_
        refine q_k ?_
        refine tr_seq ?_
        refine tr_seq ?_
        refine tr_reg hT [] [.s 2, .s 5, .s 7, .s 51, .h 1, .h 2, .h 4] [sO 2 (.ptr 1 0), sO 5 (.ptr 2 0), sO 7 (.ptr 4 0), sB 51 (decide ((b_0.getD 31 0) ≥ (128 : Int))), hB 1 59 [.arr .u64 4 (List.replicate 4 0), .arr .u64 4 (List.replicate 4 0), .arr .u64 4 (List.replicate 4 0), .arr .u64 4 (List.replicate 4 0)], hB 2 31 [.arr .u64 4 a1], hB 4 31 [.arr .u64 4 a22]] [] (by kernel_rfl) trivial ?_
        refine q_k ?_
        obtain ⟨m38, e44, h⟩ := bind_some h
        refine tr_join (σ1 := [sO 2 (.ptr 1 0), sO 5 (.ptr 2 0), sO 7 (.ptr 4 0), hB 1 59 [.arr .u64 4 (List.replicate 4 0), .arr .u64 4 (List.replicate 4 0), .arr .u64 4 (List.replicate 4 0), .arr .u64 4 (List.replicate 4 0)], hB 2 31 [.arr .u64 4 a1], hB 4 31 [.arr .u64 4 m38]]) ?_ ?_
        · skip
          replace h : ((ref04_Mul m38 a1).bind (fun a42 => some (m38, a1, [(1 : Int), (0 : Int), (0 : Int), (0 : Int)], a42, true))) = _ := h
          refine q_k ?_
          refine tr_seq ?_
          obtain ⟨a42, e43, h⟩ := bind_some h
          refine tr_regd hT hM [(5, .call [] (.v (.agg [.arr .u64 4 a42])) [])] [.s 2, .s 3, .h 1] [sO 2 (.ptr 1 0), sB 3 true, hB 1 59 [.arr .u64 4 m38, .arr .u64 4 a1, .arr .u64 4 [(1 : Int), (0 : Int), (0 : Int), (0 : Int)], .arr .u64 4 a42]] [CallOk P 49 [.v (.agg [.arr .u64 4 m38]), .v (.agg [.arr .u64 4 a1])] [] (.v (.agg [.arr .u64 4 a42])) []] (by kernel_rfl) (hone (ref04_Mul_ok m38 a1 a42 e43)) ?_
          refine q_k ?_
          refine tr_ret ?_
          have h := Option.some.inj h
          subst h
          exact q_ret0 hT (.tup [.agg [.arr .u64 4 m38, .arr .u64 4 a1, .arr .u64 4 [(1 : Int), (0 : Int), (0 : Int), (0 : Int)], .arr .u64 4 a42], .one (.bool true)]) rfl (by kernel_rfl)
        · intro hj1
          clear h
          have h := e44
          clear e44
          rcases ite_split h with ⟨hc39, h⟩ | ⟨hc39, h⟩
          · refine tr_cond_t (decide ((b_0.getD 31 0) ≥ (128 : Int))) (by kernel_rfl) hc39 ?_
            obtain ⟨a40, e41, h⟩ := bind_some h
            refine tr_reg hT [(2, .call [] (.v (.agg [.arr .u64 4 a40])) [])] [.s 2, .s 5, .s 7, .h 1, .h 2, .h 4] [sO 2 (.ptr 1 0), sO 5 (.ptr 2 0), sO 7 (.ptr 4 0), hB 1 59 [.arr .u64 4 (List.replicate 4 0), .arr .u64 4 (List.replicate 4 0), .arr .u64 4 (List.replicate 4 0), .arr .u64 4 (List.replicate 4 0)], hB 2 31 [.arr .u64 4 a1], hB 4 31 [.arr .u64 4 a40]] [CallOk P 48 [.v (.agg [.arr .u64 4 (List.replicate 4 0)]), .v (.agg [.arr .u64 4 a22])] [] (.v (.agg [.arr .u64 4 a40])) []] (by kernel_rfl) (hone (ref04_Sub_ok (List.replicate 4 0) a22 a40 e41)) ?_
            have h := Option.some.inj h
            subst h
            exact q_less [.s 2, .s 5, .s 7, .h 1, .h 2, .h 4] [sO 2 (.ptr 1 0), sO 5 (.ptr 2 0), sO 7 (.ptr 4 0), hB 1 59 [.arr .u64 4 (List.replicate 4 0), .arr .u64 4 (List.replicate 4 0), .arr .u64 4 (List.replicate 4 0), .arr .u64 4 (List.replicate 4 0)], hB 2 31 [.arr .u64 4 a1], hB 4 31 [.arr .u64 4 a40]] (by kernel_rfl) hj1
          · refine tr_cond_f (decide ((b_0.getD 31 0) ≥ (128 : Int))) (by kernel_rfl) hc39 ?_
            refine tr_skip ?_
            have h := Option.some.inj h
            subst h
            exact q_less [.s 2, .s 5, .s 7, .h 1, .h 2, .h 4] [sO 2 (.ptr 1 0), sO 5 (.ptr 2 0), sO 7 (.ptr 4 0), hB 1 59 [.arr .u64 4 (List.replicate 4 0), .arr .u64 4 (List.replicate 4 0), .arr .u64 4 (List.replicate 4 0), .arr .u64 4 (List.replicate 4 0)], hB 2 31 [.arr .u64 4 a1], hB 4 31 [.arr .u64 4 a22]] (by kernel_rfl) hj1

theorem ref04_base_ok (r : List Int × List Int × List Int × List Int) (h : ref04_base = some r) {pre : List (Nat × Ent)} : CallOk P 95 [] pre (.v (.agg [.arr .u64 4 r.1, .arr .u64 4 r.2.1, .arr .u64 4 r.2.2.1, .arr .u64 4 r.2.2.2])) [] := by
  refine call0 (N := 15) Try.func95 (by kernel_rfl) rfl rfl rfl pre ?_
  intro _ w
  show Tr P (Ge w) 15 _ _ _ (RetQ P Try.f95 (R0 _ w))
  unfold ref04_base at h
  refine tr_seq ?_
  refine tr_reg hT [(0, .key 0)] [.s 0, .h 0] [sO 0 (.ptr 0 0), hB 0 59 [.arr .u64 4 (List.replicate 4 0), .arr .u64 4 (List.replicate 4 0), .arr .u64 4 (List.replicate 4 0), .arr .u64 4 (List.replicate 4 0)]] [] (by kernel_rfl) trivial ?_
  refine q_k ?_
  refine tr_seq ?_
  obtain ⟨a1, e2, h⟩ := bind_some h
  obtain ⟨a3, e4, h⟩ := bind_some h
  refine tr_reg hT [(2, .call [] (.v (.agg [.arr .u64 4 a1])) []), (3, .call [] (.v (.agg [.arr .u64 4 a3])) []), (4, .key 1)] [.s 0, .s 1, .h 0, .h 1] [sO 0 (.ptr 0 0), sO 1 (.ptr 1 0), hB 0 59 [.arr .u64 4 (List.replicate 4 0), .arr .u64 4 (List.replicate 4 0), .arr .u64 4 (List.replicate 4 0), .arr .u64 4 (List.replicate 4 0)], hB 1 31 [.arr .u64 4 a3]] [CallOk P 51 [.v (.agg [.arr .u64 4 [(5 : Int), (0 : Int), (0 : Int), (0 : Int)]])] [] (.v (.agg [.arr .u64 4 a1])) [], CallOk P 49 [.v (.agg [.arr .u64 4 [(4 : Int), (0 : Int), (0 : Int), (0 : Int)]]), .v (.agg [.arr .u64 4 a1])] [] (.v (.agg [.arr .u64 4 a3])) []] (by kernel_rfl) (hcons (ref04_Inv_ok [(5 : Int), (0 : Int), (0 : Int), (0 : Int)] a1 e2) (hone (ref04_Mul_ok [(4 : Int), (0 : Int), (0 : Int), (0 : Int)] a1 a3 e4))) ?_
  refine q_k ?_
  refine tr_seq ?_
  obtain ⟨a5, e6, h⟩ := bind_some h
  obtain ⟨⟨a7, a8, a9, a10, b11⟩, e12, h⟩ := bind_some h
  refine tr_reg hT [(1, .call [] (.v (.agg [.arr .u8 32 a5])) []), (2, .call [] (.tup [.agg [.arr .u64 4 a7, .arr .u64 4 a8, .arr .u64 4 a9, .arr .u64 4 a10], .one (.bool b11)]) []), (6, .key 2)] [.s 0, .s 2, .h 0, .h 2] [sO 0 (.ptr 0 0), sO 2 (.ptr 2 0), hB 0 59 [.arr .u64 4 (List.replicate 4 0), .arr .u64 4 (List.replicate 4 0), .arr .u64 4 (List.replicate 4 0), .arr .u64 4 (List.replicate 4 0)], hB 2 59 [.arr .u64 4 a7, .arr .u64 4 a8, .arr .u64 4 a9, .arr .u64 4 a10]] [CallOk P 29 [.v (.agg [.arr .u64 4 a3])] [] (.v (.agg [.arr .u8 32 a5])) [], CallOk P 62 [.v (.agg [.arr .u8 32 a5])] [] (.tup [.agg [.arr .u64 4 a7, .arr .u64 4 a8, .arr .u64 4 a9, .arr .u64 4 a10], .one (.bool b11)]) []] (by kernel_rfl) (hcons (ref04_Bytes_ok a3 a5 e6) (hone (ref04_Decode_ok a5 (a7, a8, a9, a10, b11) e12))) ?_
  refine q_k ?_
  refine tr_seq ?_
  refine tr_reg hT [] [.s 0, .h 0] [sO 0 (.ptr 0 0), hB 0 59 [.arr .u64 4 a7, .arr .u64 4 a8, .arr .u64 4 a9, .arr .u64 4 a10]] [] (by kernel_rfl) trivial ?_
  refine q_k ?_
  refine tr_ret ?_
  have h := Option.some.inj h
  subst h
  exact q_ret0 hT (.v (.agg [.arr .u64 4 a7, .arr .u64 4 a8, .arr .u64 4 a9, .arr .u64 4 a10])) rfl (by kernel_rfl)

theorem ref04_zero_ok (r : List Int × List Int × List Int × List Int) (h : ref04_zero = some r) {pre : List (Nat × Ent)} : CallOk P 109 [] pre (.v (.agg [.arr .u64 4 r.1, .arr .u64 4 r.2.1, .arr .u64 4 r.2.2.1, .arr .u64 4 r.2.2.2])) [] := by
  refine call0 (N := 6) Try.func109 (by kernel_rfl) rfl rfl rfl pre ?_
  intro _ w
  show Tr P (Ge w) 6 _ _ _ (RetQ P Try.f109 (R0 _ w))
  unfold ref04_zero at h
  refine tr_seq ?_
  refine tr_reg hT [(0, .key 0)] [.s 0, .h 0] [sO 0 (.ptr 0 0), hB 0 59 [.arr .u64 4 (List.replicate 4 0), .arr .u64 4 (List.replicate 4 0), .arr .u64 4 (List.replicate 4 0), .arr .u64 4 (List.replicate 4 0)]] [] (by kernel_rfl) trivial ?_
  refine q_k ?_
  refine tr_seq ?_
  refine tr_reg hT [] [.s 0, .h 0] [sO 0 (.ptr 0 0), hB 0 59 [.arr .u64 4 (List.replicate 4 0), .arr .u64 4 [(1 : Int), (0 : Int), (0 : Int), (0 : Int)], .arr .u64 4 [(1 : Int), (0 : Int), (0 : Int), (0 : Int)], .arr .u64 4 (List.replicate 4 0)]] [] (by kernel_rfl) trivial ?_
  refine q_k ?_
  refine tr_ret ?_
  have h := Option.some.inj h
  subst h
  exact q_ret0 hT (.v (.agg [.arr .u64 4 (List.replicate 4 0), .arr .u64 4 [(1 : Int), (0 : Int), (0 : Int), (0 : Int)], .arr .u64 4 [(1 : Int), (0 : Int), (0 : Int), (0 : Int)], .arr .u64 4 (List.replicate 4 0)])) rfl (by kernel_rfl)

theorem ref04_plus_ok (p_0 : List Int) (p_1 : List Int) (p_2 : List Int) (p_3 : List Int) (q_4 : List Int) (q_5 : List Int) (q_6 : List Int) (q_7 : List Int) (k_8 : List Int) (r : List Int × List Int × List Int × List Int) (h : ref04_plus p_0 p_1 p_2 p_3 q_4 q_5 q_6 q_7 k_8 = some r) {pre : List (Nat × Ent)} : CallOk P 98 [.v (.agg [.arr .u64 4 p_0, .arr .u64 4 p_1, .arr .u64 4 p_2, .arr .u64 4 p_3]), .v (.agg [.arr .u64 4 q_4, .arr .u64 4 q_5, .arr .u64 4 q_6, .arr .u64 4 q_7]), .v (.agg [.arr .u64 4 k_8])] pre (.v (.agg [.arr .u64 4 r.1, .arr .u64 4 r.2.1, .arr .u64 4 r.2.2.1, .arr .u64 4 r.2.2.2])) [] := by
  refine call0 (N := 80) Try.func98 (by kernel_rfl) rfl rfl rfl pre ?_
  intro _ w
  show Tr P (Ge w) 80 _ _ _ (RetQ P Try.f98 (R0 _ w))
  unfold ref04_plus at h
  refine tr_seq ?_
  refine tr_reg hT [(0, .key 0), (1, .key 1), (2, .key 2), (3, .key 3)] [.s 3, .s 4, .s 5, .s 6, .h 0, .h 1, .h 2, .h 3] [sO 3 (.ptr 0 0), sO 4 (.ptr 1 0), sO 5 (.ptr 2 0), sO 6 (.ptr 3 0), hB 0 59 [.arr .u64 4 p_0, .arr .u64 4 p_1, .arr .u64 4 p_2, .arr .u64 4 p_3], hB 1 59 [.arr .u64 4 q_4, .arr .u64 4 q_5, .arr .u64 4 q_6, .arr .u64 4 q_7], hB 2 31 [.arr .u64 4 k_8], hB 3 59 [.arr .u64 4 (List.replicate 4 0), .arr .u64 4 (List.replicate 4 0), .arr .u64 4 (List.replicate 4 0), .arr .u64 4 (List.replicate 4 0)]] [] (by kernel_rfl) trivial ?_
  refine q_k ?_
  refine tr_seq ?_
  obtain ⟨a1, e2, h⟩ := bind_some h
  obtain ⟨a3, e4, h⟩ := bind_some h
  obtain ⟨a5, e6, h⟩ := bind_some h
  refine tr_regd hT hM [(4, .call [] (.v (.agg [.arr .u64 4 a1])) []), (9, .call [] (.v (.agg [.arr .u64 4 a3])) []), (10, .call [] (.v (.agg [.arr .u64 4 a5])) []), (11, .key 4)] [.s 3, .s 4, .s 5, .s 6, .s 7, .h 0, .h 1, .h 2, .h 3, .h 4] [sO 3 (.ptr 0 0), sO 4 (.ptr 1 0), sO 5 (.ptr 2 0), sO 6 (.ptr 3 0), sO 7 (.ptr 4 0), hB 0 59 [.arr .u64 4 p_0, .arr .u64 4 p_1, .arr .u64 4 p_2, .arr .u64 4 p_3], hB 1 59 [.arr .u64 4 q_4, .arr .u64 4 q_5, .arr .u64 4 q_6, .arr .u64 4 q_7], hB 2 31 [.arr .u64 4 k_8], hB 3 59 [.arr .u64 4 (List.replicate 4 0), .arr .u64 4 (List.replicate 4 0), .arr .u64 4 (List.replicate 4 0), .arr .u64 4 (List.replicate 4 0)], hB 4 31 [.arr .u64 4 a5]] [CallOk P 48 [.v (.agg [.arr .u64 4 p_1]), .v (.agg [.arr .u64 4 p_0])] [] (.v (.agg [.arr .u64 4 a1])) [], CallOk P 48 [.v (.agg [.arr .u64 4 q_5]), .v (.agg [.arr .u64 4 q_4])] [] (.v (.agg [.arr .u64 4 a3])) [], CallOk P 49 [.v (.agg [.arr .u64 4 a1]), .v (.agg [.arr .u64 4 a3])] [] (.v (.agg [.arr .u64 4 a5])) []] (by kernel_rfl) (hcons (ref04_Sub_ok p_1 p_0 a1 e2) (hcons (ref04_Sub_ok q_5 q_4 a3 e4) (hone (ref04_Mul_ok a1 a3 a5 e6)))) ?_
  refine q_k ?_
  refine tr_seq ?_
  obtain ⟨a7, e8, h⟩ := bind_some h
  obtain ⟨a9, e10, h⟩ := bind_some h
  obtain ⟨a11, e12, h⟩ := bind_some h
  refine tr_regd hT hM [(4, .call [] (.v (.agg [.arr .u64 4 a7])) []), (9, .call [] (.v (.agg [.arr .u64 4 a9])) []), (10, .call [] (.v (.agg [.arr .u64 4 a11])) []), (11, .key 5)] [.s 3, .s 4, .s 5, .s 6, .s 7, .s 8, .h 0, .h 1, .h 2, .h 3, .h 4, .h 5] [sO 3 (.ptr 0 0), sO 4 (.ptr 1 0), sO 5 (.ptr 2 0), sO 6 (.ptr 3 0), sO 7 (.ptr 4 0), sO 8 (.ptr 5 0), hB 0 59 [.arr .u64 4 p_0, .arr .u64 4 p_1, .arr .u64 4 p_2, .arr .u64 4 p_3], hB 1 59 [.arr .u64 4 q_4, .arr .u64 4 q_5, .arr .u64 4 q_6, .arr .u64 4 q_7], hB 2 31 [.arr .u64 4 k_8], hB 3 59 [.arr .u64 4 (List.replicate 4 0), .arr .u64 4 (List.replicate 4 0), .arr .u64 4 (List.replicate 4 0), .arr .u64 4 (List.replicate 4 0)], hB 4 31 [.arr .u64 4 a5], hB 5 31 [.arr .u64 4 a11]] [CallOk P 47 [.v (.agg [.arr .u64 4 p_1]), .v (.agg [.arr .u64 4 p_0])] [] (.v (.agg [.arr .u64 4 a7])) [], CallOk P 47 [.v (.agg [.arr .u64 4 q_5]), .v (.agg [.arr .u64 4 q_4])] [] (.v (.agg [.arr .u64 4 a9])) [], CallOk P 49 [.v (.agg [.arr .u64 4 a7]), .v (.agg [.arr .u64 4 a9])] [] (.v (.agg [.arr .u64 4 a11])) []] (by kernel_rfl) (hcons (ref04_Add_ok p_1 p_0 a7 e8) (hcons (ref04_Add_ok q_5 q_4 a9 e10) (hone (ref04_Mul_ok a7 a9 a11 e12)))) ?_
  refine q_k ?_
  refine tr_seq ?_
  obtain ⟨a13, e14, h⟩ := bind_some h
  obtain ⟨a15, e16, h⟩ := bind_some h
  refine tr_regd hT hM [(3, .call [] (.v (.agg [.arr .u64 4 a13])) []), (6, .call [] (.v (.agg [.arr .u64 4 a15])) []), (7, .key 6)] [.s 3, .s 4, .s 6, .s 7, .s 8, .s 9, .h 0, .h 1, .h 3, .h 4, .h 5, .h 6] [sO 3 (.ptr 0 0), sO 4 (.ptr 1 0), sO 6 (.ptr 3 0), sO 7 (.ptr 4 0), sO 8 (.ptr 5 0), sO 9 (.ptr 6 0), hB 0 59 [.arr .u64 4 p_0, .arr .u64 4 p_1, .arr .u64 4 p_2, .arr .u64 4 p_3], hB 1 59 [.arr .u64 4 q_4, .arr .u64 4 q_5, .arr .u64 4 q_6, .arr .u64 4 q_7], hB 3 59 [.arr .u64 4 (List.replicate 4 0), .arr .u64 4 (List.replicate 4 0), .arr .u64 4 (List.replicate 4 0), .arr .u64 4 (List.replicate 4 0)], hB 4 31 [.arr .u64 4 a5], hB 5 31 [.arr .u64 4 a11], hB 6 31 [.arr .u64 4 a15]] [CallOk P 49 [.v (.agg [.arr .u64 4 p_3]), .v (.agg [.arr .u64 4 k_8])] [] (.v (.agg [.arr .u64 4 a13])) [], CallOk P 49 [.v (.agg [.arr .u64 4 a13]), .v (.agg [.arr .u64 4 q_7])] [] (.v (.agg [.arr .u64 4 a15])) []] (by kernel_rfl) (hcons (ref04_Mul_ok p_3 k_8 a13 e14) (hone (ref04_Mul_ok a13 q_7 a15 e16))) ?_
  refine q_k ?_
  refine tr_seq ?_
  obtain ⟨a17, e18, h⟩ := bind_some h
  refine tr_reg hT [(2, .call [] (.v (.agg [.arr .u64 4 a17])) [])] [.s 3, .s 4, .s 6, .s 7, .s 8, .s 9, .h 0, .h 1, .h 3, .h 4, .h 5, .h 6] [sO 3 (.ptr 0 0), sO 4 (.ptr 1 0), sO 6 (.ptr 3 0), sO 7 (.ptr 4 0), sO 8 (.ptr 5 0), sO 9 (.ptr 6 0), hB 0 59 [.arr .u64 4 p_0, .arr .u64 4 p_1, .arr .u64 4 p_2, .arr .u64 4 p_3], hB 1 59 [.arr .u64 4 q_4, .arr .u64 4 q_5, .arr .u64 4 q_6, .arr .u64 4 q_7], hB 3 59 [.arr .u64 4 (List.replicate 4 0), .arr .u64 4 (List.replicate 4 0), .arr .u64 4 (List.replicate 4 0), .arr .u64 4 (List.replicate 4 0)], hB 4 31 [.arr .u64 4 a5], hB 5 31 [.arr .u64 4 a11], hB 6 31 [.arr .u64 4 a17]] [CallOk P 47 [.v (.agg [.arr .u64 4 a15]), .v (.agg [.arr .u64 4 a15])] [] (.v (.agg [.arr .u64 4 a17])) []] (by kernel_rfl) (hone (ref04_Add_ok a15 a15 a17 e18)) ?_
  refine q_k ?_
  refine tr_seq ?_
  obtain ⟨a19, e20, h⟩ := bind_some h
  refine tr_reg hT [(4, .call [] (.v (.agg [.arr .u64 4 a19])) []), (5, .key 7)] [.s 6, .s 7, .s 8, .s 9, .s 10, .h 3, .h 4, .h 5, .h 6, .h 7] [sO 6 (.ptr 3 0), sO 7 (.ptr 4 0), sO 8 (.ptr 5 0), sO 9 (.ptr 6 0), sO 10 (.ptr 7 0), hB 3 59 [.arr .u64 4 (List.replicate 4 0), .arr .u64 4 (List.replicate 4 0), .arr .u64 4 (List.replicate 4 0), .arr .u64 4 (List.replicate 4 0)], hB 4 31 [.arr .u64 4 a5], hB 5 31 [.arr .u64 4 a11], hB 6 31 [.arr .u64 4 a17], hB 7 31 [.arr .u64 4 a19]] [CallOk P 49 [.v (.agg [.arr .u64 4 p_2]), .v (.agg [.arr .u64 4 q_6])] [] (.v (.agg [.arr .u64 4 a19])) []] (by kernel_rfl) (hone (ref04_Mul_ok p_2 q_6 a19 e20)) ?_
  refine q_k ?_
  refine tr_seq ?_
  obtain ⟨a21, e22, h⟩ := bind_some h
  refine tr_reg hT [(2, .call [] (.v (.agg [.arr .u64 4 a21])) [])] [.s 6, .s 7, .s 8, .s 9, .s 10, .h 3, .h 4, .h 5, .h 6, .h 7] [sO 6 (.ptr 3 0), sO 7 (.ptr 4 0), sO 8 (.ptr 5 0), sO 9 (.ptr 6 0), sO 10 (.ptr 7 0), hB 3 59 [.arr .u64 4 (List.replicate 4 0), .arr .u64 4 (List.replicate 4 0), .arr .u64 4 (List.replicate 4 0), .arr .u64 4 (List.replicate 4 0)], hB 4 31 [.arr .u64 4 a5], hB 5 31 [.arr .u64 4 a11], hB 6 31 [.arr .u64 4 a17], hB 7 31 [.arr .u64 4 a21]] [CallOk P 47 [.v (.agg [.arr .u64 4 a19]), .v (.agg [.arr .u64 4 a19])] [] (.v (.agg [.arr .u64 4 a21])) []] (by kernel_rfl) (hone (ref04_Add_ok a19 a19 a21 e22)) ?_
  refine q_k ?_
  refine tr_seq ?_
  obtain ⟨a23, e24, h⟩ := bind_some h
  obtain ⟨a25, e26, h⟩ := bind_some h
  obtain ⟨a27, e28, h⟩ := bind_some h
  obtain ⟨a29, e30, h⟩ := bind_some h
  refine tr_regd hT hM [(2, .call [] (.v (.agg [.arr .u64 4 a23])) []), (5, .call [] (.v (.agg [.arr .u64 4 a25])) []), (8, .call [] (.v (.agg [.arr .u64 4 a27])) []), (11, .call [] (.v (.agg [.arr .u64 4 a29])) []), (12, .key 8), (13, .key 9), (14, .key 10), (15, .key 11)] [.s 6, .s 11, .s 12, .s 13, .s 14, .h 3, .h 8, .h 9, .h 10, .h 11] [sO 6 (.ptr 3 0), sO 11 (.ptr 8 0), sO 12 (.ptr 9 0), sO 13 (.ptr 10 0), sO 14 (.ptr 11 0), hB 3 59 [.arr .u64 4 (List.replicate 4 0), .arr .u64 4 (List.replicate 4 0), .arr .u64 4 (List.replicate 4 0), .arr .u64 4 (List.replicate 4 0)], hB 8 31 [.arr .u64 4 a23], hB 9 31 [.arr .u64 4 a25], hB 10 31 [.arr .u64 4 a27], hB 11 31 [.arr .u64 4 a29]] [CallOk P 48 [.v (.agg [.arr .u64 4 a11]), .v (.agg [.arr .u64 4 a5])] [] (.v (.agg [.arr .u64 4 a23])) [], CallOk P 48 [.v (.agg [.arr .u64 4 a21]), .v (.agg [.arr .u64 4 a17])] [] (.v (.agg [.arr .u64 4 a25])) [], CallOk P 47 [.v (.agg [.arr .u64 4 a21]), .v (.agg [.arr .u64 4 a17])] [] (.v (.agg [.arr .u64 4 a27])) [], CallOk P 47 [.v (.agg [.arr .u64 4 a11]), .v (.agg [.arr .u64 4 a5])] [] (.v (.agg [.arr .u64 4 a29])) []] (by kernel_rfl) (hcons (ref04_Sub_ok a11 a5 a23 e24) (hcons (ref04_Sub_ok a21 a17 a25 e26) (hcons (ref04_Add_ok a21 a17 a27 e28) (hone (ref04_Add_ok a11 a5 a29 e30))))) ?_
  refine q_k ?_
  refine tr_seq ?_
  obtain ⟨a31, e32, h⟩ := bind_some h
  obtain ⟨a33, e34, h⟩ := bind_some h
  obtain ⟨a35, e36, h⟩ := bind_some h
  obtain ⟨a37, e38, h⟩ := bind_some h
  refine tr_regd hT hM [(2, .call [] (.v (.agg [.arr .u64 4 a31])) []), (5, .call [] (.v (.agg [.arr .u64 4 a33])) []), (8, .call [] (.v (.agg [.arr .u64 4 a35])) []), (11, .call [] (.v (.agg [.arr .u64 4 a37])) [])] [.s 6, .h 3] [sO 6 (.ptr 3 0), hB 3 59 [.arr .u64 4 a31, .arr .u64 4 a33, .arr .u64 4 a35, .arr .u64 4 a37]] [CallOk P 49 [.v (.agg [.arr .u64 4 a23]), .v (.agg [.arr .u64 4 a25])] [] (.v (.agg [.arr .u64 4 a31])) [], CallOk P 49 [.v (.agg [.arr .u64 4 a27]), .v (.agg [.arr .u64 4 a29])] [] (.v (.agg [.arr .u64 4 a33])) [], CallOk P 49 [.v (.agg [.arr .u64 4 a25]), .v (.agg [.arr .u64 4 a27])] [] (.v (.agg [.arr .u64 4 a35])) [], CallOk P 49 [.v (.agg [.arr .u64 4 a23]), .v (.agg [.arr .u64 4 a29])] [] (.v (.agg [.arr .u64 4 a37])) []] (by kernel_rfl) (hcons (ref04_Mul_ok a23 a25 a31 e32) (hcons (ref04_Mul_ok a27 a29 a33 e34) (hcons (ref04_Mul_ok a25 a27 a35 e36) (hone (ref04_Mul_ok a23 a29 a37 e38))))) ?_
  refine q_k ?_
  refine tr_ret ?_
  have h := Option.some.inj h
  subst h
  exact q_ret0 hT (.v (.agg [.arr .u64 4 a31, .arr .u64 4 a33, .arr .u64 4 a35, .arr .u64 4 a37])) rfl (by kernel_rfl)

theorem ref04_multiple_ok (n_0 : List Int) (p_1 : List Int) (p_2 : List Int) (p_3 : List Int) (p_4 : List Int) (r : List Int × List Int × List Int × List Int) (h : ref04_multiple n_0 p_1 p_2 p_3 p_4 = some r) {pre : List (Nat × Ent)} : CallOk P 94 [.v (.agg [.arr .u64 4 n_0]), .v (.agg [.arr .u64 4 p_1, .arr .u64 4 p_2, .arr .u64 4 p_3, .arr .u64 4 p_4])] pre (.v (.agg [.arr .u64 4 r.1, .arr .u64 4 r.2.1, .arr .u64 4 r.2.2.1, .arr .u64 4 r.2.2.2])) [] := by
  refine call0 (N := 33) Try.func94 (by kernel_rfl) rfl rfl rfl pre ?_
  intro _ w
  show Tr P (Ge w) 33 _ _ _ (RetQ P Try.f94 (R0 _ w))
  unfold ref04_multiple at h
  refine tr_seq ?_
  refine tr_reg hT [(0, .key 0), (1, .key 1), (2, .key 2)] [.s 2, .s 3, .s 4, .h 0, .h 1, .h 2] [sO 2 (.ptr 0 0), sO 3 (.ptr 1 0), sO 4 (.ptr 2 0), hB 0 31 [.arr .u64 4 n_0], hB 1 59 [.arr .u64 4 p_1, .arr .u64 4 p_2, .arr .u64 4 p_3, .arr .u64 4 p_4], hB 2 59 [.arr .u64 4 (List.replicate 4 0), .arr .u64 4 (List.replicate 4 0), .arr .u64 4 (List.replicate 4 0), .arr .u64 4 (List.replicate 4 0)]] [] (by kernel_rfl) trivial ?_
  refine q_k ?_
  refine tr_seq ?_
  obtain ⟨a1, e2, h⟩ := bind_some h
  refine tr_reg hT [(0, .call [] (.v (.agg [.arr .u64 4 a1])) []), (1, .key 3)] [.s 2, .s 3, .s 4, .s 5, .h 0, .h 1, .h 2, .h 3] [sO 2 (.ptr 0 0), sO 3 (.ptr 1 0), sO 4 (.ptr 2 0), sO 5 (.ptr 3 0), hB 0 31 [.arr .u64 4 n_0], hB 1 59 [.arr .u64 4 p_1, .arr .u64 4 p_2, .arr .u64 4 p_3, .arr .u64 4 p_4], hB 2 59 [.arr .u64 4 (List.replicate 4 0), .arr .u64 4 (List.replicate 4 0), .arr .u64 4 (List.replicate 4 0), .arr .u64 4 (List.replicate 4 0)], hB 3 31 [.arr .u64 4 a1]] [CallOk P 97 [] [] (.v (.agg [.arr .u64 4 a1])) []] (by kernel_rfl) (hone (ref04_d_ok  a1 e2)) ?_
  refine q_k ?_
  refine tr_seq ?_
  obtain ⟨⟨a3, a4, a5, a6⟩, e7, h⟩ := bind_some h
  refine tr_reg hT [(0, .call [] (.v (.agg [.arr .u64 4 a3, .arr .u64 4 a4, .arr .u64 4 a5, .arr .u64 4 a6])) []), (1, .key 4)] [.s 2, .s 3, .s 4, .s 5, .s 6, .h 0, .h 1, .h 2, .h 3, .h 4] [sO 2 (.ptr 0 0), sO 3 (.ptr 1 0), sO 4 (.ptr 2 0), sO 5 (.ptr 3 0), sO 6 (.ptr 4 0), hB 0 31 [.arr .u64 4 n_0], hB 1 59 [.arr .u64 4 p_1, .arr .u64 4 p_2, .arr .u64 4 p_3, .arr .u64 4 p_4], hB 2 59 [.arr .u64 4 (List.replicate 4 0), .arr .u64 4 (List.replicate 4 0), .arr .u64 4 (List.replicate 4 0), .arr .u64 4 (List.replicate 4 0)], hB 3 31 [.arr .u64 4 a1], hB 4 59 [.arr .u64 4 a3, .arr .u64 4 a4, .arr .u64 4 a5, .arr .u64 4 a6]] [CallOk P 109 [] [] (.v (.agg [.arr .u64 4 a3, .arr .u64 4 a4, .arr .u64 4 a5, .arr .u64 4 a6])) []] (by kernel_rfl) (hone (ref04_zero_ok  (a3, a4, a5, a6) e7)) ?_
  refine q_k ?_
  refine tr_seq ?_
  refine tr_seq ?_
  refine tr_reg hT [] [.s 2, .s 3, .s 4, .s 5, .s 6, .s 7, .h 0, .h 1, .h 2, .h 3, .h 4] [sO 2 (.ptr 0 0), sO 3 (.ptr 1 0), sO 4 (.ptr 2 0), sO 5 (.ptr 3 0), sO 6 (.ptr 4 0), sI 7 .i64 (255 : Int), hB 0 31 [.arr .u64 4 n_0], hB 1 59 [.arr .u64 4 p_1, .arr .u64 4 p_2, .arr .u64 4 p_3, .arr .u64 4 p_4], hB 2 59 [.arr .u64 4 (List.replicate 4 0), .arr .u64 4 (List.replicate 4 0), .arr .u64 4 (List.replicate 4 0), .arr .u64 4 (List.replicate 4 0)], hB 3 31 [.arr .u64 4 a1], hB 4 59 [.arr .u64 4 a3, .arr .u64 4 a4, .arr .u64 4 a5, .arr .u64 4 a6]] [] (by kernel_rfl) trivial ?_
  refine q_k ?_
  refine tr_block ?_
  obtain ⟨rr0, e34, h⟩ := bind_some h
  refine tr_fit [] [sO 2 (.ptr 0 0), sO 3 (.ptr 1 0), sO 4 (.ptr 2 0), sO 5 (.ptr 3 0), sO 6 (.ptr 4 0), sI 7 .i64 (255 : Int), hB 0 31 [.arr .u64 4 n_0], hB 1 59 [.arr .u64 4 p_1, .arr .u64 4 p_2, .arr .u64 4 p_3, .arr .u64 4 p_4], hB 2 59 [.arr .u64 4 (List.replicate 4 0), .arr .u64 4 (List.replicate 4 0), .arr .u64 4 (List.replicate 4 0), .arr .u64 4 (List.replicate 4 0)], hB 3 31 [.arr .u64 4 a1], hB 4 59 [.arr .u64 4 a3, .arr .u64 4 a4, .arr .u64 4 a5, .arr .u64 4 a6]] [(0, .blk 31 [.arr .u64 4 n_0]), (1, .blk 59 [.arr .u64 4 p_1, .arr .u64 4 p_2, .arr .u64 4 p_3, .arr .u64 4 p_4]), (2, .blk 59 [.arr .u64 4 (List.replicate 4 0), .arr .u64 4 (List.replicate 4 0), .arr .u64 4 (List.replicate 4 0), .arr .u64 4 (List.replicate 4 0)]), (3, .blk 31 [.arr .u64 4 a1]), (4, .blk 59 [.arr .u64 4 a3, .arr .u64 4 a4, .arr .u64 4 a5, .arr .u64 4 a6])] (by kernel_rfl) (by kernel_rfl) (by kernel_rfl) rfl ⟨.blk (by kernel_rfl) (by kernel_rfl), .blk (by kernel_rfl) (by kernel_rfl), .blk (by kernel_rfl) (by kernel_rfl), .blk (by kernel_rfl) (by kernel_rfl), .blk (by kernel_rfl) (by kernel_rfl), trivial⟩ (by kernel_rfl) ?_
  refine tr_loop_fuel (id := 0) (α := List Int × List Int × List Int × List Int × Int) (β := List Int × List Int × List Int × List Int) (fun z => [sO 2 (.ptr 0 0), sO 3 (.ptr 1 0), sO 4 (.ptr 2 0), sO 5 (.ptr 3 0), sO 6 (.ptr 4 0), sI 7 .i64 z.2.2.2.2, hB 0 31 [.arr .u64 4 n_0], hB 1 59 [.arr .u64 4 p_1, .arr .u64 4 p_2, .arr .u64 4 p_3, .arr .u64 4 p_4], hB 2 59 [.arr .u64 4 (List.replicate 4 0), .arr .u64 4 (List.replicate 4 0), .arr .u64 4 (List.replicate 4 0), .arr .u64 4 (List.replicate 4 0)], hB 3 31 [.arr .u64 4 a1], hB 4 59 [.arr .u64 4 z.1, .arr .u64 4 z.2.1, .arr .u64 4 z.2.2.1, .arr .u64 4 z.2.2.2.1]]) (fun z => [sO 4 (.ptr 2 0), sO 6 (.ptr 4 0), hB 2 59 [.arr .u64 4 (List.replicate 4 0), .arr .u64 4 (List.replicate 4 0), .arr .u64 4 (List.replicate 4 0), .arr .u64 4 (List.replicate 4 0)], hB 4 59 [.arr .u64 4 z.1, .arr .u64 4 z.2.1, .arr .u64 4 z.2.2.1, .arr .u64 4 z.2.2.2]]) (fun k z => ref04_multiple_l0 n_0 p_1 p_2 p_3 p_4 a1 k z.1 z.2.1 z.2.2.1 z.2.2.2.1 z.2.2.2.2) rr0 (fun _ => rfl) (((255 : Int) - (0 : Int) + 1).toNat + 1) (a3, a4, a5, a6, (255 : Int)) e34 ?_ ?_
  · rcases rr0 with ⟨m14, m15, m16, m17⟩
    replace h : (some (m14, m15, m16, m17)) = _ := h
    refine q_b_this ?_
    refine q_k ?_
    refine tr_seq ?_
    refine tr_reg hT [] [.s 4, .h 2] [sO 4 (.ptr 2 0), hB 2 59 [.arr .u64 4 m14, .arr .u64 4 m15, .arr .u64 4 m16, .arr .u64 4 m17]] [] (by kernel_rfl) trivial ?_
    refine q_k ?_
    refine tr_ret ?_
    have h := Option.some.inj h
    subst h
    exact q_ret0 hT (.v (.agg [.arr .u64 4 m14, .arr .u64 4 m15, .arr .u64 4 m16, .arr .u64 4 m17])) rfl (by kernel_rfl)
  · clear h e34
    intro k ih0 hx0 z h
    obtain ⟨m9, m10, m11, m12, i13⟩ := z
    replace h : (if (decide (i13 ≥ (0 : Int))) = true then (ref04_plus m9 m10 m11 m12 m9 m10 m11 m12 a1).bind (fun (a19, a20, a21, a22) => if 0 ≤ (IntKind.i64.wrap (i13.tdiv (64 : Int))) ∧ (IntKind.i64.wrap (i13.tdiv (64 : Int))) < ((4 : Nat) : Int) then if 0 ≤ (IntKind.u64.wrap (i13.tmod (64 : Int))) then if ((band .u64 (shr .u64 (n_0.getD (IntKind.i64.wrap (i13.tdiv (64 : Int))).toNat 0) (IntKind.u64.wrap (i13.tmod (64 : Int)))) (1 : Int)) == (1 : Int)) = true then (ref04_plus a19 a20 a21 a22 p_1 p_2 p_3 p_4 a1).bind (fun (a28, a29, a30, a31) => ref04_multiple_l0 n_0 p_1 p_2 p_3 p_4 a1 k a28 a29 a30 a31 (IntKind.i64.wrap (i13 - (1 : Int)))) else ref04_multiple_l0 n_0 p_1 p_2 p_3 p_4 a1 k a19 a20 a21 a22 (IntKind.i64.wrap (i13 - (1 : Int))) else none else none) else some (m9, m10, m11, m12)) = _ := h
    refine tr_seq ?_
    refine tr_seq ?_
    refine tr_reg hT [] [.s 2, .s 3, .s 4, .s 5, .s 6, .s 7, .s 11, .h 0, .h 1, .h 2, .h 3, .h 4] [sO 2 (.ptr 0 0), sO 3 (.ptr 1 0), sO 4 (.ptr 2 0), sO 5 (.ptr 3 0), sO 6 (.ptr 4 0), sI 7 .i64 i13, sB 11 (decide (i13 ≥ (0 : Int))), hB 0 31 [.arr .u64 4 n_0], hB 1 59 [.arr .u64 4 p_1, .arr .u64 4 p_2, .arr .u64 4 p_3, .arr .u64 4 p_4], hB 2 59 [.arr .u64 4 (List.replicate 4 0), .arr .u64 4 (List.replicate 4 0), .arr .u64 4 (List.replicate 4 0), .arr .u64 4 (List.replicate 4 0)], hB 3 31 [.arr .u64 4 a1], hB 4 59 [.arr .u64 4 m9, .arr .u64 4 m10, .arr .u64 4 m11, .arr .u64 4 m12]] [] (by kernel_rfl) trivial ?_
    refine q_k ?_
    rcases ite_split h with ⟨hc18, h⟩ | ⟨hc18, h⟩
    · refine tr_cond_t (decide (i13 ≥ (0 : Int))) (by kernel_rfl) hc18 ?_
      refine tr_skip ?_
      refine q_k ?_
      refine tr_seq ?_
      refine tr_block ?_
      refine tr_seq ?_
      obtain ⟨⟨a19, a20, a21, a22⟩, e23, h⟩ := bind_some h
      refine tr_reg hT [(3, .call [] (.v (.agg [.arr .u64 4 a19, .arr .u64 4 a20, .arr .u64 4 a21, .arr .u64 4 a22])) [])] [.s 2, .s 3, .s 4, .s 5, .s 6, .s 7, .h 0, .h 1, .h 2, .h 3, .h 4] [sO 2 (.ptr 0 0), sO 3 (.ptr 1 0), sO 4 (.ptr 2 0), sO 5 (.ptr 3 0), sO 6 (.ptr 4 0), sI 7 .i64 i13, hB 0 31 [.arr .u64 4 n_0], hB 1 59 [.arr .u64 4 p_1, .arr .u64 4 p_2, .arr .u64 4 p_3, .arr .u64 4 p_4], hB 2 59 [.arr .u64 4 (List.replicate 4 0), .arr .u64 4 (List.replicate 4 0), .arr .u64 4 (List.replicate 4 0), .arr .u64 4 (List.replicate 4 0)], hB 3 31 [.arr .u64 4 a1], hB 4 59 [.arr .u64 4 a19, .arr .u64 4 a20, .arr .u64 4 a21, .arr .u64 4 a22]] [CallOk P 98 [.v (.agg [.arr .u64 4 m9, .arr .u64 4 m10, .arr .u64 4 m11, .arr .u64 4 m12]), .v (.agg [.arr .u64 4 m9, .arr .u64 4 m10, .arr .u64 4 m11, .arr .u64 4 m12]), .v (.agg [.arr .u64 4 a1])] [] (.v (.agg [.arr .u64 4 a19, .arr .u64 4 a20, .arr .u64 4 a21, .arr .u64 4 a22])) []] (by kernel_rfl) (hone (ref04_plus_ok m9 m10 m11 m12 m9 m10 m11 m12 a1 (a19, a20, a21, a22) e23)) ?_
      refine q_k ?_
      refine tr_seq ?_
      obtain ⟨hn25, h⟩ := ite_some h
      obtain ⟨hn26, h⟩ := ite_some h
      refine tr_reg hT [] [.s 2, .s 3, .s 4, .s 5, .s 6, .s 7, .s 27, .h 0, .h 1, .h 2, .h 3, .h 4] [sO 2 (.ptr 0 0), sO 3 (.ptr 1 0), sO 4 (.ptr 2 0), sO 5 (.ptr 3 0), sO 6 (.ptr 4 0), sI 7 .i64 i13, sB 27 ((band .u64 (shr .u64 (n_0.getD (IntKind.i64.wrap (i13.tdiv (64 : Int))).toNat 0) (IntKind.u64.wrap (i13.tmod (64 : Int)))) (1 : Int)) == (1 : Int)), hB 0 31 [.arr .u64 4 n_0], hB 1 59 [.arr .u64 4 p_1, .arr .u64 4 p_2, .arr .u64 4 p_3, .arr .u64 4 p_4], hB 2 59 [.arr .u64 4 (List.replicate 4 0), .arr .u64 4 (List.replicate 4 0), .arr .u64 4 (List.replicate 4 0), .arr .u64 4 (List.replicate 4 0)], hB 3 31 [.arr .u64 4 a1], hB 4 59 [.arr .u64 4 a19, .arr .u64 4 a20, .arr .u64 4 a21, .arr .u64 4 a22]] [(64 : Int) ≠ 0, 0 ≤ (IntKind.i64.wrap (i13.tdiv (64 : Int))) ∧ (IntKind.i64.wrap (i13.tdiv (64 : Int))) < ((4 : Nat) : Int), (64 : Int) ≠ 0, 0 ≤ (IntKind.u64.wrap (i13.tmod (64 : Int)))] (by kernel_rfl) (hcons (by decide) (hcons hn25 (hcons (by decide) (hone hn26)))) ?_
      refine q_k ?_
      rcases ite_split h with ⟨hc27, h⟩ | ⟨hc27, h⟩
      · refine tr_cond_t ((band .u64 (shr .u64 (n_0.getD (IntKind.i64.wrap (i13.tdiv (64 : Int))).toNat 0) (IntKind.u64.wrap (i13.tmod (64 : Int)))) (1 : Int)) == (1 : Int)) (by kernel_rfl) hc27 ?_
        obtain ⟨⟨a28, a29, a30, a31⟩, e32, h⟩ := bind_some h
        refine tr_reg hT [(3, .call [] (.v (.agg [.arr .u64 4 a28, .arr .u64 4 a29, .arr .u64 4 a30, .arr .u64 4 a31])) [])] [.s 2, .s 3, .s 4, .s 5, .s 6, .s 7, .h 0, .h 1, .h 2, .h 3, .h 4] [sO 2 (.ptr 0 0), sO 3 (.ptr 1 0), sO 4 (.ptr 2 0), sO 5 (.ptr 3 0), sO 6 (.ptr 4 0), sI 7 .i64 i13, hB 0 31 [.arr .u64 4 n_0], hB 1 59 [.arr .u64 4 p_1, .arr .u64 4 p_2, .arr .u64 4 p_3, .arr .u64 4 p_4], hB 2 59 [.arr .u64 4 (List.replicate 4 0), .arr .u64 4 (List.replicate 4 0), .arr .u64 4 (List.replicate 4 0), .arr .u64 4 (List.replicate 4 0)], hB 3 31 [.arr .u64 4 a1], hB 4 59 [.arr .u64 4 a28, .arr .u64 4 a29, .arr .u64 4 a30, .arr .u64 4 a31]] [CallOk P 98 [.v (.agg [.arr .u64 4 a19, .arr .u64 4 a20, .arr .u64 4 a21, .arr .u64 4 a22]), .v (.agg [.arr .u64 4 p_1, .arr .u64 4 p_2, .arr .u64 4 p_3, .arr .u64 4 p_4]), .v (.agg [.arr .u64 4 a1])] [] (.v (.agg [.arr .u64 4 a28, .arr .u64 4 a29, .arr .u64 4 a30, .arr .u64 4 a31])) []] (by kernel_rfl) (hone (ref04_plus_ok a19 a20 a21 a22 p_1 p_2 p_3 p_4 a1 (a28, a29, a30, a31) e32)) ?_
        refine q_b 1 ?_
        refine q_k ?_
        refine tr_reg hT [] [.s 2, .s 3, .s 4, .s 5, .s 6, .s 7, .h 0, .h 1, .h 2, .h 3, .h 4] [sO 2 (.ptr 0 0), sO 3 (.ptr 1 0), sO 4 (.ptr 2 0), sO 5 (.ptr 3 0), sO 6 (.ptr 4 0), sI 7 .i64 (IntKind.i64.wrap (i13 - (1 : Int))), hB 0 31 [.arr .u64 4 n_0], hB 1 59 [.arr .u64 4 p_1, .arr .u64 4 p_2, .arr .u64 4 p_3, .arr .u64 4 p_4], hB 2 59 [.arr .u64 4 (List.replicate 4 0), .arr .u64 4 (List.replicate 4 0), .arr .u64 4 (List.replicate 4 0), .arr .u64 4 (List.replicate 4 0)], hB 3 31 [.arr .u64 4 a1], hB 4 59 [.arr .u64 4 a28, .arr .u64 4 a29, .arr .u64 4 a30, .arr .u64 4 a31]] [] (by kernel_rfl) trivial ?_
        refine q_kr ?_
        exact trR_less [.s 2, .s 3, .s 4, .s 5, .s 6, .s 7, .h 0, .h 1, .h 2, .h 3, .h 4] [sO 2 (.ptr 0 0), sO 3 (.ptr 1 0), sO 4 (.ptr 2 0), sO 5 (.ptr 3 0), sO 6 (.ptr 4 0), sI 7 .i64 (IntKind.i64.wrap (i13 - (1 : Int))), hB 0 31 [.arr .u64 4 n_0], hB 1 59 [.arr .u64 4 p_1, .arr .u64 4 p_2, .arr .u64 4 p_3, .arr .u64 4 p_4], hB 2 59 [.arr .u64 4 (List.replicate 4 0), .arr .u64 4 (List.replicate 4 0), .arr .u64 4 (List.replicate 4 0), .arr .u64 4 (List.replicate 4 0)], hB 3 31 [.arr .u64 4 a1], hB 4 59 [.arr .u64 4 a28, .arr .u64 4 a29, .arr .u64 4 a30, .arr .u64 4 a31]] (by kernel_rfl) (ih0 (a28, a29, a30, a31, (IntKind.i64.wrap (i13 - (1 : Int)))) h)
      · refine tr_cond_f ((band .u64 (shr .u64 (n_0.getD (IntKind.i64.wrap (i13.tdiv (64 : Int))).toNat 0) (IntKind.u64.wrap (i13.tmod (64 : Int)))) (1 : Int)) == (1 : Int)) (by kernel_rfl) hc27 ?_
        refine tr_skip ?_
        refine q_b 1 ?_
        refine q_k ?_
        refine tr_reg hT [] [.s 2, .s 3, .s 4, .s 5, .s 6, .s 7, .h 0, .h 1, .h 2, .h 3, .h 4] [sO 2 (.ptr 0 0), sO 3 (.ptr 1 0), sO 4 (.ptr 2 0), sO 5 (.ptr 3 0), sO 6 (.ptr 4 0), sI 7 .i64 (IntKind.i64.wrap (i13 - (1 : Int))), hB 0 31 [.arr .u64 4 n_0], hB 1 59 [.arr .u64 4 p_1, .arr .u64 4 p_2, .arr .u64 4 p_3, .arr .u64 4 p_4], hB 2 59 [.arr .u64 4 (List.replicate 4 0), .arr .u64 4 (List.replicate 4 0), .arr .u64 4 (List.replicate 4 0), .arr .u64 4 (List.replicate 4 0)], hB 3 31 [.arr .u64 4 a1], hB 4 59 [.arr .u64 4 a19, .arr .u64 4 a20, .arr .u64 4 a21, .arr .u64 4 a22]] [] (by kernel_rfl) trivial ?_
        refine q_kr ?_
        exact trR_less [.s 2, .s 3, .s 4, .s 5, .s 6, .s 7, .h 0, .h 1, .h 2, .h 3, .h 4] [sO 2 (.ptr 0 0), sO 3 (.ptr 1 0), sO 4 (.ptr 2 0), sO 5 (.ptr 3 0), sO 6 (.ptr 4 0), sI 7 .i64 (IntKind.i64.wrap (i13 - (1 : Int))), hB 0 31 [.arr .u64 4 n_0], hB 1 59 [.arr .u64 4 p_1, .arr .u64 4 p_2, .arr .u64 4 p_3, .arr .u64 4 p_4], hB 2 59 [.arr .u64 4 (List.replicate 4 0), .arr .u64 4 (List.replicate 4 0), .arr .u64 4 (List.replicate 4 0), .arr .u64 4 (List.replicate 4 0)], hB 3 31 [.arr .u64 4 a1], hB 4 59 [.arr .u64 4 a19, .arr .u64 4 a20, .arr .u64 4 a21, .arr .u64 4 a22]] (by kernel_rfl) (ih0 (a19, a20, a21, a22, (IntKind.i64.wrap (i13 - (1 : Int)))) h)
    · refine tr_cond_f (decide (i13 ≥ (0 : Int))) (by kernel_rfl) hc18 ?_
      refine tr_exit ?_
      refine q_k_exit ?_
      refine q_kr_exit ?_
      have h := Option.some.inj h
      subst h
      exact q_less [.s 4, .s 6, .h 2, .h 4] [sO 4 (.ptr 2 0), sO 6 (.ptr 4 0), hB 2 59 [.arr .u64 4 (List.replicate 4 0), .arr .u64 4 (List.replicate 4 0), .arr .u64 4 (List.replicate 4 0), .arr .u64 4 (List.replicate 4 0)], hB 4 59 [.arr .u64 4 m9, .arr .u64 4 m10, .arr .u64 4 m11, .arr .u64 4 m12]] (by kernel_rfl) hx0

theorem ref04_Encode_ok (p_0 : List Int) (p_1 : List Int) (p_2 : List Int) (p_3 : List Int) (r : List Int) (h : ref04_Encode p_0 p_1 p_2 p_3 = some r) {pre : List (Nat × Ent)} : CallOk P 93 [.v (.agg [.arr .u64 4 p_0, .arr .u64 4 p_1, .arr .u64 4 p_2, .arr .u64 4 p_3])] pre (.v (.agg [.arr .u8 32 r])) [] := by
  refine call0 (N := 29) Try.func93 (by kernel_rfl) rfl rfl rfl pre ?_
  intro _ w
  show Tr P (Ge w) 29 _ _ _ (RetQ P Try.f93 (R0 _ w))
  unfold ref04_Encode at h
  refine tr_seq ?_
  refine tr_reg hT [(0, .key 0), (1, .key 1)] [.s 1, .s 2, .h 0, .h 1] [sO 1 (.ptr 0 0), sO 2 (.ptr 1 0), hB 0 59 [.arr .u64 4 p_0, .arr .u64 4 p_1, .arr .u64 4 p_2, .arr .u64 4 p_3], hB 1 22 [.arr .u8 32 (List.replicate 32 0)]] [] (by kernel_rfl) trivial ?_
  refine q_k ?_
  refine tr_seq ?_
  obtain ⟨a1, e2, h⟩ := bind_some h
  refine tr_reg hT [(2, .call [] (.v (.agg [.arr .u64 4 a1])) []), (3, .key 2)] [.s 1, .s 2, .s 3, .h 0, .h 1, .h 2] [sO 1 (.ptr 0 0), sO 2 (.ptr 1 0), sO 3 (.ptr 2 0), hB 0 59 [.arr .u64 4 p_0, .arr .u64 4 p_1, .arr .u64 4 p_2, .arr .u64 4 p_3], hB 1 22 [.arr .u8 32 (List.replicate 32 0)], hB 2 31 [.arr .u64 4 a1]] [CallOk P 51 [.v (.agg [.arr .u64 4 p_2])] [] (.v (.agg [.arr .u64 4 a1])) []] (by kernel_rfl) (hone (ref04_Inv_ok p_2 a1 e2)) ?_
  refine q_k ?_
  refine tr_seq ?_
  obtain ⟨a3, e4, h⟩ := bind_some h
  obtain ⟨a5, e6, h⟩ := bind_some h
  refine tr_regd hT hM [(3, .call [] (.v (.agg [.arr .u64 4 a3])) []), (7, .call [] (.v (.agg [.arr .u64 4 a5])) []), (8, .key 3), (9, .key 4)] [.s 2, .s 4, .s 5, .h 1, .h 3, .h 4] [sO 2 (.ptr 1 0), sO 4 (.ptr 3 0), sO 5 (.ptr 4 0), hB 1 22 [.arr .u8 32 (List.replicate 32 0)], hB 3 31 [.arr .u64 4 a3], hB 4 31 [.arr .u64 4 a5]] [CallOk P 49 [.v (.agg [.arr .u64 4 p_0]), .v (.agg [.arr .u64 4 a1])] [] (.v (.agg [.arr .u64 4 a3])) [], CallOk P 49 [.v (.agg [.arr .u64 4 p_1]), .v (.agg [.arr .u64 4 a1])] [] (.v (.agg [.arr .u64 4 a5])) []] (by kernel_rfl) (hcons (ref04_Mul_ok p_0 a1 a3 e4) (hone (ref04_Mul_ok p_1 a1 a5 e6))) ?_
  refine q_k ?_
  refine tr_seq ?_
  obtain ⟨a7, e8, h⟩ := bind_some h
  refine tr_reg hT [(1, .call [] (.v (.agg [.arr .u8 32 a7])) []), (2, .key 5)] [.s 2, .s 4, .s 6, .h 1, .h 3, .h 5] [sO 2 (.ptr 1 0), sO 4 (.ptr 3 0), sO 6 (.ptr 5 0), hB 1 22 [.arr .u8 32 (List.replicate 32 0)], hB 3 31 [.arr .u64 4 a3], hB 5 22 [.arr .u8 32 a7]] [CallOk P 29 [.v (.agg [.arr .u64 4 a5])] [] (.v (.agg [.arr .u8 32 a7])) []] (by kernel_rfl) (hone (ref04_Bytes_ok a5 a7 e8)) ?_
  refine q_k ?_
  refine tr_seq ?_
  refine tr_seq ?_
  refine tr_reg hT [] [.s 2, .s 6, .s 23, .h 1, .h 5] [sO 2 (.ptr 1 0), sO 6 (.ptr 5 0), sB 23 ((band .u64 (a3.getD 0 0) (1 : Int)) == (1 : Int)), hB 1 22 [.arr .u8 32 (List.replicate 32 0)], hB 5 22 [.arr .u8 32 a7]] [0 ≤ (0 : Int) ∧ (0 : Int) < ((4 : Nat) : Int)] (by kernel_rfl) (hone (by decide)) ?_
  refine q_k ?_
  obtain ⟨m9, e11, h⟩ := bind_some h
  refine tr_join (σ1 := [sO 2 (.ptr 1 0), sO 6 (.ptr 5 0), hB 1 22 [.arr .u8 32 (List.replicate 32 0)], hB 5 22 [.arr .u8 32 m9]]) ?_ ?_
  · skip
    replace h : (some m9) = _ := h
    refine q_k ?_
    refine tr_seq ?_
    refine tr_reg hT [] [.s 2, .h 1] [sO 2 (.ptr 1 0), hB 1 22 [.arr .u8 32 m9]] [] (by kernel_rfl) trivial ?_
    refine q_k ?_
    refine tr_ret ?_
    have h := Option.some.inj h
    subst h
    exact q_ret0 hT (.v (.agg [.arr .u8 32 m9])) rfl (by kernel_rfl)
  · intro hj0
    clear h
    have h := e11
    clear e11
    rcases ite_split h with ⟨hc10, h⟩ | ⟨hc10, h⟩
    · refine tr_cond_t ((band .u64 (a3.getD 0 0) (1 : Int)) == (1 : Int)) (by kernel_rfl) hc10 ?_
      refine tr_reg hT [] [.s 2, .s 6, .h 1, .h 5] [sO 2 (.ptr 1 0), sO 6 (.ptr 5 0), hB 1 22 [.arr .u8 32 (List.replicate 32 0)], hB 5 22 [.arr .u8 32 (a7.set 31 (bor .u8 (a7.getD 31 0) (128 : Int)))]] [0 ≤ (31 : Int) ∧ (31 : Int) < ((32 : Nat) : Int), 0 ≤ (31 : Int) ∧ (31 : Int) < ((32 : Nat) : Int)] (by kernel_rfl) (hcons (by decide) (hone (by decide))) ?_
      have h := Option.some.inj h
      subst h
      exact q_less [.s 2, .s 6, .h 1, .h 5] [sO 2 (.ptr 1 0), sO 6 (.ptr 5 0), hB 1 22 [.arr .u8 32 (List.replicate 32 0)], hB 5 22 [.arr .u8 32 (a7.set 31 (bor .u8 (a7.getD 31 0) (128 : Int)))]] (by kernel_rfl) hj0
    · refine tr_cond_f ((band .u64 (a3.getD 0 0) (1 : Int)) == (1 : Int)) (by kernel_rfl) hc10 ?_
      refine tr_skip ?_
      have h := Option.some.inj h
      subst h
      exact q_less [.s 2, .s 6, .h 1, .h 5] [sO 2 (.ptr 1 0), sO 6 (.ptr 5 0), hB 1 22 [.arr .u8 32 (List.replicate 32 0)], hB 5 22 [.arr .u8 32 a7]] (by kernel_rfl) hj0

theorem ref04_Base_ok (n_0 : List Int) (r : List Int) (h : ref04_Base n_0 = some r) {pre : List (Nat × Ent)} : CallOk P 57 [.v (.agg [.arr .u8 32 n_0])] pre (.v (.agg [.arr .u8 32 r])) [] := by
  refine call0 (N := 8) Try.func57 (by kernel_rfl) rfl rfl rfl pre ?_
  intro _ w
  show Tr P (Ge w) 8 _ _ _ (RetQ P Try.f57 (R0 _ w))
  unfold ref04_Base at h
  refine tr_seq ?_
  refine tr_reg hT [(0, .key 0), (1, .key 1)] [.s 1, .s 2, .h 0, .h 1] [sO 1 (.ptr 0 0), sO 2 (.ptr 1 0), hB 0 22 [.arr .u8 32 n_0], hB 1 22 [.arr .u8 32 (List.replicate 32 0)]] [] (by kernel_rfl) trivial ?_
  refine q_k ?_
  refine tr_seq ?_
  obtain ⟨a1, e2, h⟩ := bind_some h
  obtain ⟨⟨a3, a4, a5, a6⟩, e7, h⟩ := bind_some h
  obtain ⟨⟨a9, a10, a11, a12⟩, e13, h⟩ := bind_some h
  obtain ⟨a15, e16, h⟩ := bind_some h
  refine tr_reg hT [(1, .call [] (.v (.agg [.arr .u64 4 a1])) []), (2, .call [] (.v (.agg [.arr .u64 4 a3, .arr .u64 4 a4, .arr .u64 4 a5, .arr .u64 4 a6])) []), (3, .call [] (.v (.agg [.arr .u64 4 a9, .arr .u64 4 a10, .arr .u64 4 a11, .arr .u64 4 a12])) []), (4, .call [] (.v (.agg [.arr .u8 32 a15])) [])] [.s 2, .h 1] [sO 2 (.ptr 1 0), hB 1 22 [.arr .u8 32 a15]] [CallOk P 44 [.v (.agg [.arr .u8 32 n_0])] [] (.v (.agg [.arr .u64 4 a1])) [], CallOk P 95 [] [] (.v (.agg [.arr .u64 4 a3, .arr .u64 4 a4, .arr .u64 4 a5, .arr .u64 4 a6])) [], CallOk P 94 [.v (.agg [.arr .u64 4 a1]), .v (.agg [.arr .u64 4 a3, .arr .u64 4 a4, .arr .u64 4 a5, .arr .u64 4 a6])] [] (.v (.agg [.arr .u64 4 a9, .arr .u64 4 a10, .arr .u64 4 a11, .arr .u64 4 a12])) [], CallOk P 93 [.v (.agg [.arr .u64 4 a9, .arr .u64 4 a10, .arr .u64 4 a11, .arr .u64 4 a12])] [] (.v (.agg [.arr .u8 32 a15])) []] (by kernel_rfl) (hcons (ref04_Of_ok n_0 a1 e2) (hcons (ref04_base_ok  (a3, a4, a5, a6) e7) (hcons (ref04_multiple_ok a1 a3 a4 a5 a6 (a9, a10, a11, a12) e13) (hone (ref04_Encode_ok a9 a10 a11 a12 a15 e16))))) ?_
  refine q_k ?_
  refine tr_ret ?_
  have h := Option.some.inj h
  subst h
  exact q_ret0 hT (.v (.agg [.arr .u8 32 a15])) rfl (by kernel_rfl)

theorem curve_Check_ok (a_0 : List Int) (r : Bool) (h : curve_Check a_0 = some r) {pre : List (Nat × Ent)} : CallOk P 58 [.v (.agg [.arr .u8 32 a_0])] pre (.v (.one (.bool r))) [] := by
  refine call0 (N := 11) Try.func58 (by kernel_rfl) rfl rfl rfl pre ?_
  intro _ w
  show Tr P (Ge w) 11 _ _ _ (RetQ P Try.f58 (R0 _ w))
  unfold curve_Check at h
  refine tr_seq ?_
  refine tr_reg hT [(0, .key 0)] [.s 1, .h 0] [sO 1 (.ptr 0 0), hB 0 22 [.arr .u8 32 a_0]] [] (by kernel_rfl) trivial ?_
  refine q_k ?_
  refine tr_seq ?_
  obtain ⟨⟨a1, a2, a3, a4, b5⟩, e6, h⟩ := bind_some h
  refine tr_reg hT [(1, .call [] (.tup [.agg [.arr .u64 5 a1, .arr .u64 5 a2, .arr .u64 5 a3, .arr .u64 5 a4], .one (.bool b5)]) []), (5, .key 1)] [.s 4] [sB 4 b5] [CallOk P 92 [.v (.agg [.arr .u8 32 a_0])] [] (.tup [.agg [.arr .u64 5 a1, .arr .u64 5 a2, .arr .u64 5 a3, .arr .u64 5 a4], .one (.bool b5)]) []] (by kernel_rfl) (hone (curve_unpacked_ok a_0 (a1, a2, a3, a4, b5) e6)) ?_
  refine q_k ?_
  refine tr_seq ?_
  refine tr_reg hT [] [.s 2] [sB 2 b5] [] (by kernel_rfl) trivial ?_
  refine q_k ?_
  refine tr_ret ?_
  have h := Option.some.inj h
  subst h
  exact q_ret0 hT (.v (.one (.bool b5))) rfl (by kernel_rfl)

theorem law06_wakes_ok (r : Bool) (h : law06_wakes = some r) {pre : List (Nat × Ent)} : CallOk P 59 [] pre (.v (.one (.bool r))) [] := by
  refine call0 (N := 27) Try.func59 (by kernel_rfl) rfl rfl rfl pre ?_
  intro _ w
  show Tr P (Ge w) 27 _ _ _ (RetQ P Try.f59 (R0 _ w))
  unfold law06_wakes at h
  refine tr_seq ?_
  refine tr_reg hT [] [] [] [] (by kernel_rfl) trivial ?_
  refine q_k ?_
  refine tr_seq ?_
  obtain ⟨a1, e2, h⟩ := bind_some h
  obtain ⟨a3, e4, h⟩ := bind_some h
  refine tr_reg hT [(0, .call [] (.v (.agg [.arr .u8 32 a1])) []), (1, .call [] (.v (.agg [.arr .u8 32 a3])) []), (2, .key 0)] [.s 1, .h 0] [sO 1 (.ptr 0 0), hB 0 22 [.arr .u8 32 a3]] [CallOk P 56 [.v (.one (.int .i64 (1 : Int)))] [] (.v (.agg [.arr .u8 32 a1])) [], CallOk P 54 [.v (.agg [.arr .u8 32 a1])] [] (.v (.agg [.arr .u8 32 a3])) []] (by kernel_rfl) (hcons (law06_num_ok (1 : Int) a1 e2) (hone (curve_Base_ok a1 a3 e4))) ?_
  refine q_k ?_
  refine tr_seq ?_
  rcases ite_split h with ⟨hb5, h⟩ | ⟨hb20, h⟩
  · rcases ite_split h with ⟨hb6, h⟩ | ⟨hb19, h⟩
    · rcases ite_split h with ⟨hb7, h⟩ | ⟨hb18, h⟩
      · obtain ⟨b8, e9, h⟩ := bind_some h
        rcases ite_split h with ⟨hb10, h⟩ | ⟨hb17, h⟩
        · obtain ⟨a11, e12, h⟩ := bind_some h
          obtain ⟨a13, e14, h⟩ := bind_some h
          obtain ⟨a15, e16, h⟩ := bind_some h
          refine tr_reg hT [(3, .dec true), (8, .dec true), (13, .dec true), (15, .call [] (.v (.one (.bool b8))) []), (17, .dec true), (18, .call [] (.v (.agg [.arr .u8 32 a11])) []), (19, .call [] (.v (.agg [.arr .u8 32 a13])) []), (20, .call [] (.v (.agg [.arr .u8 32 a15])) [])] [.s 0] [sB 0 (decide (a13 = a15))] [0 ≤ (0 : Int) ∧ (0 : Int) < ((32 : Nat) : Int), ((a3.getD 0 0) == (88 : Int)) = true, 0 ≤ (1 : Int) ∧ (1 : Int) < ((32 : Nat) : Int), ((a3.getD 1 0) == (102 : Int)) = true, 0 ≤ (31 : Int) ∧ (31 : Int) < ((32 : Nat) : Int), ((a3.getD 31 0) == (102 : Int)) = true, CallOk P 58 [.v (.agg [.arr .u8 32 a3])] [] (.v (.one (.bool b8))) [], b8 = true, CallOk P 56 [.v (.one (.int .i64 (0 : Int)))] [] (.v (.agg [.arr .u8 32 a11])) [], CallOk P 54 [.v (.agg [.arr .u8 32 a11])] [] (.v (.agg [.arr .u8 32 a13])) [], CallOk P 56 [.v (.one (.int .i64 (1 : Int)))] [] (.v (.agg [.arr .u8 32 a15])) []] (by kernel_rfl) (hcons (by decide) (hcons hb5 (hcons (by decide) (hcons hb6 (hcons (by decide) (hcons hb7 (hcons (curve_Check_ok a3 b8 e9) (hcons hb10 (hcons (law06_num_ok (0 : Int) a11 e12) (hcons (curve_Base_ok a11 a13 e14) (hone (law06_num_ok (1 : Int) a15 e16)))))))))))) ?_
          refine q_k ?_
          refine tr_ret ?_
          have h := Option.some.inj h
          subst h
          exact q_ret0 hT (.v (.one (.bool (decide (a13 = a15))))) rfl (by kernel_rfl)
        · refine tr_reg hT [(3, .dec true), (8, .dec true), (13, .dec true), (15, .call [] (.v (.one (.bool b8))) []), (17, .dec false)] [.s 0] [sB 0 false] [0 ≤ (0 : Int) ∧ (0 : Int) < ((32 : Nat) : Int), ((a3.getD 0 0) == (88 : Int)) = true, 0 ≤ (1 : Int) ∧ (1 : Int) < ((32 : Nat) : Int), ((a3.getD 1 0) == (102 : Int)) = true, 0 ≤ (31 : Int) ∧ (31 : Int) < ((32 : Nat) : Int), ((a3.getD 31 0) == (102 : Int)) = true, CallOk P 58 [.v (.agg [.arr .u8 32 a3])] [] (.v (.one (.bool b8))) [], b8 = false] (by kernel_rfl) (hcons (by decide) (hcons hb5 (hcons (by decide) (hcons hb6 (hcons (by decide) (hcons hb7 (hcons (curve_Check_ok a3 b8 e9) (hone hb17)))))))) ?_
          refine q_k ?_
          refine tr_ret ?_
          have h := Option.some.inj h
          subst h
          exact q_ret0 hT (.v (.one (.bool false))) rfl (by kernel_rfl)
      · refine tr_reg hT [(3, .dec true), (8, .dec true), (13, .dec false)] [.s 0] [sB 0 false] [0 ≤ (0 : Int) ∧ (0 : Int) < ((32 : Nat) : Int), ((a3.getD 0 0) == (88 : Int)) = true, 0 ≤ (1 : Int) ∧ (1 : Int) < ((32 : Nat) : Int), ((a3.getD 1 0) == (102 : Int)) = true, 0 ≤ (31 : Int) ∧ (31 : Int) < ((32 : Nat) : Int), ((a3.getD 31 0) == (102 : Int)) = false] (by kernel_rfl) (hcons (by decide) (hcons hb5 (hcons (by decide) (hcons hb6 (hcons (by decide) (hone hb18)))))) ?_
        refine q_k ?_
        refine tr_ret ?_
        have h := Option.some.inj h
        subst h
        exact q_ret0 hT (.v (.one (.bool false))) rfl (by kernel_rfl)
    · refine tr_reg hT [(3, .dec true), (8, .dec false)] [.s 0] [sB 0 false] [0 ≤ (0 : Int) ∧ (0 : Int) < ((32 : Nat) : Int), ((a3.getD 0 0) == (88 : Int)) = true, 0 ≤ (1 : Int) ∧ (1 : Int) < ((32 : Nat) : Int), ((a3.getD 1 0) == (102 : Int)) = false] (by kernel_rfl) (hcons (by decide) (hcons hb5 (hcons (by decide) (hone hb19)))) ?_
      refine q_k ?_
      refine tr_ret ?_
      have h := Option.some.inj h
      subst h
      exact q_ret0 hT (.v (.one (.bool false))) rfl (by kernel_rfl)
  · refine tr_reg hT [(3, .dec false)] [.s 0] [sB 0 false] [0 ≤ (0 : Int) ∧ (0 : Int) < ((32 : Nat) : Int), ((a3.getD 0 0) == (88 : Int)) = false] (by kernel_rfl) (hcons (by decide) (hone hb20)) ?_
    refine q_k ?_
    refine tr_ret ?_
    have h := Option.some.inj h
    subst h
    exact q_ret0 hT (.v (.one (.bool false))) rfl (by kernel_rfl)

theorem law06_CurveBase_ok (n_0 : List Int) (r : Bool) (h : law06_CurveBase n_0 = some r) {pre : List (Nat × Ent)} : CallOk P 18 [.v (.agg [.arr .u8 32 n_0])] pre (.v (.one (.bool r))) [] := by
  refine call0 (N := 62) Try.func18 (by kernel_rfl) rfl rfl rfl pre ?_
  intro _ w
  show Tr P (Ge w) 62 _ _ _ (RetQ P Try.f18 (R0 _ w))
  unfold law06_CurveBase at h
  refine tr_seq ?_
  refine tr_reg hT [(0, .key 0)] [.s 1, .h 0] [sO 1 (.ptr 0 0), hB 0 22 [.arr .u8 32 n_0]] [] (by kernel_rfl) trivial ?_
  refine q_k ?_
  refine tr_seq ?_
  obtain ⟨a1, e2, h⟩ := bind_some h
  refine tr_reg hT [(1, .call [] (.v (.agg [.arr .u8 32 a1])) []), (2, .key 1)] [.s 1, .s 3, .h 0, .h 1] [sO 1 (.ptr 0 0), sO 3 (.ptr 1 0), hB 0 22 [.arr .u8 32 n_0], hB 1 22 [.arr .u8 32 a1]] [CallOk P 54 [.v (.agg [.arr .u8 32 n_0])] [] (.v (.agg [.arr .u8 32 a1])) []] (by kernel_rfl) (hone (curve_Base_ok n_0 a1 e2)) ?_
  refine q_k ?_
  refine tr_seq ?_
  obtain ⟨a3, e4, h⟩ := bind_some h
  obtain ⟨a5, e6, h⟩ := bind_some h
  refine tr_reg hT [(0, .call [] (.v (.agg [.arr .u64 4 a3])) []), (1, .call [] (.v (.agg [.arr .u8 32 a5])) []), (2, .key 2)] [.s 1, .s 3, .s 4, .h 0, .h 1, .h 2] [sO 1 (.ptr 0 0), sO 3 (.ptr 1 0), sO 4 (.ptr 2 0), hB 0 22 [.arr .u8 32 n_0], hB 1 22 [.arr .u8 32 a1], hB 2 22 [.arr .u8 32 a5]] [CallOk P 30 [] [] (.v (.agg [.arr .u64 4 a3])) [], CallOk P 29 [.v (.agg [.arr .u64 4 a3])] [] (.v (.agg [.arr .u8 32 a5])) []] (by kernel_rfl) (hcons (ref04_L_ok  a3 e4) (hone (ref04_Bytes_ok a3 a5 e6))) ?_
  refine q_k ?_
  refine tr_seq ?_
  obtain ⟨⟨a7, r8⟩, e9, h⟩ := bind_some h
  refine tr_reg hT [(2, .call [] (.tup [.agg [.arr .u8 32 a7], .one (.int .i64 r8)]) []), (6, .key 3)] [.s 1, .s 3, .s 5, .s 6, .h 0, .h 1, .h 3] [sO 1 (.ptr 0 0), sO 3 (.ptr 1 0), sO 5 (.ptr 3 0), sI 6 .i64 r8, hB 0 22 [.arr .u8 32 n_0], hB 1 22 [.arr .u8 32 a1], hB 3 22 [.arr .u8 32 a7]] [CallOk P 55 [.v (.agg [.arr .u8 32 a5]), .v (.agg [.arr .u8 32 a1])] [] (.tup [.agg [.arr .u8 32 a7], .one (.int .i64 r8)]) []] (by kernel_rfl) (hone (curve_Mul_ok a5 a1 (a7, r8) e9)) ?_
  refine q_k ?_
  refine tr_seq ?_
  obtain ⟨a11, e12, h⟩ := bind_some h
  obtain ⟨a13, e14, h⟩ := bind_some h
  obtain ⟨⟨a15, r16⟩, e17, h⟩ := bind_some h
  refine tr_regd hT hM [(1, .call [] (.v (.agg [.arr .u8 32 a11])) []), (2, .call [] (.v (.agg [.arr .u8 32 a13])) []), (3, .call [] (.tup [.agg [.arr .u8 32 a15], .one (.int .i64 r16)]) []), (7, .key 4)] [.s 1, .s 3, .s 5, .s 6, .s 7, .s 8, .h 0, .h 1, .h 3, .h 4] [sO 1 (.ptr 0 0), sO 3 (.ptr 1 0), sO 5 (.ptr 3 0), sI 6 .i64 r8, sO 7 (.ptr 4 0), sI 8 .i64 r16, hB 0 22 [.arr .u8 32 n_0], hB 1 22 [.arr .u8 32 a1], hB 3 22 [.arr .u8 32 a7], hB 4 22 [.arr .u8 32 a15]] [CallOk P 56 [.v (.one (.int .i64 (1 : Int)))] [] (.v (.agg [.arr .u8 32 a11])) [], CallOk P 54 [.v (.agg [.arr .u8 32 a11])] [] (.v (.agg [.arr .u8 32 a13])) [], CallOk P 55 [.v (.agg [.arr .u8 32 n_0]), .v (.agg [.arr .u8 32 a13])] [] (.tup [.agg [.arr .u8 32 a15], .one (.int .i64 r16)]) []] (by kernel_rfl) (hcons (law06_num_ok (1 : Int) a11 e12) (hcons (curve_Base_ok a11 a13 e14) (hone (curve_Mul_ok n_0 a13 (a15, r16) e17)))) ?_
  refine q_k ?_
  refine tr_seq ?_
  obtain ⟨a19, e20, h⟩ := bind_some h
  rcases ite_split h with ⟨hb21, h⟩ | ⟨hb44, h⟩
  · obtain ⟨b22, e23, h⟩ := bind_some h
    rcases ite_split h with ⟨hb24, h⟩ | ⟨hb43, h⟩
    · rcases ite_split h with ⟨hb25, h⟩ | ⟨hb42, h⟩
      · obtain ⟨a26, e27, h⟩ := bind_some h
        rcases ite_split h with ⟨hb28, h⟩ | ⟨hb41, h⟩
        · rcases ite_split h with ⟨hb29, h⟩ | ⟨hb40, h⟩
          · rcases ite_split h with ⟨hb30, h⟩ | ⟨hb39, h⟩
            · obtain ⟨a31, e32, h⟩ := bind_some h
              obtain ⟨a33, e34, h⟩ := bind_some h
              rcases ite_split h with ⟨hb35, h⟩ | ⟨hb38, h⟩
              · obtain ⟨b36, e37, h⟩ := bind_some h
                refine tr_regd hT hM [(2, .call [] (.v (.agg [.arr .u8 32 a19])) []), (4, .dec true), (6, .call [] (.v (.one (.bool b22))) []), (8, .dec true), (12, .dec true), (14, .call [] (.v (.agg [.arr .u8 32 a26])) []), (17, .dec true), (21, .dec true), (26, .dec true), (28, .call [0] (.v (.agg [.arr .u8 32 a31])) []), (29, .call [] (.v (.agg [.arr .u8 32 a33])) []), (33, .dec true), (34, .call [] (.v (.one (.bool b36))) [])] [.s 2] [sB 2 b36] [CallOk P 57 [.v (.agg [.arr .u8 32 n_0])] [] (.v (.agg [.arr .u8 32 a19])) [], (decide (a1 = a19)) = true, CallOk P 58 [.v (.agg [.arr .u8 32 a1])] [] (.v (.one (.bool b22))) [], b22 = true, (r8 == (0 : Int)) = true, CallOk P 56 [.v (.one (.int .i64 (1 : Int)))] [] (.v (.agg [.arr .u8 32 a26])) [], (decide (a7 = a26)) = true, (r16 == (0 : Int)) = true, (decide (a15 = a1)) = true, 0 ≤ (0 : Int) ∧ (0 : Int) ≤ ((32 : Nat) : Int) ∧ ((32 : Nat) : Int) ≤ ((32 : Nat) : Int), CallOk P 37 [.v (.one (.view 0 0 32 (0 : Int) (32 : Int)))] [(0, .blk 22 [.arr .u8 32 n_0])] (.v (.agg [.arr .u8 32 a31])) [], CallOk P 54 [.v (.agg [.arr .u8 32 a31])] [] (.v (.agg [.arr .u8 32 a33])) [], (decide (a33 = a1)) = true, CallOk P 59 [] [] (.v (.one (.bool b36))) []] (by kernel_rfl) (hcons (ref04_Base_ok n_0 a19 e20) (hcons hb21 (hcons (curve_Check_ok a1 b22 e23) (hcons hb24 (hcons hb25 (hcons (law06_num_ok (1 : Int) a26 e27) (hcons hb28 (hcons hb29 (hcons hb30 (hcons (by decide) (hcons ((ref04_ModL_ok ((n_0.take (32)).drop 0) a31 e32).tr [(9000, .view 0 0 32 (0 : Int) (32 : Int))] rfl (by kernel_rfl) ⟨.view (ty := 22) (ls := [.arr .u8 32 n_0]) (l := n_0) (by kernel_rfl) (by kernel_rfl) (by decide), trivial⟩ (by kernel_rfl) (by kernel_rfl) rfl rfl) (hcons (curve_Base_ok a31 a33 e34) (hcons hb35 (hone (law06_wakes_ok  b36 e37))))))))))))))) ?_
                refine q_k ?_
                refine tr_ret ?_
                have h := Option.some.inj h
                subst h
                exact q_ret0 hT (.v (.one (.bool b36))) rfl (by kernel_rfl)
              · refine tr_regd hT hM [(2, .call [] (.v (.agg [.arr .u8 32 a19])) []), (4, .dec true), (6, .call [] (.v (.one (.bool b22))) []), (8, .dec true), (12, .dec true), (14, .call [] (.v (.agg [.arr .u8 32 a26])) []), (17, .dec true), (21, .dec true), (26, .dec true), (28, .call [0] (.v (.agg [.arr .u8 32 a31])) []), (29, .call [] (.v (.agg [.arr .u8 32 a33])) []), (33, .dec false)] [.s 2] [sB 2 false] [CallOk P 57 [.v (.agg [.arr .u8 32 n_0])] [] (.v (.agg [.arr .u8 32 a19])) [], (decide (a1 = a19)) = true, CallOk P 58 [.v (.agg [.arr .u8 32 a1])] [] (.v (.one (.bool b22))) [], b22 = true, (r8 == (0 : Int)) = true, CallOk P 56 [.v (.one (.int .i64 (1 : Int)))] [] (.v (.agg [.arr .u8 32 a26])) [], (decide (a7 = a26)) = true, (r16 == (0 : Int)) = true, (decide (a15 = a1)) = true, 0 ≤ (0 : Int) ∧ (0 : Int) ≤ ((32 : Nat) : Int) ∧ ((32 : Nat) : Int) ≤ ((32 : Nat) : Int), CallOk P 37 [.v (.one (.view 0 0 32 (0 : Int) (32 : Int)))] [(0, .blk 22 [.arr .u8 32 n_0])] (.v (.agg [.arr .u8 32 a31])) [], CallOk P 54 [.v (.agg [.arr .u8 32 a31])] [] (.v (.agg [.arr .u8 32 a33])) [], (decide (a33 = a1)) = false] (by kernel_rfl) (hcons (ref04_Base_ok n_0 a19 e20) (hcons hb21 (hcons (curve_Check_ok a1 b22 e23) (hcons hb24 (hcons hb25 (hcons (law06_num_ok (1 : Int) a26 e27) (hcons hb28 (hcons hb29 (hcons hb30 (hcons (by decide) (hcons ((ref04_ModL_ok ((n_0.take (32)).drop 0) a31 e32).tr [(9000, .view 0 0 32 (0 : Int) (32 : Int))] rfl (by kernel_rfl) ⟨.view (ty := 22) (ls := [.arr .u8 32 n_0]) (l := n_0) (by kernel_rfl) (by kernel_rfl) (by decide), trivial⟩ (by kernel_rfl) (by kernel_rfl) rfl rfl) (hcons (curve_Base_ok a31 a33 e34) (hone hb38))))))))))))) ?_
                refine q_k ?_
                refine tr_ret ?_
                have h := Option.some.inj h
                subst h
                exact q_ret0 hT (.v (.one (.bool false))) rfl (by kernel_rfl)
            · refine tr_regd hT hM [(2, .call [] (.v (.agg [.arr .u8 32 a19])) []), (4, .dec true), (6, .call [] (.v (.one (.bool b22))) []), (8, .dec true), (12, .dec true), (14, .call [] (.v (.agg [.arr .u8 32 a26])) []), (17, .dec true), (21, .dec true), (26, .dec false)] [.s 2] [sB 2 false] [CallOk P 57 [.v (.agg [.arr .u8 32 n_0])] [] (.v (.agg [.arr .u8 32 a19])) [], (decide (a1 = a19)) = true, CallOk P 58 [.v (.agg [.arr .u8 32 a1])] [] (.v (.one (.bool b22))) [], b22 = true, (r8 == (0 : Int)) = true, CallOk P 56 [.v (.one (.int .i64 (1 : Int)))] [] (.v (.agg [.arr .u8 32 a26])) [], (decide (a7 = a26)) = true, (r16 == (0 : Int)) = true, (decide (a15 = a1)) = false] (by kernel_rfl) (hcons (ref04_Base_ok n_0 a19 e20) (hcons hb21 (hcons (curve_Check_ok a1 b22 e23) (hcons hb24 (hcons hb25 (hcons (law06_num_ok (1 : Int) a26 e27) (hcons hb28 (hcons hb29 (hone hb39))))))))) ?_
              refine q_k ?_
              refine tr_ret ?_
              have h := Option.some.inj h
              subst h
              exact q_ret0 hT (.v (.one (.bool false))) rfl (by kernel_rfl)
          · refine tr_regd hT hM [(2, .call [] (.v (.agg [.arr .u8 32 a19])) []), (4, .dec true), (6, .call [] (.v (.one (.bool b22))) []), (8, .dec true), (12, .dec true), (14, .call [] (.v (.agg [.arr .u8 32 a26])) []), (17, .dec true), (21, .dec false)] [.s 2] [sB 2 false] [CallOk P 57 [.v (.agg [.arr .u8 32 n_0])] [] (.v (.agg [.arr .u8 32 a19])) [], (decide (a1 = a19)) = true, CallOk P 58 [.v (.agg [.arr .u8 32 a1])] [] (.v (.one (.bool b22))) [], b22 = true, (r8 == (0 : Int)) = true, CallOk P 56 [.v (.one (.int .i64 (1 : Int)))] [] (.v (.agg [.arr .u8 32 a26])) [], (decide (a7 = a26)) = true, (r16 == (0 : Int)) = false] (by kernel_rfl) (hcons (ref04_Base_ok n_0 a19 e20) (hcons hb21 (hcons (curve_Check_ok a1 b22 e23) (hcons hb24 (hcons hb25 (hcons (law06_num_ok (1 : Int) a26 e27) (hcons hb28 (hone hb40)))))))) ?_
            refine q_k ?_
            refine tr_ret ?_
            have h := Option.some.inj h
            subst h
            exact q_ret0 hT (.v (.one (.bool false))) rfl (by kernel_rfl)
        · refine tr_regd hT hM [(2, .call [] (.v (.agg [.arr .u8 32 a19])) []), (4, .dec true), (6, .call [] (.v (.one (.bool b22))) []), (8, .dec true), (12, .dec true), (14, .call [] (.v (.agg [.arr .u8 32 a26])) []), (17, .dec false)] [.s 2] [sB 2 false] [CallOk P 57 [.v (.agg [.arr .u8 32 n_0])] [] (.v (.agg [.arr .u8 32 a19])) [], (decide (a1 = a19)) = true, CallOk P 58 [.v (.agg [.arr .u8 32 a1])] [] (.v (.one (.bool b22))) [], b22 = true, (r8 == (0 : Int)) = true, CallOk P 56 [.v (.one (.int .i64 (1 : Int)))] [] (.v (.agg [.arr .u8 32 a26])) [], (decide (a7 = a26)) = false] (by kernel_rfl) (hcons (ref04_Base_ok n_0 a19 e20) (hcons hb21 (hcons (curve_Check_ok a1 b22 e23) (hcons hb24 (hcons hb25 (hcons (law06_num_ok (1 : Int) a26 e27) (hone hb41))))))) ?_
          refine q_k ?_
          refine tr_ret ?_
          have h := Option.some.inj h
          subst h
          exact q_ret0 hT (.v (.one (.bool false))) rfl (by kernel_rfl)
      · refine tr_regd hT hM [(2, .call [] (.v (.agg [.arr .u8 32 a19])) []), (4, .dec true), (6, .call [] (.v (.one (.bool b22))) []), (8, .dec true), (12, .dec false)] [.s 2] [sB 2 false] [CallOk P 57 [.v (.agg [.arr .u8 32 n_0])] [] (.v (.agg [.arr .u8 32 a19])) [], (decide (a1 = a19)) = true, CallOk P 58 [.v (.agg [.arr .u8 32 a1])] [] (.v (.one (.bool b22))) [], b22 = true, (r8 == (0 : Int)) = false] (by kernel_rfl) (hcons (ref04_Base_ok n_0 a19 e20) (hcons hb21 (hcons (curve_Check_ok a1 b22 e23) (hcons hb24 (hone hb42))))) ?_
        refine q_k ?_
        refine tr_ret ?_
        have h := Option.some.inj h
        subst h
        exact q_ret0 hT (.v (.one (.bool false))) rfl (by kernel_rfl)
    · refine tr_regd hT hM [(2, .call [] (.v (.agg [.arr .u8 32 a19])) []), (4, .dec true), (6, .call [] (.v (.one (.bool b22))) []), (8, .dec false)] [.s 2] [sB 2 false] [CallOk P 57 [.v (.agg [.arr .u8 32 n_0])] [] (.v (.agg [.arr .u8 32 a19])) [], (decide (a1 = a19)) = true, CallOk P 58 [.v (.agg [.arr .u8 32 a1])] [] (.v (.one (.bool b22))) [], b22 = false] (by kernel_rfl) (hcons (ref04_Base_ok n_0 a19 e20) (hcons hb21 (hcons (curve_Check_ok a1 b22 e23) (hone hb43)))) ?_
      refine q_k ?_
      refine tr_ret ?_
      have h := Option.some.inj h
      subst h
      exact q_ret0 hT (.v (.one (.bool false))) rfl (by kernel_rfl)
  · refine tr_regd hT hM [(2, .call [] (.v (.agg [.arr .u8 32 a19])) []), (4, .dec false)] [.s 2] [sB 2 false] [CallOk P 57 [.v (.agg [.arr .u8 32 n_0])] [] (.v (.agg [.arr .u8 32 a19])) [], (decide (a1 = a19)) = false] (by kernel_rfl) (hcons (ref04_Base_ok n_0 a19 e20) (hone hb44)) ?_
    refine q_k ?_
    refine tr_ret ?_
    have h := Option.some.inj h
    subst h
    exact q_ret0 hT (.v (.one (.bool false))) rfl (by kernel_rfl)

theorem curve_sum_ok (p_0 : List Int) (p_1 : List Int) (p_2 : List Int) (p_3 : List Int) (q_4 : List Int) (q_5 : List Int) (q_6 : List Int) (q_7 : List Int) (r : List Int × List Int × List Int × List Int) (h : curve_sum p_0 p_1 p_2 p_3 q_4 q_5 q_6 q_7 = some r) {pre : List (Nat × Ent)} : CallOk P 96 [.v (.agg [.arr .u64 5 p_0, .arr .u64 5 p_1, .arr .u64 5 p_2, .arr .u64 5 p_3]), .v (.agg [.arr .u64 5 q_4, .arr .u64 5 q_5, .arr .u64 5 q_6, .arr .u64 5 q_7])] pre (.v (.agg [.arr .u64 5 r.1, .arr .u64 5 r.2.1, .arr .u64 5 r.2.2.1, .arr .u64 5 r.2.2.2])) [] := by
  refine call0 (N := 11) Try.func96 (by kernel_rfl) rfl rfl rfl pre ?_
  intro _ w
  show Tr P (Ge w) 11 _ _ _ (RetQ P Try.f96 (R0 _ w))
  unfold curve_sum at h
  refine tr_seq ?_
  refine tr_reg hT [(0, .key 0), (1, .key 1), (2, .key 2)] [.s 2, .s 3, .s 4, .h 0, .h 1, .h 2] [sO 2 (.ptr 0 0), sO 3 (.ptr 1 0), sO 4 (.ptr 2 0), hB 0 87 [.arr .u64 5 p_0, .arr .u64 5 p_1, .arr .u64 5 p_2, .arr .u64 5 p_3], hB 1 87 [.arr .u64 5 q_4, .arr .u64 5 q_5, .arr .u64 5 q_6, .arr .u64 5 q_7], hB 2 87 [.arr .u64 5 (List.replicate 5 0), .arr .u64 5 (List.replicate 5 0), .arr .u64 5 (List.replicate 5 0), .arr .u64 5 (List.replicate 5 0)]] [] (by kernel_rfl) trivial ?_
  refine q_k ?_
  refine tr_seq ?_
  obtain ⟨a1, e2, h⟩ := bind_some h
  obtain ⟨a3, e4, h⟩ := bind_some h
  obtain ⟨a5, e6, h⟩ := bind_some h
  obtain ⟨⟨a7, a8, a9, a10⟩, e11, h⟩ := bind_some h
  refine tr_regd hT hM [(2, .call [] (.v (.agg [.arr .u64 5 a1])) []), (3, .call [] (.v (.agg [.arr .u64 5 a3])) []), (4, .call [] (.v (.agg [.arr .u64 5 a5])) []), (5, .call [] (.v (.agg [.arr .u64 5 a7, .arr .u64 5 a8, .arr .u64 5 a9, .arr .u64 5 a10])) [])] [.s 4, .h 2] [sO 4 (.ptr 2 0), hB 2 87 [.arr .u64 5 a7, .arr .u64 5 a8, .arr .u64 5 a9, .arr .u64 5 a10]] [CallOk P 107 [] [] (.v (.agg [.arr .u64 5 a1])) [], CallOk P 107 [] [] (.v (.agg [.arr .u64 5 a3])) [], CallOk P 79 [.v (.agg [.arr .u64 5 a1]), .v (.agg [.arr .u64 5 a3])] [] (.v (.agg [.arr .u64 5 a5])) [], CallOk P 108 [.v (.agg [.arr .u64 5 p_0, .arr .u64 5 p_1, .arr .u64 5 p_2, .arr .u64 5 p_3]), .v (.agg [.arr .u64 5 q_4, .arr .u64 5 q_5, .arr .u64 5 q_6, .arr .u64 5 q_7]), .v (.agg [.arr .u64 5 a5])] [] (.v (.agg [.arr .u64 5 a7, .arr .u64 5 a8, .arr .u64 5 a9, .arr .u64 5 a10])) []] (by kernel_rfl) (hcons (curve_bend_ok  a1 e2) (hcons (curve_bend_ok  a3 e4) (hcons (limb_Add_ok a1 a3 a5 e6) (hone (curve_plus_ok p_0 p_1 p_2 p_3 q_4 q_5 q_6 q_7 a5 (a7, a8, a9, a10) e11))))) ?_
  refine q_k ?_
  refine tr_ret ?_
  have h := Option.some.inj h
  subst h
  exact q_ret0 hT (.v (.agg [.arr .u64 5 a7, .arr .u64 5 a8, .arr .u64 5 a9, .arr .u64 5 a10])) rfl (by kernel_rfl)

end Go.Proofs.Sb
