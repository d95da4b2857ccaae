/- Walks, printed by a program of this session (gowalk.py): each Go function comes to its plain function's answer. -/
import Derived.Test.YtdcdanfeepncmaaSbA
import Derived.Test.YtdcdanfeepncmaaSbD
import Derived.Test.YtdcdanfeepncmaaSbI
import Derived.Test.YtdcdanfeepncmaaSbV0
import Derived.Test.YtdcdanfeepncmaaSbV1
import Derived.Test.YtdcdanfeepncmaaSbV2
import Derived.Test.YtdcdanfeepncmaaSbV3
import Derived.Test.YtdcdanfeepncmaaSbV4
import Derived.Test.YtdcdanfeepncmaaSbV5
namespace Go.Proofs.Sb
open Go Go.Gw D
set_option linter.unusedVariables false
set_option maxRecDepth 20000

theorem ref04_Root_ok (a_0 : List Int) (r : List Int × Bool) (h : ref04_Root a_0 = some r) {pre : List (Nat × Ent)} : CallOk P 53 [.v (.agg [.arr .u64 4 a_0])] pre (.tup [.agg [.arr .u64 4 r.1], .one (.bool r.2)]) [] := by
  refine call0 (N := 55) Try.func53 (by kernel_rfl) rfl rfl rfl pre ?_
  intro _ w
  show Tr P (Ge w) 55 _ _ _ (RetQ P Try.f53 (R0 _ w))
  unfold ref04_Root at h
  refine tr_seq ?_
  refine tr_reg hT [(0, .key 0), (1, .key 1)] [.s 1, .s 2, .h 0, .h 1] [sO 1 (.ptr 0 0), sO 2 (.ptr 1 0), hB 0 31 [.arr .u64 4 a_0], hB 1 31 [.arr .u64 4 (List.replicate 4 0)]] [] (by kernel_rfl) trivial ?_
  refine q_k ?_
  refine tr_seq ?_
  obtain ⟨a1, e2, h⟩ := bind_some h
  refine tr_reg hT [(1, .call [] (.v (.agg [.arr .u64 4 a1])) [])] [.s 1, .s 2, .h 0, .h 1] [sO 1 (.ptr 0 0), sO 2 (.ptr 1 0), hB 0 31 [.arr .u64 4 a1], hB 1 31 [.arr .u64 4 (List.replicate 4 0)]] [CallOk P 46 [.v (.agg [.arr .u64 4 a_0])] [] (.v (.agg [.arr .u64 4 a1])) []] (by kernel_rfl) (hone (ref04_Mod_ok a_0 a1 e2)) ?_
  refine q_k ?_
  refine tr_seq ?_
  obtain ⟨a3, e4, h⟩ := bind_some h
  obtain ⟨⟨a5, r6⟩, e7, h⟩ := bind_some h
  refine tr_reg hT [(0, .call [] (.v (.agg [.arr .u64 4 a3])) []), (2, .call [] (.tup [.agg [.arr .u64 4 a5], .one (.int .u64 r6)]) []), (6, .key 2)] [.s 1, .s 2, .s 4, .h 0, .h 1, .h 2] [sO 1 (.ptr 0 0), sO 2 (.ptr 1 0), sO 4 (.ptr 2 0), hB 0 31 [.arr .u64 4 a1], hB 1 31 [.arr .u64 4 (List.replicate 4 0)], hB 2 31 [.arr .u64 4 a5]] [CallOk P 43 [] [] (.v (.agg [.arr .u64 4 a3])) [], CallOk P 82 [.v (.agg [.arr .u64 4 a3]), .v (.agg [.arr .u64 4 [(3 : Int), (0 : Int), (0 : Int), (0 : Int)]])] [] (.tup [.agg [.arr .u64 4 a5], .one (.int .u64 r6)]) []] (by kernel_rfl) (hcons (ref04_P_ok  a3 e4) (hone (ref04_add_ok a3 [(3 : Int), (0 : Int), (0 : Int), (0 : Int)] (a5, r6) e7))) ?_
  refine q_k ?_
  refine tr_seq ?_
  obtain ⟨a9, e10, h⟩ := bind_some h
  obtain ⟨a11, e12, h⟩ := bind_some h
  obtain ⟨a13, e14, h⟩ := bind_some h
  obtain ⟨a15, e16, h⟩ := bind_some h
  refine tr_regd hT hM [(2, .call [] (.v (.agg [.arr .u64 4 a9])) []), (3, .call [] (.v (.agg [.arr .u64 4 a11])) []), (4, .call [] (.v (.agg [.arr .u64 4 a13])) []), (5, .call [] (.v (.agg [.arr .u64 4 a15])) []), (6, .key 3)] [.s 1, .s 2, .s 6, .h 0, .h 1, .h 3] [sO 1 (.ptr 0 0), sO 2 (.ptr 1 0), sO 6 (.ptr 3 0), hB 0 31 [.arr .u64 4 a1], hB 1 31 [.arr .u64 4 (List.replicate 4 0)], hB 3 31 [.arr .u64 4 a15]] [CallOk P 88 [.v (.agg [.arr .u64 4 a5])] [] (.v (.agg [.arr .u64 4 a9])) [], CallOk P 88 [.v (.agg [.arr .u64 4 a9])] [] (.v (.agg [.arr .u64 4 a11])) [], CallOk P 88 [.v (.agg [.arr .u64 4 a11])] [] (.v (.agg [.arr .u64 4 a13])) [], CallOk P 84 [.v (.agg [.arr .u64 4 a1]), .v (.agg [.arr .u64 4 a13])] [] (.v (.agg [.arr .u64 4 a15])) []] (by kernel_rfl) (hcons (ref04_half_ok a5 a9 e10) (hcons (ref04_half_ok a9 a11 e12) (hcons (ref04_half_ok a11 a13 e14) (hone (ref04_Pow_ok a1 a13 a15 e16))))) ?_
  refine q_k ?_
  refine tr_seq ?_
  refine tr_seq ?_
  obtain ⟨a17, e18, h⟩ := bind_some h
  refine tr_regd hT hM [(2, .call [] (.v (.agg [.arr .u64 4 a17])) [])] [.s 1, .s 2, .s 6, .s 27, .h 0, .h 1, .h 3] [sO 1 (.ptr 0 0), sO 2 (.ptr 1 0), sO 6 (.ptr 3 0), sB 27 (!(decide (a17 = a1))), hB 0 31 [.arr .u64 4 a1], hB 1 31 [.arr .u64 4 (List.replicate 4 0)], hB 3 31 [.arr .u64 4 a15]] [CallOk P 49 [.v (.agg [.arr .u64 4 a15]), .v (.agg [.arr .u64 4 a15])] [] (.v (.agg [.arr .u64 4 a17])) []] (by kernel_rfl) (hone (ref04_Mul_ok a15 a15 a17 e18)) ?_
  refine q_k ?_
  obtain ⟨m19, e43, h⟩ := bind_some h
  refine tr_join (σ1 := [sO 1 (.ptr 0 0), sO 2 (.ptr 1 0), sO 6 (.ptr 3 0), hB 0 31 [.arr .u64 4 a1], hB 1 31 [.arr .u64 4 (List.replicate 4 0)], hB 3 31 [.arr .u64 4 m19]]) ?_ ?_
  · skip
    replace h : ((ref04_Mul m19 m19).bind (fun a35 => if (!(decide (a35 = a1))) = true then some ((List.replicate 4 0), false) else (show Option (List Int) from if ((band .u64 (m19.getD 0 0) (1 : Int)) == (1 : Int)) = true then (ref04_Sub (List.replicate 4 0) m19).bind (fun a40 => some a40) else some m19).bind (fun m38 => some (m38, true)))) = _ := h
    refine q_k ?_
    refine tr_seq ?_
    refine tr_seq ?_
    obtain ⟨a35, e36, h⟩ := bind_some h
    refine tr_regd hT hM [(2, .call [] (.v (.agg [.arr .u64 4 a35])) [])] [.s 2, .s 6, .s 45, .h 1, .h 3] [sO 2 (.ptr 1 0), sO 6 (.ptr 3 0), sB 45 (!(decide (a35 = a1))), hB 1 31 [.arr .u64 4 (List.replicate 4 0)], hB 3 31 [.arr .u64 4 m19]] [CallOk P 49 [.v (.agg [.arr .u64 4 m19]), .v (.agg [.arr .u64 4 m19])] [] (.v (.agg [.arr .u64 4 a35])) []] (by kernel_rfl) (hone (ref04_Mul_ok m19 m19 a35 e36)) ?_
    refine q_k ?_
    rcases ite_split h with ⟨hc37, h⟩ | ⟨hc37, h⟩
    · refine tr_cond_t (!(decide (a35 = a1))) (by kernel_rfl) hc37 ?_
      refine tr_seq ?_
      refine tr_reg hT [] [.s 2, .s 3, .h 1] [sO 2 (.ptr 1 0), sB 3 false, hB 1 31 [.arr .u64 4 (List.replicate 4 0)]] [] (by kernel_rfl) trivial ?_
      refine q_k ?_
      refine tr_ret ?_
      refine q_k_ret ?_
      have h := Option.some.inj h
      subst h
      exact q_ret0 hT (.tup [.agg [.arr .u64 4 (List.replicate 4 0)], .one (.bool false)]) rfl (by kernel_rfl)
    · refine tr_cond_f (!(decide (a35 = a1))) (by kernel_rfl) hc37 ?_
      refine tr_skip ?_
      refine q_k ?_
      refine tr_seq ?_
      refine tr_seq ?_
      refine tr_reg hT [] [.s 2, .s 6, .s 50, .h 1, .h 3] [sO 2 (.ptr 1 0), sO 6 (.ptr 3 0), sB 50 ((band .u64 (m19.getD 0 0) (1 : Int)) == (1 : Int)), hB 1 31 [.arr .u64 4 (List.replicate 4 0)], hB 3 31 [.arr .u64 4 m19]] [0 ≤ (0 : Int) ∧ (0 : Int) < ((4 : Nat) : Int)] (by kernel_rfl) (hone (by decide)) ?_
      refine q_k ?_
      obtain ⟨m38, e42, h⟩ := bind_some h
      refine tr_join (σ1 := [sO 2 (.ptr 1 0), sO 6 (.ptr 3 0), hB 1 31 [.arr .u64 4 (List.replicate 4 0)], hB 3 31 [.arr .u64 4 m38]]) ?_ ?_
      · skip
        replace h : (some (m38, true)) = _ := h
        refine q_k ?_
        refine tr_seq ?_
        refine tr_reg hT [] [.s 2, .s 3, .h 1] [sO 2 (.ptr 1 0), sB 3 true, hB 1 31 [.arr .u64 4 m38]] [] (by kernel_rfl) trivial ?_
        refine q_k ?_
        refine tr_ret ?_
        have h := Option.some.inj h
        subst h
        exact q_ret0 hT (.tup [.agg [.arr .u64 4 m38], .one (.bool true)]) rfl (by kernel_rfl)
      · intro hj1
        clear h
        have h := e42
        clear e42
        rcases ite_split h with ⟨hc39, h⟩ | ⟨hc39, h⟩
        · refine tr_cond_t ((band .u64 (m19.getD 0 0) (1 : Int)) == (1 : Int)) (by kernel_rfl) hc39 ?_
          obtain ⟨a40, e41, h⟩ := bind_some h
          refine tr_reg hT [(2, .call [] (.v (.agg [.arr .u64 4 a40])) [])] [.s 2, .s 6, .h 1, .h 3] [sO 2 (.ptr 1 0), sO 6 (.ptr 3 0), hB 1 31 [.arr .u64 4 (List.replicate 4 0)], hB 3 31 [.arr .u64 4 a40]] [CallOk P 48 [.v (.agg [.arr .u64 4 (List.replicate 4 0)]), .v (.agg [.arr .u64 4 m19])] [] (.v (.agg [.arr .u64 4 a40])) []] (by kernel_rfl) (hone (ref04_Sub_ok (List.replicate 4 0) m19 a40 e41)) ?_
          have h := Option.some.inj h
          subst h
          exact q_less [.s 2, .s 6, .h 1, .h 3] [sO 2 (.ptr 1 0), sO 6 (.ptr 3 0), hB 1 31 [.arr .u64 4 (List.replicate 4 0)], hB 3 31 [.arr .u64 4 a40]] (by kernel_rfl) hj1
        · refine tr_cond_f ((band .u64 (m19.getD 0 0) (1 : Int)) == (1 : Int)) (by kernel_rfl) hc39 ?_
          refine tr_skip ?_
          have h := Option.some.inj h
          subst h
          exact q_less [.s 2, .s 6, .h 1, .h 3] [sO 2 (.ptr 1 0), sO 6 (.ptr 3 0), hB 1 31 [.arr .u64 4 (List.replicate 4 0)], hB 3 31 [.arr .u64 4 m19]] (by kernel_rfl) hj1
  · intro hj0
    clear h
    have h := e43
    clear e43
    rcases ite_split h with ⟨hc20, h⟩ | ⟨hc20, h⟩
    · refine tr_cond_t (!(decide (a17 = a1))) (by kernel_rfl) hc20 ?_
      refine tr_seq ?_
      obtain ⟨a21, e22, h⟩ := bind_some h
      obtain ⟨⟨a23, r24⟩, e25, h⟩ := bind_some h
      refine tr_reg hT [(0, .call [] (.v (.agg [.arr .u64 4 a21])) []), (2, .call [] (.tup [.agg [.arr .u64 4 a23], .one (.int .u64 r24)]) []), (6, .key 44)] [.s 1, .s 2, .s 6, .s 7, .h 0, .h 1, .h 3, .h 44] [sO 1 (.ptr 0 0), sO 2 (.ptr 1 0), sO 6 (.ptr 3 0), sO 7 (.ptr 44 0), hB 0 31 [.arr .u64 4 a1], hB 1 31 [.arr .u64 4 (List.replicate 4 0)], hB 3 31 [.arr .u64 4 a15], hB 44 31 [.arr .u64 4 a23]] [CallOk P 43 [] [] (.v (.agg [.arr .u64 4 a21])) [], CallOk P 81 [.v (.agg [.arr .u64 4 a21]), .v (.agg [.arr .u64 4 [(1 : Int), (0 : Int), (0 : Int), (0 : Int)]])] [] (.tup [.agg [.arr .u64 4 a23], .one (.int .u64 r24)]) []] (by kernel_rfl) (hcons (ref04_P_ok  a21 e22) (hone (ref04_sub_ok a21 [(1 : Int), (0 : Int), (0 : Int), (0 : Int)] (a23, r24) e25))) ?_
      refine q_k ?_
      obtain ⟨a27, e28, h⟩ := bind_some h
      obtain ⟨a29, e30, h⟩ := bind_some h
      obtain ⟨a31, e32, h⟩ := bind_some h
      obtain ⟨a33, e34, h⟩ := bind_some h
      refine tr_regd hT hM [(3, .call [] (.v (.agg [.arr .u64 4 a27])) []), (4, .call [] (.v (.agg [.arr .u64 4 a29])) []), (5, .call [] (.v (.agg [.arr .u64 4 a31])) []), (6, .call [] (.v (.agg [.arr .u64 4 a33])) [])] [.s 1, .s 2, .s 6, .h 0, .h 1, .h 3] [sO 1 (.ptr 0 0), sO 2 (.ptr 1 0), sO 6 (.ptr 3 0), hB 0 31 [.arr .u64 4 a1], hB 1 31 [.arr .u64 4 (List.replicate 4 0)], hB 3 31 [.arr .u64 4 a33]] [CallOk P 88 [.v (.agg [.arr .u64 4 a23])] [] (.v (.agg [.arr .u64 4 a27])) [], CallOk P 88 [.v (.agg [.arr .u64 4 a27])] [] (.v (.agg [.arr .u64 4 a29])) [], CallOk P 84 [.v (.agg [.arr .u64 4 [(2 : Int), (0 : Int), (0 : Int), (0 : Int)]]), .v (.agg [.arr .u64 4 a29])] [] (.v (.agg [.arr .u64 4 a31])) [], CallOk P 49 [.v (.agg [.arr .u64 4 a15]), .v (.agg [.arr .u64 4 a31])] [] (.v (.agg [.arr .u64 4 a33])) []] (by kernel_rfl) (hcons (ref04_half_ok a23 a27 e28) (hcons (ref04_half_ok a27 a29 e30) (hcons (ref04_Pow_ok [(2 : Int), (0 : Int), (0 : Int), (0 : Int)] a29 a31 e32) (hone (ref04_Mul_ok a15 a31 a33 e34))))) ?_
      have h := Option.some.inj h
      subst h
      exact q_less [.s 1, .s 2, .s 6, .h 0, .h 1, .h 3] [sO 1 (.ptr 0 0), sO 2 (.ptr 1 0), sO 6 (.ptr 3 0), hB 0 31 [.arr .u64 4 a1], hB 1 31 [.arr .u64 4 (List.replicate 4 0)], hB 3 31 [.arr .u64 4 a33]] (by kernel_rfl) hj0
    · refine tr_cond_f (!(decide (a17 = a1))) (by kernel_rfl) hc20 ?_
      refine tr_skip ?_
      have h := Option.some.inj h
      subst h
      exact q_less [.s 1, .s 2, .s 6, .h 0, .h 1, .h 3] [sO 1 (.ptr 0 0), sO 2 (.ptr 1 0), sO 6 (.ptr 3 0), hB 0 31 [.arr .u64 4 a1], hB 1 31 [.arr .u64 4 (List.replicate 4 0)], hB 3 31 [.arr .u64 4 a15]] (by kernel_rfl) hj0

theorem curve_bend_ok (r : List Int) (h : curve_bend = some r) {pre : List (Nat × Ent)} : CallOk P 107 [] pre (.v (.agg [.arr .u64 5 r])) [] := by
  refine call0 (N := 3) Try.func107 (by kernel_rfl) rfl rfl rfl pre ?_
  intro _ w
  show Tr P (Ge w) 3 _ _ _ (RetQ P Try.f107 (R0 _ w))
  unfold curve_bend at h
  refine tr_seq ?_
  refine tr_reg hT [(0, .key 0)] [.s 0, .h 0] [sO 0 (.ptr 0 0), hB 0 71 [.arr .u64 5 (List.replicate 5 0)]] [] (by kernel_rfl) trivial ?_
  refine q_k ?_
  refine tr_seq ?_
  obtain ⟨a1, e2, h⟩ := bind_some h
  refine tr_reg hT [(1, .call [] (.v (.agg [.arr .u64 5 a1])) [])] [.s 0, .h 0] [sO 0 (.ptr 0 0), hB 0 71 [.arr .u64 5 a1]] [CallOk P 72 [.v (.agg [.arr .u8 32 [(163 : Int), (120 : Int), (89 : Int), (19 : Int), (202 : Int), (77 : Int), (235 : Int), (117 : Int), (171 : Int), (216 : Int), (65 : Int), (65 : Int), (77 : Int), (10 : Int), (112 : Int), (0 : Int), (152 : Int), (232 : Int), (121 : Int), (119 : Int), (121 : Int), (64 : Int), (199 : Int), (140 : Int), (115 : Int), (254 : Int), (111 : Int), (43 : Int), (238 : Int), (108 : Int), (3 : Int), (82 : Int)]])] [] (.v (.agg [.arr .u64 5 a1])) []] (by kernel_rfl) (hone (limb_Of_ok [(163 : Int), (120 : Int), (89 : Int), (19 : Int), (202 : Int), (77 : Int), (235 : Int), (117 : Int), (171 : Int), (216 : Int), (65 : Int), (65 : Int), (77 : Int), (10 : Int), (112 : Int), (0 : Int), (152 : Int), (232 : Int), (121 : Int), (119 : Int), (121 : Int), (64 : Int), (199 : Int), (140 : Int), (115 : Int), (254 : Int), (111 : Int), (43 : Int), (238 : Int), (108 : Int), (3 : Int), (82 : Int)] a1 e2)) ?_
  refine q_k ?_
  refine tr_ret ?_
  have h := Option.some.inj h
  subst h
  exact q_ret0 hT (.v (.agg [.arr .u64 5 a1])) rfl (by kernel_rfl)

theorem curve_unpacked_ok (b_0 : List Int) (r : List Int × List Int × List Int × List Int × Bool) (h : curve_unpacked b_0 = some r) {pre : List (Nat × Ent)} : CallOk P 92 [.v (.agg [.arr .u8 32 b_0])] pre (.tup [.agg [.arr .u64 5 r.1, .arr .u64 5 r.2.1, .arr .u64 5 r.2.2.1, .arr .u64 5 r.2.2.2.1], .one (.bool r.2.2.2.2)]) [] := by
  refine call0 (N := 66) Try.func92 (by kernel_rfl) rfl rfl rfl pre ?_
  intro _ w
  show Tr P (Ge w) 66 _ _ _ (RetQ P Try.f92 (R0 _ w))
  unfold curve_unpacked at h
  refine tr_seq ?_
  refine tr_reg hT [(0, .key 0), (1, .key 1)] [.s 1, .s 2, .h 0, .h 1] [sO 1 (.ptr 0 0), sO 2 (.ptr 1 0), hB 0 22 [.arr .u8 32 b_0], hB 1 87 [.arr .u64 5 (List.replicate 5 0), .arr .u64 5 (List.replicate 5 0), .arr .u64 5 (List.replicate 5 0), .arr .u64 5 (List.replicate 5 0)]] [] (by kernel_rfl) trivial ?_
  refine q_k ?_
  refine tr_seq ?_
  refine tr_reg hT [] [.s 1, .s 2, .s 4, .h 0, .h 1] [sO 1 (.ptr 0 0), sO 2 (.ptr 1 0), sB 4 ((shr .u8 (b_0.getD 31 0) (7 : Int)) == (1 : Int)), hB 0 22 [.arr .u8 32 b_0], hB 1 87 [.arr .u64 5 (List.replicate 5 0), .arr .u64 5 (List.replicate 5 0), .arr .u64 5 (List.replicate 5 0), .arr .u64 5 (List.replicate 5 0)]] [0 ≤ (31 : Int) ∧ (31 : Int) < ((32 : Nat) : Int), 0 ≤ (7 : Int)] (by kernel_rfl) (hcons (by decide) (hone (by decide))) ?_
  refine q_k ?_
  refine tr_seq ?_
  refine tr_reg hT [] [.s 1, .s 2, .s 4, .h 0, .h 1] [sO 1 (.ptr 0 0), sO 2 (.ptr 1 0), sB 4 ((shr .u8 (b_0.getD 31 0) (7 : Int)) == (1 : Int)), hB 0 22 [.arr .u8 32 (b_0.set 31 (band .u8 (b_0.getD 31 0) (127 : Int)))], hB 1 87 [.arr .u64 5 (List.replicate 5 0), .arr .u64 5 (List.replicate 5 0), .arr .u64 5 (List.replicate 5 0), .arr .u64 5 (List.replicate 5 0)]] [0 ≤ (31 : Int) ∧ (31 : Int) < ((32 : Nat) : Int), 0 ≤ (31 : Int) ∧ (31 : Int) < ((32 : Nat) : Int)] (by kernel_rfl) (hcons (by decide) (hone (by decide))) ?_
  refine q_k ?_
  refine tr_seq ?_
  obtain ⟨a1, e2, h⟩ := bind_some h
  refine tr_reg hT [(1, .call [] (.v (.agg [.arr .u64 5 a1])) []), (2, .key 2)] [.s 1, .s 2, .s 4, .s 5, .h 0, .h 1, .h 2] [sO 1 (.ptr 0 0), sO 2 (.ptr 1 0), sB 4 ((shr .u8 (b_0.getD 31 0) (7 : Int)) == (1 : Int)), sO 5 (.ptr 2 0), hB 0 22 [.arr .u8 32 (b_0.set 31 (band .u8 (b_0.getD 31 0) (127 : Int)))], hB 1 87 [.arr .u64 5 (List.replicate 5 0), .arr .u64 5 (List.replicate 5 0), .arr .u64 5 (List.replicate 5 0), .arr .u64 5 (List.replicate 5 0)], hB 2 71 [.arr .u64 5 a1]] [CallOk P 72 [.v (.agg [.arr .u8 32 (b_0.set 31 (band .u8 (b_0.getD 31 0) (127 : Int)))])] [] (.v (.agg [.arr .u64 5 a1])) []] (by kernel_rfl) (hone (limb_Of_ok (b_0.set 31 (band .u8 (b_0.getD 31 0) (127 : Int))) a1 e2)) ?_
  refine q_k ?_
  refine tr_seq ?_
  refine tr_seq ?_
  obtain ⟨a3, e4, h⟩ := bind_some h
  refine tr_regd hT hM [(1, .call [] (.v (.agg [.arr .u8 32 a3])) [])] [.s 2, .s 4, .s 5, .s 22, .h 1, .h 2] [sO 2 (.ptr 1 0), sB 4 ((shr .u8 (b_0.getD 31 0) (7 : Int)) == (1 : Int)), sO 5 (.ptr 2 0), sB 22 (!(decide (a3 = (b_0.set 31 (band .u8 (b_0.getD 31 0) (127 : Int)))))), hB 1 87 [.arr .u64 5 (List.replicate 5 0), .arr .u64 5 (List.replicate 5 0), .arr .u64 5 (List.replicate 5 0), .arr .u64 5 (List.replicate 5 0)], hB 2 71 [.arr .u64 5 a1]] [CallOk P 73 [.v (.agg [.arr .u64 5 a1])] [] (.v (.agg [.arr .u8 32 a3])) []] (by kernel_rfl) (hone (limb_N_Bytes_ok a1 a3 e4)) ?_
  refine q_k ?_
  rcases ite_split h with ⟨hc5, h⟩ | ⟨hc5, h⟩
  · refine tr_cond_t (!(decide (a3 = (b_0.set 31 (band .u8 (b_0.getD 31 0) (127 : Int)))))) (by kernel_rfl) hc5 ?_
    refine tr_seq ?_
    refine tr_reg hT [] [.s 2, .s 3, .h 1] [sO 2 (.ptr 1 0), sB 3 false, hB 1 87 [.arr .u64 5 (List.replicate 5 0), .arr .u64 5 (List.replicate 5 0), .arr .u64 5 (List.replicate 5 0), .arr .u64 5 (List.replicate 5 0)]] [] (by kernel_rfl) trivial ?_
    refine q_k ?_
    refine tr_ret ?_
    refine q_k_ret ?_
    have h := Option.some.inj h
    subst h
    exact q_ret0 hT (.tup [.agg [.arr .u64 5 (List.replicate 5 0), .arr .u64 5 (List.replicate 5 0), .arr .u64 5 (List.replicate 5 0), .arr .u64 5 (List.replicate 5 0)], .one (.bool false)]) rfl (by kernel_rfl)
  · refine tr_cond_f (!(decide (a3 = (b_0.set 31 (band .u8 (b_0.getD 31 0) (127 : Int)))))) (by kernel_rfl) hc5 ?_
    refine tr_skip ?_
    refine q_k ?_
    refine tr_seq ?_
    obtain ⟨a6, e7, h⟩ := bind_some h
    refine tr_reg hT [(2, .call [] (.v (.agg [.arr .u64 5 a6])) []), (3, .key 3)] [.s 2, .s 4, .s 5, .s 6, .h 1, .h 2, .h 3] [sO 2 (.ptr 1 0), sB 4 ((shr .u8 (b_0.getD 31 0) (7 : Int)) == (1 : Int)), sO 5 (.ptr 2 0), sO 6 (.ptr 3 0), hB 1 87 [.arr .u64 5 (List.replicate 5 0), .arr .u64 5 (List.replicate 5 0), .arr .u64 5 (List.replicate 5 0), .arr .u64 5 (List.replicate 5 0)], hB 2 71 [.arr .u64 5 a1], hB 3 71 [.arr .u64 5 a6]] [CallOk P 74 [.v (.agg [.arr .u64 5 a1]), .v (.agg [.arr .u64 5 a1])] [] (.v (.agg [.arr .u64 5 a6])) []] (by kernel_rfl) (hone (limb_Mul_ok a1 a1 a6 e7)) ?_
    refine q_k ?_
    refine tr_seq ?_
    obtain ⟨a8, e9, h⟩ := bind_some h
    obtain ⟨a10, e11, h⟩ := bind_some h
    obtain ⟨a12, e13, h⟩ := bind_some h
    obtain ⟨a14, e15, h⟩ := bind_some h
    obtain ⟨a16, e17, h⟩ := bind_some h
    obtain ⟨a18, e19, h⟩ := bind_some h
    obtain ⟨a20, e21, h⟩ := bind_some h
    obtain ⟨a22, e23, h⟩ := bind_some h
    obtain ⟨⟨a24, b25⟩, e26, h⟩ := bind_some h
    refine tr_regd hT hM [(1, .call [] (.v (.agg [.arr .u64 5 a8])) []), (2, .call [] (.v (.agg [.arr .u64 5 a10])) []), (3, .call [] (.v (.agg [.arr .u64 5 a12])) []), (5, .call [] (.v (.agg [.arr .u64 5 a14])) []), (6, .call [] (.v (.agg [.arr .u64 5 a16])) []), (7, .call [] (.v (.agg [.arr .u64 5 a18])) []), (8, .call [] (.v (.agg [.arr .u64 5 a20])) []), (9, .call [] (.v (.agg [.arr .u64 5 a22])) []), (10, .call [] (.tup [.agg [.arr .u64 5 a24], .one (.bool b25)]) []), (14, .key 4)] [.s 2, .s 4, .s 5, .s 7, .s 8, .h 1, .h 2, .h 4] [sO 2 (.ptr 1 0), sB 4 ((shr .u8 (b_0.getD 31 0) (7 : Int)) == (1 : Int)), sO 5 (.ptr 2 0), sO 7 (.ptr 4 0), sB 8 b25, hB 1 87 [.arr .u64 5 (List.replicate 5 0), .arr .u64 5 (List.replicate 5 0), .arr .u64 5 (List.replicate 5 0), .arr .u64 5 (List.replicate 5 0)], hB 2 71 [.arr .u64 5 a1], hB 4 71 [.arr .u64 5 a24]] [CallOk P 87 [.v (.one (.int .u64 (1 : Int)))] [] (.v (.agg [.arr .u64 5 a8])) [], CallOk P 80 [.v (.agg [.arr .u64 5 a6]), .v (.agg [.arr .u64 5 a8])] [] (.v (.agg [.arr .u64 5 a10])) [], CallOk P 107 [] [] (.v (.agg [.arr .u64 5 a12])) [], CallOk P 74 [.v (.agg [.arr .u64 5 a12]), .v (.agg [.arr .u64 5 a6])] [] (.v (.agg [.arr .u64 5 a14])) [], CallOk P 87 [.v (.one (.int .u64 (1 : Int)))] [] (.v (.agg [.arr .u64 5 a16])) [], CallOk P 79 [.v (.agg [.arr .u64 5 a14]), .v (.agg [.arr .u64 5 a16])] [] (.v (.agg [.arr .u64 5 a18])) [], CallOk P 83 [.v (.agg [.arr .u64 5 a18])] [] (.v (.agg [.arr .u64 5 a20])) [], CallOk P 74 [.v (.agg [.arr .u64 5 a10]), .v (.agg [.arr .u64 5 a20])] [] (.v (.agg [.arr .u64 5 a22])) [], CallOk P 85 [.v (.agg [.arr .u64 5 a22])] [] (.tup [.agg [.arr .u64 5 a24], .one (.bool b25)]) []] (by kernel_rfl) (hcons (limb_Small_ok (1 : Int) a8 e9) (hcons (limb_Sub_ok a6 a8 a10 e11) (hcons (curve_bend_ok  a12 e13) (hcons (limb_Mul_ok a12 a6 a14 e15) (hcons (limb_Small_ok (1 : Int) a16 e17) (hcons (limb_Add_ok a14 a16 a18 e19) (hcons (limb_Inv_ok a18 a20 e21) (hcons (limb_Mul_ok a10 a20 a22 e23) (hone (limb_Root_ok a22 (a24, b25) e26)))))))))) ?_
    refine q_k ?_
    refine tr_seq ?_
    refine tr_seq ?_
    rcases ite_split h with ⟨hb28, h⟩ | ⟨hb29, h⟩
    · refine tr_regd hT hM [(2, .dec true)] [.s 2, .s 4, .s 5, .s 7, .s 50, .h 1, .h 2, .h 4] [sO 2 (.ptr 1 0), sB 4 ((shr .u8 (b_0.getD 31 0) (7 : Int)) == (1 : Int)), sO 5 (.ptr 2 0), sO 7 (.ptr 4 0), sB 50 true, hB 1 87 [.arr .u64 5 (List.replicate 5 0), .arr .u64 5 (List.replicate 5 0), .arr .u64 5 (List.replicate 5 0), .arr .u64 5 (List.replicate 5 0)], hB 2 71 [.arr .u64 5 a1], hB 4 71 [.arr .u64 5 a24]] [(!b25) = true] (by kernel_rfl) (hone hb28) ?_
      refine q_k ?_
      refine tr_cond_t true (by kernel_rfl) rfl ?_
      refine tr_seq ?_
      refine tr_reg hT [] [.s 2, .s 3, .h 1] [sO 2 (.ptr 1 0), sB 3 false, hB 1 87 [.arr .u64 5 (List.replicate 5 0), .arr .u64 5 (List.replicate 5 0), .arr .u64 5 (List.replicate 5 0), .arr .u64 5 (List.replicate 5 0)]] [] (by kernel_rfl) trivial ?_
      refine q_k ?_
      refine tr_ret ?_
      refine q_k_ret ?_
      have h := Option.some.inj h
      subst h
      exact q_ret0 hT (.tup [.agg [.arr .u64 5 (List.replicate 5 0), .arr .u64 5 (List.replicate 5 0), .arr .u64 5 (List.replicate 5 0), .arr .u64 5 (List.replicate 5 0)], .one (.bool false)]) rfl (by kernel_rfl)
    · rcases ite_split h with ⟨hb30, h⟩ | ⟨hb49, h⟩
      · obtain ⟨a31, e32, h⟩ := bind_some h
        obtain ⟨b33, e34, h⟩ := bind_some h
        refine tr_regd hT hM [(2, .dec false), (4, .dec true), (6, .call [] (.v (.agg [.arr .u64 5 a31])) []), (7, .call [] (.v (.one (.bool b33))) [])] [.s 2, .s 4, .s 5, .s 7, .s 50, .h 1, .h 2, .h 4] [sO 2 (.ptr 1 0), sB 4 ((shr .u8 (b_0.getD 31 0) (7 : Int)) == (1 : Int)), sO 5 (.ptr 2 0), sO 7 (.ptr 4 0), sB 50 b33, hB 1 87 [.arr .u64 5 (List.replicate 5 0), .arr .u64 5 (List.replicate 5 0), .arr .u64 5 (List.replicate 5 0), .arr .u64 5 (List.replicate 5 0)], hB 2 71 [.arr .u64 5 a1], hB 4 71 [.arr .u64 5 a24]] [(!b25) = false, ((shr .u8 (b_0.getD 31 0) (7 : Int)) == (1 : Int)) = true, CallOk P 87 [.v (.one (.int .u64 (0 : Int)))] [] (.v (.agg [.arr .u64 5 a31])) [], CallOk P 105 [.v (.agg [.arr .u64 5 a24]), .v (.agg [.arr .u64 5 a31])] [] (.v (.one (.bool b33))) []] (by kernel_rfl) (hcons hb29 (hcons hb30 (hcons (limb_Small_ok (0 : Int) a31 e32) (hone (limb_Same_ok a24 a31 b33 e34))))) ?_
        refine q_k ?_
        rcases ite_split h with ⟨hc35, h⟩ | ⟨hc35, h⟩
        · refine tr_cond_t b33 (by kernel_rfl) hc35 ?_
          refine tr_seq ?_
          refine tr_reg hT [] [.s 2, .s 3, .h 1] [sO 2 (.ptr 1 0), sB 3 false, hB 1 87 [.arr .u64 5 (List.replicate 5 0), .arr .u64 5 (List.replicate 5 0), .arr .u64 5 (List.replicate 5 0), .arr .u64 5 (List.replicate 5 0)]] [] (by kernel_rfl) trivial ?_
          refine q_k ?_
          refine tr_ret ?_
          refine q_k_ret ?_
          have h := Option.some.inj h
          subst h
          exact q_ret0 hT (.tup [.agg [.arr .u64 5 (List.replicate 5 0), .arr .u64 5 (List.replicate 5 0), .arr .u64 5 (List.replicate 5 0), .arr .u64 5 (List.replicate 5 0)], .one (.bool false)]) rfl (by kernel_rfl)
        · refine tr_cond_f b33 (by kernel_rfl) hc35 ?_
          refine tr_skip ?_
          refine q_k ?_
          refine tr_seq ?_
          refine tr_seq ?_
          obtain ⟨b36, e37, h⟩ := bind_some h
          refine tr_reg hT [(1, .call [] (.v (.one (.bool b36))) [])] [.s 2, .s 5, .s 7, .s 55, .h 1, .h 2, .h 4] [sO 2 (.ptr 1 0), sO 5 (.ptr 2 0), sO 7 (.ptr 4 0), sB 55 (!(b36 == ((shr .u8 (b_0.getD 31 0) (7 : Int)) == (1 : Int)))), hB 1 87 [.arr .u64 5 (List.replicate 5 0), .arr .u64 5 (List.replicate 5 0), .arr .u64 5 (List.replicate 5 0), .arr .u64 5 (List.replicate 5 0)], hB 2 71 [.arr .u64 5 a1], hB 4 71 [.arr .u64 5 a24]] [CallOk P 86 [.v (.agg [.arr .u64 5 a24])] [] (.v (.one (.bool b36))) []] (by kernel_rfl) (hone (limb_N_Odd_ok a24 b36 e37)) ?_
          refine q_k ?_
          obtain ⟨m38, e48, h⟩ := bind_some h
          refine tr_join (σ1 := [sO 2 (.ptr 1 0), sO 5 (.ptr 2 0), sO 7 (.ptr 4 0), hB 1 87 [.arr .u64 5 (List.replicate 5 0), .arr .u64 5 (List.replicate 5 0), .arr .u64 5 (List.replicate 5 0), .arr .u64 5 (List.replicate 5 0)], hB 2 71 [.arr .u64 5 a1], hB 4 71 [.arr .u64 5 m38]]) ?_ ?_
          · skip
            replace h : ((limb_Small (1 : Int)).bind (fun a44 => (limb_Mul m38 a1).bind (fun a46 => some (m38, a1, a44, a46, true)))) = _ := h
            refine q_k ?_
            refine tr_seq ?_
            obtain ⟨a44, e45, h⟩ := bind_some h
            obtain ⟨a46, e47, h⟩ := bind_some h
            refine tr_regd hT hM [(2, .call [] (.v (.agg [.arr .u64 5 a44])) []), (5, .call [] (.v (.agg [.arr .u64 5 a46])) [])] [.s 2, .s 3, .h 1] [sO 2 (.ptr 1 0), sB 3 true, hB 1 87 [.arr .u64 5 m38, .arr .u64 5 a1, .arr .u64 5 a44, .arr .u64 5 a46]] [CallOk P 87 [.v (.one (.int .u64 (1 : Int)))] [] (.v (.agg [.arr .u64 5 a44])) [], CallOk P 74 [.v (.agg [.arr .u64 5 m38]), .v (.agg [.arr .u64 5 a1])] [] (.v (.agg [.arr .u64 5 a46])) []] (by kernel_rfl) (hcons (limb_Small_ok (1 : Int) a44 e45) (hone (limb_Mul_ok m38 a1 a46 e47))) ?_
            refine q_k ?_
            refine tr_ret ?_
            have h := Option.some.inj h
            subst h
            exact q_ret0 hT (.tup [.agg [.arr .u64 5 m38, .arr .u64 5 a1, .arr .u64 5 a44, .arr .u64 5 a46], .one (.bool true)]) rfl (by kernel_rfl)
          · intro hj0
            clear h
            have h := e48
            clear e48
            rcases ite_split h with ⟨hc39, h⟩ | ⟨hc39, h⟩
            · refine tr_cond_t (!(b36 == ((shr .u8 (b_0.getD 31 0) (7 : Int)) == (1 : Int)))) (by kernel_rfl) hc39 ?_
              obtain ⟨a40, e41, h⟩ := bind_some h
              obtain ⟨a42, e43, h⟩ := bind_some h
              refine tr_regd hT hM [(0, .call [] (.v (.agg [.arr .u64 5 a40])) []), (2, .call [] (.v (.agg [.arr .u64 5 a42])) [])] [.s 2, .s 5, .s 7, .h 1, .h 2, .h 4] [sO 2 (.ptr 1 0), sO 5 (.ptr 2 0), sO 7 (.ptr 4 0), hB 1 87 [.arr .u64 5 (List.replicate 5 0), .arr .u64 5 (List.replicate 5 0), .arr .u64 5 (List.replicate 5 0), .arr .u64 5 (List.replicate 5 0)], hB 2 71 [.arr .u64 5 a1], hB 4 71 [.arr .u64 5 a42]] [CallOk P 87 [.v (.one (.int .u64 (0 : Int)))] [] (.v (.agg [.arr .u64 5 a40])) [], CallOk P 80 [.v (.agg [.arr .u64 5 a40]), .v (.agg [.arr .u64 5 a24])] [] (.v (.agg [.arr .u64 5 a42])) []] (by kernel_rfl) (hcons (limb_Small_ok (0 : Int) a40 e41) (hone (limb_Sub_ok a40 a24 a42 e43))) ?_
              have h := Option.some.inj h
              subst h
              exact q_less [.s 2, .s 5, .s 7, .h 1, .h 2, .h 4] [sO 2 (.ptr 1 0), sO 5 (.ptr 2 0), sO 7 (.ptr 4 0), hB 1 87 [.arr .u64 5 (List.replicate 5 0), .arr .u64 5 (List.replicate 5 0), .arr .u64 5 (List.replicate 5 0), .arr .u64 5 (List.replicate 5 0)], hB 2 71 [.arr .u64 5 a1], hB 4 71 [.arr .u64 5 a42]] (by kernel_rfl) hj0
            · refine tr_cond_f (!(b36 == ((shr .u8 (b_0.getD 31 0) (7 : Int)) == (1 : Int)))) (by kernel_rfl) hc39 ?_
              refine tr_skip ?_
              have h := Option.some.inj h
              subst h
              exact q_less [.s 2, .s 5, .s 7, .h 1, .h 2, .h 4] [sO 2 (.ptr 1 0), sO 5 (.ptr 2 0), sO 7 (.ptr 4 0), hB 1 87 [.arr .u64 5 (List.replicate 5 0), .arr .u64 5 (List.replicate 5 0), .arr .u64 5 (List.replicate 5 0), .arr .u64 5 (List.replicate 5 0)], hB 2 71 [.arr .u64 5 a1], hB 4 71 [.arr .u64 5 a24]] (by kernel_rfl) hj0
      · refine tr_regd hT hM [(2, .dec false), (4, .dec false)] [.s 2, .s 4, .s 5, .s 7, .s 50, .h 1, .h 2, .h 4] [sO 2 (.ptr 1 0), sB 4 ((shr .u8 (b_0.getD 31 0) (7 : Int)) == (1 : Int)), sO 5 (.ptr 2 0), sO 7 (.ptr 4 0), sB 50 false, hB 1 87 [.arr .u64 5 (List.replicate 5 0), .arr .u64 5 (List.replicate 5 0), .arr .u64 5 (List.replicate 5 0), .arr .u64 5 (List.replicate 5 0)], hB 2 71 [.arr .u64 5 a1], hB 4 71 [.arr .u64 5 a24]] [(!b25) = false, ((shr .u8 (b_0.getD 31 0) (7 : Int)) == (1 : Int)) = false] (by kernel_rfl) (hcons hb29 (hone hb49)) ?_
        refine q_k ?_
        refine tr_cond_f false (by kernel_rfl) rfl ?_
        refine tr_skip ?_
        refine q_k ?_
        refine tr_seq ?_
        refine tr_seq ?_
        obtain ⟨b50, e51, h⟩ := bind_some h
        refine tr_reg hT [(1, .call [] (.v (.one (.bool b50))) [])] [.s 2, .s 5, .s 7, .s 55, .h 1, .h 2, .h 4] [sO 2 (.ptr 1 0), sO 5 (.ptr 2 0), sO 7 (.ptr 4 0), sB 55 (!(b50 == ((shr .u8 (b_0.getD 31 0) (7 : Int)) == (1 : Int)))), hB 1 87 [.arr .u64 5 (List.replicate 5 0), .arr .u64 5 (List.replicate 5 0), .arr .u64 5 (List.replicate 5 0), .arr .u64 5 (List.replicate 5 0)], hB 2 71 [.arr .u64 5 a1], hB 4 71 [.arr .u64 5 a24]] [CallOk P 86 [.v (.agg [.arr .u64 5 a24])] [] (.v (.one (.bool b50))) []] (by kernel_rfl) (hone (limb_N_Odd_ok a24 b50 e51)) ?_
        refine q_k ?_
        obtain ⟨m52, e62, h⟩ := bind_some h
        refine tr_join (σ1 := [sO 2 (.ptr 1 0), sO 5 (.ptr 2 0), sO 7 (.ptr 4 0), hB 1 87 [.arr .u64 5 (List.replicate 5 0), .arr .u64 5 (List.replicate 5 0), .arr .u64 5 (List.replicate 5 0), .arr .u64 5 (List.replicate 5 0)], hB 2 71 [.arr .u64 5 a1], hB 4 71 [.arr .u64 5 m52]]) ?_ ?_
        · skip
          replace h : ((limb_Small (1 : Int)).bind (fun a58 => (limb_Mul m52 a1).bind (fun a60 => some (m52, a1, a58, a60, true)))) = _ := h
          refine q_k ?_
          refine tr_seq ?_
          obtain ⟨a58, e59, h⟩ := bind_some h
          obtain ⟨a60, e61, h⟩ := bind_some h
          refine tr_regd hT hM [(2, .call [] (.v (.agg [.arr .u64 5 a58])) []), (5, .call [] (.v (.agg [.arr .u64 5 a60])) [])] [.s 2, .s 3, .h 1] [sO 2 (.ptr 1 0), sB 3 true, hB 1 87 [.arr .u64 5 m52, .arr .u64 5 a1, .arr .u64 5 a58, .arr .u64 5 a60]] [CallOk P 87 [.v (.one (.int .u64 (1 : Int)))] [] (.v (.agg [.arr .u64 5 a58])) [], CallOk P 74 [.v (.agg [.arr .u64 5 m52]), .v (.agg [.arr .u64 5 a1])] [] (.v (.agg [.arr .u64 5 a60])) []] (by kernel_rfl) (hcons (limb_Small_ok (1 : Int) a58 e59) (hone (limb_Mul_ok m52 a1 a60 e61))) ?_
          refine q_k ?_
          refine tr_ret ?_
          have h := Option.some.inj h
          subst h
          exact q_ret0 hT (.tup [.agg [.arr .u64 5 m52, .arr .u64 5 a1, .arr .u64 5 a58, .arr .u64 5 a60], .one (.bool true)]) rfl (by kernel_rfl)
        · intro hj1
          clear h
          have h := e62
          clear e62
          rcases ite_split h with ⟨hc53, h⟩ | ⟨hc53, h⟩
          · refine tr_cond_t (!(b50 == ((shr .u8 (b_0.getD 31 0) (7 : Int)) == (1 : Int)))) (by kernel_rfl) hc53 ?_
            obtain ⟨a54, e55, h⟩ := bind_some h
            obtain ⟨a56, e57, h⟩ := bind_some h
            refine tr_regd hT hM [(0, .call [] (.v (.agg [.arr .u64 5 a54])) []), (2, .call [] (.v (.agg [.arr .u64 5 a56])) [])] [.s 2, .s 5, .s 7, .h 1, .h 2, .h 4] [sO 2 (.ptr 1 0), sO 5 (.ptr 2 0), sO 7 (.ptr 4 0), hB 1 87 [.arr .u64 5 (List.replicate 5 0), .arr .u64 5 (List.replicate 5 0), .arr .u64 5 (List.replicate 5 0), .arr .u64 5 (List.replicate 5 0)], hB 2 71 [.arr .u64 5 a1], hB 4 71 [.arr .u64 5 a56]] [CallOk P 87 [.v (.one (.int .u64 (0 : Int)))] [] (.v (.agg [.arr .u64 5 a54])) [], CallOk P 80 [.v (.agg [.arr .u64 5 a54]), .v (.agg [.arr .u64 5 a24])] [] (.v (.agg [.arr .u64 5 a56])) []] (by kernel_rfl) (hcons (limb_Small_ok (0 : Int) a54 e55) (hone (limb_Sub_ok a54 a24 a56 e57))) ?_
            have h := Option.some.inj h
            subst h
            exact q_less [.s 2, .s 5, .s 7, .h 1, .h 2, .h 4] [sO 2 (.ptr 1 0), sO 5 (.ptr 2 0), sO 7 (.ptr 4 0), hB 1 87 [.arr .u64 5 (List.replicate 5 0), .arr .u64 5 (List.replicate 5 0), .arr .u64 5 (List.replicate 5 0), .arr .u64 5 (List.replicate 5 0)], hB 2 71 [.arr .u64 5 a1], hB 4 71 [.arr .u64 5 a56]] (by kernel_rfl) hj1
          · refine tr_cond_f (!(b50 == ((shr .u8 (b_0.getD 31 0) (7 : Int)) == (1 : Int)))) (by kernel_rfl) hc53 ?_
            refine tr_skip ?_
            have h := Option.some.inj h
            subst h
            exact q_less [.s 2, .s 5, .s 7, .h 1, .h 2, .h 4] [sO 2 (.ptr 1 0), sO 5 (.ptr 2 0), sO 7 (.ptr 4 0), hB 1 87 [.arr .u64 5 (List.replicate 5 0), .arr .u64 5 (List.replicate 5 0), .arr .u64 5 (List.replicate 5 0), .arr .u64 5 (List.replicate 5 0)], hB 2 71 [.arr .u64 5 a1], hB 4 71 [.arr .u64 5 a24]] (by kernel_rfl) hj1

theorem curve_base_ok (r : List Int × List Int × List Int × List Int) (h : curve_base = some r) {pre : List (Nat × Ent)} : CallOk P 90 [] pre (.v (.agg [.arr .u64 5 r.1, .arr .u64 5 r.2.1, .arr .u64 5 r.2.2.1, .arr .u64 5 r.2.2.2])) [] := by
  refine call0 (N := 18) Try.func90 (by kernel_rfl) rfl rfl rfl pre ?_
  intro _ w
  show Tr P (Ge w) 18 _ _ _ (RetQ P Try.f90 (R0 _ w))
  unfold curve_base at h
  refine tr_seq ?_
  refine tr_reg hT [(0, .key 0)] [.s 0, .h 0] [sO 0 (.ptr 0 0), hB 0 87 [.arr .u64 5 (List.replicate 5 0), .arr .u64 5 (List.replicate 5 0), .arr .u64 5 (List.replicate 5 0), .arr .u64 5 (List.replicate 5 0)]] [] (by kernel_rfl) trivial ?_
  refine q_k ?_
  refine tr_seq ?_
  refine tr_reg hT [(1, .key 1)] [.s 0, .s 1, .h 0, .h 1] [sO 0 (.ptr 0 0), sO 1 (.ptr 1 0), hB 0 87 [.arr .u64 5 (List.replicate 5 0), .arr .u64 5 (List.replicate 5 0), .arr .u64 5 (List.replicate 5 0), .arr .u64 5 (List.replicate 5 0)], hB 1 22 [.arr .u8 32 ((List.replicate 32 0).set 0 (88 : Int))]] [] (by kernel_rfl) trivial ?_
  refine q_k ?_
  refine tr_seq ?_
  refine tr_seq ?_
  refine tr_reg hT [] [.s 0, .s 1, .s 2, .h 0, .h 1] [sO 0 (.ptr 0 0), sO 1 (.ptr 1 0), sI 2 .i64 (1 : Int), hB 0 87 [.arr .u64 5 (List.replicate 5 0), .arr .u64 5 (List.replicate 5 0), .arr .u64 5 (List.replicate 5 0), .arr .u64 5 (List.replicate 5 0)], hB 1 22 [.arr .u8 32 ((List.replicate 32 0).set 0 (88 : Int))]] [] (by kernel_rfl) trivial ?_
  refine q_k ?_
  refine tr_block ?_
  obtain ⟨m3, e6, h⟩ := bind_some h
  refine tr_fit [] [sO 0 (.ptr 0 0), sO 1 (.ptr 1 0), sI 2 .i64 (1 : Int), hB 0 87 [.arr .u64 5 (List.replicate 5 0), .arr .u64 5 (List.replicate 5 0), .arr .u64 5 (List.replicate 5 0), .arr .u64 5 (List.replicate 5 0)], hB 1 22 [.arr .u8 32 ((List.replicate 32 0).set 0 (88 : Int))]] [(0, .blk 87 [.arr .u64 5 (List.replicate 5 0), .arr .u64 5 (List.replicate 5 0), .arr .u64 5 (List.replicate 5 0), .arr .u64 5 (List.replicate 5 0)]), (1, .blk 22 [.arr .u8 32 ((List.replicate 32 0).set 0 (88 : Int))])] (by kernel_rfl) (by kernel_rfl) (by kernel_rfl) rfl ⟨.blk (by kernel_rfl) (by kernel_rfl), .blk (by kernel_rfl) (by kernel_rfl), trivial⟩ (by kernel_rfl) ?_
  refine tr_loop_fuel (id := 0) (α := List Int × Int) (β := List Int) (fun z => [sO 0 (.ptr 0 0), sO 1 (.ptr 1 0), sI 2 .i64 z.2, hB 0 87 [.arr .u64 5 (List.replicate 5 0), .arr .u64 5 (List.replicate 5 0), .arr .u64 5 (List.replicate 5 0), .arr .u64 5 (List.replicate 5 0)], hB 1 22 [.arr .u8 32 z.1]]) (fun z => [sO 0 (.ptr 0 0), sO 1 (.ptr 1 0), hB 0 87 [.arr .u64 5 (List.replicate 5 0), .arr .u64 5 (List.replicate 5 0), .arr .u64 5 (List.replicate 5 0), .arr .u64 5 (List.replicate 5 0)], hB 1 22 [.arr .u8 32 z]]) (fun k z => curve_base_l0 k z.1 z.2) m3 (fun _ => rfl) (((32 : Int) - (1 : Int)).toNat + 1) (((List.replicate 32 0).set 0 (88 : Int)), (1 : Int)) e6 ?_ ?_
  · skip
    replace h : ((curve_unpacked m3).bind (fun (a7, a8, a9, a10, b11) => some (a7, a8, a9, a10))) = _ := h
    refine q_b_this ?_
    refine q_k ?_
    refine tr_seq ?_
    obtain ⟨⟨a7, a8, a9, a10, b11⟩, e12, h⟩ := bind_some h
    refine tr_reg hT [(1, .call [] (.tup [.agg [.arr .u64 5 a7, .arr .u64 5 a8, .arr .u64 5 a9, .arr .u64 5 a10], .one (.bool b11)]) []), (5, .key 2)] [.s 0, .s 3, .h 0, .h 2] [sO 0 (.ptr 0 0), sO 3 (.ptr 2 0), hB 0 87 [.arr .u64 5 (List.replicate 5 0), .arr .u64 5 (List.replicate 5 0), .arr .u64 5 (List.replicate 5 0), .arr .u64 5 (List.replicate 5 0)], hB 2 87 [.arr .u64 5 a7, .arr .u64 5 a8, .arr .u64 5 a9, .arr .u64 5 a10]] [CallOk P 92 [.v (.agg [.arr .u8 32 m3])] [] (.tup [.agg [.arr .u64 5 a7, .arr .u64 5 a8, .arr .u64 5 a9, .arr .u64 5 a10], .one (.bool b11)]) []] (by kernel_rfl) (hone (curve_unpacked_ok m3 (a7, a8, a9, a10, b11) e12)) ?_
    refine q_k ?_
    refine tr_seq ?_
    refine tr_reg hT [] [.s 0, .h 0] [sO 0 (.ptr 0 0), hB 0 87 [.arr .u64 5 a7, .arr .u64 5 a8, .arr .u64 5 a9, .arr .u64 5 a10]] [] (by kernel_rfl) trivial ?_
    refine q_k ?_
    refine tr_ret ?_
    have h := Option.some.inj h
    subst h
    exact q_ret0 hT (.v (.agg [.arr .u64 5 a7, .arr .u64 5 a8, .arr .u64 5 a9, .arr .u64 5 a10])) rfl (by kernel_rfl)
  · clear h e6
    intro k ih0 hx0 z h
    obtain ⟨m1, i2⟩ := z
    replace h : (if (decide (i2 < (32 : Int))) = true then if 0 ≤ i2 ∧ i2 < ((32 : Nat) : Int) then curve_base_l0 k (m1.set i2.toNat (102 : Int)) (IntKind.i64.wrap (i2 + (1 : Int))) else none else some m1) = _ := h
    refine tr_seq ?_
    refine tr_seq ?_
    refine tr_reg hT [] [.s 0, .s 1, .s 2, .s 7, .h 0, .h 1] [sO 0 (.ptr 0 0), sO 1 (.ptr 1 0), sI 2 .i64 i2, sB 7 (decide (i2 < (32 : Int))), hB 0 87 [.arr .u64 5 (List.replicate 5 0), .arr .u64 5 (List.replicate 5 0), .arr .u64 5 (List.replicate 5 0), .arr .u64 5 (List.replicate 5 0)], hB 1 22 [.arr .u8 32 m1]] [] (by kernel_rfl) trivial ?_
    refine q_k ?_
    rcases ite_split h with ⟨hc4, h⟩ | ⟨hc4, h⟩
    · refine tr_cond_t (decide (i2 < (32 : Int))) (by kernel_rfl) hc4 ?_
      refine tr_skip ?_
      refine q_k ?_
      refine tr_seq ?_
      refine tr_block ?_
      obtain ⟨hn5, h⟩ := ite_some h
      refine tr_reg hT [] [.s 0, .s 1, .s 2, .h 0, .h 1] [sO 0 (.ptr 0 0), sO 1 (.ptr 1 0), sI 2 .i64 i2, hB 0 87 [.arr .u64 5 (List.replicate 5 0), .arr .u64 5 (List.replicate 5 0), .arr .u64 5 (List.replicate 5 0), .arr .u64 5 (List.replicate 5 0)], hB 1 22 [.arr .u8 32 (m1.set i2.toNat (102 : Int))]] [0 ≤ i2 ∧ i2 < ((32 : Nat) : Int)] (by kernel_rfl) (hone hn5) ?_
      refine q_b 1 ?_
      refine q_k ?_
      refine tr_reg hT [] [.s 0, .s 1, .s 2, .h 0, .h 1] [sO 0 (.ptr 0 0), sO 1 (.ptr 1 0), sI 2 .i64 (IntKind.i64.wrap (i2 + (1 : Int))), hB 0 87 [.arr .u64 5 (List.replicate 5 0), .arr .u64 5 (List.replicate 5 0), .arr .u64 5 (List.replicate 5 0), .arr .u64 5 (List.replicate 5 0)], hB 1 22 [.arr .u8 32 (m1.set i2.toNat (102 : Int))]] [] (by kernel_rfl) trivial ?_
      refine q_kr ?_
      exact trR_less [.s 0, .s 1, .s 2, .h 0, .h 1] [sO 0 (.ptr 0 0), sO 1 (.ptr 1 0), sI 2 .i64 (IntKind.i64.wrap (i2 + (1 : Int))), hB 0 87 [.arr .u64 5 (List.replicate 5 0), .arr .u64 5 (List.replicate 5 0), .arr .u64 5 (List.replicate 5 0), .arr .u64 5 (List.replicate 5 0)], hB 1 22 [.arr .u8 32 (m1.set i2.toNat (102 : Int))]] (by kernel_rfl) (ih0 ((m1.set i2.toNat (102 : Int)), (IntKind.i64.wrap (i2 + (1 : Int)))) h)
    · refine tr_cond_f (decide (i2 < (32 : Int))) (by kernel_rfl) hc4 ?_
      refine tr_exit ?_
      refine q_k_exit ?_
      refine q_kr_exit ?_
      have h := Option.some.inj h
      subst h
      exact q_less [.s 0, .s 1, .h 0, .h 1] [sO 0 (.ptr 0 0), sO 1 (.ptr 1 0), hB 0 87 [.arr .u64 5 (List.replicate 5 0), .arr .u64 5 (List.replicate 5 0), .arr .u64 5 (List.replicate 5 0), .arr .u64 5 (List.replicate 5 0)], hB 1 22 [.arr .u8 32 m1]] (by kernel_rfl) hx0

theorem curve_none_ok (r : List Int × List Int × List Int × List Int) (h : curve_none = some r) {pre : List (Nat × Ent)} : CallOk P 106 [] pre (.v (.agg [.arr .u64 5 r.1, .arr .u64 5 r.2.1, .arr .u64 5 r.2.2.1, .arr .u64 5 r.2.2.2])) [] := by
  refine call0 (N := 6) Try.func106 (by kernel_rfl) rfl rfl rfl pre ?_
  intro _ w
  show Tr P (Ge w) 6 _ _ _ (RetQ P Try.f106 (R0 _ w))
  unfold curve_none at h
  refine tr_seq ?_
  refine tr_reg hT [(0, .key 0)] [.s 0, .h 0] [sO 0 (.ptr 0 0), hB 0 87 [.arr .u64 5 (List.replicate 5 0), .arr .u64 5 (List.replicate 5 0), .arr .u64 5 (List.replicate 5 0), .arr .u64 5 (List.replicate 5 0)]] [] (by kernel_rfl) trivial ?_
  refine q_k ?_
  refine tr_seq ?_
  obtain ⟨a1, e2, h⟩ := bind_some h
  obtain ⟨a3, e4, h⟩ := bind_some h
  obtain ⟨a5, e6, h⟩ := bind_some h
  obtain ⟨a7, e8, h⟩ := bind_some h
  refine tr_reg hT [(0, .call [] (.v (.agg [.arr .u64 5 a1])) []), (1, .call [] (.v (.agg [.arr .u64 5 a3])) []), (2, .call [] (.v (.agg [.arr .u64 5 a5])) []), (3, .call [] (.v (.agg [.arr .u64 5 a7])) [])] [.s 0, .h 0] [sO 0 (.ptr 0 0), hB 0 87 [.arr .u64 5 a1, .arr .u64 5 a3, .arr .u64 5 a5, .arr .u64 5 a7]] [CallOk P 87 [.v (.one (.int .u64 (0 : Int)))] [] (.v (.agg [.arr .u64 5 a1])) [], CallOk P 87 [.v (.one (.int .u64 (1 : Int)))] [] (.v (.agg [.arr .u64 5 a3])) [], CallOk P 87 [.v (.one (.int .u64 (1 : Int)))] [] (.v (.agg [.arr .u64 5 a5])) [], CallOk P 87 [.v (.one (.int .u64 (0 : Int)))] [] (.v (.agg [.arr .u64 5 a7])) []] (by kernel_rfl) (hcons (limb_Small_ok (0 : Int) a1 e2) (hcons (limb_Small_ok (1 : Int) a3 e4) (hcons (limb_Small_ok (1 : Int) a5 e6) (hone (limb_Small_ok (0 : Int) a7 e8))))) ?_
  refine q_k ?_
  refine tr_ret ?_
  have h := Option.some.inj h
  subst h
  exact q_ret0 hT (.v (.agg [.arr .u64 5 a1, .arr .u64 5 a3, .arr .u64 5 a5, .arr .u64 5 a7])) rfl (by kernel_rfl)

theorem curve_plus_ok (p_0 : List Int) (p_1 : List Int) (p_2 : List Int) (p_3 : List Int) (q_4 : List Int) (q_5 : List Int) (q_6 : List Int) (q_7 : List Int) (twice_8 : List Int) (r : List Int × List Int × List Int × List Int) (h : curve_plus p_0 p_1 p_2 p_3 q_4 q_5 q_6 q_7 twice_8 = some r) {pre : List (Nat × Ent)} : CallOk P 108 [.v (.agg [.arr .u64 5 p_0, .arr .u64 5 p_1, .arr .u64 5 p_2, .arr .u64 5 p_3]), .v (.agg [.arr .u64 5 q_4, .arr .u64 5 q_5, .arr .u64 5 q_6, .arr .u64 5 q_7]), .v (.agg [.arr .u64 5 twice_8])] pre (.v (.agg [.arr .u64 5 r.1, .arr .u64 5 r.2.1, .arr .u64 5 r.2.2.1, .arr .u64 5 r.2.2.2])) [] := by
  refine call0 (N := 77) Try.func108 (by kernel_rfl) rfl rfl rfl pre ?_
  intro _ w
  show Tr P (Ge w) 77 _ _ _ (RetQ P Try.f108 (R0 _ w))
  unfold curve_plus at h
  refine tr_seq ?_
  refine tr_reg hT [(0, .key 0), (1, .key 1), (2, .key 2), (3, .key 3)] [.s 3, .s 4, .s 5, .s 6, .h 0, .h 1, .h 2, .h 3] [sO 3 (.ptr 0 0), sO 4 (.ptr 1 0), sO 5 (.ptr 2 0), sO 6 (.ptr 3 0), hB 0 87 [.arr .u64 5 p_0, .arr .u64 5 p_1, .arr .u64 5 p_2, .arr .u64 5 p_3], hB 1 87 [.arr .u64 5 q_4, .arr .u64 5 q_5, .arr .u64 5 q_6, .arr .u64 5 q_7], hB 2 71 [.arr .u64 5 twice_8], hB 3 87 [.arr .u64 5 (List.replicate 5 0), .arr .u64 5 (List.replicate 5 0), .arr .u64 5 (List.replicate 5 0), .arr .u64 5 (List.replicate 5 0)]] [] (by kernel_rfl) trivial ?_
  refine q_k ?_
  refine tr_seq ?_
  obtain ⟨a1, e2, h⟩ := bind_some h
  obtain ⟨a3, e4, h⟩ := bind_some h
  obtain ⟨a5, e6, h⟩ := bind_some h
  refine tr_regd hT hM [(4, .call [] (.v (.agg [.arr .u64 5 a1])) []), (9, .call [] (.v (.agg [.arr .u64 5 a3])) []), (10, .call [] (.v (.agg [.arr .u64 5 a5])) []), (11, .key 4)] [.s 3, .s 4, .s 5, .s 6, .s 7, .h 0, .h 1, .h 2, .h 3, .h 4] [sO 3 (.ptr 0 0), sO 4 (.ptr 1 0), sO 5 (.ptr 2 0), sO 6 (.ptr 3 0), sO 7 (.ptr 4 0), hB 0 87 [.arr .u64 5 p_0, .arr .u64 5 p_1, .arr .u64 5 p_2, .arr .u64 5 p_3], hB 1 87 [.arr .u64 5 q_4, .arr .u64 5 q_5, .arr .u64 5 q_6, .arr .u64 5 q_7], hB 2 71 [.arr .u64 5 twice_8], hB 3 87 [.arr .u64 5 (List.replicate 5 0), .arr .u64 5 (List.replicate 5 0), .arr .u64 5 (List.replicate 5 0), .arr .u64 5 (List.replicate 5 0)], hB 4 71 [.arr .u64 5 a5]] [CallOk P 80 [.v (.agg [.arr .u64 5 p_1]), .v (.agg [.arr .u64 5 p_0])] [] (.v (.agg [.arr .u64 5 a1])) [], CallOk P 80 [.v (.agg [.arr .u64 5 q_5]), .v (.agg [.arr .u64 5 q_4])] [] (.v (.agg [.arr .u64 5 a3])) [], CallOk P 74 [.v (.agg [.arr .u64 5 a1]), .v (.agg [.arr .u64 5 a3])] [] (.v (.agg [.arr .u64 5 a5])) []] (by kernel_rfl) (hcons (limb_Sub_ok p_1 p_0 a1 e2) (hcons (limb_Sub_ok q_5 q_4 a3 e4) (hone (limb_Mul_ok a1 a3 a5 e6)))) ?_
  refine q_k ?_
  refine tr_seq ?_
  obtain ⟨a7, e8, h⟩ := bind_some h
  obtain ⟨a9, e10, h⟩ := bind_some h
  obtain ⟨a11, e12, h⟩ := bind_some h
  refine tr_regd hT hM [(4, .call [] (.v (.agg [.arr .u64 5 a7])) []), (9, .call [] (.v (.agg [.arr .u64 5 a9])) []), (10, .call [] (.v (.agg [.arr .u64 5 a11])) []), (11, .key 5)] [.s 3, .s 4, .s 5, .s 6, .s 7, .s 8, .h 0, .h 1, .h 2, .h 3, .h 4, .h 5] [sO 3 (.ptr 0 0), sO 4 (.ptr 1 0), sO 5 (.ptr 2 0), sO 6 (.ptr 3 0), sO 7 (.ptr 4 0), sO 8 (.ptr 5 0), hB 0 87 [.arr .u64 5 p_0, .arr .u64 5 p_1, .arr .u64 5 p_2, .arr .u64 5 p_3], hB 1 87 [.arr .u64 5 q_4, .arr .u64 5 q_5, .arr .u64 5 q_6, .arr .u64 5 q_7], hB 2 71 [.arr .u64 5 twice_8], hB 3 87 [.arr .u64 5 (List.replicate 5 0), .arr .u64 5 (List.replicate 5 0), .arr .u64 5 (List.replicate 5 0), .arr .u64 5 (List.replicate 5 0)], hB 4 71 [.arr .u64 5 a5], hB 5 71 [.arr .u64 5 a11]] [CallOk P 79 [.v (.agg [.arr .u64 5 p_1]), .v (.agg [.arr .u64 5 p_0])] [] (.v (.agg [.arr .u64 5 a7])) [], CallOk P 79 [.v (.agg [.arr .u64 5 q_5]), .v (.agg [.arr .u64 5 q_4])] [] (.v (.agg [.arr .u64 5 a9])) [], CallOk P 74 [.v (.agg [.arr .u64 5 a7]), .v (.agg [.arr .u64 5 a9])] [] (.v (.agg [.arr .u64 5 a11])) []] (by kernel_rfl) (hcons (limb_Add_ok p_1 p_0 a7 e8) (hcons (limb_Add_ok q_5 q_4 a9 e10) (hone (limb_Mul_ok a7 a9 a11 e12)))) ?_
  refine q_k ?_
  refine tr_seq ?_
  obtain ⟨a13, e14, h⟩ := bind_some h
  obtain ⟨a15, e16, h⟩ := bind_some h
  refine tr_regd hT hM [(3, .call [] (.v (.agg [.arr .u64 5 a13])) []), (6, .call [] (.v (.agg [.arr .u64 5 a15])) []), (7, .key 6)] [.s 3, .s 4, .s 6, .s 7, .s 8, .s 9, .h 0, .h 1, .h 3, .h 4, .h 5, .h 6] [sO 3 (.ptr 0 0), sO 4 (.ptr 1 0), sO 6 (.ptr 3 0), sO 7 (.ptr 4 0), sO 8 (.ptr 5 0), sO 9 (.ptr 6 0), hB 0 87 [.arr .u64 5 p_0, .arr .u64 5 p_1, .arr .u64 5 p_2, .arr .u64 5 p_3], hB 1 87 [.arr .u64 5 q_4, .arr .u64 5 q_5, .arr .u64 5 q_6, .arr .u64 5 q_7], hB 3 87 [.arr .u64 5 (List.replicate 5 0), .arr .u64 5 (List.replicate 5 0), .arr .u64 5 (List.replicate 5 0), .arr .u64 5 (List.replicate 5 0)], hB 4 71 [.arr .u64 5 a5], hB 5 71 [.arr .u64 5 a11], hB 6 71 [.arr .u64 5 a15]] [CallOk P 74 [.v (.agg [.arr .u64 5 twice_8]), .v (.agg [.arr .u64 5 p_3])] [] (.v (.agg [.arr .u64 5 a13])) [], CallOk P 74 [.v (.agg [.arr .u64 5 a13]), .v (.agg [.arr .u64 5 q_7])] [] (.v (.agg [.arr .u64 5 a15])) []] (by kernel_rfl) (hcons (limb_Mul_ok twice_8 p_3 a13 e14) (hone (limb_Mul_ok a13 q_7 a15 e16))) ?_
  refine q_k ?_
  refine tr_seq ?_
  obtain ⟨a17, e18, h⟩ := bind_some h
  obtain ⟨a19, e20, h⟩ := bind_some h
  refine tr_regd hT hM [(4, .call [] (.v (.agg [.arr .u64 5 a17])) []), (7, .call [] (.v (.agg [.arr .u64 5 a19])) []), (8, .key 7)] [.s 6, .s 7, .s 8, .s 9, .s 10, .h 3, .h 4, .h 5, .h 6, .h 7] [sO 6 (.ptr 3 0), sO 7 (.ptr 4 0), sO 8 (.ptr 5 0), sO 9 (.ptr 6 0), sO 10 (.ptr 7 0), hB 3 87 [.arr .u64 5 (List.replicate 5 0), .arr .u64 5 (List.replicate 5 0), .arr .u64 5 (List.replicate 5 0), .arr .u64 5 (List.replicate 5 0)], hB 4 71 [.arr .u64 5 a5], hB 5 71 [.arr .u64 5 a11], hB 6 71 [.arr .u64 5 a15], hB 7 71 [.arr .u64 5 a19]] [CallOk P 79 [.v (.agg [.arr .u64 5 p_2]), .v (.agg [.arr .u64 5 p_2])] [] (.v (.agg [.arr .u64 5 a17])) [], CallOk P 74 [.v (.agg [.arr .u64 5 a17]), .v (.agg [.arr .u64 5 q_6])] [] (.v (.agg [.arr .u64 5 a19])) []] (by kernel_rfl) (hcons (limb_Add_ok p_2 p_2 a17 e18) (hone (limb_Mul_ok a17 q_6 a19 e20))) ?_
  refine q_k ?_
  refine tr_seq ?_
  obtain ⟨a21, e22, h⟩ := bind_some h
  obtain ⟨a23, e24, h⟩ := bind_some h
  obtain ⟨a25, e26, h⟩ := bind_some h
  obtain ⟨a27, e28, h⟩ := bind_some h
  refine tr_regd hT hM [(2, .call [] (.v (.agg [.arr .u64 5 a21])) []), (5, .call [] (.v (.agg [.arr .u64 5 a23])) []), (8, .call [] (.v (.agg [.arr .u64 5 a25])) []), (11, .call [] (.v (.agg [.arr .u64 5 a27])) []), (12, .key 8), (13, .key 9), (14, .key 10), (15, .key 11)] [.s 6, .s 11, .s 12, .s 13, .s 14, .h 3, .h 8, .h 9, .h 10, .h 11] [sO 6 (.ptr 3 0), sO 11 (.ptr 8 0), sO 12 (.ptr 9 0), sO 13 (.ptr 10 0), sO 14 (.ptr 11 0), hB 3 87 [.arr .u64 5 (List.replicate 5 0), .arr .u64 5 (List.replicate 5 0), .arr .u64 5 (List.replicate 5 0), .arr .u64 5 (List.replicate 5 0)], hB 8 71 [.arr .u64 5 a21], hB 9 71 [.arr .u64 5 a23], hB 10 71 [.arr .u64 5 a25], hB 11 71 [.arr .u64 5 a27]] [CallOk P 80 [.v (.agg [.arr .u64 5 a11]), .v (.agg [.arr .u64 5 a5])] [] (.v (.agg [.arr .u64 5 a21])) [], CallOk P 80 [.v (.agg [.arr .u64 5 a19]), .v (.agg [.arr .u64 5 a15])] [] (.v (.agg [.arr .u64 5 a23])) [], CallOk P 79 [.v (.agg [.arr .u64 5 a19]), .v (.agg [.arr .u64 5 a15])] [] (.v (.agg [.arr .u64 5 a25])) [], CallOk P 79 [.v (.agg [.arr .u64 5 a11]), .v (.agg [.arr .u64 5 a5])] [] (.v (.agg [.arr .u64 5 a27])) []] (by kernel_rfl) (hcons (limb_Sub_ok a11 a5 a21 e22) (hcons (limb_Sub_ok a19 a15 a23 e24) (hcons (limb_Add_ok a19 a15 a25 e26) (hone (limb_Add_ok a11 a5 a27 e28))))) ?_
  refine q_k ?_
  refine tr_seq ?_
  obtain ⟨a29, e30, h⟩ := bind_some h
  obtain ⟨a31, e32, h⟩ := bind_some h
  obtain ⟨a33, e34, h⟩ := bind_some h
  obtain ⟨a35, e36, h⟩ := bind_some h
  refine tr_regd hT hM [(2, .call [] (.v (.agg [.arr .u64 5 a29])) []), (5, .call [] (.v (.agg [.arr .u64 5 a31])) []), (8, .call [] (.v (.agg [.arr .u64 5 a33])) []), (11, .call [] (.v (.agg [.arr .u64 5 a35])) [])] [.s 6, .h 3] [sO 6 (.ptr 3 0), hB 3 87 [.arr .u64 5 a29, .arr .u64 5 a31, .arr .u64 5 a33, .arr .u64 5 a35]] [CallOk P 74 [.v (.agg [.arr .u64 5 a21]), .v (.agg [.arr .u64 5 a23])] [] (.v (.agg [.arr .u64 5 a29])) [], CallOk P 74 [.v (.agg [.arr .u64 5 a25]), .v (.agg [.arr .u64 5 a27])] [] (.v (.agg [.arr .u64 5 a31])) [], CallOk P 74 [.v (.agg [.arr .u64 5 a23]), .v (.agg [.arr .u64 5 a25])] [] (.v (.agg [.arr .u64 5 a33])) [], CallOk P 74 [.v (.agg [.arr .u64 5 a21]), .v (.agg [.arr .u64 5 a27])] [] (.v (.agg [.arr .u64 5 a35])) []] (by kernel_rfl) (hcons (limb_Mul_ok a21 a23 a29 e30) (hcons (limb_Mul_ok a25 a27 a31 e32) (hcons (limb_Mul_ok a23 a25 a33 e34) (hone (limb_Mul_ok a21 a27 a35 e36))))) ?_
  refine q_k ?_
  refine tr_ret ?_
  have h := Option.some.inj h
  subst h
  exact q_ret0 hT (.v (.agg [.arr .u64 5 a29, .arr .u64 5 a31, .arr .u64 5 a33, .arr .u64 5 a35])) rfl (by kernel_rfl)

theorem curve_times_ok (n_0 : List Int) (p_1 : List Int) (p_2 : List Int) (p_3 : List Int) (p_4 : List Int) (r : List Int × List Int × List Int × List Int) (h : curve_times n_0 p_1 p_2 p_3 p_4 = some r) {pre : List (Nat × Ent)} : CallOk P 89 [.v (.agg [.arr .u8 32 n_0]), .v (.agg [.arr .u64 5 p_1, .arr .u64 5 p_2, .arr .u64 5 p_3, .arr .u64 5 p_4])] pre (.v (.agg [.arr .u64 5 r.1, .arr .u64 5 r.2.1, .arr .u64 5 r.2.2.1, .arr .u64 5 r.2.2.2])) [] := by
  refine call0 (N := 34) Try.func89 (by kernel_rfl) rfl rfl rfl pre ?_
  intro _ w
  show Tr P (Ge w) 34 _ _ _ (RetQ P Try.f89 (R0 _ w))
  unfold curve_times at h
  refine tr_seq ?_
  refine tr_reg hT [(0, .key 0), (1, .key 1), (2, .key 2)] [.s 2, .s 3, .s 4, .h 0, .h 1, .h 2] [sO 2 (.ptr 0 0), sO 3 (.ptr 1 0), sO 4 (.ptr 2 0), hB 0 22 [.arr .u8 32 n_0], hB 1 87 [.arr .u64 5 p_1, .arr .u64 5 p_2, .arr .u64 5 p_3, .arr .u64 5 p_4], hB 2 87 [.arr .u64 5 (List.replicate 5 0), .arr .u64 5 (List.replicate 5 0), .arr .u64 5 (List.replicate 5 0), .arr .u64 5 (List.replicate 5 0)]] [] (by kernel_rfl) trivial ?_
  refine q_k ?_
  refine tr_seq ?_
  obtain ⟨⟨a1, a2, a3, a4⟩, e5, h⟩ := bind_some h
  obtain ⟨a7, e8, h⟩ := bind_some h
  obtain ⟨a9, e10, h⟩ := bind_some h
  obtain ⟨a11, e12, h⟩ := bind_some h
  refine tr_reg hT [(0, .call [] (.v (.agg [.arr .u64 5 a1, .arr .u64 5 a2, .arr .u64 5 a3, .arr .u64 5 a4])) []), (1, .call [] (.v (.agg [.arr .u64 5 a7])) []), (2, .call [] (.v (.agg [.arr .u64 5 a9])) []), (3, .call [] (.v (.agg [.arr .u64 5 a11])) []), (4, .key 3), (5, .key 4)] [.s 2, .s 3, .s 4, .s 5, .s 6, .h 0, .h 1, .h 2, .h 3, .h 4] [sO 2 (.ptr 0 0), sO 3 (.ptr 1 0), sO 4 (.ptr 2 0), sO 5 (.ptr 3 0), sO 6 (.ptr 4 0), hB 0 22 [.arr .u8 32 n_0], hB 1 87 [.arr .u64 5 p_1, .arr .u64 5 p_2, .arr .u64 5 p_3, .arr .u64 5 p_4], hB 2 87 [.arr .u64 5 (List.replicate 5 0), .arr .u64 5 (List.replicate 5 0), .arr .u64 5 (List.replicate 5 0), .arr .u64 5 (List.replicate 5 0)], hB 3 87 [.arr .u64 5 a1, .arr .u64 5 a2, .arr .u64 5 a3, .arr .u64 5 a4], hB 4 71 [.arr .u64 5 a11]] [CallOk P 106 [] [] (.v (.agg [.arr .u64 5 a1, .arr .u64 5 a2, .arr .u64 5 a3, .arr .u64 5 a4])) [], CallOk P 107 [] [] (.v (.agg [.arr .u64 5 a7])) [], CallOk P 107 [] [] (.v (.agg [.arr .u64 5 a9])) [], CallOk P 79 [.v (.agg [.arr .u64 5 a7]), .v (.agg [.arr .u64 5 a9])] [] (.v (.agg [.arr .u64 5 a11])) []] (by kernel_rfl) (hcons (curve_none_ok  (a1, a2, a3, a4) e5) (hcons (curve_bend_ok  a7 e8) (hcons (curve_bend_ok  a9 e10) (hone (limb_Add_ok a7 a9 a11 e12))))) ?_
  refine q_k ?_
  refine tr_seq ?_
  refine tr_seq ?_
  refine tr_reg hT [] [.s 2, .s 3, .s 4, .s 5, .s 6, .s 7, .h 0, .h 1, .h 2, .h 3, .h 4] [sO 2 (.ptr 0 0), sO 3 (.ptr 1 0), sO 4 (.ptr 2 0), sO 5 (.ptr 3 0), sO 6 (.ptr 4 0), sI 7 .i64 (255 : Int), hB 0 22 [.arr .u8 32 n_0], hB 1 87 [.arr .u64 5 p_1, .arr .u64 5 p_2, .arr .u64 5 p_3, .arr .u64 5 p_4], hB 2 87 [.arr .u64 5 (List.replicate 5 0), .arr .u64 5 (List.replicate 5 0), .arr .u64 5 (List.replicate 5 0), .arr .u64 5 (List.replicate 5 0)], hB 3 87 [.arr .u64 5 a1, .arr .u64 5 a2, .arr .u64 5 a3, .arr .u64 5 a4], hB 4 71 [.arr .u64 5 a11]] [] (by kernel_rfl) trivial ?_
  refine q_k ?_
  refine tr_block ?_
  obtain ⟨rr0, e38, h⟩ := bind_some h
  refine tr_fit [] [sO 2 (.ptr 0 0), sO 3 (.ptr 1 0), sO 4 (.ptr 2 0), sO 5 (.ptr 3 0), sO 6 (.ptr 4 0), sI 7 .i64 (255 : Int), hB 0 22 [.arr .u8 32 n_0], hB 1 87 [.arr .u64 5 p_1, .arr .u64 5 p_2, .arr .u64 5 p_3, .arr .u64 5 p_4], hB 2 87 [.arr .u64 5 (List.replicate 5 0), .arr .u64 5 (List.replicate 5 0), .arr .u64 5 (List.replicate 5 0), .arr .u64 5 (List.replicate 5 0)], hB 3 87 [.arr .u64 5 a1, .arr .u64 5 a2, .arr .u64 5 a3, .arr .u64 5 a4], hB 4 71 [.arr .u64 5 a11]] [(0, .blk 22 [.arr .u8 32 n_0]), (1, .blk 87 [.arr .u64 5 p_1, .arr .u64 5 p_2, .arr .u64 5 p_3, .arr .u64 5 p_4]), (2, .blk 87 [.arr .u64 5 (List.replicate 5 0), .arr .u64 5 (List.replicate 5 0), .arr .u64 5 (List.replicate 5 0), .arr .u64 5 (List.replicate 5 0)]), (3, .blk 87 [.arr .u64 5 a1, .arr .u64 5 a2, .arr .u64 5 a3, .arr .u64 5 a4]), (4, .blk 71 [.arr .u64 5 a11])] (by kernel_rfl) (by kernel_rfl) (by kernel_rfl) rfl ⟨.blk (by kernel_rfl) (by kernel_rfl), .blk (by kernel_rfl) (by kernel_rfl), .blk (by kernel_rfl) (by kernel_rfl), .blk (by kernel_rfl) (by kernel_rfl), .blk (by kernel_rfl) (by kernel_rfl), trivial⟩ (by kernel_rfl) ?_
  refine tr_loop_fuel (id := 0) (α := List Int × List Int × List Int × List Int × Int) (β := List Int × List Int × List Int × List Int) (fun z => [sO 2 (.ptr 0 0), sO 3 (.ptr 1 0), sO 4 (.ptr 2 0), sO 5 (.ptr 3 0), sO 6 (.ptr 4 0), sI 7 .i64 z.2.2.2.2, hB 0 22 [.arr .u8 32 n_0], hB 1 87 [.arr .u64 5 p_1, .arr .u64 5 p_2, .arr .u64 5 p_3, .arr .u64 5 p_4], hB 2 87 [.arr .u64 5 (List.replicate 5 0), .arr .u64 5 (List.replicate 5 0), .arr .u64 5 (List.replicate 5 0), .arr .u64 5 (List.replicate 5 0)], hB 3 87 [.arr .u64 5 z.1, .arr .u64 5 z.2.1, .arr .u64 5 z.2.2.1, .arr .u64 5 z.2.2.2.1], hB 4 71 [.arr .u64 5 a11]]) (fun z => [sO 4 (.ptr 2 0), sO 5 (.ptr 3 0), hB 2 87 [.arr .u64 5 (List.replicate 5 0), .arr .u64 5 (List.replicate 5 0), .arr .u64 5 (List.replicate 5 0), .arr .u64 5 (List.replicate 5 0)], hB 3 87 [.arr .u64 5 z.1, .arr .u64 5 z.2.1, .arr .u64 5 z.2.2.1, .arr .u64 5 z.2.2.2]]) (fun k z => curve_times_l0 n_0 p_1 p_2 p_3 p_4 a11 k z.1 z.2.1 z.2.2.1 z.2.2.2.1 z.2.2.2.2) rr0 (fun _ => rfl) (((255 : Int) - (0 : Int) + 1).toNat + 1) (a1, a2, a3, a4, (255 : Int)) e38 ?_ ?_
  · rcases rr0 with ⟨m18, m19, m20, m21⟩
    replace h : (some (m18, m19, m20, m21)) = _ := h
    refine q_b_this ?_
    refine q_k ?_
    refine tr_seq ?_
    refine tr_reg hT [] [.s 4, .h 2] [sO 4 (.ptr 2 0), hB 2 87 [.arr .u64 5 m18, .arr .u64 5 m19, .arr .u64 5 m20, .arr .u64 5 m21]] [] (by kernel_rfl) trivial ?_
    refine q_k ?_
    refine tr_ret ?_
    have h := Option.some.inj h
    subst h
    exact q_ret0 hT (.v (.agg [.arr .u64 5 m18, .arr .u64 5 m19, .arr .u64 5 m20, .arr .u64 5 m21])) rfl (by kernel_rfl)
  · clear h e38
    intro k ih0 hx0 z h
    obtain ⟨m13, m14, m15, m16, i17⟩ := z
    replace h : (if (decide (i17 ≥ (0 : Int))) = true then (curve_plus m13 m14 m15 m16 m13 m14 m15 m16 a11).bind (fun (a23, a24, a25, a26) => if 0 ≤ (IntKind.i64.wrap (i17.tdiv (8 : Int))) ∧ (IntKind.i64.wrap (i17.tdiv (8 : Int))) < ((32 : Nat) : Int) then if 0 ≤ (i17.tmod (8 : Int)) then if ((band .u8 (shr .u8 (n_0.getD (IntKind.i64.wrap (i17.tdiv (8 : Int))).toNat 0) (i17.tmod (8 : Int))) (1 : Int)) == (1 : Int)) = true then (curve_plus a23 a24 a25 a26 p_1 p_2 p_3 p_4 a11).bind (fun (a32, a33, a34, a35) => curve_times_l0 n_0 p_1 p_2 p_3 p_4 a11 k a32 a33 a34 a35 (IntKind.i64.wrap (i17 - (1 : Int)))) else curve_times_l0 n_0 p_1 p_2 p_3 p_4 a11 k a23 a24 a25 a26 (IntKind.i64.wrap (i17 - (1 : Int))) else none else none) else some (m13, m14, m15, m16)) = _ := h
    refine tr_seq ?_
    refine tr_seq ?_
    refine tr_reg hT [] [.s 2, .s 3, .s 4, .s 5, .s 6, .s 7, .s 13, .h 0, .h 1, .h 2, .h 3, .h 4] [sO 2 (.ptr 0 0), sO 3 (.ptr 1 0), sO 4 (.ptr 2 0), sO 5 (.ptr 3 0), sO 6 (.ptr 4 0), sI 7 .i64 i17, sB 13 (decide (i17 ≥ (0 : Int))), hB 0 22 [.arr .u8 32 n_0], hB 1 87 [.arr .u64 5 p_1, .arr .u64 5 p_2, .arr .u64 5 p_3, .arr .u64 5 p_4], hB 2 87 [.arr .u64 5 (List.replicate 5 0), .arr .u64 5 (List.replicate 5 0), .arr .u64 5 (List.replicate 5 0), .arr .u64 5 (List.replicate 5 0)], hB 3 87 [.arr .u64 5 m13, .arr .u64 5 m14, .arr .u64 5 m15, .arr .u64 5 m16], hB 4 71 [.arr .u64 5 a11]] [] (by kernel_rfl) trivial ?_
    refine q_k ?_
    rcases ite_split h with ⟨hc22, h⟩ | ⟨hc22, h⟩
    · refine tr_cond_t (decide (i17 ≥ (0 : Int))) (by kernel_rfl) hc22 ?_
      refine tr_skip ?_
      refine q_k ?_
      refine tr_seq ?_
      refine tr_block ?_
      refine tr_seq ?_
      obtain ⟨⟨a23, a24, a25, a26⟩, e27, h⟩ := bind_some h
      refine tr_reg hT [(3, .call [] (.v (.agg [.arr .u64 5 a23, .arr .u64 5 a24, .arr .u64 5 a25, .arr .u64 5 a26])) [])] [.s 2, .s 3, .s 4, .s 5, .s 6, .s 7, .h 0, .h 1, .h 2, .h 3, .h 4] [sO 2 (.ptr 0 0), sO 3 (.ptr 1 0), sO 4 (.ptr 2 0), sO 5 (.ptr 3 0), sO 6 (.ptr 4 0), sI 7 .i64 i17, hB 0 22 [.arr .u8 32 n_0], hB 1 87 [.arr .u64 5 p_1, .arr .u64 5 p_2, .arr .u64 5 p_3, .arr .u64 5 p_4], hB 2 87 [.arr .u64 5 (List.replicate 5 0), .arr .u64 5 (List.replicate 5 0), .arr .u64 5 (List.replicate 5 0), .arr .u64 5 (List.replicate 5 0)], hB 3 87 [.arr .u64 5 a23, .arr .u64 5 a24, .arr .u64 5 a25, .arr .u64 5 a26], hB 4 71 [.arr .u64 5 a11]] [CallOk P 108 [.v (.agg [.arr .u64 5 m13, .arr .u64 5 m14, .arr .u64 5 m15, .arr .u64 5 m16]), .v (.agg [.arr .u64 5 m13, .arr .u64 5 m14, .arr .u64 5 m15, .arr .u64 5 m16]), .v (.agg [.arr .u64 5 a11])] [] (.v (.agg [.arr .u64 5 a23, .arr .u64 5 a24, .arr .u64 5 a25, .arr .u64 5 a26])) []] (by kernel_rfl) (hone (curve_plus_ok m13 m14 m15 m16 m13 m14 m15 m16 a11 (a23, a24, a25, a26) e27)) ?_
      refine q_k ?_
      refine tr_seq ?_
      obtain ⟨hn29, h⟩ := ite_some h
      obtain ⟨hn30, h⟩ := ite_some h
      refine tr_reg hT [] [.s 2, .s 3, .s 4, .s 5, .s 6, .s 7, .s 28, .h 0, .h 1, .h 2, .h 3, .h 4] [sO 2 (.ptr 0 0), sO 3 (.ptr 1 0), sO 4 (.ptr 2 0), sO 5 (.ptr 3 0), sO 6 (.ptr 4 0), sI 7 .i64 i17, sB 28 ((band .u8 (shr .u8 (n_0.getD (IntKind.i64.wrap (i17.tdiv (8 : Int))).toNat 0) (i17.tmod (8 : Int))) (1 : Int)) == (1 : Int)), hB 0 22 [.arr .u8 32 n_0], hB 1 87 [.arr .u64 5 p_1, .arr .u64 5 p_2, .arr .u64 5 p_3, .arr .u64 5 p_4], hB 2 87 [.arr .u64 5 (List.replicate 5 0), .arr .u64 5 (List.replicate 5 0), .arr .u64 5 (List.replicate 5 0), .arr .u64 5 (List.replicate 5 0)], hB 3 87 [.arr .u64 5 a23, .arr .u64 5 a24, .arr .u64 5 a25, .arr .u64 5 a26], hB 4 71 [.arr .u64 5 a11]] [(8 : Int) ≠ 0, 0 ≤ (IntKind.i64.wrap (i17.tdiv (8 : Int))) ∧ (IntKind.i64.wrap (i17.tdiv (8 : Int))) < ((32 : Nat) : Int), (8 : Int) ≠ 0, 0 ≤ (i17.tmod (8 : Int))] (by kernel_rfl) (hcons (by decide) (hcons hn29 (hcons (by decide) (hone hn30)))) ?_
      refine q_k ?_
      rcases ite_split h with ⟨hc31, h⟩ | ⟨hc31, h⟩
      · refine tr_cond_t ((band .u8 (shr .u8 (n_0.getD (IntKind.i64.wrap (i17.tdiv (8 : Int))).toNat 0) (i17.tmod (8 : Int))) (1 : Int)) == (1 : Int)) (by kernel_rfl) hc31 ?_
        obtain ⟨⟨a32, a33, a34, a35⟩, e36, h⟩ := bind_some h
        refine tr_reg hT [(3, .call [] (.v (.agg [.arr .u64 5 a32, .arr .u64 5 a33, .arr .u64 5 a34, .arr .u64 5 a35])) [])] [.s 2, .s 3, .s 4, .s 5, .s 6, .s 7, .h 0, .h 1, .h 2, .h 3, .h 4] [sO 2 (.ptr 0 0), sO 3 (.ptr 1 0), sO 4 (.ptr 2 0), sO 5 (.ptr 3 0), sO 6 (.ptr 4 0), sI 7 .i64 i17, hB 0 22 [.arr .u8 32 n_0], hB 1 87 [.arr .u64 5 p_1, .arr .u64 5 p_2, .arr .u64 5 p_3, .arr .u64 5 p_4], hB 2 87 [.arr .u64 5 (List.replicate 5 0), .arr .u64 5 (List.replicate 5 0), .arr .u64 5 (List.replicate 5 0), .arr .u64 5 (List.replicate 5 0)], hB 3 87 [.arr .u64 5 a32, .arr .u64 5 a33, .arr .u64 5 a34, .arr .u64 5 a35], hB 4 71 [.arr .u64 5 a11]] [CallOk P 108 [.v (.agg [.arr .u64 5 a23, .arr .u64 5 a24, .arr .u64 5 a25, .arr .u64 5 a26]), .v (.agg [.arr .u64 5 p_1, .arr .u64 5 p_2, .arr .u64 5 p_3, .arr .u64 5 p_4]), .v (.agg [.arr .u64 5 a11])] [] (.v (.agg [.arr .u64 5 a32, .arr .u64 5 a33, .arr .u64 5 a34, .arr .u64 5 a35])) []] (by kernel_rfl) (hone (curve_plus_ok a23 a24 a25 a26 p_1 p_2 p_3 p_4 a11 (a32, a33, a34, a35) e36)) ?_
        refine q_b 1 ?_
        refine q_k ?_
        refine tr_reg hT [] [.s 2, .s 3, .s 4, .s 5, .s 6, .s 7, .h 0, .h 1, .h 2, .h 3, .h 4] [sO 2 (.ptr 0 0), sO 3 (.ptr 1 0), sO 4 (.ptr 2 0), sO 5 (.ptr 3 0), sO 6 (.ptr 4 0), sI 7 .i64 (IntKind.i64.wrap (i17 - (1 : Int))), hB 0 22 [.arr .u8 32 n_0], hB 1 87 [.arr .u64 5 p_1, .arr .u64 5 p_2, .arr .u64 5 p_3, .arr .u64 5 p_4], hB 2 87 [.arr .u64 5 (List.replicate 5 0), .arr .u64 5 (List.replicate 5 0), .arr .u64 5 (List.replicate 5 0), .arr .u64 5 (List.replicate 5 0)], hB 3 87 [.arr .u64 5 a32, .arr .u64 5 a33, .arr .u64 5 a34, .arr .u64 5 a35], hB 4 71 [.arr .u64 5 a11]] [] (by kernel_rfl) trivial ?_
        refine q_kr ?_
        exact trR_less [.s 2, .s 3, .s 4, .s 5, .s 6, .s 7, .h 0, .h 1, .h 2, .h 3, .h 4] [sO 2 (.ptr 0 0), sO 3 (.ptr 1 0), sO 4 (.ptr 2 0), sO 5 (.ptr 3 0), sO 6 (.ptr 4 0), sI 7 .i64 (IntKind.i64.wrap (i17 - (1 : Int))), hB 0 22 [.arr .u8 32 n_0], hB 1 87 [.arr .u64 5 p_1, .arr .u64 5 p_2, .arr .u64 5 p_3, .arr .u64 5 p_4], hB 2 87 [.arr .u64 5 (List.replicate 5 0), .arr .u64 5 (List.replicate 5 0), .arr .u64 5 (List.replicate 5 0), .arr .u64 5 (List.replicate 5 0)], hB 3 87 [.arr .u64 5 a32, .arr .u64 5 a33, .arr .u64 5 a34, .arr .u64 5 a35], hB 4 71 [.arr .u64 5 a11]] (by kernel_rfl) (ih0 (a32, a33, a34, a35, (IntKind.i64.wrap (i17 - (1 : Int)))) h)
      · refine tr_cond_f ((band .u8 (shr .u8 (n_0.getD (IntKind.i64.wrap (i17.tdiv (8 : Int))).toNat 0) (i17.tmod (8 : Int))) (1 : Int)) == (1 : Int)) (by kernel_rfl) hc31 ?_
        refine tr_skip ?_
        refine q_b 1 ?_
        refine q_k ?_
        refine tr_reg hT [] [.s 2, .s 3, .s 4, .s 5, .s 6, .s 7, .h 0, .h 1, .h 2, .h 3, .h 4] [sO 2 (.ptr 0 0), sO 3 (.ptr 1 0), sO 4 (.ptr 2 0), sO 5 (.ptr 3 0), sO 6 (.ptr 4 0), sI 7 .i64 (IntKind.i64.wrap (i17 - (1 : Int))), hB 0 22 [.arr .u8 32 n_0], hB 1 87 [.arr .u64 5 p_1, .arr .u64 5 p_2, .arr .u64 5 p_3, .arr .u64 5 p_4], hB 2 87 [.arr .u64 5 (List.replicate 5 0), .arr .u64 5 (List.replicate 5 0), .arr .u64 5 (List.replicate 5 0), .arr .u64 5 (List.replicate 5 0)], hB 3 87 [.arr .u64 5 a23, .arr .u64 5 a24, .arr .u64 5 a25, .arr .u64 5 a26], hB 4 71 [.arr .u64 5 a11]] [] (by kernel_rfl) trivial ?_
        refine q_kr ?_
        exact trR_less [.s 2, .s 3, .s 4, .s 5, .s 6, .s 7, .h 0, .h 1, .h 2, .h 3, .h 4] [sO 2 (.ptr 0 0), sO 3 (.ptr 1 0), sO 4 (.ptr 2 0), sO 5 (.ptr 3 0), sO 6 (.ptr 4 0), sI 7 .i64 (IntKind.i64.wrap (i17 - (1 : Int))), hB 0 22 [.arr .u8 32 n_0], hB 1 87 [.arr .u64 5 p_1, .arr .u64 5 p_2, .arr .u64 5 p_3, .arr .u64 5 p_4], hB 2 87 [.arr .u64 5 (List.replicate 5 0), .arr .u64 5 (List.replicate 5 0), .arr .u64 5 (List.replicate 5 0), .arr .u64 5 (List.replicate 5 0)], hB 3 87 [.arr .u64 5 a23, .arr .u64 5 a24, .arr .u64 5 a25, .arr .u64 5 a26], hB 4 71 [.arr .u64 5 a11]] (by kernel_rfl) (ih0 (a23, a24, a25, a26, (IntKind.i64.wrap (i17 - (1 : Int)))) h)
    · refine tr_cond_f (decide (i17 ≥ (0 : Int))) (by kernel_rfl) hc22 ?_
      refine tr_exit ?_
      refine q_k_exit ?_
      refine q_kr_exit ?_
      have h := Option.some.inj h
      subst h
      exact q_less [.s 4, .s 5, .h 2, .h 3] [sO 4 (.ptr 2 0), sO 5 (.ptr 3 0), hB 2 87 [.arr .u64 5 (List.replicate 5 0), .arr .u64 5 (List.replicate 5 0), .arr .u64 5 (List.replicate 5 0), .arr .u64 5 (List.replicate 5 0)], hB 3 87 [.arr .u64 5 m13, .arr .u64 5 m14, .arr .u64 5 m15, .arr .u64 5 m16]] (by kernel_rfl) hx0

theorem curve_point_packed_ok (p_0 : List Int) (p_1 : List Int) (p_2 : List Int) (p_3 : List Int) (r : List Int) (h : curve_point_packed p_0 p_1 p_2 p_3 = some r) {pre : List (Nat × Ent)} : CallOk P 91 [.v (.agg [.arr .u64 5 p_0, .arr .u64 5 p_1, .arr .u64 5 p_2, .arr .u64 5 p_3])] pre (.v (.agg [.arr .u8 32 r])) [] := by
  refine call0 (N := 23) Try.func91 (by kernel_rfl) rfl rfl rfl pre ?_
  intro _ w
  show Tr P (Ge w) 23 _ _ _ (RetQ P Try.f91 (R0 _ w))
  unfold curve_point_packed at h
  refine tr_seq ?_
  refine tr_reg hT [(0, .key 0), (1, .key 1)] [.s 1, .s 2, .h 0, .h 1] [sO 1 (.ptr 0 0), sO 2 (.ptr 1 0), hB 0 87 [.arr .u64 5 p_0, .arr .u64 5 p_1, .arr .u64 5 p_2, .arr .u64 5 p_3], hB 1 22 [.arr .u8 32 (List.replicate 32 0)]] [] (by kernel_rfl) trivial ?_
  refine q_k ?_
  refine tr_seq ?_
  obtain ⟨a1, e2, h⟩ := bind_some h
  refine tr_reg hT [(2, .call [] (.v (.agg [.arr .u64 5 a1])) []), (3, .key 2)] [.s 1, .s 2, .s 3, .h 0, .h 1, .h 2] [sO 1 (.ptr 0 0), sO 2 (.ptr 1 0), sO 3 (.ptr 2 0), hB 0 87 [.arr .u64 5 p_0, .arr .u64 5 p_1, .arr .u64 5 p_2, .arr .u64 5 p_3], hB 1 22 [.arr .u8 32 (List.replicate 32 0)], hB 2 71 [.arr .u64 5 a1]] [CallOk P 83 [.v (.agg [.arr .u64 5 p_2])] [] (.v (.agg [.arr .u64 5 a1])) []] (by kernel_rfl) (hone (limb_Inv_ok p_2 a1 e2)) ?_
  refine q_k ?_
  refine tr_seq ?_
  obtain ⟨a3, e4, h⟩ := bind_some h
  obtain ⟨a5, e6, h⟩ := bind_some h
  refine tr_reg hT [(3, .call [] (.v (.agg [.arr .u64 5 a3])) []), (4, .call [] (.v (.agg [.arr .u8 32 a5])) []), (5, .key 3)] [.s 1, .s 2, .s 3, .s 4, .h 0, .h 1, .h 2, .h 3] [sO 1 (.ptr 0 0), sO 2 (.ptr 1 0), sO 3 (.ptr 2 0), sO 4 (.ptr 3 0), hB 0 87 [.arr .u64 5 p_0, .arr .u64 5 p_1, .arr .u64 5 p_2, .arr .u64 5 p_3], hB 1 22 [.arr .u8 32 (List.replicate 32 0)], hB 2 71 [.arr .u64 5 a1], hB 3 22 [.arr .u8 32 a5]] [CallOk P 74 [.v (.agg [.arr .u64 5 p_1]), .v (.agg [.arr .u64 5 a1])] [] (.v (.agg [.arr .u64 5 a3])) [], CallOk P 73 [.v (.agg [.arr .u64 5 a3])] [] (.v (.agg [.arr .u8 32 a5])) []] (by kernel_rfl) (hcons (limb_Mul_ok p_1 a1 a3 e4) (hone (limb_N_Bytes_ok a3 a5 e6))) ?_
  refine q_k ?_
  refine tr_seq ?_
  refine tr_seq ?_
  obtain ⟨a7, e8, h⟩ := bind_some h
  obtain ⟨b9, e10, h⟩ := bind_some h
  refine tr_reg hT [(3, .call [] (.v (.agg [.arr .u64 5 a7])) []), (4, .call [] (.v (.one (.bool b9))) [])] [.s 2, .s 4, .s 17, .h 1, .h 3] [sO 2 (.ptr 1 0), sO 4 (.ptr 3 0), sB 17 b9, hB 1 22 [.arr .u8 32 (List.replicate 32 0)], hB 3 22 [.arr .u8 32 a5]] [CallOk P 74 [.v (.agg [.arr .u64 5 p_0]), .v (.agg [.arr .u64 5 a1])] [] (.v (.agg [.arr .u64 5 a7])) [], CallOk P 86 [.v (.agg [.arr .u64 5 a7])] [] (.v (.one (.bool b9))) []] (by kernel_rfl) (hcons (limb_Mul_ok p_0 a1 a7 e8) (hone (limb_N_Odd_ok a7 b9 e10))) ?_
  refine q_k ?_
  obtain ⟨m11, e13, h⟩ := bind_some h
  refine tr_join (σ1 := [sO 2 (.ptr 1 0), sO 4 (.ptr 3 0), hB 1 22 [.arr .u8 32 (List.replicate 32 0)], hB 3 22 [.arr .u8 32 m11]]) ?_ ?_
  · skip
    replace h : (some m11) = _ := h
    refine q_k ?_
    refine tr_seq ?_
    refine tr_reg hT [] [.s 2, .h 1] [sO 2 (.ptr 1 0), hB 1 22 [.arr .u8 32 m11]] [] (by kernel_rfl) trivial ?_
    refine q_k ?_
    refine tr_ret ?_
    have h := Option.some.inj h
    subst h
    exact q_ret0 hT (.v (.agg [.arr .u8 32 m11])) rfl (by kernel_rfl)
  · intro hj0
    clear h
    have h := e13
    clear e13
    rcases ite_split h with ⟨hc12, h⟩ | ⟨hc12, h⟩
    · refine tr_cond_t b9 (by kernel_rfl) hc12 ?_
      refine tr_reg hT [] [.s 2, .s 4, .h 1, .h 3] [sO 2 (.ptr 1 0), sO 4 (.ptr 3 0), hB 1 22 [.arr .u8 32 (List.replicate 32 0)], hB 3 22 [.arr .u8 32 (a5.set 31 (bor .u8 (a5.getD 31 0) (128 : Int)))]] [0 ≤ (31 : Int) ∧ (31 : Int) < ((32 : Nat) : Int), 0 ≤ (31 : Int) ∧ (31 : Int) < ((32 : Nat) : Int)] (by kernel_rfl) (hcons (by decide) (hone (by decide))) ?_
      have h := Option.some.inj h
      subst h
      exact q_less [.s 2, .s 4, .h 1, .h 3] [sO 2 (.ptr 1 0), sO 4 (.ptr 3 0), hB 1 22 [.arr .u8 32 (List.replicate 32 0)], hB 3 22 [.arr .u8 32 (a5.set 31 (bor .u8 (a5.getD 31 0) (128 : Int)))]] (by kernel_rfl) hj0
    · refine tr_cond_f b9 (by kernel_rfl) hc12 ?_
      refine tr_skip ?_
      have h := Option.some.inj h
      subst h
      exact q_less [.s 2, .s 4, .h 1, .h 3] [sO 2 (.ptr 1 0), sO 4 (.ptr 3 0), hB 1 22 [.arr .u8 32 (List.replicate 32 0)], hB 3 22 [.arr .u8 32 a5]] (by kernel_rfl) hj0

theorem curve_Base_ok (n_0 : List Int) (r : List Int) (h : curve_Base n_0 = some r) {pre : List (Nat × Ent)} : CallOk P 54 [.v (.agg [.arr .u8 32 n_0])] pre (.v (.agg [.arr .u8 32 r])) [] := by
  refine call0 (N := 7) Try.func54 (by kernel_rfl) rfl rfl rfl pre ?_
  intro _ w
  show Tr P (Ge w) 7 _ _ _ (RetQ P Try.f54 (R0 _ w))
  unfold curve_Base at h
  refine tr_seq ?_
  refine tr_reg hT [(0, .key 0), (1, .key 1)] [.s 1, .s 2, .h 0, .h 1] [sO 1 (.ptr 0 0), sO 2 (.ptr 1 0), hB 0 22 [.arr .u8 32 n_0], hB 1 22 [.arr .u8 32 (List.replicate 32 0)]] [] (by kernel_rfl) trivial ?_
  refine q_k ?_
  refine tr_seq ?_
  obtain ⟨⟨a1, a2, a3, a4⟩, e5, h⟩ := bind_some h
  obtain ⟨⟨a7, a8, a9, a10⟩, e11, h⟩ := bind_some h
  obtain ⟨a13, e14, h⟩ := bind_some h
  refine tr_regd hT hM [(1, .call [] (.v (.agg [.arr .u64 5 a1, .arr .u64 5 a2, .arr .u64 5 a3, .arr .u64 5 a4])) []), (2, .call [] (.v (.agg [.arr .u64 5 a7, .arr .u64 5 a8, .arr .u64 5 a9, .arr .u64 5 a10])) []), (3, .call [] (.v (.agg [.arr .u8 32 a13])) [])] [.s 2, .h 1] [sO 2 (.ptr 1 0), hB 1 22 [.arr .u8 32 a13]] [CallOk P 90 [] [] (.v (.agg [.arr .u64 5 a1, .arr .u64 5 a2, .arr .u64 5 a3, .arr .u64 5 a4])) [], CallOk P 89 [.v (.agg [.arr .u8 32 n_0]), .v (.agg [.arr .u64 5 a1, .arr .u64 5 a2, .arr .u64 5 a3, .arr .u64 5 a4])] [] (.v (.agg [.arr .u64 5 a7, .arr .u64 5 a8, .arr .u64 5 a9, .arr .u64 5 a10])) [], CallOk P 91 [.v (.agg [.arr .u64 5 a7, .arr .u64 5 a8, .arr .u64 5 a9, .arr .u64 5 a10])] [] (.v (.agg [.arr .u8 32 a13])) []] (by kernel_rfl) (hcons (curve_base_ok  (a1, a2, a3, a4) e5) (hcons (curve_times_ok n_0 a1 a2 a3 a4 (a7, a8, a9, a10) e11) (hone (curve_point_packed_ok a7 a8 a9 a10 a13 e14)))) ?_
  refine q_k ?_
  refine tr_ret ?_
  have h := Option.some.inj h
  subst h
  exact q_ret0 hT (.v (.agg [.arr .u8 32 a13])) rfl (by kernel_rfl)

theorem curve_Mul_ok (n_0 : List Int) (a_1 : List Int) (r : List Int × Int) (h : curve_Mul n_0 a_1 = some r) {pre : List (Nat × Ent)} : CallOk P 55 [.v (.agg [.arr .u8 32 n_0]), .v (.agg [.arr .u8 32 a_1])] pre (.tup [.agg [.arr .u8 32 r.1], .one (.int .i64 r.2)]) [] := by
  refine call0 (N := 20) Try.func55 (by kernel_rfl) rfl rfl rfl pre ?_
  intro _ w
  show Tr P (Ge w) 20 _ _ _ (RetQ P Try.f55 (R0 _ w))
  unfold curve_Mul at h
  refine tr_seq ?_
  refine tr_reg hT [(0, .key 0), (1, .key 1), (2, .key 2)] [.s 2, .s 3, .s 4, .h 0, .h 1, .h 2] [sO 2 (.ptr 0 0), sO 3 (.ptr 1 0), sO 4 (.ptr 2 0), hB 0 22 [.arr .u8 32 n_0], hB 1 22 [.arr .u8 32 a_1], hB 2 22 [.arr .u8 32 (List.replicate 32 0)]] [] (by kernel_rfl) trivial ?_
  refine q_k ?_
  refine tr_seq ?_
  obtain ⟨⟨a1, a2, a3, a4, b5⟩, e6, h⟩ := bind_some h
  refine tr_reg hT [(1, .call [] (.tup [.agg [.arr .u64 5 a1, .arr .u64 5 a2, .arr .u64 5 a3, .arr .u64 5 a4], .one (.bool b5)]) []), (5, .key 3)] [.s 2, .s 4, .s 6, .s 7, .h 0, .h 2, .h 3] [sO 2 (.ptr 0 0), sO 4 (.ptr 2 0), sO 6 (.ptr 3 0), sB 7 b5, hB 0 22 [.arr .u8 32 n_0], hB 2 22 [.arr .u8 32 (List.replicate 32 0)], hB 3 87 [.arr .u64 5 a1, .arr .u64 5 a2, .arr .u64 5 a3, .arr .u64 5 a4]] [CallOk P 92 [.v (.agg [.arr .u8 32 a_1])] [] (.tup [.agg [.arr .u64 5 a1, .arr .u64 5 a2, .arr .u64 5 a3, .arr .u64 5 a4], .one (.bool b5)]) []] (by kernel_rfl) (hone (curve_unpacked_ok a_1 (a1, a2, a3, a4, b5) e6)) ?_
  refine q_k ?_
  refine tr_seq ?_
  refine tr_seq ?_
  refine tr_reg hT [] [.s 2, .s 4, .s 6, .s 14, .h 0, .h 2, .h 3] [sO 2 (.ptr 0 0), sO 4 (.ptr 2 0), sO 6 (.ptr 3 0), sB 14 (!b5), hB 0 22 [.arr .u8 32 n_0], hB 2 22 [.arr .u8 32 (List.replicate 32 0)], hB 3 87 [.arr .u64 5 a1, .arr .u64 5 a2, .arr .u64 5 a3, .arr .u64 5 a4]] [] (by kernel_rfl) trivial ?_
  refine q_k ?_
  rcases ite_split h with ⟨hc8, h⟩ | ⟨hc8, h⟩
  · refine tr_cond_t (!b5) (by kernel_rfl) hc8 ?_
    refine tr_seq ?_
    refine tr_reg hT [] [.s 4, .s 5, .h 2] [sO 4 (.ptr 2 0), sI 5 .i64 (1 : Int), hB 2 22 [.arr .u8 32 (List.replicate 32 0)]] [] (by kernel_rfl) trivial ?_
    refine q_k ?_
    refine tr_ret ?_
    refine q_k_ret ?_
    have h := Option.some.inj h
    subst h
    exact q_ret0 hT (.tup [.agg [.arr .u8 32 (List.replicate 32 0)], .one (.int .i64 (1 : Int))]) rfl (by kernel_rfl)
  · refine tr_cond_f (!b5) (by kernel_rfl) hc8 ?_
    refine tr_skip ?_
    refine q_k ?_
    refine tr_seq ?_
    obtain ⟨⟨a9, a10, a11, a12⟩, e13, h⟩ := bind_some h
    obtain ⟨a15, e16, h⟩ := bind_some h
    refine tr_reg hT [(2, .call [] (.v (.agg [.arr .u64 5 a9, .arr .u64 5 a10, .arr .u64 5 a11, .arr .u64 5 a12])) []), (3, .call [] (.v (.agg [.arr .u8 32 a15])) [])] [.s 4, .s 5, .h 2] [sO 4 (.ptr 2 0), sI 5 .i64 (0 : Int), hB 2 22 [.arr .u8 32 a15]] [CallOk P 89 [.v (.agg [.arr .u8 32 n_0]), .v (.agg [.arr .u64 5 a1, .arr .u64 5 a2, .arr .u64 5 a3, .arr .u64 5 a4])] [] (.v (.agg [.arr .u64 5 a9, .arr .u64 5 a10, .arr .u64 5 a11, .arr .u64 5 a12])) [], CallOk P 91 [.v (.agg [.arr .u64 5 a9, .arr .u64 5 a10, .arr .u64 5 a11, .arr .u64 5 a12])] [] (.v (.agg [.arr .u8 32 a15])) []] (by kernel_rfl) (hcons (curve_times_ok n_0 a1 a2 a3 a4 (a9, a10, a11, a12) e13) (hone (curve_point_packed_ok a9 a10 a11 a12 a15 e16))) ?_
    refine q_k ?_
    refine tr_ret ?_
    have h := Option.some.inj h
    subst h
    exact q_ret0 hT (.tup [.agg [.arr .u8 32 a15], .one (.int .i64 (0 : Int))]) rfl (by kernel_rfl)

theorem law06_num_ok (n_0 : Int) (r : List Int) (h : law06_num n_0 = some r) {pre : List (Nat × Ent)} : CallOk P 56 [.v (.one (.int .i64 n_0))] pre (.v (.agg [.arr .u8 32 r])) [] := by
  refine call0 (N := 5) Try.func56 (by kernel_rfl) rfl rfl rfl pre ?_
  intro _ w
  show Tr P (Ge w) 5 _ _ _ (RetQ P Try.f56 (R0 _ w))
  unfold law06_num at h
  refine tr_seq ?_
  refine tr_reg hT [(0, .key 0)] [.s 0, .s 2, .h 0] [sI 0 .i64 n_0, sO 2 (.ptr 0 0), hB 0 22 [.arr .u8 32 (List.replicate 32 0)]] [] (by kernel_rfl) trivial ?_
  refine q_k ?_
  refine tr_seq ?_
  obtain ⟨a1, e2, h⟩ := bind_some h
  refine tr_reg hT [(1, .call [] (.v (.agg [.arr .u8 32 a1])) [])] [.s 2, .h 0] [sO 2 (.ptr 0 0), hB 0 22 [.arr .u8 32 a1]] [CallOk P 26 [.v (.one (.int .i64 n_0))] [] (.v (.agg [.arr .u8 32 a1])) []] (by kernel_rfl) (hone (law04_Num_ok n_0 a1 e2)) ?_
  refine q_k ?_
  refine tr_ret ?_
  have h := Option.some.inj h
  subst h
  exact q_ret0 hT (.v (.agg [.arr .u8 32 a1])) rfl (by kernel_rfl)

end Go.Proofs.Sb
