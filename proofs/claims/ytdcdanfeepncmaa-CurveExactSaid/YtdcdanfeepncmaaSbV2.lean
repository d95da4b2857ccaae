/- Walks, printed by a program of this session (gowalk.py): each Go function comes to its plain function's answer. -/
import Derived.Test.YtdcdanfeepncmaaSbA
import Derived.Test.YtdcdanfeepncmaaSbD
import Derived.Test.YtdcdanfeepncmaaSbI
import Derived.Test.YtdcdanfeepncmaaSbV0
import Derived.Test.YtdcdanfeepncmaaSbV1
namespace Go.Proofs.Sb
open Go Go.Gw D
set_option linter.unusedVariables false
set_option maxRecDepth 20000

theorem field_Mul_ok (a_0 : List Int) (b_1 : List Int) (r : List Int) (h : field_Mul a_0 b_1 = some r) {pre : List (Nat × Ent)} : CallOk P 34 [.v (.agg [.arr .u8 32 a_0]), .v (.agg [.arr .u8 32 b_1])] pre (.v (.agg [.arr .u8 32 r])) [] := by
  refine call0 (N := 11) Try.func34 (by kernel_rfl) rfl rfl rfl pre ?_
  intro _ w
  show Tr P (Ge w) 11 _ _ _ (RetQ P Try.f34 (R0 _ w))
  unfold field_Mul at h
  refine tr_seq ?_
  refine tr_reg hT [(0, .key 0), (1, .key 1), (2, .key 2)] [.s 2, .s 3, .s 4, .h 0, .h 1, .h 2] [sO 2 (.ptr 0 0), sO 3 (.ptr 1 0), sO 4 (.ptr 2 0), hB 0 22 [.arr .u8 32 a_0], hB 1 22 [.arr .u8 32 b_1], hB 2 22 [.arr .u8 32 (List.replicate 32 0)]] [] (by kernel_rfl) trivial ?_
  refine q_k ?_
  refine tr_seq ?_
  obtain ⟨a1, e2, h⟩ := bind_some h
  obtain ⟨a3, e4, h⟩ := bind_some h
  obtain ⟨a5, e6, h⟩ := bind_some h
  obtain ⟨a7, e8, h⟩ := bind_some h
  refine tr_regd hT hM [(1, .call [] (.v (.agg [.arr .u64 5 a1])) []), (3, .call [] (.v (.agg [.arr .u64 5 a3])) []), (4, .call [] (.v (.agg [.arr .u64 5 a5])) []), (5, .call [] (.v (.agg [.arr .u8 32 a7])) [])] [.s 4, .h 2] [sO 4 (.ptr 2 0), hB 2 22 [.arr .u8 32 a7]] [CallOk P 72 [.v (.agg [.arr .u8 32 a_0])] [] (.v (.agg [.arr .u64 5 a1])) [], CallOk P 72 [.v (.agg [.arr .u8 32 b_1])] [] (.v (.agg [.arr .u64 5 a3])) [], CallOk P 74 [.v (.agg [.arr .u64 5 a1]), .v (.agg [.arr .u64 5 a3])] [] (.v (.agg [.arr .u64 5 a5])) [], CallOk P 73 [.v (.agg [.arr .u64 5 a5])] [] (.v (.agg [.arr .u8 32 a7])) []] (by kernel_rfl) (hcons (limb_Of_ok a_0 a1 e2) (hcons (limb_Of_ok b_1 a3 e4) (hcons (limb_Mul_ok a1 a3 a5 e6) (hone (limb_N_Bytes_ok a5 a7 e8))))) ?_
  refine q_k ?_
  refine tr_ret ?_
  have h := Option.some.inj h
  subst h
  exact q_ret0 hT (.v (.agg [.arr .u8 32 a7])) rfl (by kernel_rfl)

theorem limb_Sub_ok (a_0 : List Int) (b_1 : List Int) (r : List Int) (h : limb_Sub a_0 b_1 = some r) {pre : List (Nat × Ent)} : CallOk P 80 [.v (.agg [.arr .u64 5 a_0]), .v (.agg [.arr .u64 5 b_1])] pre (.v (.agg [.arr .u64 5 r])) [] := by
  refine call0 (N := 26) Try.func80 (by kernel_rfl) rfl rfl rfl pre ?_
  intro _ w
  show Tr P (Ge w) 26 _ _ _ (RetQ P Try.f80 (R0 _ w))
  unfold limb_Sub at h
  refine tr_seq ?_
  refine tr_reg hT [(0, .key 0), (1, .key 1), (2, .key 2)] [.s 2, .s 3, .s 4, .h 0, .h 1, .h 2] [sO 2 (.ptr 0 0), sO 3 (.ptr 1 0), sO 4 (.ptr 2 0), hB 0 71 [.arr .u64 5 a_0], hB 1 71 [.arr .u64 5 b_1], hB 2 71 [.arr .u64 5 (List.replicate 5 0)]] [] (by kernel_rfl) trivial ?_
  refine q_k ?_
  refine tr_seq ?_
  refine tr_reg hT [(1, .key 3)] [.s 2, .s 3, .s 4, .s 5, .h 0, .h 1, .h 2, .h 3] [sO 2 (.ptr 0 0), sO 3 (.ptr 1 0), sO 4 (.ptr 2 0), sO 5 (.ptr 3 0), hB 0 71 [.arr .u64 5 a_0], hB 1 71 [.arr .u64 5 b_1], hB 2 71 [.arr .u64 5 (List.replicate 5 0)], hB 3 71 [.arr .u64 5 [(9007199254740916 : Int), (9007199254740988 : Int), (9007199254740988 : Int), (9007199254740988 : Int), (9007199254740988 : Int)]]] [] (by kernel_rfl) trivial ?_
  refine q_k ?_
  refine tr_seq ?_
  refine tr_seq ?_
  refine tr_reg hT [] [.s 2, .s 3, .s 4, .s 5, .s 8, .h 0, .h 1, .h 2, .h 3] [sO 2 (.ptr 0 0), sO 3 (.ptr 1 0), sO 4 (.ptr 2 0), sO 5 (.ptr 3 0), sI 8 .i64 (0 : Int), hB 0 71 [.arr .u64 5 a_0], hB 1 71 [.arr .u64 5 b_1], hB 2 71 [.arr .u64 5 (List.replicate 5 0)], hB 3 71 [.arr .u64 5 [(9007199254740916 : Int), (9007199254740988 : Int), (9007199254740988 : Int), (9007199254740988 : Int), (9007199254740988 : Int)]]] [] (by kernel_rfl) trivial ?_
  refine q_k ?_
  refine tr_block ?_
  obtain ⟨m3, e9, h⟩ := bind_some h
  refine tr_fit [] [sO 2 (.ptr 0 0), sO 3 (.ptr 1 0), sO 4 (.ptr 2 0), sO 5 (.ptr 3 0), sI 8 .i64 (0 : Int), hB 0 71 [.arr .u64 5 a_0], hB 1 71 [.arr .u64 5 b_1], hB 2 71 [.arr .u64 5 (List.replicate 5 0)], hB 3 71 [.arr .u64 5 [(9007199254740916 : Int), (9007199254740988 : Int), (9007199254740988 : Int), (9007199254740988 : Int), (9007199254740988 : Int)]]] [(0, .blk 71 [.arr .u64 5 a_0]), (1, .blk 71 [.arr .u64 5 b_1]), (2, .blk 71 [.arr .u64 5 (List.replicate 5 0)]), (3, .blk 71 [.arr .u64 5 [(9007199254740916 : Int), (9007199254740988 : Int), (9007199254740988 : Int), (9007199254740988 : Int), (9007199254740988 : Int)]])] (by kernel_rfl) (by kernel_rfl) (by kernel_rfl) rfl ⟨.blk (by kernel_rfl) (by kernel_rfl), .blk (by kernel_rfl) (by kernel_rfl), .blk (by kernel_rfl) (by kernel_rfl), .blk (by kernel_rfl) (by kernel_rfl), trivial⟩ (by kernel_rfl) ?_
  refine tr_loop_fuel (id := 0) (α := List Int × Int) (β := List Int) (fun z => [sO 2 (.ptr 0 0), sO 3 (.ptr 1 0), sO 4 (.ptr 2 0), sO 5 (.ptr 3 0), sI 8 .i64 z.2, hB 0 71 [.arr .u64 5 z.1], hB 1 71 [.arr .u64 5 b_1], hB 2 71 [.arr .u64 5 (List.replicate 5 0)], hB 3 71 [.arr .u64 5 [(9007199254740916 : Int), (9007199254740988 : Int), (9007199254740988 : Int), (9007199254740988 : Int), (9007199254740988 : Int)]]]) (fun z => [sO 2 (.ptr 0 0), sO 4 (.ptr 2 0), hB 0 71 [.arr .u64 5 z], hB 2 71 [.arr .u64 5 (List.replicate 5 0)]]) (fun k z => limb_Sub_l0 b_1 k z.1 z.2) m3 (fun _ => rfl) (((5 : Int) - (0 : Int)).toNat + 1) (a_0, (0 : Int)) e9 ?_ ?_
  · skip
    replace h : ((limb_carried m3).bind (fun a10 => some a10)) = _ := h
    refine q_b_this ?_
    refine q_k ?_
    refine tr_seq ?_
    obtain ⟨a10, e11, h⟩ := bind_some h
    refine tr_reg hT [(1, .call [] (.v (.agg [.arr .u64 5 a10])) [])] [.s 4, .h 2] [sO 4 (.ptr 2 0), hB 2 71 [.arr .u64 5 a10]] [CallOk P 102 [.v (.agg [.arr .u64 5 m3])] [] (.v (.agg [.arr .u64 5 a10])) []] (by kernel_rfl) (hone (limb_carried_ok m3 a10 e11)) ?_
    refine q_k ?_
    refine tr_ret ?_
    have h := Option.some.inj h
    subst h
    exact q_ret0 hT (.v (.agg [.arr .u64 5 a10])) rfl (by kernel_rfl)
  · clear h e9
    intro k ih0 hx0 z h
    obtain ⟨m1, x2⟩ := z
    replace h : (if (decide (x2 < (5 : Int))) = true then if 0 ≤ x2 ∧ x2 < ((5 : Nat) : Int) then if 0 ≤ x2 ∧ x2 < ((5 : Nat) : Int) then if 0 ≤ x2 ∧ x2 < ((5 : Nat) : Int) then if 0 ≤ x2 ∧ x2 < ((5 : Nat) : Int) then limb_Sub_l0 b_1 k (m1.set x2.toNat (IntKind.u64.wrap ((m1.getD x2.toNat 0) + (IntKind.u64.wrap (([(9007199254740916 : Int), (9007199254740988 : Int), (9007199254740988 : Int), (9007199254740988 : Int), (9007199254740988 : Int)].getD x2.toNat 0) - (b_1.getD x2.toNat 0)))))) (IntKind.i64.wrap (x2 + (1 : Int))) else none else none else none else none else some m1) = _ := h
    refine tr_seq ?_
    refine tr_reg hT [] [.s 2, .s 3, .s 4, .s 5, .s 8, .s 9, .h 0, .h 1, .h 2, .h 3] [sO 2 (.ptr 0 0), sO 3 (.ptr 1 0), sO 4 (.ptr 2 0), sO 5 (.ptr 3 0), sI 8 .i64 x2, sB 9 (decide (x2 < (5 : Int))), hB 0 71 [.arr .u64 5 m1], hB 1 71 [.arr .u64 5 b_1], hB 2 71 [.arr .u64 5 (List.replicate 5 0)], hB 3 71 [.arr .u64 5 [(9007199254740916 : Int), (9007199254740988 : Int), (9007199254740988 : Int), (9007199254740988 : Int), (9007199254740988 : Int)]]] [] (by kernel_rfl) trivial ?_
    refine q_k ?_
    refine tr_seq ?_
    rcases ite_split h with ⟨hc4, h⟩ | ⟨hc4, h⟩
    · refine tr_cond_t (decide (x2 < (5 : Int))) (by kernel_rfl) hc4 ?_
      refine tr_skip ?_
      refine q_k ?_
      refine tr_seq ?_
      refine tr_block ?_
      refine tr_seq ?_
      refine tr_reg hT [] [.s 2, .s 3, .s 4, .s 5, .s 6, .s 8, .h 0, .h 1, .h 2, .h 3] [sO 2 (.ptr 0 0), sO 3 (.ptr 1 0), sO 4 (.ptr 2 0), sO 5 (.ptr 3 0), sI 6 .i64 x2, sI 8 .i64 x2, hB 0 71 [.arr .u64 5 m1], hB 1 71 [.arr .u64 5 b_1], hB 2 71 [.arr .u64 5 (List.replicate 5 0)], hB 3 71 [.arr .u64 5 [(9007199254740916 : Int), (9007199254740988 : Int), (9007199254740988 : Int), (9007199254740988 : Int), (9007199254740988 : Int)]]] [] (by kernel_rfl) trivial ?_
      refine q_k ?_
      obtain ⟨hn5, h⟩ := ite_some h
      obtain ⟨hn6, h⟩ := ite_some h
      obtain ⟨hn7, h⟩ := ite_some h
      obtain ⟨hn8, h⟩ := ite_some h
      refine tr_regd hT hM [] [.s 2, .s 3, .s 4, .s 5, .s 8, .h 0, .h 1, .h 2, .h 3] [sO 2 (.ptr 0 0), sO 3 (.ptr 1 0), sO 4 (.ptr 2 0), sO 5 (.ptr 3 0), sI 8 .i64 x2, hB 0 71 [.arr .u64 5 (m1.set x2.toNat (IntKind.u64.wrap ((m1.getD x2.toNat 0) + (IntKind.u64.wrap (([(9007199254740916 : Int), (9007199254740988 : Int), (9007199254740988 : Int), (9007199254740988 : Int), (9007199254740988 : Int)].getD x2.toNat 0) - (b_1.getD x2.toNat 0))))))], hB 1 71 [.arr .u64 5 b_1], hB 2 71 [.arr .u64 5 (List.replicate 5 0)], hB 3 71 [.arr .u64 5 [(9007199254740916 : Int), (9007199254740988 : Int), (9007199254740988 : Int), (9007199254740988 : Int), (9007199254740988 : Int)]]] [0 ≤ x2 ∧ x2 < ((5 : Nat) : Int), 0 ≤ x2 ∧ x2 < ((5 : Nat) : Int), 0 ≤ x2 ∧ x2 < ((5 : Nat) : Int), 0 ≤ x2 ∧ x2 < ((5 : Nat) : Int)] (by kernel_rfl) (hcons hn5 (hcons hn6 (hcons hn7 (hone hn8)))) ?_
      refine q_b 1 ?_
      refine q_k ?_
      refine tr_reg hT [] [.s 2, .s 3, .s 4, .s 5, .s 8, .h 0, .h 1, .h 2, .h 3] [sO 2 (.ptr 0 0), sO 3 (.ptr 1 0), sO 4 (.ptr 2 0), sO 5 (.ptr 3 0), sI 8 .i64 (IntKind.i64.wrap (x2 + (1 : Int))), hB 0 71 [.arr .u64 5 (m1.set x2.toNat (IntKind.u64.wrap ((m1.getD x2.toNat 0) + (IntKind.u64.wrap (([(9007199254740916 : Int), (9007199254740988 : Int), (9007199254740988 : Int), (9007199254740988 : Int), (9007199254740988 : Int)].getD x2.toNat 0) - (b_1.getD x2.toNat 0))))))], hB 1 71 [.arr .u64 5 b_1], hB 2 71 [.arr .u64 5 (List.replicate 5 0)], hB 3 71 [.arr .u64 5 [(9007199254740916 : Int), (9007199254740988 : Int), (9007199254740988 : Int), (9007199254740988 : Int), (9007199254740988 : Int)]]] [] (by kernel_rfl) trivial ?_
      refine q_kr ?_
      exact trR_less [.s 2, .s 3, .s 4, .s 5, .s 8, .h 0, .h 1, .h 2, .h 3] [sO 2 (.ptr 0 0), sO 3 (.ptr 1 0), sO 4 (.ptr 2 0), sO 5 (.ptr 3 0), sI 8 .i64 (IntKind.i64.wrap (x2 + (1 : Int))), hB 0 71 [.arr .u64 5 (m1.set x2.toNat (IntKind.u64.wrap ((m1.getD x2.toNat 0) + (IntKind.u64.wrap (([(9007199254740916 : Int), (9007199254740988 : Int), (9007199254740988 : Int), (9007199254740988 : Int), (9007199254740988 : Int)].getD x2.toNat 0) - (b_1.getD x2.toNat 0))))))], hB 1 71 [.arr .u64 5 b_1], hB 2 71 [.arr .u64 5 (List.replicate 5 0)], hB 3 71 [.arr .u64 5 [(9007199254740916 : Int), (9007199254740988 : Int), (9007199254740988 : Int), (9007199254740988 : Int), (9007199254740988 : Int)]]] (by kernel_rfl) (ih0 ((m1.set x2.toNat (IntKind.u64.wrap ((m1.getD x2.toNat 0) + (IntKind.u64.wrap (([(9007199254740916 : Int), (9007199254740988 : Int), (9007199254740988 : Int), (9007199254740988 : Int), (9007199254740988 : Int)].getD x2.toNat 0) - (b_1.getD x2.toNat 0)))))), (IntKind.i64.wrap (x2 + (1 : Int)))) h)
    · refine tr_cond_f (decide (x2 < (5 : Int))) (by kernel_rfl) hc4 ?_
      refine tr_exit ?_
      refine q_k_exit ?_
      refine q_kr_exit ?_
      have h := Option.some.inj h
      subst h
      exact q_less [.s 2, .s 4, .h 0, .h 2] [sO 2 (.ptr 0 0), sO 4 (.ptr 2 0), hB 0 71 [.arr .u64 5 m1], hB 2 71 [.arr .u64 5 (List.replicate 5 0)]] (by kernel_rfl) hx0

theorem field_Sub_ok (a_0 : List Int) (b_1 : List Int) (r : List Int) (h : field_Sub a_0 b_1 = some r) {pre : List (Nat × Ent)} : CallOk P 41 [.v (.agg [.arr .u8 32 a_0]), .v (.agg [.arr .u8 32 b_1])] pre (.v (.agg [.arr .u8 32 r])) [] := by
  refine call0 (N := 11) Try.func41 (by kernel_rfl) rfl rfl rfl pre ?_
  intro _ w
  show Tr P (Ge w) 11 _ _ _ (RetQ P Try.f41 (R0 _ w))
  unfold field_Sub at h
  refine tr_seq ?_
  refine tr_reg hT [(0, .key 0), (1, .key 1), (2, .key 2)] [.s 2, .s 3, .s 4, .h 0, .h 1, .h 2] [sO 2 (.ptr 0 0), sO 3 (.ptr 1 0), sO 4 (.ptr 2 0), hB 0 22 [.arr .u8 32 a_0], hB 1 22 [.arr .u8 32 b_1], hB 2 22 [.arr .u8 32 (List.replicate 32 0)]] [] (by kernel_rfl) trivial ?_
  refine q_k ?_
  refine tr_seq ?_
  obtain ⟨a1, e2, h⟩ := bind_some h
  obtain ⟨a3, e4, h⟩ := bind_some h
  obtain ⟨a5, e6, h⟩ := bind_some h
  obtain ⟨a7, e8, h⟩ := bind_some h
  refine tr_regd hT hM [(1, .call [] (.v (.agg [.arr .u64 5 a1])) []), (3, .call [] (.v (.agg [.arr .u64 5 a3])) []), (4, .call [] (.v (.agg [.arr .u64 5 a5])) []), (5, .call [] (.v (.agg [.arr .u8 32 a7])) [])] [.s 4, .h 2] [sO 4 (.ptr 2 0), hB 2 22 [.arr .u8 32 a7]] [CallOk P 72 [.v (.agg [.arr .u8 32 a_0])] [] (.v (.agg [.arr .u64 5 a1])) [], CallOk P 72 [.v (.agg [.arr .u8 32 b_1])] [] (.v (.agg [.arr .u64 5 a3])) [], CallOk P 80 [.v (.agg [.arr .u64 5 a1]), .v (.agg [.arr .u64 5 a3])] [] (.v (.agg [.arr .u64 5 a5])) [], CallOk P 73 [.v (.agg [.arr .u64 5 a5])] [] (.v (.agg [.arr .u8 32 a7])) []] (by kernel_rfl) (hcons (limb_Of_ok a_0 a1 e2) (hcons (limb_Of_ok b_1 a3 e4) (hcons (limb_Sub_ok a1 a3 a5 e6) (hone (limb_N_Bytes_ok a5 a7 e8))))) ?_
  refine q_k ?_
  refine tr_ret ?_
  have h := Option.some.inj h
  subst h
  exact q_ret0 hT (.v (.agg [.arr .u8 32 a7])) rfl (by kernel_rfl)

theorem field_Check_ok (a_0 : List Int) (r : Bool) (h : field_Check a_0 = some r) {pre : List (Nat × Ent)} : CallOk P 42 [.v (.agg [.arr .u8 32 a_0])] pre (.v (.one (.bool r))) [] := by
  refine call0 (N := 7) Try.func42 (by kernel_rfl) rfl rfl rfl pre ?_
  intro _ w
  show Tr P (Ge w) 7 _ _ _ (RetQ P Try.f42 (R0 _ w))
  unfold field_Check at h
  refine tr_seq ?_
  refine tr_reg hT [(0, .key 0)] [.s 1, .h 0] [sO 1 (.ptr 0 0), hB 0 22 [.arr .u8 32 a_0]] [] (by kernel_rfl) trivial ?_
  refine q_k ?_
  refine tr_seq ?_
  obtain ⟨a1, e2, h⟩ := bind_some h
  refine tr_regd hT hM [(1, .call [] (.v (.agg [.arr .u8 32 a1])) [])] [.s 2] [sB 2 (decide (a1 = a_0))] [CallOk P 33 [.v (.agg [.arr .u8 32 a_0])] [] (.v (.agg [.arr .u8 32 a1])) []] (by kernel_rfl) (hone (field_Mod_ok a_0 a1 e2)) ?_
  refine q_k ?_
  refine tr_ret ?_
  have h := Option.some.inj h
  subst h
  exact q_ret0 hT (.v (.one (.bool (decide (a1 = a_0))))) rfl (by kernel_rfl)

theorem ref04_Of_ok (b_0 : List Int) (r : List Int) (h : ref04_Of b_0 = some r) {pre : List (Nat × Ent)} : CallOk P 44 [.v (.agg [.arr .u8 32 b_0])] pre (.v (.agg [.arr .u64 4 r])) [] := by
  refine call0 (N := 25) Try.func44 (by kernel_rfl) rfl rfl rfl pre ?_
  intro _ w
  show Tr P (Ge w) 25 _ _ _ (RetQ P Try.f44 (R0 _ w))
  unfold ref04_Of at h
  refine tr_seq ?_
  refine tr_reg hT [(0, .key 0), (1, .key 1)] [.s 1, .s 2, .h 0, .h 1] [sO 1 (.ptr 0 0), sO 2 (.ptr 1 0), hB 0 22 [.arr .u8 32 b_0], hB 1 31 [.arr .u64 4 (List.replicate 4 0)]] [] (by kernel_rfl) trivial ?_
  refine q_k ?_
  refine tr_seq ?_
  refine tr_reg hT [(0, .key 2)] [.s 1, .s 2, .s 3, .h 0, .h 1, .h 2] [sO 1 (.ptr 0 0), sO 2 (.ptr 1 0), sO 3 (.ptr 2 0), hB 0 22 [.arr .u8 32 b_0], hB 1 31 [.arr .u64 4 (List.replicate 4 0)], hB 2 31 [.arr .u64 4 (List.replicate 4 0)]] [] (by kernel_rfl) trivial ?_
  refine q_k ?_
  refine tr_seq ?_
  refine tr_seq ?_
  refine tr_reg hT [] [.s 1, .s 2, .s 3, .s 4, .h 0, .h 1, .h 2] [sO 1 (.ptr 0 0), sO 2 (.ptr 1 0), sO 3 (.ptr 2 0), sI 4 .i64 (0 : Int), hB 0 22 [.arr .u8 32 b_0], hB 1 31 [.arr .u64 4 (List.replicate 4 0)], hB 2 31 [.arr .u64 4 (List.replicate 4 0)]] [] (by kernel_rfl) trivial ?_
  refine q_k ?_
  refine tr_block ?_
  obtain ⟨m3, e9, h⟩ := bind_some h
  refine tr_fit [] [sO 1 (.ptr 0 0), sO 2 (.ptr 1 0), sO 3 (.ptr 2 0), sI 4 .i64 (0 : Int), hB 0 22 [.arr .u8 32 b_0], hB 1 31 [.arr .u64 4 (List.replicate 4 0)], hB 2 31 [.arr .u64 4 (List.replicate 4 0)]] [(0, .blk 22 [.arr .u8 32 b_0]), (1, .blk 31 [.arr .u64 4 (List.replicate 4 0)]), (2, .blk 31 [.arr .u64 4 (List.replicate 4 0)])] (by kernel_rfl) (by kernel_rfl) (by kernel_rfl) rfl ⟨.blk (by kernel_rfl) (by kernel_rfl), .blk (by kernel_rfl) (by kernel_rfl), .blk (by kernel_rfl) (by kernel_rfl), trivial⟩ (by kernel_rfl) ?_
  refine tr_loop_fuel (id := 0) (α := List Int × Int) (β := List Int) (fun z => [sO 1 (.ptr 0 0), sO 2 (.ptr 1 0), sO 3 (.ptr 2 0), sI 4 .i64 z.2, hB 0 22 [.arr .u8 32 b_0], hB 1 31 [.arr .u64 4 (List.replicate 4 0)], hB 2 31 [.arr .u64 4 z.1]]) (fun z => [sO 2 (.ptr 1 0), sO 3 (.ptr 2 0), hB 1 31 [.arr .u64 4 (List.replicate 4 0)], hB 2 31 [.arr .u64 4 z]]) (fun k z => ref04_Of_l0 b_0 k z.1 z.2) m3 (fun _ => rfl) (((32 : Int) - (0 : Int)).toNat + 1) ((List.replicate 4 0), (0 : Int)) e9 ?_ ?_
  · skip
    replace h : (some m3) = _ := h
    refine q_b_this ?_
    refine q_k ?_
    refine tr_seq ?_
    refine tr_reg hT [] [.s 2, .h 1] [sO 2 (.ptr 1 0), hB 1 31 [.arr .u64 4 m3]] [] (by kernel_rfl) trivial ?_
    refine q_k ?_
    refine tr_ret ?_
    have h := Option.some.inj h
    subst h
    exact q_ret0 hT (.v (.agg [.arr .u64 4 m3])) rfl (by kernel_rfl)
  · clear h e9
    intro k ih0 hx0 z h
    obtain ⟨m1, i2⟩ := z
    replace h : (if (decide (i2 < (32 : Int))) = true then if 0 ≤ (IntKind.i64.wrap (i2.tdiv (8 : Int))) ∧ (IntKind.i64.wrap (i2.tdiv (8 : Int))) < ((4 : Nat) : Int) then if 0 ≤ i2 ∧ i2 < ((32 : Nat) : Int) then if 0 ≤ (IntKind.u64.wrap (IntKind.i64.wrap ((8 : Int) * (i2.tmod (8 : Int))))) then if 0 ≤ (IntKind.i64.wrap (i2.tdiv (8 : Int))) ∧ (IntKind.i64.wrap (i2.tdiv (8 : Int))) < ((4 : Nat) : Int) then ref04_Of_l0 b_0 k (m1.set (IntKind.i64.wrap (i2.tdiv (8 : Int))).toNat (bor .u64 (m1.getD (IntKind.i64.wrap (i2.tdiv (8 : Int))).toNat 0) (shl .u64 (IntKind.u64.wrap (b_0.getD i2.toNat 0)) (IntKind.u64.wrap (IntKind.i64.wrap ((8 : Int) * (i2.tmod (8 : Int)))))))) (IntKind.i64.wrap (i2 + (1 : Int))) else none else none else none else none else some m1) = _ := h
    refine tr_seq ?_
    refine tr_seq ?_
    refine tr_reg hT [] [.s 1, .s 2, .s 3, .s 4, .s 6, .h 0, .h 1, .h 2] [sO 1 (.ptr 0 0), sO 2 (.ptr 1 0), sO 3 (.ptr 2 0), sI 4 .i64 i2, sB 6 (decide (i2 < (32 : Int))), hB 0 22 [.arr .u8 32 b_0], hB 1 31 [.arr .u64 4 (List.replicate 4 0)], hB 2 31 [.arr .u64 4 m1]] [] (by kernel_rfl) trivial ?_
    refine q_k ?_
    rcases ite_split h with ⟨hc4, h⟩ | ⟨hc4, h⟩
    · refine tr_cond_t (decide (i2 < (32 : Int))) (by kernel_rfl) hc4 ?_
      refine tr_skip ?_
      refine q_k ?_
      refine tr_seq ?_
      refine tr_block ?_
      obtain ⟨hn5, h⟩ := ite_some h
      obtain ⟨hn6, h⟩ := ite_some h
      obtain ⟨hn7, h⟩ := ite_some h
      obtain ⟨hn8, h⟩ := ite_some h
      refine tr_regd hT hM [] [.s 1, .s 2, .s 3, .s 4, .h 0, .h 1, .h 2] [sO 1 (.ptr 0 0), sO 2 (.ptr 1 0), sO 3 (.ptr 2 0), sI 4 .i64 i2, hB 0 22 [.arr .u8 32 b_0], hB 1 31 [.arr .u64 4 (List.replicate 4 0)], hB 2 31 [.arr .u64 4 (m1.set (IntKind.i64.wrap (i2.tdiv (8 : Int))).toNat (bor .u64 (m1.getD (IntKind.i64.wrap (i2.tdiv (8 : Int))).toNat 0) (shl .u64 (IntKind.u64.wrap (b_0.getD i2.toNat 0)) (IntKind.u64.wrap (IntKind.i64.wrap ((8 : Int) * (i2.tmod (8 : Int))))))))]] [(8 : Int) ≠ 0, 0 ≤ (IntKind.i64.wrap (i2.tdiv (8 : Int))) ∧ (IntKind.i64.wrap (i2.tdiv (8 : Int))) < ((4 : Nat) : Int), 0 ≤ i2 ∧ i2 < ((32 : Nat) : Int), (8 : Int) ≠ 0, 0 ≤ (IntKind.u64.wrap (IntKind.i64.wrap ((8 : Int) * (i2.tmod (8 : Int))))), 0 ≤ (IntKind.i64.wrap (i2.tdiv (8 : Int))) ∧ (IntKind.i64.wrap (i2.tdiv (8 : Int))) < ((4 : Nat) : Int)] (by kernel_rfl) (hcons (by decide) (hcons hn5 (hcons hn6 (hcons (by decide) (hcons hn7 (hone hn8)))))) ?_
      refine q_b 1 ?_
      refine q_k ?_
      refine tr_reg hT [] [.s 1, .s 2, .s 3, .s 4, .h 0, .h 1, .h 2] [sO 1 (.ptr 0 0), sO 2 (.ptr 1 0), sO 3 (.ptr 2 0), sI 4 .i64 (IntKind.i64.wrap (i2 + (1 : Int))), hB 0 22 [.arr .u8 32 b_0], hB 1 31 [.arr .u64 4 (List.replicate 4 0)], hB 2 31 [.arr .u64 4 (m1.set (IntKind.i64.wrap (i2.tdiv (8 : Int))).toNat (bor .u64 (m1.getD (IntKind.i64.wrap (i2.tdiv (8 : Int))).toNat 0) (shl .u64 (IntKind.u64.wrap (b_0.getD i2.toNat 0)) (IntKind.u64.wrap (IntKind.i64.wrap ((8 : Int) * (i2.tmod (8 : Int))))))))]] [] (by kernel_rfl) trivial ?_
      refine q_kr ?_
      exact trR_less [.s 1, .s 2, .s 3, .s 4, .h 0, .h 1, .h 2] [sO 1 (.ptr 0 0), sO 2 (.ptr 1 0), sO 3 (.ptr 2 0), sI 4 .i64 (IntKind.i64.wrap (i2 + (1 : Int))), hB 0 22 [.arr .u8 32 b_0], hB 1 31 [.arr .u64 4 (List.replicate 4 0)], hB 2 31 [.arr .u64 4 (m1.set (IntKind.i64.wrap (i2.tdiv (8 : Int))).toNat (bor .u64 (m1.getD (IntKind.i64.wrap (i2.tdiv (8 : Int))).toNat 0) (shl .u64 (IntKind.u64.wrap (b_0.getD i2.toNat 0)) (IntKind.u64.wrap (IntKind.i64.wrap ((8 : Int) * (i2.tmod (8 : Int))))))))]] (by kernel_rfl) (ih0 ((m1.set (IntKind.i64.wrap (i2.tdiv (8 : Int))).toNat (bor .u64 (m1.getD (IntKind.i64.wrap (i2.tdiv (8 : Int))).toNat 0) (shl .u64 (IntKind.u64.wrap (b_0.getD i2.toNat 0)) (IntKind.u64.wrap (IntKind.i64.wrap ((8 : Int) * (i2.tmod (8 : Int)))))))), (IntKind.i64.wrap (i2 + (1 : Int)))) h)
    · refine tr_cond_f (decide (i2 < (32 : Int))) (by kernel_rfl) hc4 ?_
      refine tr_exit ?_
      refine q_k_exit ?_
      refine q_kr_exit ?_
      have h := Option.some.inj h
      subst h
      exact q_less [.s 2, .s 3, .h 1, .h 2] [sO 2 (.ptr 1 0), sO 3 (.ptr 2 0), hB 1 31 [.arr .u64 4 (List.replicate 4 0)], hB 2 31 [.arr .u64 4 m1]] (by kernel_rfl) hx0

theorem ref04_sub_ok (a_0 : List Int) (b_1 : List Int) (r : List Int × Int) (h : ref04_sub a_0 b_1 = some r) {pre : List (Nat × Ent)} : CallOk P 81 [.v (.agg [.arr .u64 4 a_0]), .v (.agg [.arr .u64 4 b_1])] pre (.tup [.agg [.arr .u64 4 r.1], .one (.int .u64 r.2)]) [] := by
  refine call0 (N := 28) Try.func81 (by kernel_rfl) rfl rfl rfl pre ?_
  intro _ w
  show Tr P (Ge w) 28 _ _ _ (RetQ P Try.f81 (R0 _ w))
  unfold ref04_sub at h
  refine tr_seq ?_
  refine tr_reg hT [(0, .key 0), (1, .key 1), (2, .key 2)] [.s 2, .s 3, .s 4, .h 0, .h 1, .h 2] [sO 2 (.ptr 0 0), sO 3 (.ptr 1 0), sO 4 (.ptr 2 0), hB 0 31 [.arr .u64 4 a_0], hB 1 31 [.arr .u64 4 b_1], hB 2 31 [.arr .u64 4 (List.replicate 4 0)]] [] (by kernel_rfl) trivial ?_
  refine q_k ?_
  refine tr_seq ?_
  refine tr_reg hT [] [.s 2, .s 3, .s 4, .s 6, .h 0, .h 1, .h 2] [sO 2 (.ptr 0 0), sO 3 (.ptr 1 0), sO 4 (.ptr 2 0), sI 6 .u64 (0 : Int), hB 0 31 [.arr .u64 4 a_0], hB 1 31 [.arr .u64 4 b_1], hB 2 31 [.arr .u64 4 (List.replicate 4 0)]] [] (by kernel_rfl) trivial ?_
  refine q_k ?_
  refine tr_seq ?_
  refine tr_reg hT [(0, .key 3)] [.s 2, .s 3, .s 4, .s 6, .s 7, .h 0, .h 1, .h 2, .h 3] [sO 2 (.ptr 0 0), sO 3 (.ptr 1 0), sO 4 (.ptr 2 0), sI 6 .u64 (0 : Int), sO 7 (.ptr 3 0), hB 0 31 [.arr .u64 4 a_0], hB 1 31 [.arr .u64 4 b_1], hB 2 31 [.arr .u64 4 (List.replicate 4 0)], hB 3 31 [.arr .u64 4 (List.replicate 4 0)]] [] (by kernel_rfl) trivial ?_
  refine q_k ?_
  refine tr_seq ?_
  refine tr_seq ?_
  refine tr_reg hT [] [.s 2, .s 3, .s 4, .s 6, .s 7, .s 8, .h 0, .h 1, .h 2, .h 3] [sO 2 (.ptr 0 0), sO 3 (.ptr 1 0), sO 4 (.ptr 2 0), sI 6 .u64 (0 : Int), sO 7 (.ptr 3 0), sI 8 .i64 (0 : Int), hB 0 31 [.arr .u64 4 a_0], hB 1 31 [.arr .u64 4 b_1], hB 2 31 [.arr .u64 4 (List.replicate 4 0)], hB 3 31 [.arr .u64 4 (List.replicate 4 0)]] [] (by kernel_rfl) trivial ?_
  refine q_k ?_
  refine tr_block ?_
  obtain ⟨rr0, e14, h⟩ := bind_some h
  refine tr_fit [] [sO 2 (.ptr 0 0), sO 3 (.ptr 1 0), sO 4 (.ptr 2 0), sI 6 .u64 (0 : Int), sO 7 (.ptr 3 0), sI 8 .i64 (0 : Int), hB 0 31 [.arr .u64 4 a_0], hB 1 31 [.arr .u64 4 b_1], hB 2 31 [.arr .u64 4 (List.replicate 4 0)], hB 3 31 [.arr .u64 4 (List.replicate 4 0)]] [(0, .blk 31 [.arr .u64 4 a_0]), (1, .blk 31 [.arr .u64 4 b_1]), (2, .blk 31 [.arr .u64 4 (List.replicate 4 0)]), (3, .blk 31 [.arr .u64 4 (List.replicate 4 0)])] (by kernel_rfl) (by kernel_rfl) (by kernel_rfl) rfl ⟨.blk (by kernel_rfl) (by kernel_rfl), .blk (by kernel_rfl) (by kernel_rfl), .blk (by kernel_rfl) (by kernel_rfl), .blk (by kernel_rfl) (by kernel_rfl), trivial⟩ (by kernel_rfl) ?_
  refine tr_loop_fuel (id := 0) (α := List Int × Int × Int) (β := List Int × Int) (fun z => [sO 2 (.ptr 0 0), sO 3 (.ptr 1 0), sO 4 (.ptr 2 0), sI 6 .u64 z.2.1, sO 7 (.ptr 3 0), sI 8 .i64 z.2.2, hB 0 31 [.arr .u64 4 a_0], hB 1 31 [.arr .u64 4 b_1], hB 2 31 [.arr .u64 4 (List.replicate 4 0)], hB 3 31 [.arr .u64 4 z.1]]) (fun z => [sO 4 (.ptr 2 0), sI 6 .u64 z.2, sO 7 (.ptr 3 0), hB 2 31 [.arr .u64 4 (List.replicate 4 0)], hB 3 31 [.arr .u64 4 z.1]]) (fun k z => ref04_sub_l0 a_0 b_1 k z.1 z.2.1 z.2.2) rr0 (fun _ => rfl) (((4 : Int) - (0 : Int)).toNat + 1) ((List.replicate 4 0), (0 : Int), (0 : Int)) e14 ?_ ?_
  · rcases rr0 with ⟨m4, c5⟩
    replace h : (some (m4, c5)) = _ := h
    refine q_b_this ?_
    refine q_k ?_
    refine tr_seq ?_
    refine tr_reg hT [] [.s 4, .s 5, .h 2] [sO 4 (.ptr 2 0), sI 5 .u64 c5, hB 2 31 [.arr .u64 4 m4]] [] (by kernel_rfl) trivial ?_
    refine q_k ?_
    refine tr_ret ?_
    have h := Option.some.inj h
    subst h
    exact q_ret0 hT (.tup [.agg [.arr .u64 4 m4], .one (.int .u64 c5)]) rfl (by kernel_rfl)
  · clear h e14
    intro k ih0 hx0 z h
    obtain ⟨m1, c2, i3⟩ := z
    replace h : (if (decide (i3 < (4 : Int))) = true then if 0 ≤ i3 ∧ i3 < ((4 : Nat) : Int) then if 0 ≤ i3 ∧ i3 < ((4 : Nat) : Int) then (sub64 (a_0.getD i3.toNat 0) (b_1.getD i3.toNat 0) c2).bind (fun (r9, r10) => if 0 ≤ i3 ∧ i3 < ((4 : Nat) : Int) then ref04_sub_l0 a_0 b_1 k (m1.set i3.toNat r9) r10 (IntKind.i64.wrap (i3 + (1 : Int))) else none) else none else none else some (m1, c2)) = _ := h
    refine tr_seq ?_
    refine tr_seq ?_
    refine tr_reg hT [] [.s 2, .s 3, .s 4, .s 6, .s 7, .s 8, .s 10, .h 0, .h 1, .h 2, .h 3] [sO 2 (.ptr 0 0), sO 3 (.ptr 1 0), sO 4 (.ptr 2 0), sI 6 .u64 c2, sO 7 (.ptr 3 0), sI 8 .i64 i3, sB 10 (decide (i3 < (4 : Int))), hB 0 31 [.arr .u64 4 a_0], hB 1 31 [.arr .u64 4 b_1], hB 2 31 [.arr .u64 4 (List.replicate 4 0)], hB 3 31 [.arr .u64 4 m1]] [] (by kernel_rfl) trivial ?_
    refine q_k ?_
    rcases ite_split h with ⟨hc6, h⟩ | ⟨hc6, h⟩
    · refine tr_cond_t (decide (i3 < (4 : Int))) (by kernel_rfl) hc6 ?_
      refine tr_skip ?_
      refine q_k ?_
      refine tr_seq ?_
      refine tr_block ?_
      obtain ⟨hn7, h⟩ := ite_some h
      obtain ⟨hn8, h⟩ := ite_some h
      obtain ⟨⟨r9, r10⟩, e11, h⟩ := bind_some h
      obtain ⟨hn13, h⟩ := ite_some h
      refine tr_regd hT hM [(8, .call [] (.tup [.one (.int .u64 r9), .one (.int .u64 r10)]) [])] [.s 2, .s 3, .s 4, .s 6, .s 7, .s 8, .h 0, .h 1, .h 2, .h 3] [sO 2 (.ptr 0 0), sO 3 (.ptr 1 0), sO 4 (.ptr 2 0), sI 6 .u64 r10, sO 7 (.ptr 3 0), sI 8 .i64 i3, hB 0 31 [.arr .u64 4 a_0], hB 1 31 [.arr .u64 4 b_1], hB 2 31 [.arr .u64 4 (List.replicate 4 0)], hB 3 31 [.arr .u64 4 (m1.set i3.toNat r9)]] [0 ≤ i3 ∧ i3 < ((4 : Nat) : Int), 0 ≤ i3 ∧ i3 < ((4 : Nat) : Int), CallOk P 101 [.v (.one (.int .u64 (a_0.getD i3.toNat 0))), .v (.one (.int .u64 (b_1.getD i3.toNat 0))), .v (.one (.int .u64 c2))] [] (.tup [.one (.int .u64 r9), .one (.int .u64 r10)]) [], 0 ≤ i3 ∧ i3 < ((4 : Nat) : Int)] (by kernel_rfl) (hcons hn7 (hcons hn8 (hcons (bits_Sub64_ok (a_0.getD i3.toNat 0) (b_1.getD i3.toNat 0) c2 (r9, r10) e11) (hone hn13)))) ?_
      refine q_b 1 ?_
      refine q_k ?_
      refine tr_reg hT [] [.s 2, .s 3, .s 4, .s 6, .s 7, .s 8, .h 0, .h 1, .h 2, .h 3] [sO 2 (.ptr 0 0), sO 3 (.ptr 1 0), sO 4 (.ptr 2 0), sI 6 .u64 r10, sO 7 (.ptr 3 0), sI 8 .i64 (IntKind.i64.wrap (i3 + (1 : Int))), hB 0 31 [.arr .u64 4 a_0], hB 1 31 [.arr .u64 4 b_1], hB 2 31 [.arr .u64 4 (List.replicate 4 0)], hB 3 31 [.arr .u64 4 (m1.set i3.toNat r9)]] [] (by kernel_rfl) trivial ?_
      refine q_kr ?_
      exact trR_less [.s 2, .s 3, .s 4, .s 6, .s 7, .s 8, .h 0, .h 1, .h 2, .h 3] [sO 2 (.ptr 0 0), sO 3 (.ptr 1 0), sO 4 (.ptr 2 0), sI 6 .u64 r10, sO 7 (.ptr 3 0), sI 8 .i64 (IntKind.i64.wrap (i3 + (1 : Int))), hB 0 31 [.arr .u64 4 a_0], hB 1 31 [.arr .u64 4 b_1], hB 2 31 [.arr .u64 4 (List.replicate 4 0)], hB 3 31 [.arr .u64 4 (m1.set i3.toNat r9)]] (by kernel_rfl) (ih0 ((m1.set i3.toNat r9), r10, (IntKind.i64.wrap (i3 + (1 : Int)))) h)
    · refine tr_cond_f (decide (i3 < (4 : Int))) (by kernel_rfl) hc6 ?_
      refine tr_exit ?_
      refine q_k_exit ?_
      refine q_kr_exit ?_
      have h := Option.some.inj h
      subst h
      exact q_less [.s 4, .s 6, .s 7, .h 2, .h 3] [sO 4 (.ptr 2 0), sI 6 .u64 c2, sO 7 (.ptr 3 0), hB 2 31 [.arr .u64 4 (List.replicate 4 0)], hB 3 31 [.arr .u64 4 m1]] (by kernel_rfl) hx0

theorem ref04_less_ok (a_0 : List Int) (b_1 : List Int) (r : Bool) (h : ref04_less a_0 b_1 = some r) {pre : List (Nat × Ent)} : CallOk P 75 [.v (.agg [.arr .u64 4 a_0]), .v (.agg [.arr .u64 4 b_1])] pre (.v (.one (.bool r))) [] := by
  refine call0 (N := 15) Try.func75 (by kernel_rfl) rfl rfl rfl pre ?_
  intro _ w
  show Tr P (Ge w) 15 _ _ _ (RetQ P Try.f75 (R0 _ w))
  unfold ref04_less at h
  refine tr_seq ?_
  refine tr_reg hT [(0, .key 0), (1, .key 1)] [.s 2, .s 3, .h 0, .h 1] [sO 2 (.ptr 0 0), sO 3 (.ptr 1 0), hB 0 31 [.arr .u64 4 a_0], hB 1 31 [.arr .u64 4 b_1]] [] (by kernel_rfl) trivial ?_
  refine q_k ?_
  refine tr_seq ?_
  obtain ⟨⟨a1, r2⟩, e3, h⟩ := bind_some h
  refine tr_reg hT [(2, .call [] (.tup [.agg [.arr .u64 4 a1], .one (.int .u64 r2)]) []), (6, .key 2)] [.s 6] [sI 6 .u64 r2] [CallOk P 81 [.v (.agg [.arr .u64 4 a_0]), .v (.agg [.arr .u64 4 b_1])] [] (.tup [.agg [.arr .u64 4 a1], .one (.int .u64 r2)]) []] (by kernel_rfl) (hone (ref04_sub_ok a_0 b_1 (a1, r2) e3)) ?_
  refine q_k ?_
  refine tr_seq ?_
  refine tr_reg hT [] [.s 4] [sB 4 (r2 == (1 : Int))] [] (by kernel_rfl) trivial ?_
  refine q_k ?_
  refine tr_ret ?_
  have h := Option.some.inj h
  subst h
  exact q_ret0 hT (.v (.one (.bool (r2 == (1 : Int))))) rfl (by kernel_rfl)

theorem ref04_add_ok (a_0 : List Int) (b_1 : List Int) (r : List Int × Int) (h : ref04_add a_0 b_1 = some r) {pre : List (Nat × Ent)} : CallOk P 82 [.v (.agg [.arr .u64 4 a_0]), .v (.agg [.arr .u64 4 b_1])] pre (.tup [.agg [.arr .u64 4 r.1], .one (.int .u64 r.2)]) [] := by
  refine call0 (N := 28) Try.func82 (by kernel_rfl) rfl rfl rfl pre ?_
  intro _ w
  show Tr P (Ge w) 28 _ _ _ (RetQ P Try.f82 (R0 _ w))
  unfold ref04_add at h
  refine tr_seq ?_
  refine tr_reg hT [(0, .key 0), (1, .key 1), (2, .key 2)] [.s 2, .s 3, .s 4, .h 0, .h 1, .h 2] [sO 2 (.ptr 0 0), sO 3 (.ptr 1 0), sO 4 (.ptr 2 0), hB 0 31 [.arr .u64 4 a_0], hB 1 31 [.arr .u64 4 b_1], hB 2 31 [.arr .u64 4 (List.replicate 4 0)]] [] (by kernel_rfl) trivial ?_
  refine q_k ?_
  refine tr_seq ?_
  refine tr_reg hT [] [.s 2, .s 3, .s 4, .s 6, .h 0, .h 1, .h 2] [sO 2 (.ptr 0 0), sO 3 (.ptr 1 0), sO 4 (.ptr 2 0), sI 6 .u64 (0 : Int), hB 0 31 [.arr .u64 4 a_0], hB 1 31 [.arr .u64 4 b_1], hB 2 31 [.arr .u64 4 (List.replicate 4 0)]] [] (by kernel_rfl) trivial ?_
  refine q_k ?_
  refine tr_seq ?_
  refine tr_reg hT [(0, .key 3)] [.s 2, .s 3, .s 4, .s 6, .s 7, .h 0, .h 1, .h 2, .h 3] [sO 2 (.ptr 0 0), sO 3 (.ptr 1 0), sO 4 (.ptr 2 0), sI 6 .u64 (0 : Int), sO 7 (.ptr 3 0), hB 0 31 [.arr .u64 4 a_0], hB 1 31 [.arr .u64 4 b_1], hB 2 31 [.arr .u64 4 (List.replicate 4 0)], hB 3 31 [.arr .u64 4 (List.replicate 4 0)]] [] (by kernel_rfl) trivial ?_
  refine q_k ?_
  refine tr_seq ?_
  refine tr_seq ?_
  refine tr_reg hT [] [.s 2, .s 3, .s 4, .s 6, .s 7, .s 8, .h 0, .h 1, .h 2, .h 3] [sO 2 (.ptr 0 0), sO 3 (.ptr 1 0), sO 4 (.ptr 2 0), sI 6 .u64 (0 : Int), sO 7 (.ptr 3 0), sI 8 .i64 (0 : Int), hB 0 31 [.arr .u64 4 a_0], hB 1 31 [.arr .u64 4 b_1], hB 2 31 [.arr .u64 4 (List.replicate 4 0)], hB 3 31 [.arr .u64 4 (List.replicate 4 0)]] [] (by kernel_rfl) trivial ?_
  refine q_k ?_
  refine tr_block ?_
  obtain ⟨rr0, e14, h⟩ := bind_some h
  refine tr_fit [] [sO 2 (.ptr 0 0), sO 3 (.ptr 1 0), sO 4 (.ptr 2 0), sI 6 .u64 (0 : Int), sO 7 (.ptr 3 0), sI 8 .i64 (0 : Int), hB 0 31 [.arr .u64 4 a_0], hB 1 31 [.arr .u64 4 b_1], hB 2 31 [.arr .u64 4 (List.replicate 4 0)], hB 3 31 [.arr .u64 4 (List.replicate 4 0)]] [(0, .blk 31 [.arr .u64 4 a_0]), (1, .blk 31 [.arr .u64 4 b_1]), (2, .blk 31 [.arr .u64 4 (List.replicate 4 0)]), (3, .blk 31 [.arr .u64 4 (List.replicate 4 0)])] (by kernel_rfl) (by kernel_rfl) (by kernel_rfl) rfl ⟨.blk (by kernel_rfl) (by kernel_rfl), .blk (by kernel_rfl) (by kernel_rfl), .blk (by kernel_rfl) (by kernel_rfl), .blk (by kernel_rfl) (by kernel_rfl), trivial⟩ (by kernel_rfl) ?_
  refine tr_loop_fuel (id := 0) (α := List Int × Int × Int) (β := List Int × Int) (fun z => [sO 2 (.ptr 0 0), sO 3 (.ptr 1 0), sO 4 (.ptr 2 0), sI 6 .u64 z.2.1, sO 7 (.ptr 3 0), sI 8 .i64 z.2.2, hB 0 31 [.arr .u64 4 a_0], hB 1 31 [.arr .u64 4 b_1], hB 2 31 [.arr .u64 4 (List.replicate 4 0)], hB 3 31 [.arr .u64 4 z.1]]) (fun z => [sO 4 (.ptr 2 0), sI 6 .u64 z.2, sO 7 (.ptr 3 0), hB 2 31 [.arr .u64 4 (List.replicate 4 0)], hB 3 31 [.arr .u64 4 z.1]]) (fun k z => ref04_add_l0 a_0 b_1 k z.1 z.2.1 z.2.2) rr0 (fun _ => rfl) (((4 : Int) - (0 : Int)).toNat + 1) ((List.replicate 4 0), (0 : Int), (0 : Int)) e14 ?_ ?_
  · rcases rr0 with ⟨m4, c5⟩
    replace h : (some (m4, c5)) = _ := h
    refine q_b_this ?_
    refine q_k ?_
    refine tr_seq ?_
    refine tr_reg hT [] [.s 4, .s 5, .h 2] [sO 4 (.ptr 2 0), sI 5 .u64 c5, hB 2 31 [.arr .u64 4 m4]] [] (by kernel_rfl) trivial ?_
    refine q_k ?_
    refine tr_ret ?_
    have h := Option.some.inj h
    subst h
    exact q_ret0 hT (.tup [.agg [.arr .u64 4 m4], .one (.int .u64 c5)]) rfl (by kernel_rfl)
  · clear h e14
    intro k ih0 hx0 z h
    obtain ⟨m1, c2, i3⟩ := z
    replace h : (if (decide (i3 < (4 : Int))) = true then if 0 ≤ i3 ∧ i3 < ((4 : Nat) : Int) then if 0 ≤ i3 ∧ i3 < ((4 : Nat) : Int) then (add64 (a_0.getD i3.toNat 0) (b_1.getD i3.toNat 0) c2).bind (fun (r9, r10) => if 0 ≤ i3 ∧ i3 < ((4 : Nat) : Int) then ref04_add_l0 a_0 b_1 k (m1.set i3.toNat r9) r10 (IntKind.i64.wrap (i3 + (1 : Int))) else none) else none else none else some (m1, c2)) = _ := h
    refine tr_seq ?_
    refine tr_seq ?_
    refine tr_reg hT [] [.s 2, .s 3, .s 4, .s 6, .s 7, .s 8, .s 10, .h 0, .h 1, .h 2, .h 3] [sO 2 (.ptr 0 0), sO 3 (.ptr 1 0), sO 4 (.ptr 2 0), sI 6 .u64 c2, sO 7 (.ptr 3 0), sI 8 .i64 i3, sB 10 (decide (i3 < (4 : Int))), hB 0 31 [.arr .u64 4 a_0], hB 1 31 [.arr .u64 4 b_1], hB 2 31 [.arr .u64 4 (List.replicate 4 0)], hB 3 31 [.arr .u64 4 m1]] [] (by kernel_rfl) trivial ?_
    refine q_k ?_
    rcases ite_split h with ⟨hc6, h⟩ | ⟨hc6, h⟩
    · refine tr_cond_t (decide (i3 < (4 : Int))) (by kernel_rfl) hc6 ?_
      refine tr_skip ?_
      refine q_k ?_
      refine tr_seq ?_
      refine tr_block ?_
      obtain ⟨hn7, h⟩ := ite_some h
      obtain ⟨hn8, h⟩ := ite_some h
      obtain ⟨⟨r9, r10⟩, e11, h⟩ := bind_some h
      obtain ⟨hn13, h⟩ := ite_some h
      refine tr_regd hT hM [(8, .call [] (.tup [.one (.int .u64 r9), .one (.int .u64 r10)]) [])] [.s 2, .s 3, .s 4, .s 6, .s 7, .s 8, .h 0, .h 1, .h 2, .h 3] [sO 2 (.ptr 0 0), sO 3 (.ptr 1 0), sO 4 (.ptr 2 0), sI 6 .u64 r10, sO 7 (.ptr 3 0), sI 8 .i64 i3, hB 0 31 [.arr .u64 4 a_0], hB 1 31 [.arr .u64 4 b_1], hB 2 31 [.arr .u64 4 (List.replicate 4 0)], hB 3 31 [.arr .u64 4 (m1.set i3.toNat r9)]] [0 ≤ i3 ∧ i3 < ((4 : Nat) : Int), 0 ≤ i3 ∧ i3 < ((4 : Nat) : Int), CallOk P 78 [.v (.one (.int .u64 (a_0.getD i3.toNat 0))), .v (.one (.int .u64 (b_1.getD i3.toNat 0))), .v (.one (.int .u64 c2))] [] (.tup [.one (.int .u64 r9), .one (.int .u64 r10)]) [], 0 ≤ i3 ∧ i3 < ((4 : Nat) : Int)] (by kernel_rfl) (hcons hn7 (hcons hn8 (hcons (bits_Add64_ok (a_0.getD i3.toNat 0) (b_1.getD i3.toNat 0) c2 (r9, r10) e11) (hone hn13)))) ?_
      refine q_b 1 ?_
      refine q_k ?_
      refine tr_reg hT [] [.s 2, .s 3, .s 4, .s 6, .s 7, .s 8, .h 0, .h 1, .h 2, .h 3] [sO 2 (.ptr 0 0), sO 3 (.ptr 1 0), sO 4 (.ptr 2 0), sI 6 .u64 r10, sO 7 (.ptr 3 0), sI 8 .i64 (IntKind.i64.wrap (i3 + (1 : Int))), hB 0 31 [.arr .u64 4 a_0], hB 1 31 [.arr .u64 4 b_1], hB 2 31 [.arr .u64 4 (List.replicate 4 0)], hB 3 31 [.arr .u64 4 (m1.set i3.toNat r9)]] [] (by kernel_rfl) trivial ?_
      refine q_kr ?_
      exact trR_less [.s 2, .s 3, .s 4, .s 6, .s 7, .s 8, .h 0, .h 1, .h 2, .h 3] [sO 2 (.ptr 0 0), sO 3 (.ptr 1 0), sO 4 (.ptr 2 0), sI 6 .u64 r10, sO 7 (.ptr 3 0), sI 8 .i64 (IntKind.i64.wrap (i3 + (1 : Int))), hB 0 31 [.arr .u64 4 a_0], hB 1 31 [.arr .u64 4 b_1], hB 2 31 [.arr .u64 4 (List.replicate 4 0)], hB 3 31 [.arr .u64 4 (m1.set i3.toNat r9)]] (by kernel_rfl) (ih0 ((m1.set i3.toNat r9), r10, (IntKind.i64.wrap (i3 + (1 : Int)))) h)
    · refine tr_cond_f (decide (i3 < (4 : Int))) (by kernel_rfl) hc6 ?_
      refine tr_exit ?_
      refine q_k_exit ?_
      refine q_kr_exit ?_
      have h := Option.some.inj h
      subst h
      exact q_less [.s 4, .s 6, .s 7, .h 2, .h 3] [sO 4 (.ptr 2 0), sI 6 .u64 c2, sO 7 (.ptr 3 0), hB 2 31 [.arr .u64 4 (List.replicate 4 0)], hB 3 31 [.arr .u64 4 m1]] (by kernel_rfl) hx0

theorem ref04_modL_ok (t_0 : List Int) (r : List Int) (h : ref04_modL t_0 = some r) {pre : List (Nat × Ent)} : CallOk P 76 [.v (.agg [.arr .u64 8 t_0])] pre (.v (.agg [.arr .u64 4 r])) [] := by
  refine call0 (N := 39) Try.func76 (by kernel_rfl) rfl rfl rfl pre ?_
  intro _ w
  show Tr P (Ge w) 39 _ _ _ (RetQ P Try.f76 (R0 _ w))
  unfold ref04_modL at h
  refine tr_seq ?_
  refine tr_reg hT [(0, .key 0), (1, .key 1)] [.s 1, .s 2, .h 0, .h 1] [sO 1 (.ptr 0 0), sO 2 (.ptr 1 0), hB 0 75 [.arr .u64 8 t_0], hB 1 31 [.arr .u64 4 (List.replicate 4 0)]] [] (by kernel_rfl) trivial ?_
  refine q_k ?_
  refine tr_seq ?_
  refine tr_reg hT [(0, .key 2)] [.s 1, .s 2, .s 3, .h 0, .h 1, .h 2] [sO 1 (.ptr 0 0), sO 2 (.ptr 1 0), sO 3 (.ptr 2 0), hB 0 75 [.arr .u64 8 t_0], hB 1 31 [.arr .u64 4 (List.replicate 4 0)], hB 2 31 [.arr .u64 4 (List.replicate 4 0)]] [] (by kernel_rfl) trivial ?_
  refine q_k ?_
  refine tr_seq ?_
  refine tr_seq ?_
  refine tr_reg hT [] [.s 1, .s 2, .s 3, .s 4, .h 0, .h 1, .h 2] [sO 1 (.ptr 0 0), sO 2 (.ptr 1 0), sO 3 (.ptr 2 0), sI 4 .i64 (511 : Int), hB 0 75 [.arr .u64 8 t_0], hB 1 31 [.arr .u64 4 (List.replicate 4 0)], hB 2 31 [.arr .u64 4 (List.replicate 4 0)]] [] (by kernel_rfl) trivial ?_
  refine q_k ?_
  refine tr_block ?_
  obtain ⟨m3, e22, h⟩ := bind_some h
  refine tr_fit [] [sO 1 (.ptr 0 0), sO 2 (.ptr 1 0), sO 3 (.ptr 2 0), sI 4 .i64 (511 : Int), hB 0 75 [.arr .u64 8 t_0], hB 1 31 [.arr .u64 4 (List.replicate 4 0)], hB 2 31 [.arr .u64 4 (List.replicate 4 0)]] [(0, .blk 75 [.arr .u64 8 t_0]), (1, .blk 31 [.arr .u64 4 (List.replicate 4 0)]), (2, .blk 31 [.arr .u64 4 (List.replicate 4 0)])] (by kernel_rfl) (by kernel_rfl) (by kernel_rfl) rfl ⟨.blk (by kernel_rfl) (by kernel_rfl), .blk (by kernel_rfl) (by kernel_rfl), .blk (by kernel_rfl) (by kernel_rfl), trivial⟩ (by kernel_rfl) ?_
  refine tr_loop_fuel (id := 0) (α := List Int × Int) (β := List Int) (fun z => [sO 1 (.ptr 0 0), sO 2 (.ptr 1 0), sO 3 (.ptr 2 0), sI 4 .i64 z.2, hB 0 75 [.arr .u64 8 t_0], hB 1 31 [.arr .u64 4 (List.replicate 4 0)], hB 2 31 [.arr .u64 4 z.1]]) (fun z => [sO 2 (.ptr 1 0), sO 3 (.ptr 2 0), hB 1 31 [.arr .u64 4 (List.replicate 4 0)], hB 2 31 [.arr .u64 4 z]]) (fun k z => ref04_modL_l0 t_0 k z.1 z.2) m3 (fun _ => rfl) (((511 : Int) - (0 : Int) + 1).toNat + 1) ((List.replicate 4 0), (511 : Int)) e22 ?_ ?_
  · skip
    replace h : (some m3) = _ := h
    refine q_b_this ?_
    refine q_k ?_
    refine tr_seq ?_
    refine tr_reg hT [] [.s 2, .h 1] [sO 2 (.ptr 1 0), hB 1 31 [.arr .u64 4 m3]] [] (by kernel_rfl) trivial ?_
    refine q_k ?_
    refine tr_ret ?_
    have h := Option.some.inj h
    subst h
    exact q_ret0 hT (.v (.agg [.arr .u64 4 m3])) rfl (by kernel_rfl)
  · clear h e22
    intro k ih0 hx0 z h
    obtain ⟨m1, i2⟩ := z
    replace h : (if (decide (i2 ≥ (0 : Int))) = true then (ref04_add m1 m1).bind (fun (a5, r6) => if 0 ≤ (IntKind.i64.wrap (i2.tdiv (64 : Int))) ∧ (IntKind.i64.wrap (i2.tdiv (64 : Int))) < ((8 : Nat) : Int) then if 0 ≤ (IntKind.u64.wrap (i2.tmod (64 : Int))) then (ref04_L).bind (fun a11 => (ref04_less (a5.set 0 (bor .u64 (a5.getD 0 0) (band .u64 (shr .u64 (t_0.getD (IntKind.i64.wrap (i2.tdiv (64 : Int))).toNat 0) (IntKind.u64.wrap (i2.tmod (64 : Int)))) (1 : Int)))) a11).bind (fun b13 => if (!b13) = true then (ref04_L).bind (fun a16 => (ref04_sub (a5.set 0 (bor .u64 (a5.getD 0 0) (band .u64 (shr .u64 (t_0.getD (IntKind.i64.wrap (i2.tdiv (64 : Int))).toNat 0) (IntKind.u64.wrap (i2.tmod (64 : Int)))) (1 : Int)))) a16).bind (fun (a18, r19) => ref04_modL_l0 t_0 k a18 (IntKind.i64.wrap (i2 - (1 : Int))))) else ref04_modL_l0 t_0 k (a5.set 0 (bor .u64 (a5.getD 0 0) (band .u64 (shr .u64 (t_0.getD (IntKind.i64.wrap (i2.tdiv (64 : Int))).toNat 0) (IntKind.u64.wrap (i2.tmod (64 : Int)))) (1 : Int)))) (IntKind.i64.wrap (i2 - (1 : Int))))) else none else none) else some m1) = _ := h
    refine tr_seq ?_
    refine tr_seq ?_
    refine tr_reg hT [] [.s 1, .s 2, .s 3, .s 4, .s 6, .h 0, .h 1, .h 2] [sO 1 (.ptr 0 0), sO 2 (.ptr 1 0), sO 3 (.ptr 2 0), sI 4 .i64 i2, sB 6 (decide (i2 ≥ (0 : Int))), hB 0 75 [.arr .u64 8 t_0], hB 1 31 [.arr .u64 4 (List.replicate 4 0)], hB 2 31 [.arr .u64 4 m1]] [] (by kernel_rfl) trivial ?_
    refine q_k ?_
    rcases ite_split h with ⟨hc4, h⟩ | ⟨hc4, h⟩
    · refine tr_cond_t (decide (i2 ≥ (0 : Int))) (by kernel_rfl) hc4 ?_
      refine tr_skip ?_
      refine q_k ?_
      refine tr_seq ?_
      refine tr_block ?_
      refine tr_seq ?_
      obtain ⟨⟨a5, r6⟩, e7, h⟩ := bind_some h
      refine tr_reg hT [(2, .call [] (.tup [.agg [.arr .u64 4 a5], .one (.int .u64 r6)]) [])] [.s 1, .s 2, .s 3, .s 4, .h 0, .h 1, .h 2] [sO 1 (.ptr 0 0), sO 2 (.ptr 1 0), sO 3 (.ptr 2 0), sI 4 .i64 i2, hB 0 75 [.arr .u64 8 t_0], hB 1 31 [.arr .u64 4 (List.replicate 4 0)], hB 2 31 [.arr .u64 4 a5]] [CallOk P 82 [.v (.agg [.arr .u64 4 m1]), .v (.agg [.arr .u64 4 m1])] [] (.tup [.agg [.arr .u64 4 a5], .one (.int .u64 r6)]) []] (by kernel_rfl) (hone (ref04_add_ok m1 m1 (a5, r6) e7)) ?_
      refine q_k ?_
      refine tr_seq ?_
      obtain ⟨hn9, h⟩ := ite_some h
      obtain ⟨hn10, h⟩ := ite_some h
      refine tr_regd hT hM [] [.s 1, .s 2, .s 3, .s 4, .h 0, .h 1, .h 2] [sO 1 (.ptr 0 0), sO 2 (.ptr 1 0), sO 3 (.ptr 2 0), sI 4 .i64 i2, hB 0 75 [.arr .u64 8 t_0], hB 1 31 [.arr .u64 4 (List.replicate 4 0)], hB 2 31 [.arr .u64 4 (a5.set 0 (bor .u64 (a5.getD 0 0) (band .u64 (shr .u64 (t_0.getD (IntKind.i64.wrap (i2.tdiv (64 : Int))).toNat 0) (IntKind.u64.wrap (i2.tmod (64 : Int)))) (1 : Int))))]] [0 ≤ (0 : Int) ∧ (0 : Int) < ((4 : Nat) : Int), (64 : Int) ≠ 0, 0 ≤ (IntKind.i64.wrap (i2.tdiv (64 : Int))) ∧ (IntKind.i64.wrap (i2.tdiv (64 : Int))) < ((8 : Nat) : Int), (64 : Int) ≠ 0, 0 ≤ (IntKind.u64.wrap (i2.tmod (64 : Int))), 0 ≤ (0 : Int) ∧ (0 : Int) < ((4 : Nat) : Int)] (by kernel_rfl) (hcons (by decide) (hcons (by decide) (hcons hn9 (hcons (by decide) (hcons hn10 (hone (by decide))))))) ?_
      refine q_k ?_
      refine tr_seq ?_
      obtain ⟨a11, e12, h⟩ := bind_some h
      obtain ⟨b13, e14, h⟩ := bind_some h
      refine tr_regd hT hM [(1, .call [] (.v (.agg [.arr .u64 4 a11])) []), (2, .call [] (.v (.one (.bool b13))) [])] [.s 1, .s 2, .s 3, .s 4, .s 31, .h 0, .h 1, .h 2] [sO 1 (.ptr 0 0), sO 2 (.ptr 1 0), sO 3 (.ptr 2 0), sI 4 .i64 i2, sB 31 (!b13), hB 0 75 [.arr .u64 8 t_0], hB 1 31 [.arr .u64 4 (List.replicate 4 0)], hB 2 31 [.arr .u64 4 (a5.set 0 (bor .u64 (a5.getD 0 0) (band .u64 (shr .u64 (t_0.getD (IntKind.i64.wrap (i2.tdiv (64 : Int))).toNat 0) (IntKind.u64.wrap (i2.tmod (64 : Int)))) (1 : Int))))]] [CallOk P 30 [] [] (.v (.agg [.arr .u64 4 a11])) [], CallOk P 75 [.v (.agg [.arr .u64 4 (a5.set 0 (bor .u64 (a5.getD 0 0) (band .u64 (shr .u64 (t_0.getD (IntKind.i64.wrap (i2.tdiv (64 : Int))).toNat 0) (IntKind.u64.wrap (i2.tmod (64 : Int)))) (1 : Int))))]), .v (.agg [.arr .u64 4 a11])] [] (.v (.one (.bool b13))) []] (by kernel_rfl) (hcons (ref04_L_ok  a11 e12) (hone (ref04_less_ok (a5.set 0 (bor .u64 (a5.getD 0 0) (band .u64 (shr .u64 (t_0.getD (IntKind.i64.wrap (i2.tdiv (64 : Int))).toNat 0) (IntKind.u64.wrap (i2.tmod (64 : Int)))) (1 : Int)))) a11 b13 e14))) ?_
      refine q_k ?_
      rcases ite_split h with ⟨hc15, h⟩ | ⟨hc15, h⟩
      · refine tr_cond_t (!b13) (by kernel_rfl) hc15 ?_
        obtain ⟨a16, e17, h⟩ := bind_some h
        obtain ⟨⟨a18, r19⟩, e20, h⟩ := bind_some h
        refine tr_regd hT hM [(1, .call [] (.v (.agg [.arr .u64 4 a16])) []), (2, .call [] (.tup [.agg [.arr .u64 4 a18], .one (.int .u64 r19)]) [])] [.s 1, .s 2, .s 3, .s 4, .h 0, .h 1, .h 2] [sO 1 (.ptr 0 0), sO 2 (.ptr 1 0), sO 3 (.ptr 2 0), sI 4 .i64 i2, hB 0 75 [.arr .u64 8 t_0], hB 1 31 [.arr .u64 4 (List.replicate 4 0)], hB 2 31 [.arr .u64 4 a18]] [CallOk P 30 [] [] (.v (.agg [.arr .u64 4 a16])) [], CallOk P 81 [.v (.agg [.arr .u64 4 (a5.set 0 (bor .u64 (a5.getD 0 0) (band .u64 (shr .u64 (t_0.getD (IntKind.i64.wrap (i2.tdiv (64 : Int))).toNat 0) (IntKind.u64.wrap (i2.tmod (64 : Int)))) (1 : Int))))]), .v (.agg [.arr .u64 4 a16])] [] (.tup [.agg [.arr .u64 4 a18], .one (.int .u64 r19)]) []] (by kernel_rfl) (hcons (ref04_L_ok  a16 e17) (hone (ref04_sub_ok (a5.set 0 (bor .u64 (a5.getD 0 0) (band .u64 (shr .u64 (t_0.getD (IntKind.i64.wrap (i2.tdiv (64 : Int))).toNat 0) (IntKind.u64.wrap (i2.tmod (64 : Int)))) (1 : Int)))) a16 (a18, r19) e20))) ?_
        refine q_b 1 ?_
        refine q_k ?_
        refine tr_reg hT [] [.s 1, .s 2, .s 3, .s 4, .h 0, .h 1, .h 2] [sO 1 (.ptr 0 0), sO 2 (.ptr 1 0), sO 3 (.ptr 2 0), sI 4 .i64 (IntKind.i64.wrap (i2 - (1 : Int))), hB 0 75 [.arr .u64 8 t_0], hB 1 31 [.arr .u64 4 (List.replicate 4 0)], hB 2 31 [.arr .u64 4 a18]] [] (by kernel_rfl) trivial ?_
        refine q_kr ?_
        exact trR_less [.s 1, .s 2, .s 3, .s 4, .h 0, .h 1, .h 2] [sO 1 (.ptr 0 0), sO 2 (.ptr 1 0), sO 3 (.ptr 2 0), sI 4 .i64 (IntKind.i64.wrap (i2 - (1 : Int))), hB 0 75 [.arr .u64 8 t_0], hB 1 31 [.arr .u64 4 (List.replicate 4 0)], hB 2 31 [.arr .u64 4 a18]] (by kernel_rfl) (ih0 (a18, (IntKind.i64.wrap (i2 - (1 : Int)))) h)
      · refine tr_cond_f (!b13) (by kernel_rfl) hc15 ?_
        refine tr_skip ?_
        refine q_b 1 ?_
        refine q_k ?_
        refine tr_reg hT [] [.s 1, .s 2, .s 3, .s 4, .h 0, .h 1, .h 2] [sO 1 (.ptr 0 0), sO 2 (.ptr 1 0), sO 3 (.ptr 2 0), sI 4 .i64 (IntKind.i64.wrap (i2 - (1 : Int))), hB 0 75 [.arr .u64 8 t_0], hB 1 31 [.arr .u64 4 (List.replicate 4 0)], hB 2 31 [.arr .u64 4 (a5.set 0 (bor .u64 (a5.getD 0 0) (band .u64 (shr .u64 (t_0.getD (IntKind.i64.wrap (i2.tdiv (64 : Int))).toNat 0) (IntKind.u64.wrap (i2.tmod (64 : Int)))) (1 : Int))))]] [] (by kernel_rfl) trivial ?_
        refine q_kr ?_
        exact trR_less [.s 1, .s 2, .s 3, .s 4, .h 0, .h 1, .h 2] [sO 1 (.ptr 0 0), sO 2 (.ptr 1 0), sO 3 (.ptr 2 0), sI 4 .i64 (IntKind.i64.wrap (i2 - (1 : Int))), hB 0 75 [.arr .u64 8 t_0], hB 1 31 [.arr .u64 4 (List.replicate 4 0)], hB 2 31 [.arr .u64 4 (a5.set 0 (bor .u64 (a5.getD 0 0) (band .u64 (shr .u64 (t_0.getD (IntKind.i64.wrap (i2.tdiv (64 : Int))).toNat 0) (IntKind.u64.wrap (i2.tmod (64 : Int)))) (1 : Int))))]] (by kernel_rfl) (ih0 ((a5.set 0 (bor .u64 (a5.getD 0 0) (band .u64 (shr .u64 (t_0.getD (IntKind.i64.wrap (i2.tdiv (64 : Int))).toNat 0) (IntKind.u64.wrap (i2.tmod (64 : Int)))) (1 : Int)))), (IntKind.i64.wrap (i2 - (1 : Int)))) h)
    · refine tr_cond_f (decide (i2 ≥ (0 : Int))) (by kernel_rfl) hc4 ?_
      refine tr_exit ?_
      refine q_k_exit ?_
      refine q_kr_exit ?_
      have h := Option.some.inj h
      subst h
      exact q_less [.s 2, .s 3, .h 1, .h 2] [sO 2 (.ptr 1 0), sO 3 (.ptr 2 0), hB 1 31 [.arr .u64 4 (List.replicate 4 0)], hB 2 31 [.arr .u64 4 m1]] (by kernel_rfl) hx0

end Go.Proofs.Sb
