/- Walks, printed by a program of this session (gowalk.py): each Go function comes to its plain function's answer. -/
import Derived.Test.YtdcdanfeepncmaaSbA
import Derived.Test.YtdcdanfeepncmaaSbD
import Derived.Test.YtdcdanfeepncmaaSbI
import Derived.Test.YtdcdanfeepncmaaSbV0
import Derived.Test.YtdcdanfeepncmaaSbV1
import Derived.Test.YtdcdanfeepncmaaSbV2
import Derived.Test.YtdcdanfeepncmaaSbV3
import Derived.Test.YtdcdanfeepncmaaSbV4
namespace Go.Proofs.Sb
open Go Go.Gw D
set_option linter.unusedVariables false
set_option maxRecDepth 20000

theorem limb_Pow_ok (a_0 : List Int) (e_1 : List Int) (r : List Int) (h : limb_Pow a_0 e_1 = some r) {pre : List (Nat × Ent)} : CallOk P 103 [.v (.agg [.arr .u64 5 a_0]), .v (.agg [.arr .u8 32 e_1])] pre (.v (.agg [.arr .u64 5 r])) [] := by
  refine call0 (N := 28) Try.func103 (by kernel_rfl) rfl rfl rfl pre ?_
  intro _ w
  show Tr P (Ge w) 28 _ _ _ (RetQ P Try.f103 (R0 _ w))
  unfold limb_Pow at h
  refine tr_seq ?_
  refine tr_reg hT [(0, .key 0), (1, .key 1), (2, .key 2)] [.s 2, .s 3, .s 4, .h 0, .h 1, .h 2] [sO 2 (.ptr 0 0), sO 3 (.ptr 1 0), sO 4 (.ptr 2 0), hB 0 71 [.arr .u64 5 a_0], hB 1 22 [.arr .u8 32 e_1], hB 2 71 [.arr .u64 5 (List.replicate 5 0)]] [] (by kernel_rfl) trivial ?_
  refine q_k ?_
  refine tr_seq ?_
  obtain ⟨a1, e2, h⟩ := bind_some h
  refine tr_reg hT [(0, .call [] (.v (.agg [.arr .u64 5 a1])) []), (1, .key 3)] [.s 2, .s 3, .s 4, .s 5, .h 0, .h 1, .h 2, .h 3] [sO 2 (.ptr 0 0), sO 3 (.ptr 1 0), sO 4 (.ptr 2 0), sO 5 (.ptr 3 0), hB 0 71 [.arr .u64 5 a_0], hB 1 22 [.arr .u8 32 e_1], hB 2 71 [.arr .u64 5 (List.replicate 5 0)], hB 3 71 [.arr .u64 5 a1]] [CallOk P 87 [.v (.one (.int .u64 (1 : Int)))] [] (.v (.agg [.arr .u64 5 a1])) []] (by kernel_rfl) (hone (limb_Small_ok (1 : Int) a1 e2)) ?_
  refine q_k ?_
  refine tr_seq ?_
  refine tr_seq ?_
  refine tr_reg hT [] [.s 2, .s 3, .s 4, .s 5, .s 6, .h 0, .h 1, .h 2, .h 3] [sO 2 (.ptr 0 0), sO 3 (.ptr 1 0), sO 4 (.ptr 2 0), sO 5 (.ptr 3 0), sI 6 .i64 (255 : Int), hB 0 71 [.arr .u64 5 a_0], hB 1 22 [.arr .u8 32 e_1], hB 2 71 [.arr .u64 5 (List.replicate 5 0)], hB 3 71 [.arr .u64 5 a1]] [] (by kernel_rfl) trivial ?_
  refine q_k ?_
  refine tr_block ?_
  obtain ⟨m5, e14, h⟩ := bind_some h
  refine tr_fit [] [sO 2 (.ptr 0 0), sO 3 (.ptr 1 0), sO 4 (.ptr 2 0), sO 5 (.ptr 3 0), sI 6 .i64 (255 : Int), hB 0 71 [.arr .u64 5 a_0], hB 1 22 [.arr .u8 32 e_1], hB 2 71 [.arr .u64 5 (List.replicate 5 0)], hB 3 71 [.arr .u64 5 a1]] [(0, .blk 71 [.arr .u64 5 a_0]), (1, .blk 22 [.arr .u8 32 e_1]), (2, .blk 71 [.arr .u64 5 (List.replicate 5 0)]), (3, .blk 71 [.arr .u64 5 a1])] (by kernel_rfl) (by kernel_rfl) (by kernel_rfl) rfl ⟨.blk (by kernel_rfl) (by kernel_rfl), .blk (by kernel_rfl) (by kernel_rfl), .blk (by kernel_rfl) (by kernel_rfl), .blk (by kernel_rfl) (by kernel_rfl), trivial⟩ (by kernel_rfl) ?_
  refine tr_loop_fuel (id := 0) (α := List Int × Int) (β := List Int) (fun z => [sO 2 (.ptr 0 0), sO 3 (.ptr 1 0), sO 4 (.ptr 2 0), sO 5 (.ptr 3 0), sI 6 .i64 z.2, hB 0 71 [.arr .u64 5 a_0], hB 1 22 [.arr .u8 32 e_1], hB 2 71 [.arr .u64 5 (List.replicate 5 0)], hB 3 71 [.arr .u64 5 z.1]]) (fun z => [sO 4 (.ptr 2 0), sO 5 (.ptr 3 0), hB 2 71 [.arr .u64 5 (List.replicate 5 0)], hB 3 71 [.arr .u64 5 z]]) (fun k z => limb_Pow_l0 a_0 e_1 k z.1 z.2) m5 (fun _ => rfl) (((255 : Int) - (0 : Int) + 1).toNat + 1) (a1, (255 : Int)) e14 ?_ ?_
  · skip
    replace h : (some m5) = _ := h
    refine q_b_this ?_
    refine q_k ?_
    refine tr_seq ?_
    refine tr_reg hT [] [.s 4, .h 2] [sO 4 (.ptr 2 0), hB 2 71 [.arr .u64 5 m5]] [] (by kernel_rfl) trivial ?_
    refine q_k ?_
    refine tr_ret ?_
    have h := Option.some.inj h
    subst h
    exact q_ret0 hT (.v (.agg [.arr .u64 5 m5])) rfl (by kernel_rfl)
  · clear h e14
    intro k ih0 hx0 z h
    obtain ⟨m3, i4⟩ := z
    replace h : (if (decide (i4 ≥ (0 : Int))) = true then (limb_Mul m3 m3).bind (fun a7 => if 0 ≤ (IntKind.i64.wrap (i4.tdiv (8 : Int))) ∧ (IntKind.i64.wrap (i4.tdiv (8 : Int))) < ((32 : Nat) : Int) then if 0 ≤ (i4.tmod (8 : Int)) then if ((band .u8 (shr .u8 (e_1.getD (IntKind.i64.wrap (i4.tdiv (8 : Int))).toNat 0) (i4.tmod (8 : Int))) (1 : Int)) == (1 : Int)) = true then (limb_Mul a7 a_0).bind (fun a12 => limb_Pow_l0 a_0 e_1 k a12 (IntKind.i64.wrap (i4 - (1 : Int)))) else limb_Pow_l0 a_0 e_1 k a7 (IntKind.i64.wrap (i4 - (1 : Int))) else none else none) else some m3) = _ := h
    refine tr_seq ?_
    refine tr_seq ?_
    refine tr_reg hT [] [.s 2, .s 3, .s 4, .s 5, .s 6, .s 9, .h 0, .h 1, .h 2, .h 3] [sO 2 (.ptr 0 0), sO 3 (.ptr 1 0), sO 4 (.ptr 2 0), sO 5 (.ptr 3 0), sI 6 .i64 i4, sB 9 (decide (i4 ≥ (0 : Int))), hB 0 71 [.arr .u64 5 a_0], hB 1 22 [.arr .u8 32 e_1], hB 2 71 [.arr .u64 5 (List.replicate 5 0)], hB 3 71 [.arr .u64 5 m3]] [] (by kernel_rfl) trivial ?_
    refine q_k ?_
    rcases ite_split h with ⟨hc6, h⟩ | ⟨hc6, h⟩
    · refine tr_cond_t (decide (i4 ≥ (0 : Int))) (by kernel_rfl) hc6 ?_
      refine tr_skip ?_
      refine q_k ?_
      refine tr_seq ?_
      refine tr_block ?_
      refine tr_seq ?_
      obtain ⟨a7, e8, h⟩ := bind_some h
      refine tr_reg hT [(2, .call [] (.v (.agg [.arr .u64 5 a7])) [])] [.s 2, .s 3, .s 4, .s 5, .s 6, .h 0, .h 1, .h 2, .h 3] [sO 2 (.ptr 0 0), sO 3 (.ptr 1 0), sO 4 (.ptr 2 0), sO 5 (.ptr 3 0), sI 6 .i64 i4, hB 0 71 [.arr .u64 5 a_0], hB 1 22 [.arr .u8 32 e_1], hB 2 71 [.arr .u64 5 (List.replicate 5 0)], hB 3 71 [.arr .u64 5 a7]] [CallOk P 74 [.v (.agg [.arr .u64 5 m3]), .v (.agg [.arr .u64 5 m3])] [] (.v (.agg [.arr .u64 5 a7])) []] (by kernel_rfl) (hone (limb_Mul_ok m3 m3 a7 e8)) ?_
      refine q_k ?_
      refine tr_seq ?_
      obtain ⟨hn9, h⟩ := ite_some h
      obtain ⟨hn10, h⟩ := ite_some h
      refine tr_reg hT [] [.s 2, .s 3, .s 4, .s 5, .s 6, .s 23, .h 0, .h 1, .h 2, .h 3] [sO 2 (.ptr 0 0), sO 3 (.ptr 1 0), sO 4 (.ptr 2 0), sO 5 (.ptr 3 0), sI 6 .i64 i4, sB 23 ((band .u8 (shr .u8 (e_1.getD (IntKind.i64.wrap (i4.tdiv (8 : Int))).toNat 0) (i4.tmod (8 : Int))) (1 : Int)) == (1 : Int)), hB 0 71 [.arr .u64 5 a_0], hB 1 22 [.arr .u8 32 e_1], hB 2 71 [.arr .u64 5 (List.replicate 5 0)], hB 3 71 [.arr .u64 5 a7]] [(8 : Int) ≠ 0, 0 ≤ (IntKind.i64.wrap (i4.tdiv (8 : Int))) ∧ (IntKind.i64.wrap (i4.tdiv (8 : Int))) < ((32 : Nat) : Int), (8 : Int) ≠ 0, 0 ≤ (i4.tmod (8 : Int))] (by kernel_rfl) (hcons (by decide) (hcons hn9 (hcons (by decide) (hone hn10)))) ?_
      refine q_k ?_
      rcases ite_split h with ⟨hc11, h⟩ | ⟨hc11, h⟩
      · refine tr_cond_t ((band .u8 (shr .u8 (e_1.getD (IntKind.i64.wrap (i4.tdiv (8 : Int))).toNat 0) (i4.tmod (8 : Int))) (1 : Int)) == (1 : Int)) (by kernel_rfl) hc11 ?_
        obtain ⟨a12, e13, h⟩ := bind_some h
        refine tr_reg hT [(2, .call [] (.v (.agg [.arr .u64 5 a12])) [])] [.s 2, .s 3, .s 4, .s 5, .s 6, .h 0, .h 1, .h 2, .h 3] [sO 2 (.ptr 0 0), sO 3 (.ptr 1 0), sO 4 (.ptr 2 0), sO 5 (.ptr 3 0), sI 6 .i64 i4, hB 0 71 [.arr .u64 5 a_0], hB 1 22 [.arr .u8 32 e_1], hB 2 71 [.arr .u64 5 (List.replicate 5 0)], hB 3 71 [.arr .u64 5 a12]] [CallOk P 74 [.v (.agg [.arr .u64 5 a7]), .v (.agg [.arr .u64 5 a_0])] [] (.v (.agg [.arr .u64 5 a12])) []] (by kernel_rfl) (hone (limb_Mul_ok a7 a_0 a12 e13)) ?_
        refine q_b 1 ?_
        refine q_k ?_
        refine tr_reg hT [] [.s 2, .s 3, .s 4, .s 5, .s 6, .h 0, .h 1, .h 2, .h 3] [sO 2 (.ptr 0 0), sO 3 (.ptr 1 0), sO 4 (.ptr 2 0), sO 5 (.ptr 3 0), sI 6 .i64 (IntKind.i64.wrap (i4 - (1 : Int))), hB 0 71 [.arr .u64 5 a_0], hB 1 22 [.arr .u8 32 e_1], hB 2 71 [.arr .u64 5 (List.replicate 5 0)], hB 3 71 [.arr .u64 5 a12]] [] (by kernel_rfl) trivial ?_
        refine q_kr ?_
        exact trR_less [.s 2, .s 3, .s 4, .s 5, .s 6, .h 0, .h 1, .h 2, .h 3] [sO 2 (.ptr 0 0), sO 3 (.ptr 1 0), sO 4 (.ptr 2 0), sO 5 (.ptr 3 0), sI 6 .i64 (IntKind.i64.wrap (i4 - (1 : Int))), hB 0 71 [.arr .u64 5 a_0], hB 1 22 [.arr .u8 32 e_1], hB 2 71 [.arr .u64 5 (List.replicate 5 0)], hB 3 71 [.arr .u64 5 a12]] (by kernel_rfl) (ih0 (a12, (IntKind.i64.wrap (i4 - (1 : Int)))) h)
      · refine tr_cond_f ((band .u8 (shr .u8 (e_1.getD (IntKind.i64.wrap (i4.tdiv (8 : Int))).toNat 0) (i4.tmod (8 : Int))) (1 : Int)) == (1 : Int)) (by kernel_rfl) hc11 ?_
        refine tr_skip ?_
        refine q_b 1 ?_
        refine q_k ?_
        refine tr_reg hT [] [.s 2, .s 3, .s 4, .s 5, .s 6, .h 0, .h 1, .h 2, .h 3] [sO 2 (.ptr 0 0), sO 3 (.ptr 1 0), sO 4 (.ptr 2 0), sO 5 (.ptr 3 0), sI 6 .i64 (IntKind.i64.wrap (i4 - (1 : Int))), hB 0 71 [.arr .u64 5 a_0], hB 1 22 [.arr .u8 32 e_1], hB 2 71 [.arr .u64 5 (List.replicate 5 0)], hB 3 71 [.arr .u64 5 a7]] [] (by kernel_rfl) trivial ?_
        refine q_kr ?_
        exact trR_less [.s 2, .s 3, .s 4, .s 5, .s 6, .h 0, .h 1, .h 2, .h 3] [sO 2 (.ptr 0 0), sO 3 (.ptr 1 0), sO 4 (.ptr 2 0), sO 5 (.ptr 3 0), sI 6 .i64 (IntKind.i64.wrap (i4 - (1 : Int))), hB 0 71 [.arr .u64 5 a_0], hB 1 22 [.arr .u8 32 e_1], hB 2 71 [.arr .u64 5 (List.replicate 5 0)], hB 3 71 [.arr .u64 5 a7]] (by kernel_rfl) (ih0 (a7, (IntKind.i64.wrap (i4 - (1 : Int)))) h)
    · refine tr_cond_f (decide (i4 ≥ (0 : Int))) (by kernel_rfl) hc6 ?_
      refine tr_exit ?_
      refine q_k_exit ?_
      refine q_kr_exit ?_
      have h := Option.some.inj h
      subst h
      exact q_less [.s 4, .s 5, .h 2, .h 3] [sO 4 (.ptr 2 0), sO 5 (.ptr 3 0), hB 2 71 [.arr .u64 5 (List.replicate 5 0)], hB 3 71 [.arr .u64 5 m3]] (by kernel_rfl) hx0

theorem limb_Inv_ok (a_0 : List Int) (r : List Int) (h : limb_Inv a_0 = some r) {pre : List (Nat × Ent)} : CallOk P 83 [.v (.agg [.arr .u64 5 a_0])] pre (.v (.agg [.arr .u64 5 r])) [] := by
  refine call0 (N := 6) Try.func83 (by kernel_rfl) rfl rfl rfl pre ?_
  intro _ w
  show Tr P (Ge w) 6 _ _ _ (RetQ P Try.f83 (R0 _ w))
  unfold limb_Inv at h
  refine tr_seq ?_
  refine tr_reg hT [(0, .key 0), (1, .key 1)] [.s 1, .s 2, .h 0, .h 1] [sO 1 (.ptr 0 0), sO 2 (.ptr 1 0), hB 0 71 [.arr .u64 5 a_0], hB 1 71 [.arr .u64 5 (List.replicate 5 0)]] [] (by kernel_rfl) trivial ?_
  refine q_k ?_
  refine tr_seq ?_
  obtain ⟨a1, e2, h⟩ := bind_some h
  obtain ⟨a3, e4, h⟩ := bind_some h
  refine tr_regd hT hM [(1, .call [] (.v (.agg [.arr .u8 32 a1])) []), (2, .call [] (.v (.agg [.arr .u64 5 a3])) [])] [.s 2, .h 1] [sO 2 (.ptr 1 0), hB 1 71 [.arr .u64 5 a3]] [CallOk P 104 [.v (.one (.int .i64 (255 : Int))), .v (.one (.int .u8 (21 : Int)))] [] (.v (.agg [.arr .u8 32 a1])) [], CallOk P 103 [.v (.agg [.arr .u64 5 a_0]), .v (.agg [.arr .u8 32 a1])] [] (.v (.agg [.arr .u64 5 a3])) []] (by kernel_rfl) (hcons (limb_Below_ok (255 : Int) (21 : Int) a1 e2) (hone (limb_Pow_ok a_0 a1 a3 e4))) ?_
  refine q_k ?_
  refine tr_ret ?_
  have h := Option.some.inj h
  subst h
  exact q_ret0 hT (.v (.agg [.arr .u64 5 a3])) rfl (by kernel_rfl)

theorem field_Inv_ok (a_0 : List Int) (r : List Int) (h : field_Inv a_0 = some r) {pre : List (Nat × Ent)} : CallOk P 50 [.v (.agg [.arr .u8 32 a_0])] pre (.v (.agg [.arr .u8 32 r])) [] := by
  refine call0 (N := 7) Try.func50 (by kernel_rfl) rfl rfl rfl pre ?_
  intro _ w
  show Tr P (Ge w) 7 _ _ _ (RetQ P Try.f50 (R0 _ w))
  unfold field_Inv at h
  refine tr_seq ?_
  refine tr_reg hT [(0, .key 0), (1, .key 1)] [.s 1, .s 2, .h 0, .h 1] [sO 1 (.ptr 0 0), sO 2 (.ptr 1 0), hB 0 22 [.arr .u8 32 a_0], hB 1 22 [.arr .u8 32 (List.replicate 32 0)]] [] (by kernel_rfl) trivial ?_
  refine q_k ?_
  refine tr_seq ?_
  obtain ⟨a1, e2, h⟩ := bind_some h
  obtain ⟨a3, e4, h⟩ := bind_some h
  obtain ⟨a5, e6, h⟩ := bind_some h
  refine tr_reg hT [(1, .call [] (.v (.agg [.arr .u64 5 a1])) []), (2, .call [] (.v (.agg [.arr .u64 5 a3])) []), (3, .call [] (.v (.agg [.arr .u8 32 a5])) [])] [.s 2, .h 1] [sO 2 (.ptr 1 0), hB 1 22 [.arr .u8 32 a5]] [CallOk P 72 [.v (.agg [.arr .u8 32 a_0])] [] (.v (.agg [.arr .u64 5 a1])) [], CallOk P 83 [.v (.agg [.arr .u64 5 a1])] [] (.v (.agg [.arr .u64 5 a3])) [], CallOk P 73 [.v (.agg [.arr .u64 5 a3])] [] (.v (.agg [.arr .u8 32 a5])) []] (by kernel_rfl) (hcons (limb_Of_ok a_0 a1 e2) (hcons (limb_Inv_ok a1 a3 e4) (hone (limb_N_Bytes_ok a3 a5 e6)))) ?_
  refine q_k ?_
  refine tr_ret ?_
  have h := Option.some.inj h
  subst h
  exact q_ret0 hT (.v (.agg [.arr .u8 32 a5])) rfl (by kernel_rfl)

theorem ref04_Pow_ok (a_0 : List Int) (e_1 : List Int) (r : List Int) (h : ref04_Pow a_0 e_1 = some r) {pre : List (Nat × Ent)} : CallOk P 84 [.v (.agg [.arr .u64 4 a_0]), .v (.agg [.arr .u64 4 e_1])] pre (.v (.agg [.arr .u64 4 r])) [] := by
  refine call0 (N := 29) Try.func84 (by kernel_rfl) rfl rfl rfl pre ?_
  intro _ w
  show Tr P (Ge w) 29 _ _ _ (RetQ P Try.f84 (R0 _ w))
  unfold ref04_Pow at h
  refine tr_seq ?_
  refine tr_reg hT [(0, .key 0), (1, .key 1), (2, .key 2)] [.s 2, .s 3, .s 4, .h 0, .h 1, .h 2] [sO 2 (.ptr 0 0), sO 3 (.ptr 1 0), sO 4 (.ptr 2 0), hB 0 31 [.arr .u64 4 a_0], hB 1 31 [.arr .u64 4 e_1], hB 2 31 [.arr .u64 4 (List.replicate 4 0)]] [] (by kernel_rfl) trivial ?_
  refine q_k ?_
  refine tr_seq ?_
  refine tr_reg hT [(1, .key 3)] [.s 2, .s 3, .s 4, .s 5, .h 0, .h 1, .h 2, .h 3] [sO 2 (.ptr 0 0), sO 3 (.ptr 1 0), sO 4 (.ptr 2 0), sO 5 (.ptr 3 0), hB 0 31 [.arr .u64 4 a_0], hB 1 31 [.arr .u64 4 e_1], hB 2 31 [.arr .u64 4 (List.replicate 4 0)], hB 3 31 [.arr .u64 4 [(1 : Int), (0 : Int), (0 : Int), (0 : Int)]]] [] (by kernel_rfl) trivial ?_
  refine q_k ?_
  refine tr_seq ?_
  refine tr_seq ?_
  refine tr_reg hT [] [.s 2, .s 3, .s 4, .s 5, .s 6, .h 0, .h 1, .h 2, .h 3] [sO 2 (.ptr 0 0), sO 3 (.ptr 1 0), sO 4 (.ptr 2 0), sO 5 (.ptr 3 0), sI 6 .i64 (255 : Int), hB 0 31 [.arr .u64 4 a_0], hB 1 31 [.arr .u64 4 e_1], hB 2 31 [.arr .u64 4 (List.replicate 4 0)], hB 3 31 [.arr .u64 4 [(1 : Int), (0 : Int), (0 : Int), (0 : Int)]]] [] (by kernel_rfl) trivial ?_
  refine q_k ?_
  refine tr_block ?_
  obtain ⟨m3, e12, h⟩ := bind_some h
  refine tr_fit [] [sO 2 (.ptr 0 0), sO 3 (.ptr 1 0), sO 4 (.ptr 2 0), sO 5 (.ptr 3 0), sI 6 .i64 (255 : Int), hB 0 31 [.arr .u64 4 a_0], hB 1 31 [.arr .u64 4 e_1], hB 2 31 [.arr .u64 4 (List.replicate 4 0)], hB 3 31 [.arr .u64 4 [(1 : Int), (0 : Int), (0 : Int), (0 : Int)]]] [(0, .blk 31 [.arr .u64 4 a_0]), (1, .blk 31 [.arr .u64 4 e_1]), (2, .blk 31 [.arr .u64 4 (List.replicate 4 0)]), (3, .blk 31 [.arr .u64 4 [(1 : Int), (0 : Int), (0 : Int), (0 : Int)]])] (by kernel_rfl) (by kernel_rfl) (by kernel_rfl) rfl ⟨.blk (by kernel_rfl) (by kernel_rfl), .blk (by kernel_rfl) (by kernel_rfl), .blk (by kernel_rfl) (by kernel_rfl), .blk (by kernel_rfl) (by kernel_rfl), trivial⟩ (by kernel_rfl) ?_
  refine tr_loop_fuel (id := 0) (α := List Int × Int) (β := List Int) (fun z => [sO 2 (.ptr 0 0), sO 3 (.ptr 1 0), sO 4 (.ptr 2 0), sO 5 (.ptr 3 0), sI 6 .i64 z.2, hB 0 31 [.arr .u64 4 a_0], hB 1 31 [.arr .u64 4 e_1], hB 2 31 [.arr .u64 4 (List.replicate 4 0)], hB 3 31 [.arr .u64 4 z.1]]) (fun z => [sO 4 (.ptr 2 0), sO 5 (.ptr 3 0), hB 2 31 [.arr .u64 4 (List.replicate 4 0)], hB 3 31 [.arr .u64 4 z]]) (fun k z => ref04_Pow_l0 a_0 e_1 k z.1 z.2) m3 (fun _ => rfl) (((255 : Int) - (0 : Int) + 1).toNat + 1) ([(1 : Int), (0 : Int), (0 : Int), (0 : Int)], (255 : Int)) e12 ?_ ?_
  · skip
    replace h : (some m3) = _ := h
    refine q_b_this ?_
    refine q_k ?_
    refine tr_seq ?_
    refine tr_reg hT [] [.s 4, .h 2] [sO 4 (.ptr 2 0), hB 2 31 [.arr .u64 4 m3]] [] (by kernel_rfl) trivial ?_
    refine q_k ?_
    refine tr_ret ?_
    have h := Option.some.inj h
    subst h
    exact q_ret0 hT (.v (.agg [.arr .u64 4 m3])) rfl (by kernel_rfl)
  · clear h e12
    intro k ih0 hx0 z h
    obtain ⟨m1, i2⟩ := z
    replace h : (if (decide (i2 ≥ (0 : Int))) = true then (ref04_Mul m1 m1).bind (fun a5 => if 0 ≤ (IntKind.i64.wrap (i2.tdiv (64 : Int))) ∧ (IntKind.i64.wrap (i2.tdiv (64 : Int))) < ((4 : Nat) : Int) then if 0 ≤ (IntKind.u64.wrap (i2.tmod (64 : Int))) then if ((band .u64 (shr .u64 (e_1.getD (IntKind.i64.wrap (i2.tdiv (64 : Int))).toNat 0) (IntKind.u64.wrap (i2.tmod (64 : Int)))) (1 : Int)) == (1 : Int)) = true then (ref04_Mul a5 a_0).bind (fun a10 => ref04_Pow_l0 a_0 e_1 k a10 (IntKind.i64.wrap (i2 - (1 : Int)))) else ref04_Pow_l0 a_0 e_1 k a5 (IntKind.i64.wrap (i2 - (1 : Int))) else none else none) else some m1) = _ := h
    refine tr_seq ?_
    refine tr_seq ?_
    refine tr_reg hT [] [.s 2, .s 3, .s 4, .s 5, .s 6, .s 9, .h 0, .h 1, .h 2, .h 3] [sO 2 (.ptr 0 0), sO 3 (.ptr 1 0), sO 4 (.ptr 2 0), sO 5 (.ptr 3 0), sI 6 .i64 i2, sB 9 (decide (i2 ≥ (0 : Int))), hB 0 31 [.arr .u64 4 a_0], hB 1 31 [.arr .u64 4 e_1], hB 2 31 [.arr .u64 4 (List.replicate 4 0)], hB 3 31 [.arr .u64 4 m1]] [] (by kernel_rfl) trivial ?_
    refine q_k ?_
    rcases ite_split h with ⟨hc4, h⟩ | ⟨hc4, h⟩
    · refine tr_cond_t (decide (i2 ≥ (0 : Int))) (by kernel_rfl) hc4 ?_
      refine tr_skip ?_
      refine q_k ?_
      refine tr_seq ?_
      refine tr_block ?_
      refine tr_seq ?_
      obtain ⟨a5, e6, h⟩ := bind_some h
      refine tr_reg hT [(2, .call [] (.v (.agg [.arr .u64 4 a5])) [])] [.s 2, .s 3, .s 4, .s 5, .s 6, .h 0, .h 1, .h 2, .h 3] [sO 2 (.ptr 0 0), sO 3 (.ptr 1 0), sO 4 (.ptr 2 0), sO 5 (.ptr 3 0), sI 6 .i64 i2, hB 0 31 [.arr .u64 4 a_0], hB 1 31 [.arr .u64 4 e_1], hB 2 31 [.arr .u64 4 (List.replicate 4 0)], hB 3 31 [.arr .u64 4 a5]] [CallOk P 49 [.v (.agg [.arr .u64 4 m1]), .v (.agg [.arr .u64 4 m1])] [] (.v (.agg [.arr .u64 4 a5])) []] (by kernel_rfl) (hone (ref04_Mul_ok m1 m1 a5 e6)) ?_
      refine q_k ?_
      refine tr_seq ?_
      obtain ⟨hn7, h⟩ := ite_some h
      obtain ⟨hn8, h⟩ := ite_some h
      refine tr_reg hT [] [.s 2, .s 3, .s 4, .s 5, .s 6, .s 24, .h 0, .h 1, .h 2, .h 3] [sO 2 (.ptr 0 0), sO 3 (.ptr 1 0), sO 4 (.ptr 2 0), sO 5 (.ptr 3 0), sI 6 .i64 i2, sB 24 ((band .u64 (shr .u64 (e_1.getD (IntKind.i64.wrap (i2.tdiv (64 : Int))).toNat 0) (IntKind.u64.wrap (i2.tmod (64 : Int)))) (1 : Int)) == (1 : Int)), hB 0 31 [.arr .u64 4 a_0], hB 1 31 [.arr .u64 4 e_1], hB 2 31 [.arr .u64 4 (List.replicate 4 0)], hB 3 31 [.arr .u64 4 a5]] [(64 : Int) ≠ 0, 0 ≤ (IntKind.i64.wrap (i2.tdiv (64 : Int))) ∧ (IntKind.i64.wrap (i2.tdiv (64 : Int))) < ((4 : Nat) : Int), (64 : Int) ≠ 0, 0 ≤ (IntKind.u64.wrap (i2.tmod (64 : Int)))] (by kernel_rfl) (hcons (by decide) (hcons hn7 (hcons (by decide) (hone hn8)))) ?_
      refine q_k ?_
      rcases ite_split h with ⟨hc9, h⟩ | ⟨hc9, h⟩
      · refine tr_cond_t ((band .u64 (shr .u64 (e_1.getD (IntKind.i64.wrap (i2.tdiv (64 : Int))).toNat 0) (IntKind.u64.wrap (i2.tmod (64 : Int)))) (1 : Int)) == (1 : Int)) (by kernel_rfl) hc9 ?_
        obtain ⟨a10, e11, h⟩ := bind_some h
        refine tr_reg hT [(2, .call [] (.v (.agg [.arr .u64 4 a10])) [])] [.s 2, .s 3, .s 4, .s 5, .s 6, .h 0, .h 1, .h 2, .h 3] [sO 2 (.ptr 0 0), sO 3 (.ptr 1 0), sO 4 (.ptr 2 0), sO 5 (.ptr 3 0), sI 6 .i64 i2, hB 0 31 [.arr .u64 4 a_0], hB 1 31 [.arr .u64 4 e_1], hB 2 31 [.arr .u64 4 (List.replicate 4 0)], hB 3 31 [.arr .u64 4 a10]] [CallOk P 49 [.v (.agg [.arr .u64 4 a5]), .v (.agg [.arr .u64 4 a_0])] [] (.v (.agg [.arr .u64 4 a10])) []] (by kernel_rfl) (hone (ref04_Mul_ok a5 a_0 a10 e11)) ?_
        refine q_b 1 ?_
        refine q_k ?_
        refine tr_reg hT [] [.s 2, .s 3, .s 4, .s 5, .s 6, .h 0, .h 1, .h 2, .h 3] [sO 2 (.ptr 0 0), sO 3 (.ptr 1 0), sO 4 (.ptr 2 0), sO 5 (.ptr 3 0), sI 6 .i64 (IntKind.i64.wrap (i2 - (1 : Int))), hB 0 31 [.arr .u64 4 a_0], hB 1 31 [.arr .u64 4 e_1], hB 2 31 [.arr .u64 4 (List.replicate 4 0)], hB 3 31 [.arr .u64 4 a10]] [] (by kernel_rfl) trivial ?_
        refine q_kr ?_
        exact trR_less [.s 2, .s 3, .s 4, .s 5, .s 6, .h 0, .h 1, .h 2, .h 3] [sO 2 (.ptr 0 0), sO 3 (.ptr 1 0), sO 4 (.ptr 2 0), sO 5 (.ptr 3 0), sI 6 .i64 (IntKind.i64.wrap (i2 - (1 : Int))), hB 0 31 [.arr .u64 4 a_0], hB 1 31 [.arr .u64 4 e_1], hB 2 31 [.arr .u64 4 (List.replicate 4 0)], hB 3 31 [.arr .u64 4 a10]] (by kernel_rfl) (ih0 (a10, (IntKind.i64.wrap (i2 - (1 : Int)))) h)
      · refine tr_cond_f ((band .u64 (shr .u64 (e_1.getD (IntKind.i64.wrap (i2.tdiv (64 : Int))).toNat 0) (IntKind.u64.wrap (i2.tmod (64 : Int)))) (1 : Int)) == (1 : Int)) (by kernel_rfl) hc9 ?_
        refine tr_skip ?_
        refine q_b 1 ?_
        refine q_k ?_
        refine tr_reg hT [] [.s 2, .s 3, .s 4, .s 5, .s 6, .h 0, .h 1, .h 2, .h 3] [sO 2 (.ptr 0 0), sO 3 (.ptr 1 0), sO 4 (.ptr 2 0), sO 5 (.ptr 3 0), sI 6 .i64 (IntKind.i64.wrap (i2 - (1 : Int))), hB 0 31 [.arr .u64 4 a_0], hB 1 31 [.arr .u64 4 e_1], hB 2 31 [.arr .u64 4 (List.replicate 4 0)], hB 3 31 [.arr .u64 4 a5]] [] (by kernel_rfl) trivial ?_
        refine q_kr ?_
        exact trR_less [.s 2, .s 3, .s 4, .s 5, .s 6, .h 0, .h 1, .h 2, .h 3] [sO 2 (.ptr 0 0), sO 3 (.ptr 1 0), sO 4 (.ptr 2 0), sO 5 (.ptr 3 0), sI 6 .i64 (IntKind.i64.wrap (i2 - (1 : Int))), hB 0 31 [.arr .u64 4 a_0], hB 1 31 [.arr .u64 4 e_1], hB 2 31 [.arr .u64 4 (List.replicate 4 0)], hB 3 31 [.arr .u64 4 a5]] (by kernel_rfl) (ih0 (a5, (IntKind.i64.wrap (i2 - (1 : Int)))) h)
    · refine tr_cond_f (decide (i2 ≥ (0 : Int))) (by kernel_rfl) hc4 ?_
      refine tr_exit ?_
      refine q_k_exit ?_
      refine q_kr_exit ?_
      have h := Option.some.inj h
      subst h
      exact q_less [.s 4, .s 5, .h 2, .h 3] [sO 4 (.ptr 2 0), sO 5 (.ptr 3 0), hB 2 31 [.arr .u64 4 (List.replicate 4 0)], hB 3 31 [.arr .u64 4 m1]] (by kernel_rfl) hx0

theorem ref04_Inv_ok (a_0 : List Int) (r : List Int) (h : ref04_Inv a_0 = some r) {pre : List (Nat × Ent)} : CallOk P 51 [.v (.agg [.arr .u64 4 a_0])] pre (.v (.agg [.arr .u64 4 r])) [] := by
  refine call0 (N := 14) Try.func51 (by kernel_rfl) rfl rfl rfl pre ?_
  intro _ w
  show Tr P (Ge w) 14 _ _ _ (RetQ P Try.f51 (R0 _ w))
  unfold ref04_Inv at h
  refine tr_seq ?_
  refine tr_reg hT [(0, .key 0), (1, .key 1)] [.s 1, .s 2, .h 0, .h 1] [sO 1 (.ptr 0 0), sO 2 (.ptr 1 0), hB 0 31 [.arr .u64 4 a_0], hB 1 31 [.arr .u64 4 (List.replicate 4 0)]] [] (by kernel_rfl) trivial ?_
  refine q_k ?_
  refine tr_seq ?_
  obtain ⟨a1, e2, h⟩ := bind_some h
  obtain ⟨⟨a3, r4⟩, e5, h⟩ := bind_some h
  refine tr_reg hT [(0, .call [] (.v (.agg [.arr .u64 4 a1])) []), (2, .call [] (.tup [.agg [.arr .u64 4 a3], .one (.int .u64 r4)]) []), (6, .key 2)] [.s 1, .s 2, .s 3, .h 0, .h 1, .h 2] [sO 1 (.ptr 0 0), sO 2 (.ptr 1 0), sO 3 (.ptr 2 0), hB 0 31 [.arr .u64 4 a_0], hB 1 31 [.arr .u64 4 (List.replicate 4 0)], hB 2 31 [.arr .u64 4 a3]] [CallOk P 43 [] [] (.v (.agg [.arr .u64 4 a1])) [], CallOk P 81 [.v (.agg [.arr .u64 4 a1]), .v (.agg [.arr .u64 4 [(2 : Int), (0 : Int), (0 : Int), (0 : Int)]])] [] (.tup [.agg [.arr .u64 4 a3], .one (.int .u64 r4)]) []] (by kernel_rfl) (hcons (ref04_P_ok  a1 e2) (hone (ref04_sub_ok a1 [(2 : Int), (0 : Int), (0 : Int), (0 : Int)] (a3, r4) e5))) ?_
  refine q_k ?_
  refine tr_seq ?_
  obtain ⟨a7, e8, h⟩ := bind_some h
  refine tr_reg hT [(2, .call [] (.v (.agg [.arr .u64 4 a7])) [])] [.s 2, .h 1] [sO 2 (.ptr 1 0), hB 1 31 [.arr .u64 4 a7]] [CallOk P 84 [.v (.agg [.arr .u64 4 a_0]), .v (.agg [.arr .u64 4 a3])] [] (.v (.agg [.arr .u64 4 a7])) []] (by kernel_rfl) (hone (ref04_Pow_ok a_0 a3 a7 e8)) ?_
  refine q_k ?_
  refine tr_ret ?_
  have h := Option.some.inj h
  subst h
  exact q_ret0 hT (.v (.agg [.arr .u64 4 a7])) rfl (by kernel_rfl)

theorem limb_Same_ok (a_0 : List Int) (b_1 : List Int) (r : Bool) (h : limb_Same a_0 b_1 = some r) {pre : List (Nat × Ent)} : CallOk P 105 [.v (.agg [.arr .u64 5 a_0]), .v (.agg [.arr .u64 5 b_1])] pre (.v (.one (.bool r))) [] := by
  refine call0 (N := 10) Try.func105 (by kernel_rfl) rfl rfl rfl pre ?_
  intro _ w
  show Tr P (Ge w) 10 _ _ _ (RetQ P Try.f105 (R0 _ w))
  unfold limb_Same at h
  refine tr_seq ?_
  refine tr_reg hT [(0, .key 0), (1, .key 1)] [.s 2, .s 3, .h 0, .h 1] [sO 2 (.ptr 0 0), sO 3 (.ptr 1 0), hB 0 71 [.arr .u64 5 a_0], hB 1 71 [.arr .u64 5 b_1]] [] (by kernel_rfl) trivial ?_
  refine q_k ?_
  refine tr_seq ?_
  obtain ⟨a1, e2, h⟩ := bind_some h
  obtain ⟨a3, e4, h⟩ := bind_some h
  refine tr_regd hT hM [(1, .call [] (.v (.agg [.arr .u8 32 a1])) []), (3, .call [] (.v (.agg [.arr .u8 32 a3])) [])] [.s 4] [sB 4 (decide (a1 = a3))] [CallOk P 73 [.v (.agg [.arr .u64 5 a_0])] [] (.v (.agg [.arr .u8 32 a1])) [], CallOk P 73 [.v (.agg [.arr .u64 5 b_1])] [] (.v (.agg [.arr .u8 32 a3])) []] (by kernel_rfl) (hcons (limb_N_Bytes_ok a_0 a1 e2) (hone (limb_N_Bytes_ok b_1 a3 e4))) ?_
  refine q_k ?_
  refine tr_ret ?_
  have h := Option.some.inj h
  subst h
  exact q_ret0 hT (.v (.one (.bool (decide (a1 = a3))))) rfl (by kernel_rfl)

theorem limb_Root_ok (a_0 : List Int) (r : List Int × Bool) (h : limb_Root a_0 = some r) {pre : List (Nat × Ent)} : CallOk P 85 [.v (.agg [.arr .u64 5 a_0])] pre (.tup [.agg [.arr .u64 5 r.1], .one (.bool r.2)]) [] := by
  refine call0 (N := 25) Try.func85 (by kernel_rfl) rfl rfl rfl pre ?_
  intro _ w
  show Tr P (Ge w) 25 _ _ _ (RetQ P Try.f85 (R0 _ w))
  unfold limb_Root at h
  refine tr_seq ?_
  refine tr_reg hT [(0, .key 0), (1, .key 1)] [.s 1, .s 2, .h 0, .h 1] [sO 1 (.ptr 0 0), sO 2 (.ptr 1 0), hB 0 71 [.arr .u64 5 a_0], hB 1 71 [.arr .u64 5 (List.replicate 5 0)]] [] (by kernel_rfl) trivial ?_
  refine q_k ?_
  refine tr_seq ?_
  obtain ⟨a1, e2, h⟩ := bind_some h
  obtain ⟨a3, e4, h⟩ := bind_some h
  refine tr_regd hT hM [(1, .call [] (.v (.agg [.arr .u8 32 a1])) []), (2, .call [] (.v (.agg [.arr .u64 5 a3])) []), (3, .key 2)] [.s 1, .s 2, .s 4, .h 0, .h 1, .h 2] [sO 1 (.ptr 0 0), sO 2 (.ptr 1 0), sO 4 (.ptr 2 0), hB 0 71 [.arr .u64 5 a_0], hB 1 71 [.arr .u64 5 (List.replicate 5 0)], hB 2 71 [.arr .u64 5 a3]] [CallOk P 104 [.v (.one (.int .i64 (252 : Int))), .v (.one (.int .u8 (2 : Int)))] [] (.v (.agg [.arr .u8 32 a1])) [], CallOk P 103 [.v (.agg [.arr .u64 5 a_0]), .v (.agg [.arr .u8 32 a1])] [] (.v (.agg [.arr .u64 5 a3])) []] (by kernel_rfl) (hcons (limb_Below_ok (252 : Int) (2 : Int) a1 e2) (hone (limb_Pow_ok a_0 a1 a3 e4))) ?_
  refine q_k ?_
  refine tr_seq ?_
  refine tr_seq ?_
  obtain ⟨a5, e6, h⟩ := bind_some h
  obtain ⟨b7, e8, h⟩ := bind_some h
  refine tr_regd hT hM [(2, .call [] (.v (.agg [.arr .u64 5 a5])) []), (4, .call [] (.v (.one (.bool b7))) [])] [.s 1, .s 2, .s 4, .s 13, .h 0, .h 1, .h 2] [sO 1 (.ptr 0 0), sO 2 (.ptr 1 0), sO 4 (.ptr 2 0), sB 13 (!b7), hB 0 71 [.arr .u64 5 a_0], hB 1 71 [.arr .u64 5 (List.replicate 5 0)], hB 2 71 [.arr .u64 5 a3]] [CallOk P 74 [.v (.agg [.arr .u64 5 a3]), .v (.agg [.arr .u64 5 a3])] [] (.v (.agg [.arr .u64 5 a5])) [], CallOk P 105 [.v (.agg [.arr .u64 5 a5]), .v (.agg [.arr .u64 5 a_0])] [] (.v (.one (.bool b7))) []] (by kernel_rfl) (hcons (limb_Mul_ok a3 a3 a5 e6) (hone (limb_Same_ok a5 a_0 b7 e8))) ?_
  refine q_k ?_
  obtain ⟨m9, e23, h⟩ := bind_some h
  refine tr_join (σ1 := [sO 1 (.ptr 0 0), sO 2 (.ptr 1 0), sO 4 (.ptr 2 0), hB 0 71 [.arr .u64 5 a_0], hB 1 71 [.arr .u64 5 (List.replicate 5 0)], hB 2 71 [.arr .u64 5 m9]]) ?_ ?_
  · skip
    replace h : ((limb_Mul m9 m9).bind (fun a19 => (limb_Same a19 a_0).bind (fun b21 => some (m9, b21)))) = _ := h
    refine q_k ?_
    refine tr_seq ?_
    obtain ⟨a19, e20, h⟩ := bind_some h
    obtain ⟨b21, e22, h⟩ := bind_some h
    refine tr_regd hT hM [(3, .call [] (.v (.agg [.arr .u64 5 a19])) []), (5, .call [] (.v (.one (.bool b21))) [])] [.s 2, .s 3, .h 1] [sO 2 (.ptr 1 0), sB 3 b21, hB 1 71 [.arr .u64 5 m9]] [CallOk P 74 [.v (.agg [.arr .u64 5 m9]), .v (.agg [.arr .u64 5 m9])] [] (.v (.agg [.arr .u64 5 a19])) [], CallOk P 105 [.v (.agg [.arr .u64 5 a19]), .v (.agg [.arr .u64 5 a_0])] [] (.v (.one (.bool b21))) []] (by kernel_rfl) (hcons (limb_Mul_ok m9 m9 a19 e20) (hone (limb_Same_ok a19 a_0 b21 e22))) ?_
    refine q_k ?_
    refine tr_ret ?_
    have h := Option.some.inj h
    subst h
    exact q_ret0 hT (.tup [.agg [.arr .u64 5 m9], .one (.bool b21)]) rfl (by kernel_rfl)
  · intro hj0
    clear h
    have h := e23
    clear e23
    rcases ite_split h with ⟨hc10, h⟩ | ⟨hc10, h⟩
    · refine tr_cond_t (!b7) (by kernel_rfl) hc10 ?_
      obtain ⟨a11, e12, h⟩ := bind_some h
      obtain ⟨a13, e14, h⟩ := bind_some h
      obtain ⟨a15, e16, h⟩ := bind_some h
      obtain ⟨a17, e18, h⟩ := bind_some h
      refine tr_regd hT hM [(1, .call [] (.v (.agg [.arr .u64 5 a11])) []), (2, .call [] (.v (.agg [.arr .u8 32 a13])) []), (3, .call [] (.v (.agg [.arr .u64 5 a15])) []), (4, .call [] (.v (.agg [.arr .u64 5 a17])) [])] [.s 1, .s 2, .s 4, .h 0, .h 1, .h 2] [sO 1 (.ptr 0 0), sO 2 (.ptr 1 0), sO 4 (.ptr 2 0), hB 0 71 [.arr .u64 5 a_0], hB 1 71 [.arr .u64 5 (List.replicate 5 0)], hB 2 71 [.arr .u64 5 a17]] [CallOk P 87 [.v (.one (.int .u64 (2 : Int)))] [] (.v (.agg [.arr .u64 5 a11])) [], CallOk P 104 [.v (.one (.int .i64 (253 : Int))), .v (.one (.int .u8 (5 : Int)))] [] (.v (.agg [.arr .u8 32 a13])) [], CallOk P 103 [.v (.agg [.arr .u64 5 a11]), .v (.agg [.arr .u8 32 a13])] [] (.v (.agg [.arr .u64 5 a15])) [], CallOk P 74 [.v (.agg [.arr .u64 5 a3]), .v (.agg [.arr .u64 5 a15])] [] (.v (.agg [.arr .u64 5 a17])) []] (by kernel_rfl) (hcons (limb_Small_ok (2 : Int) a11 e12) (hcons (limb_Below_ok (253 : Int) (5 : Int) a13 e14) (hcons (limb_Pow_ok a11 a13 a15 e16) (hone (limb_Mul_ok a3 a15 a17 e18))))) ?_
      have h := Option.some.inj h
      subst h
      exact q_less [.s 1, .s 2, .s 4, .h 0, .h 1, .h 2] [sO 1 (.ptr 0 0), sO 2 (.ptr 1 0), sO 4 (.ptr 2 0), hB 0 71 [.arr .u64 5 a_0], hB 1 71 [.arr .u64 5 (List.replicate 5 0)], hB 2 71 [.arr .u64 5 a17]] (by kernel_rfl) hj0
    · refine tr_cond_f (!b7) (by kernel_rfl) hc10 ?_
      refine tr_skip ?_
      have h := Option.some.inj h
      subst h
      exact q_less [.s 1, .s 2, .s 4, .h 0, .h 1, .h 2] [sO 1 (.ptr 0 0), sO 2 (.ptr 1 0), sO 4 (.ptr 2 0), hB 0 71 [.arr .u64 5 a_0], hB 1 71 [.arr .u64 5 (List.replicate 5 0)], hB 2 71 [.arr .u64 5 a3]] (by kernel_rfl) hj0

theorem limb_N_Odd_ok (a_0 : List Int) (r : Bool) (h : limb_N_Odd a_0 = some r) {pre : List (Nat × Ent)} : CallOk P 86 [.v (.agg [.arr .u64 5 a_0])] pre (.v (.one (.bool r))) [] := by
  refine call0 (N := 8) Try.func86 (by kernel_rfl) rfl rfl rfl pre ?_
  intro _ w
  show Tr P (Ge w) 8 _ _ _ (RetQ P Try.f86 (R0 _ w))
  unfold limb_N_Odd at h
  refine tr_seq ?_
  refine tr_reg hT [(0, .key 0)] [.s 1, .h 0] [sO 1 (.ptr 0 0), hB 0 71 [.arr .u64 5 a_0]] [] (by kernel_rfl) trivial ?_
  refine q_k ?_
  refine tr_seq ?_
  obtain ⟨a1, e2, h⟩ := bind_some h
  refine tr_reg hT [(1, .call [] (.v (.agg [.arr .u8 32 a1])) [])] [.s 2] [sB 2 ((band .u8 (a1.getD 0 0) (1 : Int)) == (1 : Int))] [CallOk P 73 [.v (.agg [.arr .u64 5 a_0])] [] (.v (.agg [.arr .u8 32 a1])) [], 0 ≤ (0 : Int) ∧ (0 : Int) < ((32 : Nat) : Int)] (by kernel_rfl) (hcons (limb_N_Bytes_ok a_0 a1 e2) (hone (by decide))) ?_
  refine q_k ?_
  refine tr_ret ?_
  have h := Option.some.inj h
  subst h
  exact q_ret0 hT (.v (.one (.bool ((band .u8 (a1.getD 0 0) (1 : Int)) == (1 : Int))))) rfl (by kernel_rfl)

theorem field_Root_ok (a_0 : List Int) (r : List Int × Bool) (h : field_Root a_0 = some r) {pre : List (Nat × Ent)} : CallOk P 52 [.v (.agg [.arr .u8 32 a_0])] pre (.tup [.agg [.arr .u8 32 r.1], .one (.bool r.2)]) [] := by
  refine call0 (N := 22) Try.func52 (by kernel_rfl) rfl rfl rfl pre ?_
  intro _ w
  show Tr P (Ge w) 22 _ _ _ (RetQ P Try.f52 (R0 _ w))
  unfold field_Root at h
  refine tr_seq ?_
  refine tr_reg hT [(0, .key 0), (1, .key 1)] [.s 1, .s 2, .h 0, .h 1] [sO 1 (.ptr 0 0), sO 2 (.ptr 1 0), hB 0 22 [.arr .u8 32 a_0], hB 1 22 [.arr .u8 32 (List.replicate 32 0)]] [] (by kernel_rfl) trivial ?_
  refine q_k ?_
  refine tr_seq ?_
  obtain ⟨a1, e2, h⟩ := bind_some h
  obtain ⟨⟨a3, b4⟩, e5, h⟩ := bind_some h
  refine tr_reg hT [(1, .call [] (.v (.agg [.arr .u64 5 a1])) []), (2, .call [] (.tup [.agg [.arr .u64 5 a3], .one (.bool b4)]) []), (6, .key 2)] [.s 2, .s 4, .s 5, .h 1, .h 2] [sO 2 (.ptr 1 0), sO 4 (.ptr 2 0), sB 5 b4, hB 1 22 [.arr .u8 32 (List.replicate 32 0)], hB 2 71 [.arr .u64 5 a3]] [CallOk P 72 [.v (.agg [.arr .u8 32 a_0])] [] (.v (.agg [.arr .u64 5 a1])) [], CallOk P 85 [.v (.agg [.arr .u64 5 a1])] [] (.tup [.agg [.arr .u64 5 a3], .one (.bool b4)]) []] (by kernel_rfl) (hcons (limb_Of_ok a_0 a1 e2) (hone (limb_Root_ok a1 (a3, b4) e5))) ?_
  refine q_k ?_
  refine tr_seq ?_
  refine tr_seq ?_
  refine tr_reg hT [] [.s 2, .s 4, .s 13, .h 1, .h 2] [sO 2 (.ptr 1 0), sO 4 (.ptr 2 0), sB 13 (!b4), hB 1 22 [.arr .u8 32 (List.replicate 32 0)], hB 2 71 [.arr .u64 5 a3]] [] (by kernel_rfl) trivial ?_
  refine q_k ?_
  rcases ite_split h with ⟨hc7, h⟩ | ⟨hc7, h⟩
  · refine tr_cond_t (!b4) (by kernel_rfl) hc7 ?_
    refine tr_seq ?_
    refine tr_reg hT [] [.s 2, .s 3, .h 1] [sO 2 (.ptr 1 0), sB 3 false, hB 1 22 [.arr .u8 32 (List.replicate 32 0)]] [] (by kernel_rfl) trivial ?_
    refine q_k ?_
    refine tr_ret ?_
    refine q_k_ret ?_
    have h := Option.some.inj h
    subst h
    exact q_ret0 hT (.tup [.agg [.arr .u8 32 (List.replicate 32 0)], .one (.bool false)]) rfl (by kernel_rfl)
  · refine tr_cond_f (!b4) (by kernel_rfl) hc7 ?_
    refine tr_skip ?_
    refine q_k ?_
    refine tr_seq ?_
    refine tr_seq ?_
    obtain ⟨b8, e9, h⟩ := bind_some h
    refine tr_reg hT [(1, .call [] (.v (.one (.bool b8))) [])] [.s 2, .s 4, .s 16, .h 1, .h 2] [sO 2 (.ptr 1 0), sO 4 (.ptr 2 0), sB 16 b8, hB 1 22 [.arr .u8 32 (List.replicate 32 0)], hB 2 71 [.arr .u64 5 a3]] [CallOk P 86 [.v (.agg [.arr .u64 5 a3])] [] (.v (.one (.bool b8))) []] (by kernel_rfl) (hone (limb_N_Odd_ok a3 b8 e9)) ?_
    refine q_k ?_
    obtain ⟨m10, e18, h⟩ := bind_some h
    refine tr_join (σ1 := [sO 2 (.ptr 1 0), sO 4 (.ptr 2 0), hB 1 22 [.arr .u8 32 (List.replicate 32 0)], hB 2 71 [.arr .u64 5 m10]]) ?_ ?_
    · skip
      replace h : ((limb_N_Bytes m10).bind (fun a16 => some (a16, true))) = _ := h
      refine q_k ?_
      refine tr_seq ?_
      obtain ⟨a16, e17, h⟩ := bind_some h
      refine tr_reg hT [(1, .call [] (.v (.agg [.arr .u8 32 a16])) [])] [.s 2, .s 3, .h 1] [sO 2 (.ptr 1 0), sB 3 true, hB 1 22 [.arr .u8 32 a16]] [CallOk P 73 [.v (.agg [.arr .u64 5 m10])] [] (.v (.agg [.arr .u8 32 a16])) []] (by kernel_rfl) (hone (limb_N_Bytes_ok m10 a16 e17)) ?_
      refine q_k ?_
      refine tr_ret ?_
      have h := Option.some.inj h
      subst h
      exact q_ret0 hT (.tup [.agg [.arr .u8 32 a16], .one (.bool true)]) rfl (by kernel_rfl)
    · intro hj0
      clear h
      have h := e18
      clear e18
      rcases ite_split h with ⟨hc11, h⟩ | ⟨hc11, h⟩
      · refine tr_cond_t b8 (by kernel_rfl) hc11 ?_
        obtain ⟨a12, e13, h⟩ := bind_some h
        obtain ⟨a14, e15, h⟩ := bind_some h
        refine tr_regd hT hM [(0, .call [] (.v (.agg [.arr .u64 5 a12])) []), (2, .call [] (.v (.agg [.arr .u64 5 a14])) [])] [.s 2, .s 4, .h 1, .h 2] [sO 2 (.ptr 1 0), sO 4 (.ptr 2 0), hB 1 22 [.arr .u8 32 (List.replicate 32 0)], hB 2 71 [.arr .u64 5 a14]] [CallOk P 87 [.v (.one (.int .u64 (0 : Int)))] [] (.v (.agg [.arr .u64 5 a12])) [], CallOk P 80 [.v (.agg [.arr .u64 5 a12]), .v (.agg [.arr .u64 5 a3])] [] (.v (.agg [.arr .u64 5 a14])) []] (by kernel_rfl) (hcons (limb_Small_ok (0 : Int) a12 e13) (hone (limb_Sub_ok a12 a3 a14 e15))) ?_
        have h := Option.some.inj h
        subst h
        exact q_less [.s 2, .s 4, .h 1, .h 2] [sO 2 (.ptr 1 0), sO 4 (.ptr 2 0), hB 1 22 [.arr .u8 32 (List.replicate 32 0)], hB 2 71 [.arr .u64 5 a14]] (by kernel_rfl) hj0
      · refine tr_cond_f b8 (by kernel_rfl) hc11 ?_
        refine tr_skip ?_
        have h := Option.some.inj h
        subst h
        exact q_less [.s 2, .s 4, .h 1, .h 2] [sO 2 (.ptr 1 0), sO 4 (.ptr 2 0), hB 1 22 [.arr .u8 32 (List.replicate 32 0)], hB 2 71 [.arr .u64 5 a3]] (by kernel_rfl) hj0

theorem ref04_half_ok (a_0 : List Int) (r : List Int) (h : ref04_half a_0 = some r) {pre : List (Nat × Ent)} : CallOk P 88 [.v (.agg [.arr .u64 4 a_0])] pre (.v (.agg [.arr .u64 4 r])) [] := by
  refine call0 (N := 28) Try.func88 (by kernel_rfl) rfl rfl rfl pre ?_
  intro _ w
  show Tr P (Ge w) 28 _ _ _ (RetQ P Try.f88 (R0 _ w))
  unfold ref04_half at h
  refine tr_seq ?_
  refine tr_reg hT [(0, .key 0), (1, .key 1)] [.s 1, .s 2, .h 0, .h 1] [sO 1 (.ptr 0 0), sO 2 (.ptr 1 0), hB 0 31 [.arr .u64 4 a_0], hB 1 31 [.arr .u64 4 (List.replicate 4 0)]] [] (by kernel_rfl) trivial ?_
  refine q_k ?_
  refine tr_seq ?_
  refine tr_reg hT [(0, .key 2)] [.s 1, .s 2, .s 3, .h 0, .h 1, .h 2] [sO 1 (.ptr 0 0), sO 2 (.ptr 1 0), sO 3 (.ptr 2 0), hB 0 31 [.arr .u64 4 a_0], hB 1 31 [.arr .u64 4 (List.replicate 4 0)], hB 2 31 [.arr .u64 4 (List.replicate 4 0)]] [] (by kernel_rfl) trivial ?_
  refine q_k ?_
  refine tr_seq ?_
  refine tr_seq ?_
  refine tr_reg hT [] [.s 1, .s 2, .s 3, .s 4, .h 0, .h 1, .h 2] [sO 1 (.ptr 0 0), sO 2 (.ptr 1 0), sO 3 (.ptr 2 0), sI 4 .i64 (0 : Int), hB 0 31 [.arr .u64 4 a_0], hB 1 31 [.arr .u64 4 (List.replicate 4 0)], hB 2 31 [.arr .u64 4 (List.replicate 4 0)]] [] (by kernel_rfl) trivial ?_
  refine q_k ?_
  refine tr_block ?_
  obtain ⟨m3, e11, h⟩ := bind_some h
  refine tr_fit [] [sO 1 (.ptr 0 0), sO 2 (.ptr 1 0), sO 3 (.ptr 2 0), sI 4 .i64 (0 : Int), hB 0 31 [.arr .u64 4 a_0], hB 1 31 [.arr .u64 4 (List.replicate 4 0)], hB 2 31 [.arr .u64 4 (List.replicate 4 0)]] [(0, .blk 31 [.arr .u64 4 a_0]), (1, .blk 31 [.arr .u64 4 (List.replicate 4 0)]), (2, .blk 31 [.arr .u64 4 (List.replicate 4 0)])] (by kernel_rfl) (by kernel_rfl) (by kernel_rfl) rfl ⟨.blk (by kernel_rfl) (by kernel_rfl), .blk (by kernel_rfl) (by kernel_rfl), .blk (by kernel_rfl) (by kernel_rfl), trivial⟩ (by kernel_rfl) ?_
  refine tr_loop_fuel (id := 0) (α := List Int × Int) (β := List Int) (fun z => [sO 1 (.ptr 0 0), sO 2 (.ptr 1 0), sO 3 (.ptr 2 0), sI 4 .i64 z.2, hB 0 31 [.arr .u64 4 a_0], hB 1 31 [.arr .u64 4 (List.replicate 4 0)], hB 2 31 [.arr .u64 4 z.1]]) (fun z => [sO 2 (.ptr 1 0), sO 3 (.ptr 2 0), hB 1 31 [.arr .u64 4 (List.replicate 4 0)], hB 2 31 [.arr .u64 4 z]]) (fun k z => ref04_half_l0 a_0 k z.1 z.2) m3 (fun _ => rfl) (((4 : Int) - (0 : Int)).toNat + 1) ((List.replicate 4 0), (0 : Int)) e11 ?_ ?_
  · skip
    replace h : (some m3) = _ := h
    refine q_b_this ?_
    refine q_k ?_
    refine tr_seq ?_
    refine tr_reg hT [] [.s 2, .h 1] [sO 2 (.ptr 1 0), hB 1 31 [.arr .u64 4 m3]] [] (by kernel_rfl) trivial ?_
    refine q_k ?_
    refine tr_ret ?_
    have h := Option.some.inj h
    subst h
    exact q_ret0 hT (.v (.agg [.arr .u64 4 m3])) rfl (by kernel_rfl)
  · clear h e11
    intro k ih0 hx0 z h
    obtain ⟨m1, i2⟩ := z
    replace h : (if (decide (i2 < (4 : Int))) = true then if 0 ≤ i2 ∧ i2 < ((4 : Nat) : Int) then if 0 ≤ i2 ∧ i2 < ((4 : Nat) : Int) then if (decide (i2 < (3 : Int))) = true then if 0 ≤ i2 ∧ i2 < ((4 : Nat) : Int) then if 0 ≤ (IntKind.i64.wrap (i2 + (1 : Int))) ∧ (IntKind.i64.wrap (i2 + (1 : Int))) < ((4 : Nat) : Int) then if 0 ≤ i2 ∧ i2 < ((4 : Nat) : Int) then ref04_half_l0 a_0 k ((m1.set i2.toNat (shr .u64 (a_0.getD i2.toNat 0) (1 : Int))).set i2.toNat (bor .u64 ((m1.set i2.toNat (shr .u64 (a_0.getD i2.toNat 0) (1 : Int))).getD i2.toNat 0) (shl .u64 (a_0.getD (IntKind.i64.wrap (i2 + (1 : Int))).toNat 0) (63 : Int)))) (IntKind.i64.wrap (i2 + (1 : Int))) else none else none else none else ref04_half_l0 a_0 k (m1.set i2.toNat (shr .u64 (a_0.getD i2.toNat 0) (1 : Int))) (IntKind.i64.wrap (i2 + (1 : Int))) else none else none else some m1) = _ := h
    refine tr_seq ?_
    refine tr_seq ?_
    refine tr_reg hT [] [.s 1, .s 2, .s 3, .s 4, .s 6, .h 0, .h 1, .h 2] [sO 1 (.ptr 0 0), sO 2 (.ptr 1 0), sO 3 (.ptr 2 0), sI 4 .i64 i2, sB 6 (decide (i2 < (4 : Int))), hB 0 31 [.arr .u64 4 a_0], hB 1 31 [.arr .u64 4 (List.replicate 4 0)], hB 2 31 [.arr .u64 4 m1]] [] (by kernel_rfl) trivial ?_
    refine q_k ?_
    rcases ite_split h with ⟨hc4, h⟩ | ⟨hc4, h⟩
    · refine tr_cond_t (decide (i2 < (4 : Int))) (by kernel_rfl) hc4 ?_
      refine tr_skip ?_
      refine q_k ?_
      refine tr_seq ?_
      refine tr_block ?_
      refine tr_seq ?_
      obtain ⟨hn5, h⟩ := ite_some h
      obtain ⟨hn6, h⟩ := ite_some h
      refine tr_reg hT [] [.s 1, .s 2, .s 3, .s 4, .h 0, .h 1, .h 2] [sO 1 (.ptr 0 0), sO 2 (.ptr 1 0), sO 3 (.ptr 2 0), sI 4 .i64 i2, hB 0 31 [.arr .u64 4 a_0], hB 1 31 [.arr .u64 4 (List.replicate 4 0)], hB 2 31 [.arr .u64 4 (m1.set i2.toNat (shr .u64 (a_0.getD i2.toNat 0) (1 : Int)))]] [0 ≤ i2 ∧ i2 < ((4 : Nat) : Int), 0 ≤ (1 : Int), 0 ≤ i2 ∧ i2 < ((4 : Nat) : Int)] (by kernel_rfl) (hcons hn5 (hcons (by decide) (hone hn6))) ?_
      refine q_k ?_
      refine tr_seq ?_
      refine tr_reg hT [] [.s 1, .s 2, .s 3, .s 4, .s 16, .h 0, .h 1, .h 2] [sO 1 (.ptr 0 0), sO 2 (.ptr 1 0), sO 3 (.ptr 2 0), sI 4 .i64 i2, sB 16 (decide (i2 < (3 : Int))), hB 0 31 [.arr .u64 4 a_0], hB 1 31 [.arr .u64 4 (List.replicate 4 0)], hB 2 31 [.arr .u64 4 (m1.set i2.toNat (shr .u64 (a_0.getD i2.toNat 0) (1 : Int)))]] [] (by kernel_rfl) trivial ?_
      refine q_k ?_
      rcases ite_split h with ⟨hc7, h⟩ | ⟨hc7, h⟩
      · refine tr_cond_t (decide (i2 < (3 : Int))) (by kernel_rfl) hc7 ?_
        obtain ⟨hn8, h⟩ := ite_some h
        obtain ⟨hn9, h⟩ := ite_some h
        obtain ⟨hn10, h⟩ := ite_some h
        refine tr_regd hT hM [] [.s 1, .s 2, .s 3, .s 4, .h 0, .h 1, .h 2] [sO 1 (.ptr 0 0), sO 2 (.ptr 1 0), sO 3 (.ptr 2 0), sI 4 .i64 i2, hB 0 31 [.arr .u64 4 a_0], hB 1 31 [.arr .u64 4 (List.replicate 4 0)], hB 2 31 [.arr .u64 4 ((m1.set i2.toNat (shr .u64 (a_0.getD i2.toNat 0) (1 : Int))).set i2.toNat (bor .u64 ((m1.set i2.toNat (shr .u64 (a_0.getD i2.toNat 0) (1 : Int))).getD i2.toNat 0) (shl .u64 (a_0.getD (IntKind.i64.wrap (i2 + (1 : Int))).toNat 0) (63 : Int))))]] [0 ≤ i2 ∧ i2 < ((4 : Nat) : Int), 0 ≤ (IntKind.i64.wrap (i2 + (1 : Int))) ∧ (IntKind.i64.wrap (i2 + (1 : Int))) < ((4 : Nat) : Int), 0 ≤ (63 : Int), 0 ≤ i2 ∧ i2 < ((4 : Nat) : Int)] (by kernel_rfl) (hcons hn8 (hcons hn9 (hcons (by decide) (hone hn10)))) ?_
        refine q_b 1 ?_
        refine q_k ?_
        refine tr_reg hT [] [.s 1, .s 2, .s 3, .s 4, .h 0, .h 1, .h 2] [sO 1 (.ptr 0 0), sO 2 (.ptr 1 0), sO 3 (.ptr 2 0), sI 4 .i64 (IntKind.i64.wrap (i2 + (1 : Int))), hB 0 31 [.arr .u64 4 a_0], hB 1 31 [.arr .u64 4 (List.replicate 4 0)], hB 2 31 [.arr .u64 4 ((m1.set i2.toNat (shr .u64 (a_0.getD i2.toNat 0) (1 : Int))).set i2.toNat (bor .u64 ((m1.set i2.toNat (shr .u64 (a_0.getD i2.toNat 0) (1 : Int))).getD i2.toNat 0) (shl .u64 (a_0.getD (IntKind.i64.wrap (i2 + (1 : Int))).toNat 0) (63 : Int))))]] [] (by kernel_rfl) trivial ?_
        refine q_kr ?_
        exact trR_less [.s 1, .s 2, .s 3, .s 4, .h 0, .h 1, .h 2] [sO 1 (.ptr 0 0), sO 2 (.ptr 1 0), sO 3 (.ptr 2 0), sI 4 .i64 (IntKind.i64.wrap (i2 + (1 : Int))), hB 0 31 [.arr .u64 4 a_0], hB 1 31 [.arr .u64 4 (List.replicate 4 0)], hB 2 31 [.arr .u64 4 ((m1.set i2.toNat (shr .u64 (a_0.getD i2.toNat 0) (1 : Int))).set i2.toNat (bor .u64 ((m1.set i2.toNat (shr .u64 (a_0.getD i2.toNat 0) (1 : Int))).getD i2.toNat 0) (shl .u64 (a_0.getD (IntKind.i64.wrap (i2 + (1 : Int))).toNat 0) (63 : Int))))]] (by kernel_rfl) (ih0 (((m1.set i2.toNat (shr .u64 (a_0.getD i2.toNat 0) (1 : Int))).set i2.toNat (bor .u64 ((m1.set i2.toNat (shr .u64 (a_0.getD i2.toNat 0) (1 : Int))).getD i2.toNat 0) (shl .u64 (a_0.getD (IntKind.i64.wrap (i2 + (1 : Int))).toNat 0) (63 : Int)))), (IntKind.i64.wrap (i2 + (1 : Int)))) h)
      · refine tr_cond_f (decide (i2 < (3 : Int))) (by kernel_rfl) hc7 ?_
        refine tr_skip ?_
        refine q_b 1 ?_
        refine q_k ?_
        refine tr_reg hT [] [.s 1, .s 2, .s 3, .s 4, .h 0, .h 1, .h 2] [sO 1 (.ptr 0 0), sO 2 (.ptr 1 0), sO 3 (.ptr 2 0), sI 4 .i64 (IntKind.i64.wrap (i2 + (1 : Int))), hB 0 31 [.arr .u64 4 a_0], hB 1 31 [.arr .u64 4 (List.replicate 4 0)], hB 2 31 [.arr .u64 4 (m1.set i2.toNat (shr .u64 (a_0.getD i2.toNat 0) (1 : Int)))]] [] (by kernel_rfl) trivial ?_
        refine q_kr ?_
        exact trR_less [.s 1, .s 2, .s 3, .s 4, .h 0, .h 1, .h 2] [sO 1 (.ptr 0 0), sO 2 (.ptr 1 0), sO 3 (.ptr 2 0), sI 4 .i64 (IntKind.i64.wrap (i2 + (1 : Int))), hB 0 31 [.arr .u64 4 a_0], hB 1 31 [.arr .u64 4 (List.replicate 4 0)], hB 2 31 [.arr .u64 4 (m1.set i2.toNat (shr .u64 (a_0.getD i2.toNat 0) (1 : Int)))]] (by kernel_rfl) (ih0 ((m1.set i2.toNat (shr .u64 (a_0.getD i2.toNat 0) (1 : Int))), (IntKind.i64.wrap (i2 + (1 : Int)))) h)
    · refine tr_cond_f (decide (i2 < (4 : Int))) (by kernel_rfl) hc4 ?_
      refine tr_exit ?_
      refine q_k_exit ?_
      refine q_kr_exit ?_
      have h := Option.some.inj h
      subst h
      exact q_less [.s 2, .s 3, .h 1, .h 2] [sO 2 (.ptr 1 0), sO 3 (.ptr 2 0), hB 1 31 [.arr .u64 4 (List.replicate 4 0)], hB 2 31 [.arr .u64 4 m1]] (by kernel_rfl) hx0

end Go.Proofs.Sb
