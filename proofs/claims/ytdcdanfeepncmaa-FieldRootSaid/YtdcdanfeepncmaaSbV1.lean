/- Walks, printed by a program of this session (gowalk.py): each Go function comes to its plain function's answer. -/
import Derived.Test.YtdcdanfeepncmaaSbA
import Derived.Test.YtdcdanfeepncmaaSbD
import Derived.Test.YtdcdanfeepncmaaSbI
import Derived.Test.YtdcdanfeepncmaaSbV0
namespace Go.Proofs.Sb
open Go Go.Gw D
set_option linter.unusedVariables false
set_option maxRecDepth 20000

theorem limb_N_Bytes_ok (a_0 : List Int) (r : List Int) (h : limb_N_Bytes a_0 = some r) {pre : List (Nat × Ent)} : CallOk P 73 [.v (.agg [.arr .u64 5 a_0])] pre (.v (.agg [.arr .u8 32 r])) [] := by
  refine call0 (N := 84) Try.func73 (by kernel_rfl) rfl rfl rfl pre ?_
  intro _ w
  show Tr P w.heap.size 84 w _ _ (RetQ P Try.f73 (R0 _ w))
  unfold limb_N_Bytes at h
  refine tr_seq ?_
  refine tr_reg hT [(0, .key 0), (1, .key 1)] [.s 1, .s 2, .h 0, .h 1] [sO 1 (.ptr 0 0), sO 2 (.ptr 1 0), hB 0 71 [.arr .u64 5 a_0], hB 1 22 [.arr .u8 32 (List.replicate 32 0)]] [] (by kernel_rfl) trivial ?_
  refine q_k ?_
  refine tr_seq ?_
  obtain ⟨a1, e2, h⟩ := bind_some h
  obtain ⟨a3, e4, h⟩ := bind_some h
  obtain ⟨a5, e6, h⟩ := bind_some h
  refine tr_reg hT [(1, .call (.v (.agg [.arr .u64 5 a1])) []), (2, .call (.v (.agg [.arr .u64 5 a3])) []), (3, .call (.v (.agg [.arr .u64 5 a5])) [])] [.s 1, .s 2, .h 0, .h 1] [sO 1 (.ptr 0 0), sO 2 (.ptr 1 0), hB 0 71 [.arr .u64 5 a5], hB 1 22 [.arr .u8 32 (List.replicate 32 0)]] [CallOk P 102 [.v (.agg [.arr .u64 5 a_0])] [] (.v (.agg [.arr .u64 5 a1])) [], CallOk P 102 [.v (.agg [.arr .u64 5 a1])] [] (.v (.agg [.arr .u64 5 a3])) [], CallOk P 102 [.v (.agg [.arr .u64 5 a3])] [] (.v (.agg [.arr .u64 5 a5])) []] (by kernel_rfl) (hcons (limb_carried_ok a_0 a1 e2) (hcons (limb_carried_ok a1 a3 e4) (hone (limb_carried_ok a3 a5 e6)))) ?_
  refine q_k ?_
  refine tr_seq ?_
  refine tr_reg hT [(1, .key 2)] [.s 1, .s 2, .s 3, .h 0, .h 1, .h 2] [sO 1 (.ptr 0 0), sO 2 (.ptr 1 0), sO 3 (.ptr 2 0), hB 0 71 [.arr .u64 5 a5], hB 1 22 [.arr .u8 32 (List.replicate 32 0)], hB 2 71 [.arr .u64 5 a5]] [] (by kernel_rfl) trivial ?_
  refine q_k ?_
  refine tr_seq ?_
  refine tr_reg hT [] [.s 1, .s 2, .s 3, .h 0, .h 1, .h 2] [sO 1 (.ptr 0 0), sO 2 (.ptr 1 0), sO 3 (.ptr 2 0), hB 0 71 [.arr .u64 5 a5], hB 1 22 [.arr .u8 32 (List.replicate 32 0)], hB 2 71 [.arr .u64 5 (a5.set 0 (IntKind.u64.wrap ((a5.getD 0 0) + (19 : Int))))]] [0 ≤ (0 : Int) ∧ (0 : Int) < ((5 : Nat) : Int), 0 ≤ (0 : Int) ∧ (0 : Int) < ((5 : Nat) : Int)] (by kernel_rfl) (hcons (by decide) (hone (by decide))) ?_
  refine q_k ?_
  refine tr_seq ?_
  refine tr_reg hT [] [.s 1, .s 2, .s 3, .s 4, .h 0, .h 1, .h 2] [sO 1 (.ptr 0 0), sO 2 (.ptr 1 0), sO 3 (.ptr 2 0), sI 4 .u64 (0 : Int), hB 0 71 [.arr .u64 5 a5], hB 1 22 [.arr .u8 32 (List.replicate 32 0)], hB 2 71 [.arr .u64 5 (a5.set 0 (IntKind.u64.wrap ((a5.getD 0 0) + (19 : Int))))]] [] (by kernel_rfl) trivial ?_
  refine q_k ?_
  refine tr_seq ?_
  refine tr_seq ?_
  refine tr_reg hT [] [.s 1, .s 2, .s 3, .s 4, .s 18, .h 0, .h 1, .h 2] [sO 1 (.ptr 0 0), sO 2 (.ptr 1 0), sO 3 (.ptr 2 0), sI 4 .u64 (0 : Int), sI 18 .i64 (0 : Int), hB 0 71 [.arr .u64 5 a5], hB 1 22 [.arr .u8 32 (List.replicate 32 0)], hB 2 71 [.arr .u64 5 (a5.set 0 (IntKind.u64.wrap ((a5.getD 0 0) + (19 : Int))))]] [] (by kernel_rfl) trivial ?_
  refine q_k ?_
  refine tr_block ?_
  obtain ⟨rr0, e18, h⟩ := bind_some h
  refine tr_less [.s 1, .s 2, .s 3, .s 4, .s 18, .h 0, .h 1, .h 2] [sO 1 (.ptr 0 0), sO 2 (.ptr 1 0), sO 3 (.ptr 2 0), sI 4 .u64 (0 : Int), sI 18 .i64 (0 : Int), hB 0 71 [.arr .u64 5 a5], hB 1 22 [.arr .u8 32 (List.replicate 32 0)], hB 2 71 [.arr .u64 5 (a5.set 0 (IntKind.u64.wrap ((a5.getD 0 0) + (19 : Int))))]] (by kernel_rfl) ?_
  refine tr_loop_fuel (id := 0) (α := List Int × Int × Int) (β := List Int × Int) (fun z => [sO 1 (.ptr 0 0), sO 2 (.ptr 1 0), sO 3 (.ptr 2 0), sI 4 .u64 z.2.1, sI 18 .i64 z.2.2, hB 0 71 [.arr .u64 5 a5], hB 1 22 [.arr .u8 32 (List.replicate 32 0)], hB 2 71 [.arr .u64 5 z.1]]) (fun z => [sO 1 (.ptr 0 0), sO 2 (.ptr 1 0), sO 3 (.ptr 2 0), sI 4 .u64 z.2, hB 0 71 [.arr .u64 5 a5], hB 1 22 [.arr .u8 32 (List.replicate 32 0)], hB 2 71 [.arr .u64 5 z.1]]) (fun k z => limb_N_Bytes_l0 a5 k z.1 z.2.1 z.2.2) rr0 (fun _ => rfl) (((5 : Int) - (0 : Int)).toNat + 1) ((a5.set 0 (IntKind.u64.wrap ((a5.getD 0 0) + (19 : Int)))), (0 : Int), (0 : Int)) e18 ?_ ?_
  · rcases rr0 with ⟨m16, c17⟩
    replace h : ((show Option (List Int) from if (decide (c17 > (0 : Int))) = true then some m16 else some a5).bind (fun m20 => (limb_N_Bytes_l2 m20 (((32 : Int) - (0 : Int)).toNat + 1) (List.replicate 32 0) (0 : Int)).bind (fun m27 => some m27))) = _ := h
    refine q_b_this ?_
    refine q_k ?_
    refine tr_seq ?_
    refine tr_seq ?_
    refine tr_reg hT [] [.s 1, .s 2, .s 3, .s 38, .h 0, .h 1, .h 2] [sO 1 (.ptr 0 0), sO 2 (.ptr 1 0), sO 3 (.ptr 2 0), sB 38 (decide (c17 > (0 : Int))), hB 0 71 [.arr .u64 5 a5], hB 1 22 [.arr .u8 32 (List.replicate 32 0)], hB 2 71 [.arr .u64 5 m16]] [] (by kernel_rfl) trivial ?_
    refine q_k ?_
    obtain ⟨m20, e29, h⟩ := bind_some h
    refine tr_join (σ1 := [sO 1 (.ptr 0 0), sO 2 (.ptr 1 0), hB 0 71 [.arr .u64 5 m20], hB 1 22 [.arr .u8 32 (List.replicate 32 0)]]) ?_ ?_
    · skip
      replace h : ((limb_N_Bytes_l2 m20 (((32 : Int) - (0 : Int)).toNat + 1) (List.replicate 32 0) (0 : Int)).bind (fun m27 => some m27)) = _ := h
      refine q_k ?_
      refine tr_seq ?_
      refine tr_reg hT [(28, .key 3)] [.s 2, .s 6, .h 1, .h 3] [sO 2 (.ptr 1 0), sO 6 (.ptr 3 0), hB 1 22 [.arr .u8 32 (List.replicate 32 0)], hB 3 30 [.arr .u64 4 [(bor .u64 (m20.getD 0 0) (shl .u64 (m20.getD 1 0) (51 : Int))), (bor .u64 (shr .u64 (m20.getD 1 0) (13 : Int)) (shl .u64 (m20.getD 2 0) (38 : Int))), (bor .u64 (shr .u64 (m20.getD 2 0) (26 : Int)) (shl .u64 (m20.getD 3 0) (25 : Int))), (bor .u64 (shr .u64 (m20.getD 3 0) (39 : Int)) (shl .u64 (m20.getD 4 0) (12 : Int)))]]] [0 ≤ (0 : Int) ∧ (0 : Int) < ((5 : Nat) : Int), 0 ≤ (1 : Int) ∧ (1 : Int) < ((5 : Nat) : Int), 0 ≤ (51 : Int), 0 ≤ (1 : Int) ∧ (1 : Int) < ((5 : Nat) : Int), 0 ≤ (13 : Int), 0 ≤ (2 : Int) ∧ (2 : Int) < ((5 : Nat) : Int), 0 ≤ (38 : Int), 0 ≤ (2 : Int) ∧ (2 : Int) < ((5 : Nat) : Int), 0 ≤ (26 : Int), 0 ≤ (3 : Int) ∧ (3 : Int) < ((5 : Nat) : Int), 0 ≤ (25 : Int), 0 ≤ (3 : Int) ∧ (3 : Int) < ((5 : Nat) : Int), 0 ≤ (39 : Int), 0 ≤ (4 : Int) ∧ (4 : Int) < ((5 : Nat) : Int), 0 ≤ (12 : Int)] (by kernel_rfl) (hcons (by decide) (hcons (by decide) (hcons (by decide) (hcons (by decide) (hcons (by decide) (hcons (by decide) (hcons (by decide) (hcons (by decide) (hcons (by decide) (hcons (by decide) (hcons (by decide) (hcons (by decide) (hcons (by decide) (hcons (by decide) (hone (by decide)))))))))))))))) ?_
      refine q_k ?_
      refine tr_seq ?_
      refine tr_reg hT [(0, .key 4)] [.s 2, .s 6, .s 7, .h 1, .h 3, .h 4] [sO 2 (.ptr 1 0), sO 6 (.ptr 3 0), sO 7 (.ptr 4 0), hB 1 22 [.arr .u8 32 (List.replicate 32 0)], hB 3 30 [.arr .u64 4 [(bor .u64 (m20.getD 0 0) (shl .u64 (m20.getD 1 0) (51 : Int))), (bor .u64 (shr .u64 (m20.getD 1 0) (13 : Int)) (shl .u64 (m20.getD 2 0) (38 : Int))), (bor .u64 (shr .u64 (m20.getD 2 0) (26 : Int)) (shl .u64 (m20.getD 3 0) (25 : Int))), (bor .u64 (shr .u64 (m20.getD 3 0) (39 : Int)) (shl .u64 (m20.getD 4 0) (12 : Int)))]], hB 4 22 [.arr .u8 32 (List.replicate 32 0)]] [] (by kernel_rfl) trivial ?_
      refine q_k ?_
      refine tr_seq ?_
      refine tr_seq ?_
      refine tr_reg hT [] [.s 2, .s 6, .s 7, .s 68, .h 1, .h 3, .h 4] [sO 2 (.ptr 1 0), sO 6 (.ptr 3 0), sO 7 (.ptr 4 0), sI 68 .i64 (0 : Int), hB 1 22 [.arr .u8 32 (List.replicate 32 0)], hB 3 30 [.arr .u64 4 [(bor .u64 (m20.getD 0 0) (shl .u64 (m20.getD 1 0) (51 : Int))), (bor .u64 (shr .u64 (m20.getD 1 0) (13 : Int)) (shl .u64 (m20.getD 2 0) (38 : Int))), (bor .u64 (shr .u64 (m20.getD 2 0) (26 : Int)) (shl .u64 (m20.getD 3 0) (25 : Int))), (bor .u64 (shr .u64 (m20.getD 3 0) (39 : Int)) (shl .u64 (m20.getD 4 0) (12 : Int)))]], hB 4 22 [.arr .u8 32 (List.replicate 32 0)]] [] (by kernel_rfl) trivial ?_
      refine q_k ?_
      refine tr_block ?_
      obtain ⟨m27, e28, h⟩ := bind_some h
      refine tr_less [.s 2, .s 6, .s 7, .s 68, .h 1, .h 3, .h 4] [sO 2 (.ptr 1 0), sO 6 (.ptr 3 0), sO 7 (.ptr 4 0), sI 68 .i64 (0 : Int), hB 1 22 [.arr .u8 32 (List.replicate 32 0)], hB 3 30 [.arr .u64 4 [(bor .u64 (m20.getD 0 0) (shl .u64 (m20.getD 1 0) (51 : Int))), (bor .u64 (shr .u64 (m20.getD 1 0) (13 : Int)) (shl .u64 (m20.getD 2 0) (38 : Int))), (bor .u64 (shr .u64 (m20.getD 2 0) (26 : Int)) (shl .u64 (m20.getD 3 0) (25 : Int))), (bor .u64 (shr .u64 (m20.getD 3 0) (39 : Int)) (shl .u64 (m20.getD 4 0) (12 : Int)))]], hB 4 22 [.arr .u8 32 (List.replicate 32 0)]] (by kernel_rfl) ?_
      refine tr_loop_fuel (id := 2) (α := List Int × Int) (β := List Int) (fun z => [sO 2 (.ptr 1 0), sO 6 (.ptr 3 0), sO 7 (.ptr 4 0), sI 68 .i64 z.2, hB 1 22 [.arr .u8 32 (List.replicate 32 0)], hB 3 30 [.arr .u64 4 [(bor .u64 (m20.getD 0 0) (shl .u64 (m20.getD 1 0) (51 : Int))), (bor .u64 (shr .u64 (m20.getD 1 0) (13 : Int)) (shl .u64 (m20.getD 2 0) (38 : Int))), (bor .u64 (shr .u64 (m20.getD 2 0) (26 : Int)) (shl .u64 (m20.getD 3 0) (25 : Int))), (bor .u64 (shr .u64 (m20.getD 3 0) (39 : Int)) (shl .u64 (m20.getD 4 0) (12 : Int)))]], hB 4 22 [.arr .u8 32 z.1]]) (fun z => [sO 2 (.ptr 1 0), sO 7 (.ptr 4 0), hB 1 22 [.arr .u8 32 (List.replicate 32 0)], hB 4 22 [.arr .u8 32 z]]) (fun k z => limb_N_Bytes_l2 m20 k z.1 z.2) m27 (fun _ => rfl) (((32 : Int) - (0 : Int)).toNat + 1) ((List.replicate 32 0), (0 : Int)) e28 ?_ ?_
      · skip
        replace h : (some m27) = _ := h
        refine q_b_this ?_
        refine q_k ?_
        refine tr_seq ?_
        refine tr_reg hT [] [.s 2, .h 1] [sO 2 (.ptr 1 0), hB 1 22 [.arr .u8 32 m27]] [] (by kernel_rfl) trivial ?_
        refine q_k ?_
        refine tr_ret ?_
        have h := Option.some.inj h
        subst h
        exact q_ret0 hT (.v (.agg [.arr .u8 32 m27])) rfl (by kernel_rfl)
      · clear h e28
        intro k ih2 hx2 z h
        obtain ⟨m21, x22⟩ := z
        replace h : (if (decide (x22 < (32 : Int))) = true then if 0 ≤ (IntKind.i64.wrap (x22.tdiv (8 : Int))) ∧ (IntKind.i64.wrap (x22.tdiv (8 : Int))) < ((4 : Nat) : Int) then if 0 ≤ (IntKind.i64.wrap ((8 : Int) * (x22.tmod (8 : Int)))) then if 0 ≤ x22 ∧ x22 < ((32 : Nat) : Int) then limb_N_Bytes_l2 m20 k (m21.set x22.toNat (IntKind.u8.wrap (shr .u64 ([(bor .u64 (m20.getD 0 0) (shl .u64 (m20.getD 1 0) (51 : Int))), (bor .u64 (shr .u64 (m20.getD 1 0) (13 : Int)) (shl .u64 (m20.getD 2 0) (38 : Int))), (bor .u64 (shr .u64 (m20.getD 2 0) (26 : Int)) (shl .u64 (m20.getD 3 0) (25 : Int))), (bor .u64 (shr .u64 (m20.getD 3 0) (39 : Int)) (shl .u64 (m20.getD 4 0) (12 : Int)))].getD (IntKind.i64.wrap (x22.tdiv (8 : Int))).toNat 0) (IntKind.i64.wrap ((8 : Int) * (x22.tmod (8 : Int))))))) (IntKind.i64.wrap (x22 + (1 : Int))) else none else none else none else some m21) = _ := h
        refine tr_seq ?_
        refine tr_reg hT [] [.s 2, .s 6, .s 7, .s 68, .s 69, .h 1, .h 3, .h 4] [sO 2 (.ptr 1 0), sO 6 (.ptr 3 0), sO 7 (.ptr 4 0), sI 68 .i64 x22, sB 69 (decide (x22 < (32 : Int))), hB 1 22 [.arr .u8 32 (List.replicate 32 0)], hB 3 30 [.arr .u64 4 [(bor .u64 (m20.getD 0 0) (shl .u64 (m20.getD 1 0) (51 : Int))), (bor .u64 (shr .u64 (m20.getD 1 0) (13 : Int)) (shl .u64 (m20.getD 2 0) (38 : Int))), (bor .u64 (shr .u64 (m20.getD 2 0) (26 : Int)) (shl .u64 (m20.getD 3 0) (25 : Int))), (bor .u64 (shr .u64 (m20.getD 3 0) (39 : Int)) (shl .u64 (m20.getD 4 0) (12 : Int)))]], hB 4 22 [.arr .u8 32 m21]] [] (by kernel_rfl) trivial ?_
        refine q_k ?_
        refine tr_seq ?_
        rcases ite_split h with ⟨hc23, h⟩ | ⟨hc23, h⟩
        · refine tr_cond_t (decide (x22 < (32 : Int))) (by kernel_rfl) hc23 ?_
          refine tr_skip ?_
          refine q_k ?_
          refine tr_seq ?_
          refine tr_block ?_
          refine tr_seq ?_
          refine tr_reg hT [] [.s 2, .s 6, .s 7, .s 8, .s 68, .h 1, .h 3, .h 4] [sO 2 (.ptr 1 0), sO 6 (.ptr 3 0), sO 7 (.ptr 4 0), sI 8 .i64 x22, sI 68 .i64 x22, hB 1 22 [.arr .u8 32 (List.replicate 32 0)], hB 3 30 [.arr .u64 4 [(bor .u64 (m20.getD 0 0) (shl .u64 (m20.getD 1 0) (51 : Int))), (bor .u64 (shr .u64 (m20.getD 1 0) (13 : Int)) (shl .u64 (m20.getD 2 0) (38 : Int))), (bor .u64 (shr .u64 (m20.getD 2 0) (26 : Int)) (shl .u64 (m20.getD 3 0) (25 : Int))), (bor .u64 (shr .u64 (m20.getD 3 0) (39 : Int)) (shl .u64 (m20.getD 4 0) (12 : Int)))]], hB 4 22 [.arr .u8 32 m21]] [] (by kernel_rfl) trivial ?_
          refine q_k ?_
          obtain ⟨hn24, h⟩ := ite_some h
          obtain ⟨hn25, h⟩ := ite_some h
          obtain ⟨hn26, h⟩ := ite_some h
          refine tr_reg hT [] [.s 2, .s 6, .s 7, .s 68, .h 1, .h 3, .h 4] [sO 2 (.ptr 1 0), sO 6 (.ptr 3 0), sO 7 (.ptr 4 0), sI 68 .i64 x22, hB 1 22 [.arr .u8 32 (List.replicate 32 0)], hB 3 30 [.arr .u64 4 [(bor .u64 (m20.getD 0 0) (shl .u64 (m20.getD 1 0) (51 : Int))), (bor .u64 (shr .u64 (m20.getD 1 0) (13 : Int)) (shl .u64 (m20.getD 2 0) (38 : Int))), (bor .u64 (shr .u64 (m20.getD 2 0) (26 : Int)) (shl .u64 (m20.getD 3 0) (25 : Int))), (bor .u64 (shr .u64 (m20.getD 3 0) (39 : Int)) (shl .u64 (m20.getD 4 0) (12 : Int)))]], hB 4 22 [.arr .u8 32 (m21.set x22.toNat (IntKind.u8.wrap (shr .u64 ([(bor .u64 (m20.getD 0 0) (shl .u64 (m20.getD 1 0) (51 : Int))), (bor .u64 (shr .u64 (m20.getD 1 0) (13 : Int)) (shl .u64 (m20.getD 2 0) (38 : Int))), (bor .u64 (shr .u64 (m20.getD 2 0) (26 : Int)) (shl .u64 (m20.getD 3 0) (25 : Int))), (bor .u64 (shr .u64 (m20.getD 3 0) (39 : Int)) (shl .u64 (m20.getD 4 0) (12 : Int)))].getD (IntKind.i64.wrap (x22.tdiv (8 : Int))).toNat 0) (IntKind.i64.wrap ((8 : Int) * (x22.tmod (8 : Int)))))))]] [(8 : Int) ≠ 0, 0 ≤ (IntKind.i64.wrap (x22.tdiv (8 : Int))) ∧ (IntKind.i64.wrap (x22.tdiv (8 : Int))) < ((4 : Nat) : Int), (8 : Int) ≠ 0, 0 ≤ (IntKind.i64.wrap ((8 : Int) * (x22.tmod (8 : Int)))), 0 ≤ x22 ∧ x22 < ((32 : Nat) : Int)] (by kernel_rfl) (hcons (by decide) (hcons hn24 (hcons (by decide) (hcons hn25 (hone hn26))))) ?_
          refine q_b 3 ?_
          refine q_k ?_
          refine tr_reg hT [] [.s 2, .s 6, .s 7, .s 68, .h 1, .h 3, .h 4] [sO 2 (.ptr 1 0), sO 6 (.ptr 3 0), sO 7 (.ptr 4 0), sI 68 .i64 (IntKind.i64.wrap (x22 + (1 : Int))), hB 1 22 [.arr .u8 32 (List.replicate 32 0)], hB 3 30 [.arr .u64 4 [(bor .u64 (m20.getD 0 0) (shl .u64 (m20.getD 1 0) (51 : Int))), (bor .u64 (shr .u64 (m20.getD 1 0) (13 : Int)) (shl .u64 (m20.getD 2 0) (38 : Int))), (bor .u64 (shr .u64 (m20.getD 2 0) (26 : Int)) (shl .u64 (m20.getD 3 0) (25 : Int))), (bor .u64 (shr .u64 (m20.getD 3 0) (39 : Int)) (shl .u64 (m20.getD 4 0) (12 : Int)))]], hB 4 22 [.arr .u8 32 (m21.set x22.toNat (IntKind.u8.wrap (shr .u64 ([(bor .u64 (m20.getD 0 0) (shl .u64 (m20.getD 1 0) (51 : Int))), (bor .u64 (shr .u64 (m20.getD 1 0) (13 : Int)) (shl .u64 (m20.getD 2 0) (38 : Int))), (bor .u64 (shr .u64 (m20.getD 2 0) (26 : Int)) (shl .u64 (m20.getD 3 0) (25 : Int))), (bor .u64 (shr .u64 (m20.getD 3 0) (39 : Int)) (shl .u64 (m20.getD 4 0) (12 : Int)))].getD (IntKind.i64.wrap (x22.tdiv (8 : Int))).toNat 0) (IntKind.i64.wrap ((8 : Int) * (x22.tmod (8 : Int)))))))]] [] (by kernel_rfl) trivial ?_
          refine q_kr ?_
          exact trR_less [.s 2, .s 6, .s 7, .s 68, .h 1, .h 3, .h 4] [sO 2 (.ptr 1 0), sO 6 (.ptr 3 0), sO 7 (.ptr 4 0), sI 68 .i64 (IntKind.i64.wrap (x22 + (1 : Int))), hB 1 22 [.arr .u8 32 (List.replicate 32 0)], hB 3 30 [.arr .u64 4 [(bor .u64 (m20.getD 0 0) (shl .u64 (m20.getD 1 0) (51 : Int))), (bor .u64 (shr .u64 (m20.getD 1 0) (13 : Int)) (shl .u64 (m20.getD 2 0) (38 : Int))), (bor .u64 (shr .u64 (m20.getD 2 0) (26 : Int)) (shl .u64 (m20.getD 3 0) (25 : Int))), (bor .u64 (shr .u64 (m20.getD 3 0) (39 : Int)) (shl .u64 (m20.getD 4 0) (12 : Int)))]], hB 4 22 [.arr .u8 32 (m21.set x22.toNat (IntKind.u8.wrap (shr .u64 ([(bor .u64 (m20.getD 0 0) (shl .u64 (m20.getD 1 0) (51 : Int))), (bor .u64 (shr .u64 (m20.getD 1 0) (13 : Int)) (shl .u64 (m20.getD 2 0) (38 : Int))), (bor .u64 (shr .u64 (m20.getD 2 0) (26 : Int)) (shl .u64 (m20.getD 3 0) (25 : Int))), (bor .u64 (shr .u64 (m20.getD 3 0) (39 : Int)) (shl .u64 (m20.getD 4 0) (12 : Int)))].getD (IntKind.i64.wrap (x22.tdiv (8 : Int))).toNat 0) (IntKind.i64.wrap ((8 : Int) * (x22.tmod (8 : Int)))))))]] (by kernel_rfl) (ih2 ((m21.set x22.toNat (IntKind.u8.wrap (shr .u64 ([(bor .u64 (m20.getD 0 0) (shl .u64 (m20.getD 1 0) (51 : Int))), (bor .u64 (shr .u64 (m20.getD 1 0) (13 : Int)) (shl .u64 (m20.getD 2 0) (38 : Int))), (bor .u64 (shr .u64 (m20.getD 2 0) (26 : Int)) (shl .u64 (m20.getD 3 0) (25 : Int))), (bor .u64 (shr .u64 (m20.getD 3 0) (39 : Int)) (shl .u64 (m20.getD 4 0) (12 : Int)))].getD (IntKind.i64.wrap (x22.tdiv (8 : Int))).toNat 0) (IntKind.i64.wrap ((8 : Int) * (x22.tmod (8 : Int))))))), (IntKind.i64.wrap (x22 + (1 : Int)))) h)
        · refine tr_cond_f (decide (x22 < (32 : Int))) (by kernel_rfl) hc23 ?_
          refine tr_exit ?_
          refine q_k_exit ?_
          refine q_kr_exit ?_
          have h := Option.some.inj h
          subst h
          exact q_less [.s 2, .s 7, .h 1, .h 4] [sO 2 (.ptr 1 0), sO 7 (.ptr 4 0), hB 1 22 [.arr .u8 32 (List.replicate 32 0)], hB 4 22 [.arr .u8 32 m21]] (by kernel_rfl) hx2
    · intro hj1
      clear h
      have h := e29
      clear e29
      rcases ite_split h with ⟨hc19, h⟩ | ⟨hc19, h⟩
      · refine tr_cond_t (decide (c17 > (0 : Int))) (by kernel_rfl) hc19 ?_
        refine tr_reg hT [] [.s 1, .s 2, .h 0, .h 1] [sO 1 (.ptr 0 0), sO 2 (.ptr 1 0), hB 0 71 [.arr .u64 5 m16], hB 1 22 [.arr .u8 32 (List.replicate 32 0)]] [] (by kernel_rfl) trivial ?_
        have h := Option.some.inj h
        subst h
        exact q_less [.s 1, .s 2, .h 0, .h 1] [sO 1 (.ptr 0 0), sO 2 (.ptr 1 0), hB 0 71 [.arr .u64 5 m16], hB 1 22 [.arr .u8 32 (List.replicate 32 0)]] (by kernel_rfl) hj1
      · refine tr_cond_f (decide (c17 > (0 : Int))) (by kernel_rfl) hc19 ?_
        refine tr_skip ?_
        have h := Option.some.inj h
        subst h
        exact q_less [.s 1, .s 2, .h 0, .h 1] [sO 1 (.ptr 0 0), sO 2 (.ptr 1 0), hB 0 71 [.arr .u64 5 a5], hB 1 22 [.arr .u8 32 (List.replicate 32 0)]] (by kernel_rfl) hj1
  · clear h e18
    intro k ih0 hx0 z h
    obtain ⟨m7, c8, x9⟩ := z
    replace h : (if (decide (x9 < (5 : Int))) = true then if 0 ≤ x9 ∧ x9 < ((5 : Nat) : Int) then if 0 ≤ x9 ∧ x9 < ((5 : Nat) : Int) then if 0 ≤ x9 ∧ x9 < ((5 : Nat) : Int) then if 0 ≤ x9 ∧ x9 < ((5 : Nat) : Int) then if 0 ≤ x9 ∧ x9 < ((5 : Nat) : Int) then limb_N_Bytes_l0 a5 k ((m7.set x9.toNat (IntKind.u64.wrap ((m7.getD x9.toNat 0) + c8))).set x9.toNat (band .u64 ((m7.set x9.toNat (IntKind.u64.wrap ((m7.getD x9.toNat 0) + c8))).getD x9.toNat 0) (2251799813685247 : Int))) (shr .u64 ((m7.set x9.toNat (IntKind.u64.wrap ((m7.getD x9.toNat 0) + c8))).getD x9.toNat 0) (51 : Int)) (IntKind.i64.wrap (x9 + (1 : Int))) else none else none else none else none else none else some (m7, c8)) = _ := h
    refine tr_seq ?_
    refine tr_reg hT [] [.s 1, .s 2, .s 3, .s 4, .s 18, .s 19, .h 0, .h 1, .h 2] [sO 1 (.ptr 0 0), sO 2 (.ptr 1 0), sO 3 (.ptr 2 0), sI 4 .u64 c8, sI 18 .i64 x9, sB 19 (decide (x9 < (5 : Int))), hB 0 71 [.arr .u64 5 a5], hB 1 22 [.arr .u8 32 (List.replicate 32 0)], hB 2 71 [.arr .u64 5 m7]] [] (by kernel_rfl) trivial ?_
    refine q_k ?_
    refine tr_seq ?_
    rcases ite_split h with ⟨hc10, h⟩ | ⟨hc10, h⟩
    · refine tr_cond_t (decide (x9 < (5 : Int))) (by kernel_rfl) hc10 ?_
      refine tr_skip ?_
      refine q_k ?_
      refine tr_seq ?_
      refine tr_block ?_
      refine tr_seq ?_
      refine tr_reg hT [] [.s 1, .s 2, .s 3, .s 4, .s 5, .s 18, .h 0, .h 1, .h 2] [sO 1 (.ptr 0 0), sO 2 (.ptr 1 0), sO 3 (.ptr 2 0), sI 4 .u64 c8, sI 5 .i64 x9, sI 18 .i64 x9, hB 0 71 [.arr .u64 5 a5], hB 1 22 [.arr .u8 32 (List.replicate 32 0)], hB 2 71 [.arr .u64 5 m7]] [] (by kernel_rfl) trivial ?_
      refine q_k ?_
      refine tr_seq ?_
      obtain ⟨hn11, h⟩ := ite_some h
      obtain ⟨hn12, h⟩ := ite_some h
      refine tr_reg hT [] [.s 1, .s 2, .s 3, .s 5, .s 18, .h 0, .h 1, .h 2] [sO 1 (.ptr 0 0), sO 2 (.ptr 1 0), sO 3 (.ptr 2 0), sI 5 .i64 x9, sI 18 .i64 x9, hB 0 71 [.arr .u64 5 a5], hB 1 22 [.arr .u8 32 (List.replicate 32 0)], hB 2 71 [.arr .u64 5 (m7.set x9.toNat (IntKind.u64.wrap ((m7.getD x9.toNat 0) + c8)))]] [0 ≤ x9 ∧ x9 < ((5 : Nat) : Int), 0 ≤ x9 ∧ x9 < ((5 : Nat) : Int)] (by kernel_rfl) (hcons hn11 (hone hn12)) ?_
      refine q_k ?_
      refine tr_seq ?_
      obtain ⟨hn13, h⟩ := ite_some h
      refine tr_reg hT [] [.s 1, .s 2, .s 3, .s 4, .s 5, .s 18, .h 0, .h 1, .h 2] [sO 1 (.ptr 0 0), sO 2 (.ptr 1 0), sO 3 (.ptr 2 0), sI 4 .u64 (shr .u64 ((m7.set x9.toNat (IntKind.u64.wrap ((m7.getD x9.toNat 0) + c8))).getD x9.toNat 0) (51 : Int)), sI 5 .i64 x9, sI 18 .i64 x9, hB 0 71 [.arr .u64 5 a5], hB 1 22 [.arr .u8 32 (List.replicate 32 0)], hB 2 71 [.arr .u64 5 (m7.set x9.toNat (IntKind.u64.wrap ((m7.getD x9.toNat 0) + c8)))]] [0 ≤ x9 ∧ x9 < ((5 : Nat) : Int), 0 ≤ (51 : Int)] (by kernel_rfl) (hcons hn13 (hone (by decide))) ?_
      refine q_k ?_
      obtain ⟨hn14, h⟩ := ite_some h
      obtain ⟨hn15, h⟩ := ite_some h
      refine tr_reg hT [] [.s 1, .s 2, .s 3, .s 4, .s 18, .h 0, .h 1, .h 2] [sO 1 (.ptr 0 0), sO 2 (.ptr 1 0), sO 3 (.ptr 2 0), sI 4 .u64 (shr .u64 ((m7.set x9.toNat (IntKind.u64.wrap ((m7.getD x9.toNat 0) + c8))).getD x9.toNat 0) (51 : Int)), sI 18 .i64 x9, hB 0 71 [.arr .u64 5 a5], hB 1 22 [.arr .u8 32 (List.replicate 32 0)], hB 2 71 [.arr .u64 5 ((m7.set x9.toNat (IntKind.u64.wrap ((m7.getD x9.toNat 0) + c8))).set x9.toNat (band .u64 ((m7.set x9.toNat (IntKind.u64.wrap ((m7.getD x9.toNat 0) + c8))).getD x9.toNat 0) (2251799813685247 : Int)))]] [0 ≤ x9 ∧ x9 < ((5 : Nat) : Int), 0 ≤ x9 ∧ x9 < ((5 : Nat) : Int)] (by kernel_rfl) (hcons hn14 (hone hn15)) ?_
      refine q_b 1 ?_
      refine q_k ?_
      refine tr_reg hT [] [.s 1, .s 2, .s 3, .s 4, .s 18, .h 0, .h 1, .h 2] [sO 1 (.ptr 0 0), sO 2 (.ptr 1 0), sO 3 (.ptr 2 0), sI 4 .u64 (shr .u64 ((m7.set x9.toNat (IntKind.u64.wrap ((m7.getD x9.toNat 0) + c8))).getD x9.toNat 0) (51 : Int)), sI 18 .i64 (IntKind.i64.wrap (x9 + (1 : Int))), hB 0 71 [.arr .u64 5 a5], hB 1 22 [.arr .u8 32 (List.replicate 32 0)], hB 2 71 [.arr .u64 5 ((m7.set x9.toNat (IntKind.u64.wrap ((m7.getD x9.toNat 0) + c8))).set x9.toNat (band .u64 ((m7.set x9.toNat (IntKind.u64.wrap ((m7.getD x9.toNat 0) + c8))).getD x9.toNat 0) (2251799813685247 : Int)))]] [] (by kernel_rfl) trivial ?_
      refine q_kr ?_
      exact trR_less [.s 1, .s 2, .s 3, .s 4, .s 18, .h 0, .h 1, .h 2] [sO 1 (.ptr 0 0), sO 2 (.ptr 1 0), sO 3 (.ptr 2 0), sI 4 .u64 (shr .u64 ((m7.set x9.toNat (IntKind.u64.wrap ((m7.getD x9.toNat 0) + c8))).getD x9.toNat 0) (51 : Int)), sI 18 .i64 (IntKind.i64.wrap (x9 + (1 : Int))), hB 0 71 [.arr .u64 5 a5], hB 1 22 [.arr .u8 32 (List.replicate 32 0)], hB 2 71 [.arr .u64 5 ((m7.set x9.toNat (IntKind.u64.wrap ((m7.getD x9.toNat 0) + c8))).set x9.toNat (band .u64 ((m7.set x9.toNat (IntKind.u64.wrap ((m7.getD x9.toNat 0) + c8))).getD x9.toNat 0) (2251799813685247 : Int)))]] (by kernel_rfl) (ih0 (((m7.set x9.toNat (IntKind.u64.wrap ((m7.getD x9.toNat 0) + c8))).set x9.toNat (band .u64 ((m7.set x9.toNat (IntKind.u64.wrap ((m7.getD x9.toNat 0) + c8))).getD x9.toNat 0) (2251799813685247 : Int))), (shr .u64 ((m7.set x9.toNat (IntKind.u64.wrap ((m7.getD x9.toNat 0) + c8))).getD x9.toNat 0) (51 : Int)), (IntKind.i64.wrap (x9 + (1 : Int)))) h)
    · refine tr_cond_f (decide (x9 < (5 : Int))) (by kernel_rfl) hc10 ?_
      refine tr_exit ?_
      refine q_k_exit ?_
      refine q_kr_exit ?_
      have h := Option.some.inj h
      subst h
      exact q_less [.s 1, .s 2, .s 3, .s 4, .h 0, .h 1, .h 2] [sO 1 (.ptr 0 0), sO 2 (.ptr 1 0), sO 3 (.ptr 2 0), sI 4 .u64 c8, hB 0 71 [.arr .u64 5 a5], hB 1 22 [.arr .u8 32 (List.replicate 32 0)], hB 2 71 [.arr .u64 5 m7]] (by kernel_rfl) hx0

theorem field_Mod_ok (a_0 : List Int) (r : List Int) (h : field_Mod a_0 = some r) {pre : List (Nat × Ent)} : CallOk P 33 [.v (.agg [.arr .u8 32 a_0])] pre (.v (.agg [.arr .u8 32 r])) [] := by
  refine call0 (N := 6) Try.func33 (by kernel_rfl) rfl rfl rfl pre ?_
  intro _ w
  show Tr P w.heap.size 6 w _ _ (RetQ P Try.f33 (R0 _ w))
  unfold field_Mod at h
  refine tr_seq ?_
  refine tr_reg hT [(0, .key 0), (1, .key 1)] [.s 1, .s 2, .h 0, .h 1] [sO 1 (.ptr 0 0), sO 2 (.ptr 1 0), hB 0 22 [.arr .u8 32 a_0], hB 1 22 [.arr .u8 32 (List.replicate 32 0)]] [] (by kernel_rfl) trivial ?_
  refine q_k ?_
  refine tr_seq ?_
  obtain ⟨a1, e2, h⟩ := bind_some h
  obtain ⟨a3, e4, h⟩ := bind_some h
  refine tr_reg hT [(1, .call (.v (.agg [.arr .u64 5 a1])) []), (2, .call (.v (.agg [.arr .u8 32 a3])) [])] [.s 2, .h 1] [sO 2 (.ptr 1 0), hB 1 22 [.arr .u8 32 a3]] [CallOk P 72 [.v (.agg [.arr .u8 32 a_0])] [] (.v (.agg [.arr .u64 5 a1])) [], CallOk P 73 [.v (.agg [.arr .u64 5 a1])] [] (.v (.agg [.arr .u8 32 a3])) []] (by kernel_rfl) (hcons (limb_Of_ok a_0 a1 e2) (hone (limb_N_Bytes_ok a1 a3 e4))) ?_
  refine q_k ?_
  refine tr_ret ?_
  have h := Option.some.inj h
  subst h
  exact q_ret0 hT (.v (.agg [.arr .u8 32 a3])) rfl (by kernel_rfl)

theorem limb_Mul_ok (a_0 : List Int) (b_1 : List Int) (r : List Int) (h : limb_Mul a_0 b_1 = some r) {pre : List (Nat × Ent)} : CallOk P 74 [.v (.agg [.arr .u64 5 a_0]), .v (.agg [.arr .u64 5 b_1])] pre (.v (.agg [.arr .u64 5 r])) [] := by
  refine call0 (N := 122) Try.func74 (by kernel_rfl) rfl rfl rfl pre ?_
  intro _ w
  show Tr P w.heap.size 122 w _ _ (RetQ P Try.f74 (R0 _ w))
  unfold limb_Mul at h
  refine tr_seq ?_
  refine tr_reg hT [(0, .key 0), (1, .key 1), (2, .key 2)] [.s 2, .s 3, .s 4, .h 0, .h 1, .h 2] [sO 2 (.ptr 0 0), sO 3 (.ptr 1 0), sO 4 (.ptr 2 0), hB 0 71 [.arr .u64 5 a_0], hB 1 71 [.arr .u64 5 b_1], hB 2 71 [.arr .u64 5 (List.replicate 5 0)]] [] (by kernel_rfl) trivial ?_
  refine q_k ?_
  refine tr_seq ?_
  refine tr_reg hT [(0, .key 3), (1, .key 4)] [.s 2, .s 3, .s 4, .s 5, .s 6, .h 0, .h 1, .h 2, .h 3, .h 4] [sO 2 (.ptr 0 0), sO 3 (.ptr 1 0), sO 4 (.ptr 2 0), sO 5 (.ptr 3 0), sO 6 (.ptr 4 0), hB 0 71 [.arr .u64 5 a_0], hB 1 71 [.arr .u64 5 b_1], hB 2 71 [.arr .u64 5 (List.replicate 5 0)], hB 3 70 [.arr .u64 5 (List.replicate 5 0)], hB 4 70 [.arr .u64 5 (List.replicate 5 0)]] [] (by kernel_rfl) trivial ?_
  refine q_k ?_
  refine tr_seq ?_
  refine tr_seq ?_
  refine tr_reg hT [] [.s 2, .s 3, .s 4, .s 5, .s 6, .s 22, .h 0, .h 1, .h 2, .h 3, .h 4] [sO 2 (.ptr 0 0), sO 3 (.ptr 1 0), sO 4 (.ptr 2 0), sO 5 (.ptr 3 0), sO 6 (.ptr 4 0), sI 22 .i64 (0 : Int), hB 0 71 [.arr .u64 5 a_0], hB 1 71 [.arr .u64 5 b_1], hB 2 71 [.arr .u64 5 (List.replicate 5 0)], hB 3 70 [.arr .u64 5 (List.replicate 5 0)], hB 4 70 [.arr .u64 5 (List.replicate 5 0)]] [] (by kernel_rfl) trivial ?_
  refine q_k ?_
  refine tr_block ?_
  obtain ⟨rr0, e31, h⟩ := bind_some h
  refine tr_less [.s 2, .s 3, .s 4, .s 5, .s 6, .s 22, .h 0, .h 1, .h 2, .h 3, .h 4] [sO 2 (.ptr 0 0), sO 3 (.ptr 1 0), sO 4 (.ptr 2 0), sO 5 (.ptr 3 0), sO 6 (.ptr 4 0), sI 22 .i64 (0 : Int), hB 0 71 [.arr .u64 5 a_0], hB 1 71 [.arr .u64 5 b_1], hB 2 71 [.arr .u64 5 (List.replicate 5 0)], hB 3 70 [.arr .u64 5 (List.replicate 5 0)], hB 4 70 [.arr .u64 5 (List.replicate 5 0)]] (by kernel_rfl) ?_
  refine tr_loop_fuel (id := 0) (α := List Int × List Int × Int) (β := List Int × List Int) (fun z => [sO 2 (.ptr 0 0), sO 3 (.ptr 1 0), sO 4 (.ptr 2 0), sO 5 (.ptr 3 0), sO 6 (.ptr 4 0), sI 22 .i64 z.2.2, hB 0 71 [.arr .u64 5 a_0], hB 1 71 [.arr .u64 5 b_1], hB 2 71 [.arr .u64 5 (List.replicate 5 0)], hB 3 70 [.arr .u64 5 z.1], hB 4 70 [.arr .u64 5 z.2.1]]) (fun z => [sO 4 (.ptr 2 0), sO 5 (.ptr 3 0), sO 6 (.ptr 4 0), hB 2 71 [.arr .u64 5 (List.replicate 5 0)], hB 3 70 [.arr .u64 5 z.1], hB 4 70 [.arr .u64 5 z.2]]) (fun k z => limb_Mul_l0 a_0 b_1 k z.1 z.2.1 z.2.2) rr0 (fun _ => rfl) (((5 : Int) - (0 : Int)).toNat + 1) ((List.replicate 5 0), (List.replicate 5 0), (0 : Int)) e31 ?_ ?_
  · rcases rr0 with ⟨m29, m30⟩
    replace h : ((limb_Mul_l3 m29 m30 (((5 : Int) - (0 : Int)).toNat + 1) (List.replicate 5 0) (0 : Int) (0 : Int)).bind (fun (m43, carry44) => (math_bits_Mul64 carry44 (19 : Int)).bind (fun (r46, r47) => (add64 r47 (m43.getD 0 0) (0 : Int)).bind (fun (r50, r51) => (limb_carried ((m43.set 0 (band .u64 r50 (2251799813685247 : Int))).set 1 (IntKind.u64.wrap (((m43.set 0 (band .u64 r50 (2251799813685247 : Int))).getD 1 0) + (bor .u64 (shl .u64 (IntKind.u64.wrap (r46 + r51)) (13 : Int)) (shr .u64 r50 (51 : Int))))))).bind (fun a54 => some a54))))) = _ := h
    refine q_b_this ?_
    refine q_k ?_
    refine tr_seq ?_
    refine tr_reg hT [(0, .key 5)] [.s 4, .s 5, .s 6, .s 14, .h 2, .h 3, .h 4, .h 5] [sO 4 (.ptr 2 0), sO 5 (.ptr 3 0), sO 6 (.ptr 4 0), sO 14 (.ptr 5 0), hB 2 71 [.arr .u64 5 (List.replicate 5 0)], hB 3 70 [.arr .u64 5 m29], hB 4 70 [.arr .u64 5 m30], hB 5 71 [.arr .u64 5 (List.replicate 5 0)]] [] (by kernel_rfl) trivial ?_
    refine q_k ?_
    refine tr_seq ?_
    refine tr_reg hT [] [.s 4, .s 5, .s 6, .s 14, .s 15, .h 2, .h 3, .h 4, .h 5] [sO 4 (.ptr 2 0), sO 5 (.ptr 3 0), sO 6 (.ptr 4 0), sO 14 (.ptr 5 0), sI 15 .u64 (0 : Int), hB 2 71 [.arr .u64 5 (List.replicate 5 0)], hB 3 70 [.arr .u64 5 m29], hB 4 70 [.arr .u64 5 m30], hB 5 71 [.arr .u64 5 (List.replicate 5 0)]] [] (by kernel_rfl) trivial ?_
    refine q_k ?_
    refine tr_seq ?_
    refine tr_seq ?_
    refine tr_reg hT [] [.s 4, .s 5, .s 6, .s 14, .s 15, .s 69, .h 2, .h 3, .h 4, .h 5] [sO 4 (.ptr 2 0), sO 5 (.ptr 3 0), sO 6 (.ptr 4 0), sO 14 (.ptr 5 0), sI 15 .u64 (0 : Int), sI 69 .i64 (0 : Int), hB 2 71 [.arr .u64 5 (List.replicate 5 0)], hB 3 70 [.arr .u64 5 m29], hB 4 70 [.arr .u64 5 m30], hB 5 71 [.arr .u64 5 (List.replicate 5 0)]] [] (by kernel_rfl) trivial ?_
    refine q_k ?_
    refine tr_block ?_
    obtain ⟨rr3, e45, h⟩ := bind_some h
    refine tr_less [.s 4, .s 5, .s 6, .s 14, .s 15, .s 69, .h 2, .h 3, .h 4, .h 5] [sO 4 (.ptr 2 0), sO 5 (.ptr 3 0), sO 6 (.ptr 4 0), sO 14 (.ptr 5 0), sI 15 .u64 (0 : Int), sI 69 .i64 (0 : Int), hB 2 71 [.arr .u64 5 (List.replicate 5 0)], hB 3 70 [.arr .u64 5 m29], hB 4 70 [.arr .u64 5 m30], hB 5 71 [.arr .u64 5 (List.replicate 5 0)]] (by kernel_rfl) ?_
    refine tr_loop_fuel (id := 4) (α := List Int × Int × Int) (β := List Int × Int) (fun z => [sO 4 (.ptr 2 0), sO 5 (.ptr 3 0), sO 6 (.ptr 4 0), sO 14 (.ptr 5 0), sI 15 .u64 z.2.1, sI 69 .i64 z.2.2, hB 2 71 [.arr .u64 5 (List.replicate 5 0)], hB 3 70 [.arr .u64 5 m29], hB 4 70 [.arr .u64 5 m30], hB 5 71 [.arr .u64 5 z.1]]) (fun z => [sO 4 (.ptr 2 0), sO 14 (.ptr 5 0), sI 15 .u64 z.2, hB 2 71 [.arr .u64 5 (List.replicate 5 0)], hB 5 71 [.arr .u64 5 z.1]]) (fun k z => limb_Mul_l3 m29 m30 k z.1 z.2.1 z.2.2) rr3 (fun _ => rfl) (((5 : Int) - (0 : Int)).toNat + 1) ((List.replicate 5 0), (0 : Int), (0 : Int)) e45 ?_ ?_
    · rcases rr3 with ⟨m43, carry44⟩
      replace h : ((math_bits_Mul64 carry44 (19 : Int)).bind (fun (r46, r47) => (add64 r47 (m43.getD 0 0) (0 : Int)).bind (fun (r50, r51) => (limb_carried ((m43.set 0 (band .u64 r50 (2251799813685247 : Int))).set 1 (IntKind.u64.wrap (((m43.set 0 (band .u64 r50 (2251799813685247 : Int))).getD 1 0) + (bor .u64 (shl .u64 (IntKind.u64.wrap (r46 + r51)) (13 : Int)) (shr .u64 r50 (51 : Int))))))).bind (fun a54 => some a54)))) = _ := h
      refine q_b_this ?_
      refine q_k ?_
      refine tr_seq ?_
      obtain ⟨⟨r46, r47⟩, e48, h⟩ := bind_some h
      refine tr_reg hT [(1, .call (.tup [.one (.int .u64 r46), .one (.int .u64 r47)]) [])] [.s 4, .s 14, .s 19, .s 20, .h 2, .h 5] [sO 4 (.ptr 2 0), sO 14 (.ptr 5 0), sI 19 .u64 r46, sI 20 .u64 r47, hB 2 71 [.arr .u64 5 (List.replicate 5 0)], hB 5 71 [.arr .u64 5 m43]] [CallOk P 100 [.v (.one (.int .u64 carry44)), .v (.one (.int .u64 (19 : Int)))] [] (.tup [.one (.int .u64 r46), .one (.int .u64 r47)]) []] (by kernel_rfl) (hone (math_bits_Mul64_ok carry44 (19 : Int) (r46, r47) e48)) ?_
      refine q_k ?_
      refine tr_seq ?_
      obtain ⟨⟨r50, r51⟩, e52, h⟩ := bind_some h
      refine tr_reg hT [(3, .call (.tup [.one (.int .u64 r50), .one (.int .u64 r51)]) [])] [.s 4, .s 14, .s 19, .s 20, .s 21, .h 2, .h 5] [sO 4 (.ptr 2 0), sO 14 (.ptr 5 0), sI 19 .u64 r46, sI 20 .u64 r50, sI 21 .u64 r51, hB 2 71 [.arr .u64 5 (List.replicate 5 0)], hB 5 71 [.arr .u64 5 m43]] [0 ≤ (0 : Int) ∧ (0 : Int) < ((5 : Nat) : Int), CallOk P 78 [.v (.one (.int .u64 r47)), .v (.one (.int .u64 (m43.getD 0 0))), .v (.one (.int .u64 (0 : Int)))] [] (.tup [.one (.int .u64 r50), .one (.int .u64 r51)]) []] (by kernel_rfl) (hcons (by decide) (hone (bits_Add64_ok r47 (m43.getD 0 0) (0 : Int) (r50, r51) e52))) ?_
      refine q_k ?_
      refine tr_seq ?_
      refine tr_reg hT [] [.s 4, .s 14, .s 19, .s 20, .s 21, .h 2, .h 5] [sO 4 (.ptr 2 0), sO 14 (.ptr 5 0), sI 19 .u64 r46, sI 20 .u64 r50, sI 21 .u64 r51, hB 2 71 [.arr .u64 5 (List.replicate 5 0)], hB 5 71 [.arr .u64 5 (m43.set 0 (band .u64 r50 (2251799813685247 : Int)))]] [0 ≤ (0 : Int) ∧ (0 : Int) < ((5 : Nat) : Int)] (by kernel_rfl) (hone (by decide)) ?_
      refine q_k ?_
      refine tr_seq ?_
      refine tr_reg hT [] [.s 4, .s 14, .h 2, .h 5] [sO 4 (.ptr 2 0), sO 14 (.ptr 5 0), hB 2 71 [.arr .u64 5 (List.replicate 5 0)], hB 5 71 [.arr .u64 5 ((m43.set 0 (band .u64 r50 (2251799813685247 : Int))).set 1 (IntKind.u64.wrap (((m43.set 0 (band .u64 r50 (2251799813685247 : Int))).getD 1 0) + (bor .u64 (shl .u64 (IntKind.u64.wrap (r46 + r51)) (13 : Int)) (shr .u64 r50 (51 : Int))))))]] [0 ≤ (1 : Int) ∧ (1 : Int) < ((5 : Nat) : Int), 0 ≤ (13 : Int), 0 ≤ (51 : Int), 0 ≤ (1 : Int) ∧ (1 : Int) < ((5 : Nat) : Int)] (by kernel_rfl) (hcons (by decide) (hcons (by decide) (hcons (by decide) (hone (by decide))))) ?_
      refine q_k ?_
      refine tr_seq ?_
      obtain ⟨a54, e55, h⟩ := bind_some h
      refine tr_reg hT [(1, .call (.v (.agg [.arr .u64 5 a54])) [])] [.s 4, .h 2] [sO 4 (.ptr 2 0), hB 2 71 [.arr .u64 5 a54]] [CallOk P 102 [.v (.agg [.arr .u64 5 ((m43.set 0 (band .u64 r50 (2251799813685247 : Int))).set 1 (IntKind.u64.wrap (((m43.set 0 (band .u64 r50 (2251799813685247 : Int))).getD 1 0) + (bor .u64 (shl .u64 (IntKind.u64.wrap (r46 + r51)) (13 : Int)) (shr .u64 r50 (51 : Int))))))])] [] (.v (.agg [.arr .u64 5 a54])) []] (by kernel_rfl) (hone (limb_carried_ok ((m43.set 0 (band .u64 r50 (2251799813685247 : Int))).set 1 (IntKind.u64.wrap (((m43.set 0 (band .u64 r50 (2251799813685247 : Int))).getD 1 0) + (bor .u64 (shl .u64 (IntKind.u64.wrap (r46 + r51)) (13 : Int)) (shr .u64 r50 (51 : Int)))))) a54 e55)) ?_
      refine q_k ?_
      refine tr_ret ?_
      have h := Option.some.inj h
      subst h
      exact q_ret0 hT (.v (.agg [.arr .u64 5 a54])) rfl (by kernel_rfl)
    · clear h e45
      intro k ih3 hx3 z h
      obtain ⟨m32, carry33, x34⟩ := z
      replace h : (if (decide (x34 < (5 : Int))) = true then if 0 ≤ x34 ∧ x34 < ((5 : Nat) : Int) then (add64 (m30.getD x34.toNat 0) carry33 (0 : Int)).bind (fun (r37, r38) => if 0 ≤ x34 ∧ x34 < ((5 : Nat) : Int) then if 0 ≤ x34 ∧ x34 < ((5 : Nat) : Int) then limb_Mul_l3 m29 m30 k (m32.set x34.toNat (band .u64 r37 (2251799813685247 : Int))) (bor .u64 (shl .u64 (IntKind.u64.wrap ((m29.getD x34.toNat 0) + r38)) (13 : Int)) (shr .u64 r37 (51 : Int))) (IntKind.i64.wrap (x34 + (1 : Int))) else none else none) else none else some (m32, carry33)) = _ := h
      refine tr_seq ?_
      refine tr_reg hT [] [.s 4, .s 5, .s 6, .s 14, .s 15, .s 69, .s 70, .h 2, .h 3, .h 4, .h 5] [sO 4 (.ptr 2 0), sO 5 (.ptr 3 0), sO 6 (.ptr 4 0), sO 14 (.ptr 5 0), sI 15 .u64 carry33, sI 69 .i64 x34, sB 70 (decide (x34 < (5 : Int))), hB 2 71 [.arr .u64 5 (List.replicate 5 0)], hB 3 70 [.arr .u64 5 m29], hB 4 70 [.arr .u64 5 m30], hB 5 71 [.arr .u64 5 m32]] [] (by kernel_rfl) trivial ?_
      refine q_k ?_
      refine tr_seq ?_
      rcases ite_split h with ⟨hc35, h⟩ | ⟨hc35, h⟩
      · refine tr_cond_t (decide (x34 < (5 : Int))) (by kernel_rfl) hc35 ?_
        refine tr_skip ?_
        refine q_k ?_
        refine tr_seq ?_
        refine tr_block ?_
        refine tr_seq ?_
        refine tr_reg hT [] [.s 4, .s 5, .s 6, .s 14, .s 15, .s 16, .s 69, .h 2, .h 3, .h 4, .h 5] [sO 4 (.ptr 2 0), sO 5 (.ptr 3 0), sO 6 (.ptr 4 0), sO 14 (.ptr 5 0), sI 15 .u64 carry33, sI 16 .i64 x34, sI 69 .i64 x34, hB 2 71 [.arr .u64 5 (List.replicate 5 0)], hB 3 70 [.arr .u64 5 m29], hB 4 70 [.arr .u64 5 m30], hB 5 71 [.arr .u64 5 m32]] [] (by kernel_rfl) trivial ?_
        refine q_k ?_
        refine tr_seq ?_
        obtain ⟨hn36, h⟩ := ite_some h
        obtain ⟨⟨r37, r38⟩, e39, h⟩ := bind_some h
        refine tr_reg hT [(4, .call (.tup [.one (.int .u64 r37), .one (.int .u64 r38)]) [])] [.s 4, .s 5, .s 6, .s 14, .s 16, .s 17, .s 18, .s 69, .h 2, .h 3, .h 4, .h 5] [sO 4 (.ptr 2 0), sO 5 (.ptr 3 0), sO 6 (.ptr 4 0), sO 14 (.ptr 5 0), sI 16 .i64 x34, sI 17 .u64 r37, sI 18 .u64 r38, sI 69 .i64 x34, hB 2 71 [.arr .u64 5 (List.replicate 5 0)], hB 3 70 [.arr .u64 5 m29], hB 4 70 [.arr .u64 5 m30], hB 5 71 [.arr .u64 5 m32]] [0 ≤ x34 ∧ x34 < ((5 : Nat) : Int), CallOk P 78 [.v (.one (.int .u64 (m30.getD x34.toNat 0))), .v (.one (.int .u64 carry33)), .v (.one (.int .u64 (0 : Int)))] [] (.tup [.one (.int .u64 r37), .one (.int .u64 r38)]) []] (by kernel_rfl) (hcons hn36 (hone (bits_Add64_ok (m30.getD x34.toNat 0) carry33 (0 : Int) (r37, r38) e39))) ?_
        refine q_k ?_
        refine tr_seq ?_
        obtain ⟨hn41, h⟩ := ite_some h
        refine tr_reg hT [] [.s 4, .s 5, .s 6, .s 14, .s 16, .s 17, .s 18, .s 69, .h 2, .h 3, .h 4, .h 5] [sO 4 (.ptr 2 0), sO 5 (.ptr 3 0), sO 6 (.ptr 4 0), sO 14 (.ptr 5 0), sI 16 .i64 x34, sI 17 .u64 r37, sI 18 .u64 r38, sI 69 .i64 x34, hB 2 71 [.arr .u64 5 (List.replicate 5 0)], hB 3 70 [.arr .u64 5 m29], hB 4 70 [.arr .u64 5 m30], hB 5 71 [.arr .u64 5 (m32.set x34.toNat (band .u64 r37 (2251799813685247 : Int)))]] [0 ≤ x34 ∧ x34 < ((5 : Nat) : Int)] (by kernel_rfl) (hone hn41) ?_
        refine q_k ?_
        obtain ⟨hn42, h⟩ := ite_some h
        refine tr_reg hT [] [.s 4, .s 5, .s 6, .s 14, .s 15, .s 69, .h 2, .h 3, .h 4, .h 5] [sO 4 (.ptr 2 0), sO 5 (.ptr 3 0), sO 6 (.ptr 4 0), sO 14 (.ptr 5 0), sI 15 .u64 (bor .u64 (shl .u64 (IntKind.u64.wrap ((m29.getD x34.toNat 0) + r38)) (13 : Int)) (shr .u64 r37 (51 : Int))), sI 69 .i64 x34, hB 2 71 [.arr .u64 5 (List.replicate 5 0)], hB 3 70 [.arr .u64 5 m29], hB 4 70 [.arr .u64 5 m30], hB 5 71 [.arr .u64 5 (m32.set x34.toNat (band .u64 r37 (2251799813685247 : Int)))]] [0 ≤ x34 ∧ x34 < ((5 : Nat) : Int), 0 ≤ (13 : Int), 0 ≤ (51 : Int)] (by kernel_rfl) (hcons hn42 (hcons (by decide) (hone (by decide)))) ?_
        refine q_b 5 ?_
        refine q_k ?_
        refine tr_reg hT [] [.s 4, .s 5, .s 6, .s 14, .s 15, .s 69, .h 2, .h 3, .h 4, .h 5] [sO 4 (.ptr 2 0), sO 5 (.ptr 3 0), sO 6 (.ptr 4 0), sO 14 (.ptr 5 0), sI 15 .u64 (bor .u64 (shl .u64 (IntKind.u64.wrap ((m29.getD x34.toNat 0) + r38)) (13 : Int)) (shr .u64 r37 (51 : Int))), sI 69 .i64 (IntKind.i64.wrap (x34 + (1 : Int))), hB 2 71 [.arr .u64 5 (List.replicate 5 0)], hB 3 70 [.arr .u64 5 m29], hB 4 70 [.arr .u64 5 m30], hB 5 71 [.arr .u64 5 (m32.set x34.toNat (band .u64 r37 (2251799813685247 : Int)))]] [] (by kernel_rfl) trivial ?_
        refine q_kr ?_
        exact trR_less [.s 4, .s 5, .s 6, .s 14, .s 15, .s 69, .h 2, .h 3, .h 4, .h 5] [sO 4 (.ptr 2 0), sO 5 (.ptr 3 0), sO 6 (.ptr 4 0), sO 14 (.ptr 5 0), sI 15 .u64 (bor .u64 (shl .u64 (IntKind.u64.wrap ((m29.getD x34.toNat 0) + r38)) (13 : Int)) (shr .u64 r37 (51 : Int))), sI 69 .i64 (IntKind.i64.wrap (x34 + (1 : Int))), hB 2 71 [.arr .u64 5 (List.replicate 5 0)], hB 3 70 [.arr .u64 5 m29], hB 4 70 [.arr .u64 5 m30], hB 5 71 [.arr .u64 5 (m32.set x34.toNat (band .u64 r37 (2251799813685247 : Int)))]] (by kernel_rfl) (ih3 ((m32.set x34.toNat (band .u64 r37 (2251799813685247 : Int))), (bor .u64 (shl .u64 (IntKind.u64.wrap ((m29.getD x34.toNat 0) + r38)) (13 : Int)) (shr .u64 r37 (51 : Int))), (IntKind.i64.wrap (x34 + (1 : Int)))) h)
      · refine tr_cond_f (decide (x34 < (5 : Int))) (by kernel_rfl) hc35 ?_
        refine tr_exit ?_
        refine q_k_exit ?_
        refine q_kr_exit ?_
        have h := Option.some.inj h
        subst h
        exact q_less [.s 4, .s 14, .s 15, .h 2, .h 5] [sO 4 (.ptr 2 0), sO 14 (.ptr 5 0), sI 15 .u64 carry33, hB 2 71 [.arr .u64 5 (List.replicate 5 0)], hB 5 71 [.arr .u64 5 m32]] (by kernel_rfl) hx3
  · clear h e31
    intro k ih0 hx0 z h
    obtain ⟨m1, m2, x3⟩ := z
    replace h : (if (decide (x3 < (5 : Int))) = true then (limb_Mul_l1 a_0 b_1 x3 (((5 : Int) - (0 : Int)).toNat + 1) m1 m2 (0 : Int)).bind (fun (m26, m27) => limb_Mul_l0 a_0 b_1 k m26 m27 (IntKind.i64.wrap (x3 + (1 : Int)))) else some (m1, m2)) = _ := h
    refine tr_seq ?_
    refine tr_reg hT [] [.s 2, .s 3, .s 4, .s 5, .s 6, .s 22, .s 23, .h 0, .h 1, .h 2, .h 3, .h 4] [sO 2 (.ptr 0 0), sO 3 (.ptr 1 0), sO 4 (.ptr 2 0), sO 5 (.ptr 3 0), sO 6 (.ptr 4 0), sI 22 .i64 x3, sB 23 (decide (x3 < (5 : Int))), hB 0 71 [.arr .u64 5 a_0], hB 1 71 [.arr .u64 5 b_1], hB 2 71 [.arr .u64 5 (List.replicate 5 0)], hB 3 70 [.arr .u64 5 m1], hB 4 70 [.arr .u64 5 m2]] [] (by kernel_rfl) trivial ?_
    refine q_k ?_
    refine tr_seq ?_
    rcases ite_split h with ⟨hc4, h⟩ | ⟨hc4, h⟩
    · refine tr_cond_t (decide (x3 < (5 : Int))) (by kernel_rfl) hc4 ?_
      refine tr_skip ?_
      refine q_k ?_
      refine tr_seq ?_
      refine tr_block ?_
      refine tr_seq ?_
      refine tr_reg hT [] [.s 2, .s 3, .s 4, .s 5, .s 6, .s 7, .s 22, .h 0, .h 1, .h 2, .h 3, .h 4] [sO 2 (.ptr 0 0), sO 3 (.ptr 1 0), sO 4 (.ptr 2 0), sO 5 (.ptr 3 0), sO 6 (.ptr 4 0), sI 7 .i64 x3, sI 22 .i64 x3, hB 0 71 [.arr .u64 5 a_0], hB 1 71 [.arr .u64 5 b_1], hB 2 71 [.arr .u64 5 (List.replicate 5 0)], hB 3 70 [.arr .u64 5 m1], hB 4 70 [.arr .u64 5 m2]] [] (by kernel_rfl) trivial ?_
      refine q_k ?_
      refine tr_seq ?_
      refine tr_reg hT [] [.s 2, .s 3, .s 4, .s 5, .s 6, .s 7, .s 22, .s 25, .h 0, .h 1, .h 2, .h 3, .h 4] [sO 2 (.ptr 0 0), sO 3 (.ptr 1 0), sO 4 (.ptr 2 0), sO 5 (.ptr 3 0), sO 6 (.ptr 4 0), sI 7 .i64 x3, sI 22 .i64 x3, sI 25 .i64 (0 : Int), hB 0 71 [.arr .u64 5 a_0], hB 1 71 [.arr .u64 5 b_1], hB 2 71 [.arr .u64 5 (List.replicate 5 0)], hB 3 70 [.arr .u64 5 m1], hB 4 70 [.arr .u64 5 m2]] [] (by kernel_rfl) trivial ?_
      refine q_k ?_
      refine tr_block ?_
      obtain ⟨rr1, e28, h⟩ := bind_some h
      refine tr_less [.s 2, .s 3, .s 4, .s 5, .s 6, .s 7, .s 22, .s 25, .h 0, .h 1, .h 2, .h 3, .h 4] [sO 2 (.ptr 0 0), sO 3 (.ptr 1 0), sO 4 (.ptr 2 0), sO 5 (.ptr 3 0), sO 6 (.ptr 4 0), sI 7 .i64 x3, sI 22 .i64 x3, sI 25 .i64 (0 : Int), hB 0 71 [.arr .u64 5 a_0], hB 1 71 [.arr .u64 5 b_1], hB 2 71 [.arr .u64 5 (List.replicate 5 0)], hB 3 70 [.arr .u64 5 m1], hB 4 70 [.arr .u64 5 m2]] (by kernel_rfl) ?_
      refine tr_loop_fuel (id := 2) (α := List Int × List Int × Int) (β := List Int × List Int) (fun z => [sO 2 (.ptr 0 0), sO 3 (.ptr 1 0), sO 4 (.ptr 2 0), sO 5 (.ptr 3 0), sO 6 (.ptr 4 0), sI 7 .i64 x3, sI 22 .i64 x3, sI 25 .i64 z.2.2, hB 0 71 [.arr .u64 5 a_0], hB 1 71 [.arr .u64 5 b_1], hB 2 71 [.arr .u64 5 (List.replicate 5 0)], hB 3 70 [.arr .u64 5 z.1], hB 4 70 [.arr .u64 5 z.2.1]]) (fun z => [sO 2 (.ptr 0 0), sO 3 (.ptr 1 0), sO 4 (.ptr 2 0), sO 5 (.ptr 3 0), sO 6 (.ptr 4 0), sI 22 .i64 x3, hB 0 71 [.arr .u64 5 a_0], hB 1 71 [.arr .u64 5 b_1], hB 2 71 [.arr .u64 5 (List.replicate 5 0)], hB 3 70 [.arr .u64 5 z.1], hB 4 70 [.arr .u64 5 z.2]]) (fun k z => limb_Mul_l1 a_0 b_1 x3 k z.1 z.2.1 z.2.2) rr1 (fun _ => rfl) (((5 : Int) - (0 : Int)).toNat + 1) (m1, m2, (0 : Int)) e28 ?_ ?_
      · rcases rr1 with ⟨m26, m27⟩
        replace h : (limb_Mul_l0 a_0 b_1 k m26 m27 (IntKind.i64.wrap (x3 + (1 : Int)))) = _ := h
        refine q_b_this ?_
        refine q_b 1 ?_
        refine q_k ?_
        refine tr_reg hT [] [.s 2, .s 3, .s 4, .s 5, .s 6, .s 22, .h 0, .h 1, .h 2, .h 3, .h 4] [sO 2 (.ptr 0 0), sO 3 (.ptr 1 0), sO 4 (.ptr 2 0), sO 5 (.ptr 3 0), sO 6 (.ptr 4 0), sI 22 .i64 (IntKind.i64.wrap (x3 + (1 : Int))), hB 0 71 [.arr .u64 5 a_0], hB 1 71 [.arr .u64 5 b_1], hB 2 71 [.arr .u64 5 (List.replicate 5 0)], hB 3 70 [.arr .u64 5 m26], hB 4 70 [.arr .u64 5 m27]] [] (by kernel_rfl) trivial ?_
        refine q_kr ?_
        exact trR_less [.s 2, .s 3, .s 4, .s 5, .s 6, .s 22, .h 0, .h 1, .h 2, .h 3, .h 4] [sO 2 (.ptr 0 0), sO 3 (.ptr 1 0), sO 4 (.ptr 2 0), sO 5 (.ptr 3 0), sO 6 (.ptr 4 0), sI 22 .i64 (IntKind.i64.wrap (x3 + (1 : Int))), hB 0 71 [.arr .u64 5 a_0], hB 1 71 [.arr .u64 5 b_1], hB 2 71 [.arr .u64 5 (List.replicate 5 0)], hB 3 70 [.arr .u64 5 m26], hB 4 70 [.arr .u64 5 m27]] (by kernel_rfl) (ih0 (m26, m27, (IntKind.i64.wrap (x3 + (1 : Int)))) h)
      · clear h e28
        intro k ih1 hx1 z h
        obtain ⟨m5, m6, x7⟩ := z
        replace h : (if (decide (x7 < (5 : Int))) = true then if 0 ≤ x7 ∧ x7 < ((5 : Nat) : Int) then (show Option (Int) from if (decide ((IntKind.i64.wrap (x3 + x7)) ≥ (5 : Int))) = true then some (IntKind.u64.wrap ((b_1.getD x7.toNat 0) * (19 : Int))) else some (b_1.getD x7.toNat 0)).bind (fun x11 => if 0 ≤ x3 ∧ x3 < ((5 : Nat) : Int) then (math_bits_Mul64 (a_0.getD x3.toNat 0) x11).bind (fun (r13, r14) => if 0 ≤ ((IntKind.i64.wrap (x3 + x7)).tmod (5 : Int)) ∧ ((IntKind.i64.wrap (x3 + x7)).tmod (5 : Int)) < ((5 : Nat) : Int) then (add64 (m6.getD ((IntKind.i64.wrap (x3 + x7)).tmod (5 : Int)).toNat 0) r14 (0 : Int)).bind (fun (r18, r19) => if 0 ≤ ((IntKind.i64.wrap (x3 + x7)).tmod (5 : Int)) ∧ ((IntKind.i64.wrap (x3 + x7)).tmod (5 : Int)) < ((5 : Nat) : Int) then if 0 ≤ ((IntKind.i64.wrap (x3 + x7)).tmod (5 : Int)) ∧ ((IntKind.i64.wrap (x3 + x7)).tmod (5 : Int)) < ((5 : Nat) : Int) then if 0 ≤ ((IntKind.i64.wrap (x3 + x7)).tmod (5 : Int)) ∧ ((IntKind.i64.wrap (x3 + x7)).tmod (5 : Int)) < ((5 : Nat) : Int) then limb_Mul_l1 a_0 b_1 x3 k (m5.set ((IntKind.i64.wrap (x3 + x7)).tmod (5 : Int)).toNat (IntKind.u64.wrap ((m5.getD ((IntKind.i64.wrap (x3 + x7)).tmod (5 : Int)).toNat 0) + (IntKind.u64.wrap (r13 + r19))))) (m6.set ((IntKind.i64.wrap (x3 + x7)).tmod (5 : Int)).toNat r18) (IntKind.i64.wrap (x7 + (1 : Int))) else none else none else none) else none) else none) else none else some (m5, m6)) = _ := h
        refine tr_seq ?_
        refine tr_reg hT [] [.s 2, .s 3, .s 4, .s 5, .s 6, .s 7, .s 22, .s 25, .s 26, .h 0, .h 1, .h 2, .h 3, .h 4] [sO 2 (.ptr 0 0), sO 3 (.ptr 1 0), sO 4 (.ptr 2 0), sO 5 (.ptr 3 0), sO 6 (.ptr 4 0), sI 7 .i64 x3, sI 22 .i64 x3, sI 25 .i64 x7, sB 26 (decide (x7 < (5 : Int))), hB 0 71 [.arr .u64 5 a_0], hB 1 71 [.arr .u64 5 b_1], hB 2 71 [.arr .u64 5 (List.replicate 5 0)], hB 3 70 [.arr .u64 5 m5], hB 4 70 [.arr .u64 5 m6]] [] (by kernel_rfl) trivial ?_
        refine q_k ?_
        refine tr_seq ?_
        rcases ite_split h with ⟨hc8, h⟩ | ⟨hc8, h⟩
        · refine tr_cond_t (decide (x7 < (5 : Int))) (by kernel_rfl) hc8 ?_
          refine tr_skip ?_
          refine q_k ?_
          refine tr_seq ?_
          refine tr_block ?_
          refine tr_seq ?_
          refine tr_reg hT [] [.s 2, .s 3, .s 4, .s 5, .s 6, .s 7, .s 8, .s 22, .s 25, .h 0, .h 1, .h 2, .h 3, .h 4] [sO 2 (.ptr 0 0), sO 3 (.ptr 1 0), sO 4 (.ptr 2 0), sO 5 (.ptr 3 0), sO 6 (.ptr 4 0), sI 7 .i64 x3, sI 8 .i64 x7, sI 22 .i64 x3, sI 25 .i64 x7, hB 0 71 [.arr .u64 5 a_0], hB 1 71 [.arr .u64 5 b_1], hB 2 71 [.arr .u64 5 (List.replicate 5 0)], hB 3 70 [.arr .u64 5 m5], hB 4 70 [.arr .u64 5 m6]] [] (by kernel_rfl) trivial ?_
          refine q_k ?_
          refine tr_seq ?_
          obtain ⟨hn9, h⟩ := ite_some h
          refine tr_reg hT [] [.s 2, .s 3, .s 4, .s 5, .s 6, .s 7, .s 8, .s 9, .s 22, .s 25, .h 0, .h 1, .h 2, .h 3, .h 4] [sO 2 (.ptr 0 0), sO 3 (.ptr 1 0), sO 4 (.ptr 2 0), sO 5 (.ptr 3 0), sO 6 (.ptr 4 0), sI 7 .i64 x3, sI 8 .i64 x7, sI 9 .u64 (b_1.getD x7.toNat 0), sI 22 .i64 x3, sI 25 .i64 x7, hB 0 71 [.arr .u64 5 a_0], hB 1 71 [.arr .u64 5 b_1], hB 2 71 [.arr .u64 5 (List.replicate 5 0)], hB 3 70 [.arr .u64 5 m5], hB 4 70 [.arr .u64 5 m6]] [0 ≤ x7 ∧ x7 < ((5 : Nat) : Int)] (by kernel_rfl) (hone hn9) ?_
          refine q_k ?_
          refine tr_seq ?_
          refine tr_seq ?_
          refine tr_reg hT [] [.s 2, .s 3, .s 4, .s 5, .s 6, .s 7, .s 8, .s 9, .s 22, .s 25, .s 34, .h 0, .h 1, .h 2, .h 3, .h 4] [sO 2 (.ptr 0 0), sO 3 (.ptr 1 0), sO 4 (.ptr 2 0), sO 5 (.ptr 3 0), sO 6 (.ptr 4 0), sI 7 .i64 x3, sI 8 .i64 x7, sI 9 .u64 (b_1.getD x7.toNat 0), sI 22 .i64 x3, sI 25 .i64 x7, sB 34 (decide ((IntKind.i64.wrap (x3 + x7)) ≥ (5 : Int))), hB 0 71 [.arr .u64 5 a_0], hB 1 71 [.arr .u64 5 b_1], hB 2 71 [.arr .u64 5 (List.replicate 5 0)], hB 3 70 [.arr .u64 5 m5], hB 4 70 [.arr .u64 5 m6]] [] (by kernel_rfl) trivial ?_
          refine q_k ?_
          obtain ⟨x11, e25, h⟩ := bind_some h
          refine tr_join (σ1 := [sO 2 (.ptr 0 0), sO 3 (.ptr 1 0), sO 4 (.ptr 2 0), sO 5 (.ptr 3 0), sO 6 (.ptr 4 0), sI 7 .i64 x3, sI 8 .i64 x7, sI 9 .u64 x11, sI 22 .i64 x3, sI 25 .i64 x7, hB 0 71 [.arr .u64 5 a_0], hB 1 71 [.arr .u64 5 b_1], hB 2 71 [.arr .u64 5 (List.replicate 5 0)], hB 3 70 [.arr .u64 5 m5], hB 4 70 [.arr .u64 5 m6]]) ?_ ?_
          · skip
            replace h : (if 0 ≤ x3 ∧ x3 < ((5 : Nat) : Int) then (math_bits_Mul64 (a_0.getD x3.toNat 0) x11).bind (fun (r13, r14) => if 0 ≤ ((IntKind.i64.wrap (x3 + x7)).tmod (5 : Int)) ∧ ((IntKind.i64.wrap (x3 + x7)).tmod (5 : Int)) < ((5 : Nat) : Int) then (add64 (m6.getD ((IntKind.i64.wrap (x3 + x7)).tmod (5 : Int)).toNat 0) r14 (0 : Int)).bind (fun (r18, r19) => if 0 ≤ ((IntKind.i64.wrap (x3 + x7)).tmod (5 : Int)) ∧ ((IntKind.i64.wrap (x3 + x7)).tmod (5 : Int)) < ((5 : Nat) : Int) then if 0 ≤ ((IntKind.i64.wrap (x3 + x7)).tmod (5 : Int)) ∧ ((IntKind.i64.wrap (x3 + x7)).tmod (5 : Int)) < ((5 : Nat) : Int) then if 0 ≤ ((IntKind.i64.wrap (x3 + x7)).tmod (5 : Int)) ∧ ((IntKind.i64.wrap (x3 + x7)).tmod (5 : Int)) < ((5 : Nat) : Int) then limb_Mul_l1 a_0 b_1 x3 k (m5.set ((IntKind.i64.wrap (x3 + x7)).tmod (5 : Int)).toNat (IntKind.u64.wrap ((m5.getD ((IntKind.i64.wrap (x3 + x7)).tmod (5 : Int)).toNat 0) + (IntKind.u64.wrap (r13 + r19))))) (m6.set ((IntKind.i64.wrap (x3 + x7)).tmod (5 : Int)).toNat r18) (IntKind.i64.wrap (x7 + (1 : Int))) else none else none else none) else none) else none) = _ := h
            refine q_k ?_
            refine tr_seq ?_
            obtain ⟨hn12, h⟩ := ite_some h
            obtain ⟨⟨r13, r14⟩, e15, h⟩ := bind_some h
            refine tr_reg hT [(4, .call (.tup [.one (.int .u64 r13), .one (.int .u64 r14)]) [])] [.s 2, .s 3, .s 4, .s 5, .s 6, .s 7, .s 8, .s 10, .s 11, .s 22, .s 25, .h 0, .h 1, .h 2, .h 3, .h 4] [sO 2 (.ptr 0 0), sO 3 (.ptr 1 0), sO 4 (.ptr 2 0), sO 5 (.ptr 3 0), sO 6 (.ptr 4 0), sI 7 .i64 x3, sI 8 .i64 x7, sI 10 .u64 r13, sI 11 .u64 r14, sI 22 .i64 x3, sI 25 .i64 x7, hB 0 71 [.arr .u64 5 a_0], hB 1 71 [.arr .u64 5 b_1], hB 2 71 [.arr .u64 5 (List.replicate 5 0)], hB 3 70 [.arr .u64 5 m5], hB 4 70 [.arr .u64 5 m6]] [0 ≤ x3 ∧ x3 < ((5 : Nat) : Int), CallOk P 100 [.v (.one (.int .u64 (a_0.getD x3.toNat 0))), .v (.one (.int .u64 x11))] [] (.tup [.one (.int .u64 r13), .one (.int .u64 r14)]) []] (by kernel_rfl) (hcons hn12 (hone (math_bits_Mul64_ok (a_0.getD x3.toNat 0) x11 (r13, r14) e15))) ?_
            refine q_k ?_
            refine tr_seq ?_
            refine tr_reg hT [] [.s 2, .s 3, .s 4, .s 5, .s 6, .s 7, .s 10, .s 11, .s 12, .s 22, .s 25, .h 0, .h 1, .h 2, .h 3, .h 4] [sO 2 (.ptr 0 0), sO 3 (.ptr 1 0), sO 4 (.ptr 2 0), sO 5 (.ptr 3 0), sO 6 (.ptr 4 0), sI 7 .i64 x3, sI 10 .u64 r13, sI 11 .u64 r14, sI 12 .i64 ((IntKind.i64.wrap (x3 + x7)).tmod (5 : Int)), sI 22 .i64 x3, sI 25 .i64 x7, hB 0 71 [.arr .u64 5 a_0], hB 1 71 [.arr .u64 5 b_1], hB 2 71 [.arr .u64 5 (List.replicate 5 0)], hB 3 70 [.arr .u64 5 m5], hB 4 70 [.arr .u64 5 m6]] [(5 : Int) ≠ 0] (by kernel_rfl) (hone (by decide)) ?_
            refine q_k ?_
            refine tr_seq ?_
            refine tr_reg hT [] [.s 2, .s 3, .s 4, .s 5, .s 6, .s 7, .s 10, .s 11, .s 12, .s 22, .s 25, .h 0, .h 1, .h 2, .h 3, .h 4] [sO 2 (.ptr 0 0), sO 3 (.ptr 1 0), sO 4 (.ptr 2 0), sO 5 (.ptr 3 0), sO 6 (.ptr 4 0), sI 7 .i64 x3, sI 10 .u64 r13, sI 11 .u64 r14, sI 12 .i64 ((IntKind.i64.wrap (x3 + x7)).tmod (5 : Int)), sI 22 .i64 x3, sI 25 .i64 x7, hB 0 71 [.arr .u64 5 a_0], hB 1 71 [.arr .u64 5 b_1], hB 2 71 [.arr .u64 5 (List.replicate 5 0)], hB 3 70 [.arr .u64 5 m5], hB 4 70 [.arr .u64 5 m6]] [] (by kernel_rfl) trivial ?_
            refine q_k ?_
            refine tr_seq ?_
            obtain ⟨hn17, h⟩ := ite_some h
            obtain ⟨⟨r18, r19⟩, e20, h⟩ := bind_some h
            obtain ⟨hn22, h⟩ := ite_some h
            refine tr_reg hT [(5, .call (.tup [.one (.int .u64 r18), .one (.int .u64 r19)]) [])] [.s 2, .s 3, .s 4, .s 5, .s 6, .s 7, .s 10, .s 12, .s 13, .s 22, .s 25, .h 0, .h 1, .h 2, .h 3, .h 4] [sO 2 (.ptr 0 0), sO 3 (.ptr 1 0), sO 4 (.ptr 2 0), sO 5 (.ptr 3 0), sO 6 (.ptr 4 0), sI 7 .i64 x3, sI 10 .u64 r13, sI 12 .i64 ((IntKind.i64.wrap (x3 + x7)).tmod (5 : Int)), sI 13 .u64 r19, sI 22 .i64 x3, sI 25 .i64 x7, hB 0 71 [.arr .u64 5 a_0], hB 1 71 [.arr .u64 5 b_1], hB 2 71 [.arr .u64 5 (List.replicate 5 0)], hB 3 70 [.arr .u64 5 m5], hB 4 70 [.arr .u64 5 (m6.set ((IntKind.i64.wrap (x3 + x7)).tmod (5 : Int)).toNat r18)]] [0 ≤ ((IntKind.i64.wrap (x3 + x7)).tmod (5 : Int)) ∧ ((IntKind.i64.wrap (x3 + x7)).tmod (5 : Int)) < ((5 : Nat) : Int), CallOk P 78 [.v (.one (.int .u64 (m6.getD ((IntKind.i64.wrap (x3 + x7)).tmod (5 : Int)).toNat 0))), .v (.one (.int .u64 r14)), .v (.one (.int .u64 (0 : Int)))] [] (.tup [.one (.int .u64 r18), .one (.int .u64 r19)]) [], 0 ≤ ((IntKind.i64.wrap (x3 + x7)).tmod (5 : Int)) ∧ ((IntKind.i64.wrap (x3 + x7)).tmod (5 : Int)) < ((5 : Nat) : Int)] (by kernel_rfl) (hcons hn17 (hcons (bits_Add64_ok (m6.getD ((IntKind.i64.wrap (x3 + x7)).tmod (5 : Int)).toNat 0) r14 (0 : Int) (r18, r19) e20) (hone hn22))) ?_
            refine q_k ?_
            obtain ⟨hn23, h⟩ := ite_some h
            obtain ⟨hn24, h⟩ := ite_some h
            refine tr_reg hT [] [.s 2, .s 3, .s 4, .s 5, .s 6, .s 7, .s 22, .s 25, .h 0, .h 1, .h 2, .h 3, .h 4] [sO 2 (.ptr 0 0), sO 3 (.ptr 1 0), sO 4 (.ptr 2 0), sO 5 (.ptr 3 0), sO 6 (.ptr 4 0), sI 7 .i64 x3, sI 22 .i64 x3, sI 25 .i64 x7, hB 0 71 [.arr .u64 5 a_0], hB 1 71 [.arr .u64 5 b_1], hB 2 71 [.arr .u64 5 (List.replicate 5 0)], hB 3 70 [.arr .u64 5 (m5.set ((IntKind.i64.wrap (x3 + x7)).tmod (5 : Int)).toNat (IntKind.u64.wrap ((m5.getD ((IntKind.i64.wrap (x3 + x7)).tmod (5 : Int)).toNat 0) + (IntKind.u64.wrap (r13 + r19)))))], hB 4 70 [.arr .u64 5 (m6.set ((IntKind.i64.wrap (x3 + x7)).tmod (5 : Int)).toNat r18)]] [0 ≤ ((IntKind.i64.wrap (x3 + x7)).tmod (5 : Int)) ∧ ((IntKind.i64.wrap (x3 + x7)).tmod (5 : Int)) < ((5 : Nat) : Int), 0 ≤ ((IntKind.i64.wrap (x3 + x7)).tmod (5 : Int)) ∧ ((IntKind.i64.wrap (x3 + x7)).tmod (5 : Int)) < ((5 : Nat) : Int)] (by kernel_rfl) (hcons hn23 (hone hn24)) ?_
            refine q_b 3 ?_
            refine q_k ?_
            refine tr_reg hT [] [.s 2, .s 3, .s 4, .s 5, .s 6, .s 7, .s 22, .s 25, .h 0, .h 1, .h 2, .h 3, .h 4] [sO 2 (.ptr 0 0), sO 3 (.ptr 1 0), sO 4 (.ptr 2 0), sO 5 (.ptr 3 0), sO 6 (.ptr 4 0), sI 7 .i64 x3, sI 22 .i64 x3, sI 25 .i64 (IntKind.i64.wrap (x7 + (1 : Int))), hB 0 71 [.arr .u64 5 a_0], hB 1 71 [.arr .u64 5 b_1], hB 2 71 [.arr .u64 5 (List.replicate 5 0)], hB 3 70 [.arr .u64 5 (m5.set ((IntKind.i64.wrap (x3 + x7)).tmod (5 : Int)).toNat (IntKind.u64.wrap ((m5.getD ((IntKind.i64.wrap (x3 + x7)).tmod (5 : Int)).toNat 0) + (IntKind.u64.wrap (r13 + r19)))))], hB 4 70 [.arr .u64 5 (m6.set ((IntKind.i64.wrap (x3 + x7)).tmod (5 : Int)).toNat r18)]] [] (by kernel_rfl) trivial ?_
            refine q_kr ?_
            exact trR_less [.s 2, .s 3, .s 4, .s 5, .s 6, .s 7, .s 22, .s 25, .h 0, .h 1, .h 2, .h 3, .h 4] [sO 2 (.ptr 0 0), sO 3 (.ptr 1 0), sO 4 (.ptr 2 0), sO 5 (.ptr 3 0), sO 6 (.ptr 4 0), sI 7 .i64 x3, sI 22 .i64 x3, sI 25 .i64 (IntKind.i64.wrap (x7 + (1 : Int))), hB 0 71 [.arr .u64 5 a_0], hB 1 71 [.arr .u64 5 b_1], hB 2 71 [.arr .u64 5 (List.replicate 5 0)], hB 3 70 [.arr .u64 5 (m5.set ((IntKind.i64.wrap (x3 + x7)).tmod (5 : Int)).toNat (IntKind.u64.wrap ((m5.getD ((IntKind.i64.wrap (x3 + x7)).tmod (5 : Int)).toNat 0) + (IntKind.u64.wrap (r13 + r19)))))], hB 4 70 [.arr .u64 5 (m6.set ((IntKind.i64.wrap (x3 + x7)).tmod (5 : Int)).toNat r18)]] (by kernel_rfl) (ih1 ((m5.set ((IntKind.i64.wrap (x3 + x7)).tmod (5 : Int)).toNat (IntKind.u64.wrap ((m5.getD ((IntKind.i64.wrap (x3 + x7)).tmod (5 : Int)).toNat 0) + (IntKind.u64.wrap (r13 + r19))))), (m6.set ((IntKind.i64.wrap (x3 + x7)).tmod (5 : Int)).toNat r18), (IntKind.i64.wrap (x7 + (1 : Int)))) h)
          · intro hj2
            clear h
            have h := e25
            clear e25
            rcases ite_split h with ⟨hc10, h⟩ | ⟨hc10, h⟩
            · refine tr_cond_t (decide ((IntKind.i64.wrap (x3 + x7)) ≥ (5 : Int))) (by kernel_rfl) hc10 ?_
              refine tr_reg hT [] [.s 2, .s 3, .s 4, .s 5, .s 6, .s 7, .s 8, .s 9, .s 22, .s 25, .h 0, .h 1, .h 2, .h 3, .h 4] [sO 2 (.ptr 0 0), sO 3 (.ptr 1 0), sO 4 (.ptr 2 0), sO 5 (.ptr 3 0), sO 6 (.ptr 4 0), sI 7 .i64 x3, sI 8 .i64 x7, sI 9 .u64 (IntKind.u64.wrap ((b_1.getD x7.toNat 0) * (19 : Int))), sI 22 .i64 x3, sI 25 .i64 x7, hB 0 71 [.arr .u64 5 a_0], hB 1 71 [.arr .u64 5 b_1], hB 2 71 [.arr .u64 5 (List.replicate 5 0)], hB 3 70 [.arr .u64 5 m5], hB 4 70 [.arr .u64 5 m6]] [] (by kernel_rfl) trivial ?_
              have h := Option.some.inj h
              subst h
              exact q_less [.s 2, .s 3, .s 4, .s 5, .s 6, .s 7, .s 8, .s 9, .s 22, .s 25, .h 0, .h 1, .h 2, .h 3, .h 4] [sO 2 (.ptr 0 0), sO 3 (.ptr 1 0), sO 4 (.ptr 2 0), sO 5 (.ptr 3 0), sO 6 (.ptr 4 0), sI 7 .i64 x3, sI 8 .i64 x7, sI 9 .u64 (IntKind.u64.wrap ((b_1.getD x7.toNat 0) * (19 : Int))), sI 22 .i64 x3, sI 25 .i64 x7, hB 0 71 [.arr .u64 5 a_0], hB 1 71 [.arr .u64 5 b_1], hB 2 71 [.arr .u64 5 (List.replicate 5 0)], hB 3 70 [.arr .u64 5 m5], hB 4 70 [.arr .u64 5 m6]] (by kernel_rfl) hj2
            · refine tr_cond_f (decide ((IntKind.i64.wrap (x3 + x7)) ≥ (5 : Int))) (by kernel_rfl) hc10 ?_
              refine tr_skip ?_
              have h := Option.some.inj h
              subst h
              exact q_less [.s 2, .s 3, .s 4, .s 5, .s 6, .s 7, .s 8, .s 9, .s 22, .s 25, .h 0, .h 1, .h 2, .h 3, .h 4] [sO 2 (.ptr 0 0), sO 3 (.ptr 1 0), sO 4 (.ptr 2 0), sO 5 (.ptr 3 0), sO 6 (.ptr 4 0), sI 7 .i64 x3, sI 8 .i64 x7, sI 9 .u64 (b_1.getD x7.toNat 0), sI 22 .i64 x3, sI 25 .i64 x7, hB 0 71 [.arr .u64 5 a_0], hB 1 71 [.arr .u64 5 b_1], hB 2 71 [.arr .u64 5 (List.replicate 5 0)], hB 3 70 [.arr .u64 5 m5], hB 4 70 [.arr .u64 5 m6]] (by kernel_rfl) hj2
        · refine tr_cond_f (decide (x7 < (5 : Int))) (by kernel_rfl) hc8 ?_
          refine tr_exit ?_
          refine q_k_exit ?_
          refine q_kr_exit ?_
          have h := Option.some.inj h
          subst h
          exact q_less [.s 2, .s 3, .s 4, .s 5, .s 6, .s 22, .h 0, .h 1, .h 2, .h 3, .h 4] [sO 2 (.ptr 0 0), sO 3 (.ptr 1 0), sO 4 (.ptr 2 0), sO 5 (.ptr 3 0), sO 6 (.ptr 4 0), sI 22 .i64 x3, hB 0 71 [.arr .u64 5 a_0], hB 1 71 [.arr .u64 5 b_1], hB 2 71 [.arr .u64 5 (List.replicate 5 0)], hB 3 70 [.arr .u64 5 m5], hB 4 70 [.arr .u64 5 m6]] (by kernel_rfl) hx1
    · refine tr_cond_f (decide (x3 < (5 : Int))) (by kernel_rfl) hc4 ?_
      refine tr_exit ?_
      refine q_k_exit ?_
      refine q_kr_exit ?_
      have h := Option.some.inj h
      subst h
      exact q_less [.s 4, .s 5, .s 6, .h 2, .h 3, .h 4] [sO 4 (.ptr 2 0), sO 5 (.ptr 3 0), sO 6 (.ptr 4 0), hB 2 71 [.arr .u64 5 (List.replicate 5 0)], hB 3 70 [.arr .u64 5 m1], hB 4 70 [.arr .u64 5 m2]] (by kernel_rfl) hx0

theorem field_Mul_ok (a_0 : List Int) (b_1 : List Int) (r : List Int) (h : field_Mul a_0 b_1 = some r) {pre : List (Nat × Ent)} : CallOk P 34 [.v (.agg [.arr .u8 32 a_0]), .v (.agg [.arr .u8 32 b_1])] pre (.v (.agg [.arr .u8 32 r])) [] := by
  refine call0 (N := 11) Try.func34 (by kernel_rfl) rfl rfl rfl pre ?_
  intro _ w
  show Tr P w.heap.size 11 w _ _ (RetQ P Try.f34 (R0 _ w))
  unfold field_Mul at h
  refine tr_seq ?_
  refine tr_reg hT [(0, .key 0), (1, .key 1), (2, .key 2)] [.s 2, .s 3, .s 4, .h 0, .h 1, .h 2] [sO 2 (.ptr 0 0), sO 3 (.ptr 1 0), sO 4 (.ptr 2 0), hB 0 22 [.arr .u8 32 a_0], hB 1 22 [.arr .u8 32 b_1], hB 2 22 [.arr .u8 32 (List.replicate 32 0)]] [] (by kernel_rfl) trivial ?_
  refine q_k ?_
  refine tr_seq ?_
  obtain ⟨a1, e2, h⟩ := bind_some h
  obtain ⟨a3, e4, h⟩ := bind_some h
  obtain ⟨a5, e6, h⟩ := bind_some h
  obtain ⟨a7, e8, h⟩ := bind_some h
  refine tr_regd hT hM [(1, .call (.v (.agg [.arr .u64 5 a1])) []), (3, .call (.v (.agg [.arr .u64 5 a3])) []), (4, .call (.v (.agg [.arr .u64 5 a5])) []), (5, .call (.v (.agg [.arr .u8 32 a7])) [])] [.s 4, .h 2] [sO 4 (.ptr 2 0), hB 2 22 [.arr .u8 32 a7]] [CallOk P 72 [.v (.agg [.arr .u8 32 a_0])] [] (.v (.agg [.arr .u64 5 a1])) [], CallOk P 72 [.v (.agg [.arr .u8 32 b_1])] [] (.v (.agg [.arr .u64 5 a3])) [], CallOk P 74 [.v (.agg [.arr .u64 5 a1]), .v (.agg [.arr .u64 5 a3])] [] (.v (.agg [.arr .u64 5 a5])) [], CallOk P 73 [.v (.agg [.arr .u64 5 a5])] [] (.v (.agg [.arr .u8 32 a7])) []] (by kernel_rfl) (hcons (limb_Of_ok a_0 a1 e2) (hcons (limb_Of_ok b_1 a3 e4) (hcons (limb_Mul_ok a1 a3 a5 e6) (hone (limb_N_Bytes_ok a5 a7 e8))))) ?_
  refine q_k ?_
  refine tr_ret ?_
  have h := Option.some.inj h
  subst h
  exact q_ret0 hT (.v (.agg [.arr .u8 32 a7])) rfl (by kernel_rfl)

theorem limb_Sub_ok (a_0 : List Int) (b_1 : List Int) (r : List Int) (h : limb_Sub a_0 b_1 = some r) {pre : List (Nat × Ent)} : CallOk P 80 [.v (.agg [.arr .u64 5 a_0]), .v (.agg [.arr .u64 5 b_1])] pre (.v (.agg [.arr .u64 5 r])) [] := by
  refine call0 (N := 26) Try.func80 (by kernel_rfl) rfl rfl rfl pre ?_
  intro _ w
  show Tr P w.heap.size 26 w _ _ (RetQ P Try.f80 (R0 _ w))
  unfold limb_Sub at h
  refine tr_seq ?_
  refine tr_reg hT [(0, .key 0), (1, .key 1), (2, .key 2)] [.s 2, .s 3, .s 4, .h 0, .h 1, .h 2] [sO 2 (.ptr 0 0), sO 3 (.ptr 1 0), sO 4 (.ptr 2 0), hB 0 71 [.arr .u64 5 a_0], hB 1 71 [.arr .u64 5 b_1], hB 2 71 [.arr .u64 5 (List.replicate 5 0)]] [] (by kernel_rfl) trivial ?_
  refine q_k ?_
  refine tr_seq ?_
  refine tr_reg hT [(1, .key 3)] [.s 2, .s 3, .s 4, .s 5, .h 0, .h 1, .h 2, .h 3] [sO 2 (.ptr 0 0), sO 3 (.ptr 1 0), sO 4 (.ptr 2 0), sO 5 (.ptr 3 0), hB 0 71 [.arr .u64 5 a_0], hB 1 71 [.arr .u64 5 b_1], hB 2 71 [.arr .u64 5 (List.replicate 5 0)], hB 3 71 [.arr .u64 5 [(9007199254740916 : Int), (9007199254740988 : Int), (9007199254740988 : Int), (9007199254740988 : Int), (9007199254740988 : Int)]]] [] (by kernel_rfl) trivial ?_
  refine q_k ?_
  refine tr_seq ?_
  refine tr_seq ?_
  refine tr_reg hT [] [.s 2, .s 3, .s 4, .s 5, .s 8, .h 0, .h 1, .h 2, .h 3] [sO 2 (.ptr 0 0), sO 3 (.ptr 1 0), sO 4 (.ptr 2 0), sO 5 (.ptr 3 0), sI 8 .i64 (0 : Int), hB 0 71 [.arr .u64 5 a_0], hB 1 71 [.arr .u64 5 b_1], hB 2 71 [.arr .u64 5 (List.replicate 5 0)], hB 3 71 [.arr .u64 5 [(9007199254740916 : Int), (9007199254740988 : Int), (9007199254740988 : Int), (9007199254740988 : Int), (9007199254740988 : Int)]]] [] (by kernel_rfl) trivial ?_
  refine q_k ?_
  refine tr_block ?_
  obtain ⟨m8, e9, h⟩ := bind_some h
  refine tr_less [.s 2, .s 3, .s 4, .s 5, .s 8, .h 0, .h 1, .h 2, .h 3] [sO 2 (.ptr 0 0), sO 3 (.ptr 1 0), sO 4 (.ptr 2 0), sO 5 (.ptr 3 0), sI 8 .i64 (0 : Int), hB 0 71 [.arr .u64 5 a_0], hB 1 71 [.arr .u64 5 b_1], hB 2 71 [.arr .u64 5 (List.replicate 5 0)], hB 3 71 [.arr .u64 5 [(9007199254740916 : Int), (9007199254740988 : Int), (9007199254740988 : Int), (9007199254740988 : Int), (9007199254740988 : Int)]]] (by kernel_rfl) ?_
  refine tr_loop_fuel (id := 0) (α := List Int × Int) (β := List Int) (fun z => [sO 2 (.ptr 0 0), sO 3 (.ptr 1 0), sO 4 (.ptr 2 0), sO 5 (.ptr 3 0), sI 8 .i64 z.2, hB 0 71 [.arr .u64 5 z.1], hB 1 71 [.arr .u64 5 b_1], hB 2 71 [.arr .u64 5 (List.replicate 5 0)], hB 3 71 [.arr .u64 5 [(9007199254740916 : Int), (9007199254740988 : Int), (9007199254740988 : Int), (9007199254740988 : Int), (9007199254740988 : Int)]]]) (fun z => [sO 2 (.ptr 0 0), sO 4 (.ptr 2 0), hB 0 71 [.arr .u64 5 z], hB 2 71 [.arr .u64 5 (List.replicate 5 0)]]) (fun k z => limb_Sub_l0 b_1 k z.1 z.2) m8 (fun _ => rfl) (((5 : Int) - (0 : Int)).toNat + 1) (a_0, (0 : Int)) e9 ?_ ?_
  · skip
    replace h : ((limb_carried m8).bind (fun a10 => some a10)) = _ := h
    refine q_b_this ?_
    refine q_k ?_
    refine tr_seq ?_
    obtain ⟨a10, e11, h⟩ := bind_some h
    refine tr_reg hT [(1, .call (.v (.agg [.arr .u64 5 a10])) [])] [.s 4, .h 2] [sO 4 (.ptr 2 0), hB 2 71 [.arr .u64 5 a10]] [CallOk P 102 [.v (.agg [.arr .u64 5 m8])] [] (.v (.agg [.arr .u64 5 a10])) []] (by kernel_rfl) (hone (limb_carried_ok m8 a10 e11)) ?_
    refine q_k ?_
    refine tr_ret ?_
    have h := Option.some.inj h
    subst h
    exact q_ret0 hT (.v (.agg [.arr .u64 5 a10])) rfl (by kernel_rfl)
  · clear h e9
    intro k ih0 hx0 z h
    obtain ⟨m1, x2⟩ := z
    replace h : (if (decide (x2 < (5 : Int))) = true then if 0 ≤ x2 ∧ x2 < ((5 : Nat) : Int) then if 0 ≤ x2 ∧ x2 < ((5 : Nat) : Int) then if 0 ≤ x2 ∧ x2 < ((5 : Nat) : Int) then if 0 ≤ x2 ∧ x2 < ((5 : Nat) : Int) then limb_Sub_l0 b_1 k (m1.set x2.toNat (IntKind.u64.wrap ((m1.getD x2.toNat 0) + (IntKind.u64.wrap (([(9007199254740916 : Int), (9007199254740988 : Int), (9007199254740988 : Int), (9007199254740988 : Int), (9007199254740988 : Int)].getD x2.toNat 0) - (b_1.getD x2.toNat 0)))))) (IntKind.i64.wrap (x2 + (1 : Int))) else none else none else none else none else some m1) = _ := h
    refine tr_seq ?_
    refine tr_reg hT [] [.s 2, .s 3, .s 4, .s 5, .s 8, .s 9, .h 0, .h 1, .h 2, .h 3] [sO 2 (.ptr 0 0), sO 3 (.ptr 1 0), sO 4 (.ptr 2 0), sO 5 (.ptr 3 0), sI 8 .i64 x2, sB 9 (decide (x2 < (5 : Int))), hB 0 71 [.arr .u64 5 m1], hB 1 71 [.arr .u64 5 b_1], hB 2 71 [.arr .u64 5 (List.replicate 5 0)], hB 3 71 [.arr .u64 5 [(9007199254740916 : Int), (9007199254740988 : Int), (9007199254740988 : Int), (9007199254740988 : Int), (9007199254740988 : Int)]]] [] (by kernel_rfl) trivial ?_
    refine q_k ?_
    refine tr_seq ?_
    rcases ite_split h with ⟨hc3, h⟩ | ⟨hc3, h⟩
    · refine tr_cond_t (decide (x2 < (5 : Int))) (by kernel_rfl) hc3 ?_
      refine tr_skip ?_
      refine q_k ?_
      refine tr_seq ?_
      refine tr_block ?_
      refine tr_seq ?_
      refine tr_reg hT [] [.s 2, .s 3, .s 4, .s 5, .s 6, .s 8, .h 0, .h 1, .h 2, .h 3] [sO 2 (.ptr 0 0), sO 3 (.ptr 1 0), sO 4 (.ptr 2 0), sO 5 (.ptr 3 0), sI 6 .i64 x2, sI 8 .i64 x2, hB 0 71 [.arr .u64 5 m1], hB 1 71 [.arr .u64 5 b_1], hB 2 71 [.arr .u64 5 (List.replicate 5 0)], hB 3 71 [.arr .u64 5 [(9007199254740916 : Int), (9007199254740988 : Int), (9007199254740988 : Int), (9007199254740988 : Int), (9007199254740988 : Int)]]] [] (by kernel_rfl) trivial ?_
      refine q_k ?_
      obtain ⟨hn4, h⟩ := ite_some h
      obtain ⟨hn5, h⟩ := ite_some h
      obtain ⟨hn6, h⟩ := ite_some h
      obtain ⟨hn7, h⟩ := ite_some h
      refine tr_regd hT hM [] [.s 2, .s 3, .s 4, .s 5, .s 8, .h 0, .h 1, .h 2, .h 3] [sO 2 (.ptr 0 0), sO 3 (.ptr 1 0), sO 4 (.ptr 2 0), sO 5 (.ptr 3 0), sI 8 .i64 x2, hB 0 71 [.arr .u64 5 (m1.set x2.toNat (IntKind.u64.wrap ((m1.getD x2.toNat 0) + (IntKind.u64.wrap (([(9007199254740916 : Int), (9007199254740988 : Int), (9007199254740988 : Int), (9007199254740988 : Int), (9007199254740988 : Int)].getD x2.toNat 0) - (b_1.getD x2.toNat 0))))))], hB 1 71 [.arr .u64 5 b_1], hB 2 71 [.arr .u64 5 (List.replicate 5 0)], hB 3 71 [.arr .u64 5 [(9007199254740916 : Int), (9007199254740988 : Int), (9007199254740988 : Int), (9007199254740988 : Int), (9007199254740988 : Int)]]] [0 ≤ x2 ∧ x2 < ((5 : Nat) : Int), 0 ≤ x2 ∧ x2 < ((5 : Nat) : Int), 0 ≤ x2 ∧ x2 < ((5 : Nat) : Int), 0 ≤ x2 ∧ x2 < ((5 : Nat) : Int)] (by kernel_rfl) (hcons hn4 (hcons hn5 (hcons hn6 (hone hn7)))) ?_
      refine q_b 1 ?_
      refine q_k ?_
      refine tr_reg hT [] [.s 2, .s 3, .s 4, .s 5, .s 8, .h 0, .h 1, .h 2, .h 3] [sO 2 (.ptr 0 0), sO 3 (.ptr 1 0), sO 4 (.ptr 2 0), sO 5 (.ptr 3 0), sI 8 .i64 (IntKind.i64.wrap (x2 + (1 : Int))), hB 0 71 [.arr .u64 5 (m1.set x2.toNat (IntKind.u64.wrap ((m1.getD x2.toNat 0) + (IntKind.u64.wrap (([(9007199254740916 : Int), (9007199254740988 : Int), (9007199254740988 : Int), (9007199254740988 : Int), (9007199254740988 : Int)].getD x2.toNat 0) - (b_1.getD x2.toNat 0))))))], hB 1 71 [.arr .u64 5 b_1], hB 2 71 [.arr .u64 5 (List.replicate 5 0)], hB 3 71 [.arr .u64 5 [(9007199254740916 : Int), (9007199254740988 : Int), (9007199254740988 : Int), (9007199254740988 : Int), (9007199254740988 : Int)]]] [] (by kernel_rfl) trivial ?_
      refine q_kr ?_
      exact trR_less [.s 2, .s 3, .s 4, .s 5, .s 8, .h 0, .h 1, .h 2, .h 3] [sO 2 (.ptr 0 0), sO 3 (.ptr 1 0), sO 4 (.ptr 2 0), sO 5 (.ptr 3 0), sI 8 .i64 (IntKind.i64.wrap (x2 + (1 : Int))), hB 0 71 [.arr .u64 5 (m1.set x2.toNat (IntKind.u64.wrap ((m1.getD x2.toNat 0) + (IntKind.u64.wrap (([(9007199254740916 : Int), (9007199254740988 : Int), (9007199254740988 : Int), (9007199254740988 : Int), (9007199254740988 : Int)].getD x2.toNat 0) - (b_1.getD x2.toNat 0))))))], hB 1 71 [.arr .u64 5 b_1], hB 2 71 [.arr .u64 5 (List.replicate 5 0)], hB 3 71 [.arr .u64 5 [(9007199254740916 : Int), (9007199254740988 : Int), (9007199254740988 : Int), (9007199254740988 : Int), (9007199254740988 : Int)]]] (by kernel_rfl) (ih0 ((m1.set x2.toNat (IntKind.u64.wrap ((m1.getD x2.toNat 0) + (IntKind.u64.wrap (([(9007199254740916 : Int), (9007199254740988 : Int), (9007199254740988 : Int), (9007199254740988 : Int), (9007199254740988 : Int)].getD x2.toNat 0) - (b_1.getD x2.toNat 0)))))), (IntKind.i64.wrap (x2 + (1 : Int)))) h)
    · refine tr_cond_f (decide (x2 < (5 : Int))) (by kernel_rfl) hc3 ?_
      refine tr_exit ?_
      refine q_k_exit ?_
      refine q_kr_exit ?_
      have h := Option.some.inj h
      subst h
      exact q_less [.s 2, .s 4, .h 0, .h 2] [sO 2 (.ptr 0 0), sO 4 (.ptr 2 0), hB 0 71 [.arr .u64 5 m1], hB 2 71 [.arr .u64 5 (List.replicate 5 0)]] (by kernel_rfl) hx0

theorem field_Sub_ok (a_0 : List Int) (b_1 : List Int) (r : List Int) (h : field_Sub a_0 b_1 = some r) {pre : List (Nat × Ent)} : CallOk P 41 [.v (.agg [.arr .u8 32 a_0]), .v (.agg [.arr .u8 32 b_1])] pre (.v (.agg [.arr .u8 32 r])) [] := by
  refine call0 (N := 11) Try.func41 (by kernel_rfl) rfl rfl rfl pre ?_
  intro _ w
  show Tr P w.heap.size 11 w _ _ (RetQ P Try.f41 (R0 _ w))
  unfold field_Sub at h
  refine tr_seq ?_
  refine tr_reg hT [(0, .key 0), (1, .key 1), (2, .key 2)] [.s 2, .s 3, .s 4, .h 0, .h 1, .h 2] [sO 2 (.ptr 0 0), sO 3 (.ptr 1 0), sO 4 (.ptr 2 0), hB 0 22 [.arr .u8 32 a_0], hB 1 22 [.arr .u8 32 b_1], hB 2 22 [.arr .u8 32 (List.replicate 32 0)]] [] (by kernel_rfl) trivial ?_
  refine q_k ?_
  refine tr_seq ?_
  obtain ⟨a1, e2, h⟩ := bind_some h
  obtain ⟨a3, e4, h⟩ := bind_some h
  obtain ⟨a5, e6, h⟩ := bind_some h
  obtain ⟨a7, e8, h⟩ := bind_some h
  refine tr_regd hT hM [(1, .call (.v (.agg [.arr .u64 5 a1])) []), (3, .call (.v (.agg [.arr .u64 5 a3])) []), (4, .call (.v (.agg [.arr .u64 5 a5])) []), (5, .call (.v (.agg [.arr .u8 32 a7])) [])] [.s 4, .h 2] [sO 4 (.ptr 2 0), hB 2 22 [.arr .u8 32 a7]] [CallOk P 72 [.v (.agg [.arr .u8 32 a_0])] [] (.v (.agg [.arr .u64 5 a1])) [], CallOk P 72 [.v (.agg [.arr .u8 32 b_1])] [] (.v (.agg [.arr .u64 5 a3])) [], CallOk P 80 [.v (.agg [.arr .u64 5 a1]), .v (.agg [.arr .u64 5 a3])] [] (.v (.agg [.arr .u64 5 a5])) [], CallOk P 73 [.v (.agg [.arr .u64 5 a5])] [] (.v (.agg [.arr .u8 32 a7])) []] (by kernel_rfl) (hcons (limb_Of_ok a_0 a1 e2) (hcons (limb_Of_ok b_1 a3 e4) (hcons (limb_Sub_ok a1 a3 a5 e6) (hone (limb_N_Bytes_ok a5 a7 e8))))) ?_
  refine q_k ?_
  refine tr_ret ?_
  have h := Option.some.inj h
  subst h
  exact q_ret0 hT (.v (.agg [.arr .u8 32 a7])) rfl (by kernel_rfl)

theorem field_Check_ok (a_0 : List Int) (r : Bool) (h : field_Check a_0 = some r) {pre : List (Nat × Ent)} : CallOk P 42 [.v (.agg [.arr .u8 32 a_0])] pre (.v (.one (.bool r))) [] := by
  refine call0 (N := 7) Try.func42 (by kernel_rfl) rfl rfl rfl pre ?_
  intro _ w
  show Tr P w.heap.size 7 w _ _ (RetQ P Try.f42 (R0 _ w))
  unfold field_Check at h
  refine tr_seq ?_
  refine tr_reg hT [(0, .key 0)] [.s 1, .h 0] [sO 1 (.ptr 0 0), hB 0 22 [.arr .u8 32 a_0]] [] (by kernel_rfl) trivial ?_
  refine q_k ?_
  refine tr_seq ?_
  obtain ⟨a1, e2, h⟩ := bind_some h
  refine tr_regd hT hM [(1, .call (.v (.agg [.arr .u8 32 a1])) [])] [.s 2] [sB 2 (decide (a1 = a_0))] [CallOk P 33 [.v (.agg [.arr .u8 32 a_0])] [] (.v (.agg [.arr .u8 32 a1])) []] (by kernel_rfl) (hone (field_Mod_ok a_0 a1 e2)) ?_
  refine q_k ?_
  refine tr_ret ?_
  have h := Option.some.inj h
  subst h
  exact q_ret0 hT (.v (.one (.bool (decide (a1 = a_0))))) rfl (by kernel_rfl)

theorem law04_wakes_ok (r : Bool) (h : law04_wakes = some r) {pre : List (Nat × Ent)} : CallOk P 35 [] pre (.v (.one (.bool r))) [] := by
  refine call0 (N := 29) Try.func35 (by kernel_rfl) rfl rfl rfl pre ?_
  intro _ w
  show Tr P w.heap.size 29 w _ _ (RetQ P Try.f35 (R0 _ w))
  unfold law04_wakes at h
  refine tr_seq ?_
  refine tr_reg hT [] [] [] [] (by kernel_rfl) trivial ?_
  refine q_k ?_
  refine tr_seq ?_
  obtain ⟨a1, e2, h⟩ := bind_some h
  obtain ⟨a3, e4, h⟩ := bind_some h
  obtain ⟨a5, e6, h⟩ := bind_some h
  refine tr_reg hT [(0, .call (.v (.agg [.arr .u8 32 a1])) []), (1, .call (.v (.agg [.arr .u8 32 a3])) []), (2, .call (.v (.agg [.arr .u8 32 a5])) []), (3, .key 0)] [.s 1, .h 0] [sO 1 (.ptr 0 0), hB 0 22 [.arr .u8 32 a5]] [CallOk P 26 [.v (.one (.int .i64 (0 : Int)))] [] (.v (.agg [.arr .u8 32 a1])) [], CallOk P 26 [.v (.one (.int .i64 (1 : Int)))] [] (.v (.agg [.arr .u8 32 a3])) [], CallOk P 41 [.v (.agg [.arr .u8 32 a1]), .v (.agg [.arr .u8 32 a3])] [] (.v (.agg [.arr .u8 32 a5])) []] (by kernel_rfl) (hcons (law04_Num_ok (0 : Int) a1 e2) (hcons (law04_Num_ok (1 : Int) a3 e4) (hone (field_Sub_ok a1 a3 a5 e6)))) ?_
  refine q_k ?_
  refine tr_seq ?_
  obtain ⟨a7, e8, h⟩ := bind_some h
  obtain ⟨a9, e10, h⟩ := bind_some h
  obtain ⟨a11, e12, h⟩ := bind_some h
  obtain ⟨a13, e14, h⟩ := bind_some h
  rcases ite_split h with ⟨hb15, h⟩ | ⟨hb26, h⟩
  · rcases ite_split h with ⟨hb16, h⟩ | ⟨hb25, h⟩
    · rcases ite_split h with ⟨hb17, h⟩ | ⟨hb24, h⟩
      · rcases ite_split h with ⟨hb18, h⟩ | ⟨hb23, h⟩
        · obtain ⟨a19, e20, h⟩ := bind_some h
          obtain ⟨b21, e22, h⟩ := bind_some h
          refine tr_reg hT [(0, .call (.v (.agg [.arr .u8 32 a7])) []), (1, .call (.v (.agg [.arr .u8 32 a9])) []), (2, .call (.v (.agg [.arr .u8 32 a11])) []), (3, .call (.v (.agg [.arr .u8 32 a13])) []), (5, .dec true), (10, .dec true), (15, .dec true), (20, .dec true), (21, .call (.v (.agg [.arr .u8 32 a19])) []), (22, .call (.v (.one (.bool b21))) [])] [.s 0] [sB 0 b21] [CallOk P 26 [.v (.one (.int .i64 (2 : Int)))] [] (.v (.agg [.arr .u8 32 a7])) [], CallOk P 26 [.v (.one (.int .i64 (3 : Int)))] [] (.v (.agg [.arr .u8 32 a9])) [], CallOk P 34 [.v (.agg [.arr .u8 32 a7]), .v (.agg [.arr .u8 32 a9])] [] (.v (.agg [.arr .u8 32 a11])) [], CallOk P 26 [.v (.one (.int .i64 (6 : Int)))] [] (.v (.agg [.arr .u8 32 a13])) [], (decide (a11 = a13)) = true, 0 ≤ (0 : Int) ∧ (0 : Int) < ((32 : Nat) : Int), ((a5.getD 0 0) == (236 : Int)) = true, 0 ≤ (1 : Int) ∧ (1 : Int) < ((32 : Nat) : Int), ((a5.getD 1 0) == (255 : Int)) = true, 0 ≤ (31 : Int) ∧ (31 : Int) < ((32 : Nat) : Int), ((a5.getD 31 0) == (127 : Int)) = true, CallOk P 26 [.v (.one (.int .i64 (5 : Int)))] [] (.v (.agg [.arr .u8 32 a19])) [], CallOk P 42 [.v (.agg [.arr .u8 32 a19])] [] (.v (.one (.bool b21))) []] (by kernel_rfl) (hcons (law04_Num_ok (2 : Int) a7 e8) (hcons (law04_Num_ok (3 : Int) a9 e10) (hcons (field_Mul_ok a7 a9 a11 e12) (hcons (law04_Num_ok (6 : Int) a13 e14) (hcons hb15 (hcons (by decide) (hcons hb16 (hcons (by decide) (hcons hb17 (hcons (by decide) (hcons hb18 (hcons (law04_Num_ok (5 : Int) a19 e20) (hone (field_Check_ok a19 b21 e22)))))))))))))) ?_
          refine q_k ?_
          refine tr_ret ?_
          have h := Option.some.inj h
          subst h
          exact q_ret0 hT (.v (.one (.bool b21))) rfl (by kernel_rfl)
        · refine tr_reg hT [(0, .call (.v (.agg [.arr .u8 32 a7])) []), (1, .call (.v (.agg [.arr .u8 32 a9])) []), (2, .call (.v (.agg [.arr .u8 32 a11])) []), (3, .call (.v (.agg [.arr .u8 32 a13])) []), (5, .dec true), (10, .dec true), (15, .dec true), (20, .dec false)] [.s 0] [sB 0 false] [CallOk P 26 [.v (.one (.int .i64 (2 : Int)))] [] (.v (.agg [.arr .u8 32 a7])) [], CallOk P 26 [.v (.one (.int .i64 (3 : Int)))] [] (.v (.agg [.arr .u8 32 a9])) [], CallOk P 34 [.v (.agg [.arr .u8 32 a7]), .v (.agg [.arr .u8 32 a9])] [] (.v (.agg [.arr .u8 32 a11])) [], CallOk P 26 [.v (.one (.int .i64 (6 : Int)))] [] (.v (.agg [.arr .u8 32 a13])) [], (decide (a11 = a13)) = true, 0 ≤ (0 : Int) ∧ (0 : Int) < ((32 : Nat) : Int), ((a5.getD 0 0) == (236 : Int)) = true, 0 ≤ (1 : Int) ∧ (1 : Int) < ((32 : Nat) : Int), ((a5.getD 1 0) == (255 : Int)) = true, 0 ≤ (31 : Int) ∧ (31 : Int) < ((32 : Nat) : Int), ((a5.getD 31 0) == (127 : Int)) = false] (by kernel_rfl) (hcons (law04_Num_ok (2 : Int) a7 e8) (hcons (law04_Num_ok (3 : Int) a9 e10) (hcons (field_Mul_ok a7 a9 a11 e12) (hcons (law04_Num_ok (6 : Int) a13 e14) (hcons hb15 (hcons (by decide) (hcons hb16 (hcons (by decide) (hcons hb17 (hcons (by decide) (hone hb23))))))))))) ?_
          refine q_k ?_
          refine tr_ret ?_
          have h := Option.some.inj h
          subst h
          exact q_ret0 hT (.v (.one (.bool false))) rfl (by kernel_rfl)
      · refine tr_reg hT [(0, .call (.v (.agg [.arr .u8 32 a7])) []), (1, .call (.v (.agg [.arr .u8 32 a9])) []), (2, .call (.v (.agg [.arr .u8 32 a11])) []), (3, .call (.v (.agg [.arr .u8 32 a13])) []), (5, .dec true), (10, .dec true), (15, .dec false)] [.s 0] [sB 0 false] [CallOk P 26 [.v (.one (.int .i64 (2 : Int)))] [] (.v (.agg [.arr .u8 32 a7])) [], CallOk P 26 [.v (.one (.int .i64 (3 : Int)))] [] (.v (.agg [.arr .u8 32 a9])) [], CallOk P 34 [.v (.agg [.arr .u8 32 a7]), .v (.agg [.arr .u8 32 a9])] [] (.v (.agg [.arr .u8 32 a11])) [], CallOk P 26 [.v (.one (.int .i64 (6 : Int)))] [] (.v (.agg [.arr .u8 32 a13])) [], (decide (a11 = a13)) = true, 0 ≤ (0 : Int) ∧ (0 : Int) < ((32 : Nat) : Int), ((a5.getD 0 0) == (236 : Int)) = true, 0 ≤ (1 : Int) ∧ (1 : Int) < ((32 : Nat) : Int), ((a5.getD 1 0) == (255 : Int)) = false] (by kernel_rfl) (hcons (law04_Num_ok (2 : Int) a7 e8) (hcons (law04_Num_ok (3 : Int) a9 e10) (hcons (field_Mul_ok a7 a9 a11 e12) (hcons (law04_Num_ok (6 : Int) a13 e14) (hcons hb15 (hcons (by decide) (hcons hb16 (hcons (by decide) (hone hb24))))))))) ?_
        refine q_k ?_
        refine tr_ret ?_
        have h := Option.some.inj h
        subst h
        exact q_ret0 hT (.v (.one (.bool false))) rfl (by kernel_rfl)
    · refine tr_reg hT [(0, .call (.v (.agg [.arr .u8 32 a7])) []), (1, .call (.v (.agg [.arr .u8 32 a9])) []), (2, .call (.v (.agg [.arr .u8 32 a11])) []), (3, .call (.v (.agg [.arr .u8 32 a13])) []), (5, .dec true), (10, .dec false)] [.s 0] [sB 0 false] [CallOk P 26 [.v (.one (.int .i64 (2 : Int)))] [] (.v (.agg [.arr .u8 32 a7])) [], CallOk P 26 [.v (.one (.int .i64 (3 : Int)))] [] (.v (.agg [.arr .u8 32 a9])) [], CallOk P 34 [.v (.agg [.arr .u8 32 a7]), .v (.agg [.arr .u8 32 a9])] [] (.v (.agg [.arr .u8 32 a11])) [], CallOk P 26 [.v (.one (.int .i64 (6 : Int)))] [] (.v (.agg [.arr .u8 32 a13])) [], (decide (a11 = a13)) = true, 0 ≤ (0 : Int) ∧ (0 : Int) < ((32 : Nat) : Int), ((a5.getD 0 0) == (236 : Int)) = false] (by kernel_rfl) (hcons (law04_Num_ok (2 : Int) a7 e8) (hcons (law04_Num_ok (3 : Int) a9 e10) (hcons (field_Mul_ok a7 a9 a11 e12) (hcons (law04_Num_ok (6 : Int) a13 e14) (hcons hb15 (hcons (by decide) (hone hb25))))))) ?_
      refine q_k ?_
      refine tr_ret ?_
      have h := Option.some.inj h
      subst h
      exact q_ret0 hT (.v (.one (.bool false))) rfl (by kernel_rfl)
  · refine tr_reg hT [(0, .call (.v (.agg [.arr .u8 32 a7])) []), (1, .call (.v (.agg [.arr .u8 32 a9])) []), (2, .call (.v (.agg [.arr .u8 32 a11])) []), (3, .call (.v (.agg [.arr .u8 32 a13])) []), (5, .dec false)] [.s 0] [sB 0 false] [CallOk P 26 [.v (.one (.int .i64 (2 : Int)))] [] (.v (.agg [.arr .u8 32 a7])) [], CallOk P 26 [.v (.one (.int .i64 (3 : Int)))] [] (.v (.agg [.arr .u8 32 a9])) [], CallOk P 34 [.v (.agg [.arr .u8 32 a7]), .v (.agg [.arr .u8 32 a9])] [] (.v (.agg [.arr .u8 32 a11])) [], CallOk P 26 [.v (.one (.int .i64 (6 : Int)))] [] (.v (.agg [.arr .u8 32 a13])) [], (decide (a11 = a13)) = false] (by kernel_rfl) (hcons (law04_Num_ok (2 : Int) a7 e8) (hcons (law04_Num_ok (3 : Int) a9 e10) (hcons (field_Mul_ok a7 a9 a11 e12) (hcons (law04_Num_ok (6 : Int) a13 e14) (hone hb26))))) ?_
    refine q_k ?_
    refine tr_ret ?_
    have h := Option.some.inj h
    subst h
    exact q_ret0 hT (.v (.one (.bool false))) rfl (by kernel_rfl)

theorem law04_FieldFermat_ok (a_0 : List Int) (r : Bool) (h : law04_FieldFermat a_0 = some r) {pre : List (Nat × Ent)} : CallOk P 7 [.v (.agg [.arr .u8 32 a_0])] pre (.v (.one (.bool r))) [] := by
  refine call0 (N := 31) Try.func7 (by kernel_rfl) rfl rfl rfl pre ?_
  intro _ w
  show Tr P w.heap.size 31 w _ _ (RetQ P Try.f7 (R0 _ w))
  unfold law04_FieldFermat at h
  refine tr_seq ?_
  refine tr_reg hT [(0, .key 0)] [.s 1, .h 0] [sO 1 (.ptr 0 0), hB 0 22 [.arr .u8 32 a_0]] [] (by kernel_rfl) trivial ?_
  refine q_k ?_
  refine tr_seq ?_
  obtain ⟨a1, e2, h⟩ := bind_some h
  refine tr_reg hT [(1, .call (.v (.agg [.arr .u8 32 a1])) []), (2, .key 1)] [.s 1, .s 3, .h 0, .h 1] [sO 1 (.ptr 0 0), sO 3 (.ptr 1 0), hB 0 22 [.arr .u8 32 a_0], hB 1 22 [.arr .u8 32 a1]] [CallOk P 33 [.v (.agg [.arr .u8 32 a_0])] [] (.v (.agg [.arr .u8 32 a1])) []] (by kernel_rfl) (hone (field_Mod_ok a_0 a1 e2)) ?_
  refine q_k ?_
  refine tr_seq ?_
  refine tr_seq ?_
  refine tr_reg hT [] [.s 1, .s 3, .s 4, .h 0, .h 1] [sO 1 (.ptr 0 0), sO 3 (.ptr 1 0), sI 4 .i64 (0 : Int), hB 0 22 [.arr .u8 32 a_0], hB 1 22 [.arr .u8 32 a1]] [] (by kernel_rfl) trivial ?_
  refine q_k ?_
  refine tr_block ?_
  obtain ⟨m8, e9, h⟩ := bind_some h
  refine tr_less [.s 1, .s 3, .s 4, .h 0, .h 1] [sO 1 (.ptr 0 0), sO 3 (.ptr 1 0), sI 4 .i64 (0 : Int), hB 0 22 [.arr .u8 32 a_0], hB 1 22 [.arr .u8 32 a1]] (by kernel_rfl) ?_
  refine tr_loop_fuel (id := 0) (α := List Int × Int) (β := List Int) (fun z => [sO 1 (.ptr 0 0), sO 3 (.ptr 1 0), sI 4 .i64 z.2, hB 0 22 [.arr .u8 32 a_0], hB 1 22 [.arr .u8 32 z.1]]) (fun z => [sO 1 (.ptr 0 0), sO 3 (.ptr 1 0), hB 0 22 [.arr .u8 32 a_0], hB 1 22 [.arr .u8 32 z]]) (fun k z => law04_FieldFermat_l0 a_0 k z.1 z.2) m8 (fun _ => rfl) (((255 : Int) - (0 : Int)).toNat + 1) (a1, (0 : Int)) e9 ?_ ?_
  · skip
    replace h : ((field_Mod a_0).bind (fun a10 => (law04_FieldFermat_l1 a_0 m8 (((19 : Int) - (0 : Int)).toNat + 1) a10 (0 : Int)).bind (fun m17 => if (decide (m8 = m17)) = true then (law04_wakes).bind (fun b20 => some b20) else some false))) = _ := h
    refine q_b_this ?_
    refine q_k ?_
    refine tr_seq ?_
    obtain ⟨a10, e11, h⟩ := bind_some h
    refine tr_reg hT [(1, .call (.v (.agg [.arr .u8 32 a10])) []), (2, .key 2)] [.s 1, .s 3, .s 5, .h 0, .h 1, .h 2] [sO 1 (.ptr 0 0), sO 3 (.ptr 1 0), sO 5 (.ptr 2 0), hB 0 22 [.arr .u8 32 a_0], hB 1 22 [.arr .u8 32 m8], hB 2 22 [.arr .u8 32 a10]] [CallOk P 33 [.v (.agg [.arr .u8 32 a_0])] [] (.v (.agg [.arr .u8 32 a10])) []] (by kernel_rfl) (hone (field_Mod_ok a_0 a10 e11)) ?_
    refine q_k ?_
    refine tr_seq ?_
    refine tr_seq ?_
    refine tr_reg hT [] [.s 1, .s 3, .s 5, .s 6, .h 0, .h 1, .h 2] [sO 1 (.ptr 0 0), sO 3 (.ptr 1 0), sO 5 (.ptr 2 0), sI 6 .i64 (0 : Int), hB 0 22 [.arr .u8 32 a_0], hB 1 22 [.arr .u8 32 m8], hB 2 22 [.arr .u8 32 a10]] [] (by kernel_rfl) trivial ?_
    refine q_k ?_
    refine tr_block ?_
    obtain ⟨m17, e18, h⟩ := bind_some h
    refine tr_less [.s 1, .s 3, .s 5, .s 6, .h 0, .h 1, .h 2] [sO 1 (.ptr 0 0), sO 3 (.ptr 1 0), sO 5 (.ptr 2 0), sI 6 .i64 (0 : Int), hB 0 22 [.arr .u8 32 a_0], hB 1 22 [.arr .u8 32 m8], hB 2 22 [.arr .u8 32 a10]] (by kernel_rfl) ?_
    refine tr_loop_fuel (id := 2) (α := List Int × Int) (β := List Int) (fun z => [sO 1 (.ptr 0 0), sO 3 (.ptr 1 0), sO 5 (.ptr 2 0), sI 6 .i64 z.2, hB 0 22 [.arr .u8 32 a_0], hB 1 22 [.arr .u8 32 m8], hB 2 22 [.arr .u8 32 z.1]]) (fun z => [sO 3 (.ptr 1 0), sO 5 (.ptr 2 0), hB 1 22 [.arr .u8 32 m8], hB 2 22 [.arr .u8 32 z]]) (fun k z => law04_FieldFermat_l1 a_0 m8 k z.1 z.2) m17 (fun _ => rfl) (((19 : Int) - (0 : Int)).toNat + 1) (a10, (0 : Int)) e18 ?_ ?_
    · skip
      replace h : (if (decide (m8 = m17)) = true then (law04_wakes).bind (fun b20 => some b20) else some false) = _ := h
      refine q_b_this ?_
      refine q_k ?_
      refine tr_seq ?_
      rcases ite_split h with ⟨hb19, h⟩ | ⟨hb22, h⟩
      · obtain ⟨b20, e21, h⟩ := bind_some h
        refine tr_reg hT [(3, .dec true), (4, .call (.v (.one (.bool b20))) [])] [.s 2] [sB 2 b20] [(decide (m8 = m17)) = true, CallOk P 35 [] [] (.v (.one (.bool b20))) []] (by kernel_rfl) (hcons hb19 (hone (law04_wakes_ok  b20 e21))) ?_
        refine q_k ?_
        refine tr_ret ?_
        have h := Option.some.inj h
        subst h
        exact q_ret0 hT (.v (.one (.bool b20))) rfl (by kernel_rfl)
      · refine tr_reg hT [(3, .dec false)] [.s 2] [sB 2 false] [(decide (m8 = m17)) = false] (by kernel_rfl) (hone hb22) ?_
        refine q_k ?_
        refine tr_ret ?_
        have h := Option.some.inj h
        subst h
        exact q_ret0 hT (.v (.one (.bool false))) rfl (by kernel_rfl)
    · clear h e18
      intro k ih1 hx1 z h
      obtain ⟨m12, i13⟩ := z
      replace h : (if (decide (i13 < (19 : Int))) = true then (field_Mul m12 a_0).bind (fun a15 => law04_FieldFermat_l1 a_0 m8 k a15 (IntKind.i64.wrap (i13 + (1 : Int)))) else some m12) = _ := h
      refine tr_seq ?_
      refine tr_seq ?_
      refine tr_reg hT [] [.s 1, .s 3, .s 5, .s 6, .s 19, .h 0, .h 1, .h 2] [sO 1 (.ptr 0 0), sO 3 (.ptr 1 0), sO 5 (.ptr 2 0), sI 6 .i64 i13, sB 19 (decide (i13 < (19 : Int))), hB 0 22 [.arr .u8 32 a_0], hB 1 22 [.arr .u8 32 m8], hB 2 22 [.arr .u8 32 m12]] [] (by kernel_rfl) trivial ?_
      refine q_k ?_
      rcases ite_split h with ⟨hc14, h⟩ | ⟨hc14, h⟩
      · refine tr_cond_t (decide (i13 < (19 : Int))) (by kernel_rfl) hc14 ?_
        refine tr_skip ?_
        refine q_k ?_
        refine tr_seq ?_
        refine tr_block ?_
        obtain ⟨a15, e16, h⟩ := bind_some h
        refine tr_reg hT [(2, .call (.v (.agg [.arr .u8 32 a15])) [])] [.s 1, .s 3, .s 5, .s 6, .h 0, .h 1, .h 2] [sO 1 (.ptr 0 0), sO 3 (.ptr 1 0), sO 5 (.ptr 2 0), sI 6 .i64 i13, hB 0 22 [.arr .u8 32 a_0], hB 1 22 [.arr .u8 32 m8], hB 2 22 [.arr .u8 32 a15]] [CallOk P 34 [.v (.agg [.arr .u8 32 m12]), .v (.agg [.arr .u8 32 a_0])] [] (.v (.agg [.arr .u8 32 a15])) []] (by kernel_rfl) (hone (field_Mul_ok m12 a_0 a15 e16)) ?_
        refine q_b 3 ?_
        refine q_k ?_
        refine tr_reg hT [] [.s 1, .s 3, .s 5, .s 6, .h 0, .h 1, .h 2] [sO 1 (.ptr 0 0), sO 3 (.ptr 1 0), sO 5 (.ptr 2 0), sI 6 .i64 (IntKind.i64.wrap (i13 + (1 : Int))), hB 0 22 [.arr .u8 32 a_0], hB 1 22 [.arr .u8 32 m8], hB 2 22 [.arr .u8 32 a15]] [] (by kernel_rfl) trivial ?_
        refine q_kr ?_
        exact trR_less [.s 1, .s 3, .s 5, .s 6, .h 0, .h 1, .h 2] [sO 1 (.ptr 0 0), sO 3 (.ptr 1 0), sO 5 (.ptr 2 0), sI 6 .i64 (IntKind.i64.wrap (i13 + (1 : Int))), hB 0 22 [.arr .u8 32 a_0], hB 1 22 [.arr .u8 32 m8], hB 2 22 [.arr .u8 32 a15]] (by kernel_rfl) (ih1 (a15, (IntKind.i64.wrap (i13 + (1 : Int)))) h)
      · refine tr_cond_f (decide (i13 < (19 : Int))) (by kernel_rfl) hc14 ?_
        refine tr_exit ?_
        refine q_k_exit ?_
        refine q_kr_exit ?_
        have h := Option.some.inj h
        subst h
        exact q_less [.s 3, .s 5, .h 1, .h 2] [sO 3 (.ptr 1 0), sO 5 (.ptr 2 0), hB 1 22 [.arr .u8 32 m8], hB 2 22 [.arr .u8 32 m12]] (by kernel_rfl) hx1
  · clear h e9
    intro k ih0 hx0 z h
    obtain ⟨m3, i4⟩ := z
    replace h : (if (decide (i4 < (255 : Int))) = true then (field_Mul m3 m3).bind (fun a6 => law04_FieldFermat_l0 a_0 k a6 (IntKind.i64.wrap (i4 + (1 : Int)))) else some m3) = _ := h
    refine tr_seq ?_
    refine tr_seq ?_
    refine tr_reg hT [] [.s 1, .s 3, .s 4, .s 10, .h 0, .h 1] [sO 1 (.ptr 0 0), sO 3 (.ptr 1 0), sI 4 .i64 i4, sB 10 (decide (i4 < (255 : Int))), hB 0 22 [.arr .u8 32 a_0], hB 1 22 [.arr .u8 32 m3]] [] (by kernel_rfl) trivial ?_
    refine q_k ?_
    rcases ite_split h with ⟨hc5, h⟩ | ⟨hc5, h⟩
    · refine tr_cond_t (decide (i4 < (255 : Int))) (by kernel_rfl) hc5 ?_
      refine tr_skip ?_
      refine q_k ?_
      refine tr_seq ?_
      refine tr_block ?_
      obtain ⟨a6, e7, h⟩ := bind_some h
      refine tr_reg hT [(2, .call (.v (.agg [.arr .u8 32 a6])) [])] [.s 1, .s 3, .s 4, .h 0, .h 1] [sO 1 (.ptr 0 0), sO 3 (.ptr 1 0), sI 4 .i64 i4, hB 0 22 [.arr .u8 32 a_0], hB 1 22 [.arr .u8 32 a6]] [CallOk P 34 [.v (.agg [.arr .u8 32 m3]), .v (.agg [.arr .u8 32 m3])] [] (.v (.agg [.arr .u8 32 a6])) []] (by kernel_rfl) (hone (field_Mul_ok m3 m3 a6 e7)) ?_
      refine q_b 1 ?_
      refine q_k ?_
      refine tr_reg hT [] [.s 1, .s 3, .s 4, .h 0, .h 1] [sO 1 (.ptr 0 0), sO 3 (.ptr 1 0), sI 4 .i64 (IntKind.i64.wrap (i4 + (1 : Int))), hB 0 22 [.arr .u8 32 a_0], hB 1 22 [.arr .u8 32 a6]] [] (by kernel_rfl) trivial ?_
      refine q_kr ?_
      exact trR_less [.s 1, .s 3, .s 4, .h 0, .h 1] [sO 1 (.ptr 0 0), sO 3 (.ptr 1 0), sI 4 .i64 (IntKind.i64.wrap (i4 + (1 : Int))), hB 0 22 [.arr .u8 32 a_0], hB 1 22 [.arr .u8 32 a6]] (by kernel_rfl) (ih0 (a6, (IntKind.i64.wrap (i4 + (1 : Int)))) h)
    · refine tr_cond_f (decide (i4 < (255 : Int))) (by kernel_rfl) hc5 ?_
      refine tr_exit ?_
      refine q_k_exit ?_
      refine q_kr_exit ?_
      have h := Option.some.inj h
      subst h
      exact q_less [.s 1, .s 3, .h 0, .h 1] [sO 1 (.ptr 0 0), sO 3 (.ptr 1 0), hB 0 22 [.arr .u8 32 a_0], hB 1 22 [.arr .u8 32 m3]] (by kernel_rfl) hx0

theorem ref04_Of_ok (b_0 : List Int) (r : List Int) (h : ref04_Of b_0 = some r) {pre : List (Nat × Ent)} : CallOk P 44 [.v (.agg [.arr .u8 32 b_0])] pre (.v (.agg [.arr .u64 4 r])) [] := by
  refine call0 (N := 25) Try.func44 (by kernel_rfl) rfl rfl rfl pre ?_
  intro _ w
  show Tr P w.heap.size 25 w _ _ (RetQ P Try.f44 (R0 _ w))
  unfold ref04_Of at h
  refine tr_seq ?_
  refine tr_reg hT [(0, .key 0), (1, .key 1)] [.s 1, .s 2, .h 0, .h 1] [sO 1 (.ptr 0 0), sO 2 (.ptr 1 0), hB 0 22 [.arr .u8 32 b_0], hB 1 31 [.arr .u64 4 (List.replicate 4 0)]] [] (by kernel_rfl) trivial ?_
  refine q_k ?_
  refine tr_seq ?_
  refine tr_reg hT [(0, .key 2)] [.s 1, .s 2, .s 3, .h 0, .h 1, .h 2] [sO 1 (.ptr 0 0), sO 2 (.ptr 1 0), sO 3 (.ptr 2 0), hB 0 22 [.arr .u8 32 b_0], hB 1 31 [.arr .u64 4 (List.replicate 4 0)], hB 2 31 [.arr .u64 4 (List.replicate 4 0)]] [] (by kernel_rfl) trivial ?_
  refine q_k ?_
  refine tr_seq ?_
  refine tr_seq ?_
  refine tr_reg hT [] [.s 1, .s 2, .s 3, .s 4, .h 0, .h 1, .h 2] [sO 1 (.ptr 0 0), sO 2 (.ptr 1 0), sO 3 (.ptr 2 0), sI 4 .i64 (0 : Int), hB 0 22 [.arr .u8 32 b_0], hB 1 31 [.arr .u64 4 (List.replicate 4 0)], hB 2 31 [.arr .u64 4 (List.replicate 4 0)]] [] (by kernel_rfl) trivial ?_
  refine q_k ?_
  refine tr_block ?_
  obtain ⟨m8, e9, h⟩ := bind_some h
  refine tr_less [.s 1, .s 2, .s 3, .s 4, .h 0, .h 1, .h 2] [sO 1 (.ptr 0 0), sO 2 (.ptr 1 0), sO 3 (.ptr 2 0), sI 4 .i64 (0 : Int), hB 0 22 [.arr .u8 32 b_0], hB 1 31 [.arr .u64 4 (List.replicate 4 0)], hB 2 31 [.arr .u64 4 (List.replicate 4 0)]] (by kernel_rfl) ?_
  refine tr_loop_fuel (id := 0) (α := List Int × Int) (β := List Int) (fun z => [sO 1 (.ptr 0 0), sO 2 (.ptr 1 0), sO 3 (.ptr 2 0), sI 4 .i64 z.2, hB 0 22 [.arr .u8 32 b_0], hB 1 31 [.arr .u64 4 (List.replicate 4 0)], hB 2 31 [.arr .u64 4 z.1]]) (fun z => [sO 2 (.ptr 1 0), sO 3 (.ptr 2 0), hB 1 31 [.arr .u64 4 (List.replicate 4 0)], hB 2 31 [.arr .u64 4 z]]) (fun k z => ref04_Of_l0 b_0 k z.1 z.2) m8 (fun _ => rfl) (((32 : Int) - (0 : Int)).toNat + 1) ((List.replicate 4 0), (0 : Int)) e9 ?_ ?_
  · skip
    replace h : (some m8) = _ := h
    refine q_b_this ?_
    refine q_k ?_
    refine tr_seq ?_
    refine tr_reg hT [] [.s 2, .h 1] [sO 2 (.ptr 1 0), hB 1 31 [.arr .u64 4 m8]] [] (by kernel_rfl) trivial ?_
    refine q_k ?_
    refine tr_ret ?_
    have h := Option.some.inj h
    subst h
    exact q_ret0 hT (.v (.agg [.arr .u64 4 m8])) rfl (by kernel_rfl)
  · clear h e9
    intro k ih0 hx0 z h
    obtain ⟨m1, i2⟩ := z
    replace h : (if (decide (i2 < (32 : Int))) = true then if 0 ≤ (IntKind.i64.wrap (i2.tdiv (8 : Int))) ∧ (IntKind.i64.wrap (i2.tdiv (8 : Int))) < ((4 : Nat) : Int) then if 0 ≤ i2 ∧ i2 < ((32 : Nat) : Int) then if 0 ≤ (IntKind.u64.wrap (IntKind.i64.wrap ((8 : Int) * (i2.tmod (8 : Int))))) then if 0 ≤ (IntKind.i64.wrap (i2.tdiv (8 : Int))) ∧ (IntKind.i64.wrap (i2.tdiv (8 : Int))) < ((4 : Nat) : Int) then ref04_Of_l0 b_0 k (m1.set (IntKind.i64.wrap (i2.tdiv (8 : Int))).toNat (bor .u64 (m1.getD (IntKind.i64.wrap (i2.tdiv (8 : Int))).toNat 0) (shl .u64 (IntKind.u64.wrap (b_0.getD i2.toNat 0)) (IntKind.u64.wrap (IntKind.i64.wrap ((8 : Int) * (i2.tmod (8 : Int)))))))) (IntKind.i64.wrap (i2 + (1 : Int))) else none else none else none else none else some m1) = _ := h
    refine tr_seq ?_
    refine tr_seq ?_
    refine tr_reg hT [] [.s 1, .s 2, .s 3, .s 4, .s 6, .h 0, .h 1, .h 2] [sO 1 (.ptr 0 0), sO 2 (.ptr 1 0), sO 3 (.ptr 2 0), sI 4 .i64 i2, sB 6 (decide (i2 < (32 : Int))), hB 0 22 [.arr .u8 32 b_0], hB 1 31 [.arr .u64 4 (List.replicate 4 0)], hB 2 31 [.arr .u64 4 m1]] [] (by kernel_rfl) trivial ?_
    refine q_k ?_
    rcases ite_split h with ⟨hc3, h⟩ | ⟨hc3, h⟩
    · refine tr_cond_t (decide (i2 < (32 : Int))) (by kernel_rfl) hc3 ?_
      refine tr_skip ?_
      refine q_k ?_
      refine tr_seq ?_
      refine tr_block ?_
      obtain ⟨hn4, h⟩ := ite_some h
      obtain ⟨hn5, h⟩ := ite_some h
      obtain ⟨hn6, h⟩ := ite_some h
      obtain ⟨hn7, h⟩ := ite_some h
      refine tr_regd hT hM [] [.s 1, .s 2, .s 3, .s 4, .h 0, .h 1, .h 2] [sO 1 (.ptr 0 0), sO 2 (.ptr 1 0), sO 3 (.ptr 2 0), sI 4 .i64 i2, hB 0 22 [.arr .u8 32 b_0], hB 1 31 [.arr .u64 4 (List.replicate 4 0)], hB 2 31 [.arr .u64 4 (m1.set (IntKind.i64.wrap (i2.tdiv (8 : Int))).toNat (bor .u64 (m1.getD (IntKind.i64.wrap (i2.tdiv (8 : Int))).toNat 0) (shl .u64 (IntKind.u64.wrap (b_0.getD i2.toNat 0)) (IntKind.u64.wrap (IntKind.i64.wrap ((8 : Int) * (i2.tmod (8 : Int))))))))]] [(8 : Int) ≠ 0, 0 ≤ (IntKind.i64.wrap (i2.tdiv (8 : Int))) ∧ (IntKind.i64.wrap (i2.tdiv (8 : Int))) < ((4 : Nat) : Int), 0 ≤ i2 ∧ i2 < ((32 : Nat) : Int), (8 : Int) ≠ 0, 0 ≤ (IntKind.u64.wrap (IntKind.i64.wrap ((8 : Int) * (i2.tmod (8 : Int))))), 0 ≤ (IntKind.i64.wrap (i2.tdiv (8 : Int))) ∧ (IntKind.i64.wrap (i2.tdiv (8 : Int))) < ((4 : Nat) : Int)] (by kernel_rfl) (hcons (by decide) (hcons hn4 (hcons hn5 (hcons (by decide) (hcons hn6 (hone hn7)))))) ?_
      refine q_b 1 ?_
      refine q_k ?_
      refine tr_reg hT [] [.s 1, .s 2, .s 3, .s 4, .h 0, .h 1, .h 2] [sO 1 (.ptr 0 0), sO 2 (.ptr 1 0), sO 3 (.ptr 2 0), sI 4 .i64 (IntKind.i64.wrap (i2 + (1 : Int))), hB 0 22 [.arr .u8 32 b_0], hB 1 31 [.arr .u64 4 (List.replicate 4 0)], hB 2 31 [.arr .u64 4 (m1.set (IntKind.i64.wrap (i2.tdiv (8 : Int))).toNat (bor .u64 (m1.getD (IntKind.i64.wrap (i2.tdiv (8 : Int))).toNat 0) (shl .u64 (IntKind.u64.wrap (b_0.getD i2.toNat 0)) (IntKind.u64.wrap (IntKind.i64.wrap ((8 : Int) * (i2.tmod (8 : Int))))))))]] [] (by kernel_rfl) trivial ?_
      refine q_kr ?_
      exact trR_less [.s 1, .s 2, .s 3, .s 4, .h 0, .h 1, .h 2] [sO 1 (.ptr 0 0), sO 2 (.ptr 1 0), sO 3 (.ptr 2 0), sI 4 .i64 (IntKind.i64.wrap (i2 + (1 : Int))), hB 0 22 [.arr .u8 32 b_0], hB 1 31 [.arr .u64 4 (List.replicate 4 0)], hB 2 31 [.arr .u64 4 (m1.set (IntKind.i64.wrap (i2.tdiv (8 : Int))).toNat (bor .u64 (m1.getD (IntKind.i64.wrap (i2.tdiv (8 : Int))).toNat 0) (shl .u64 (IntKind.u64.wrap (b_0.getD i2.toNat 0)) (IntKind.u64.wrap (IntKind.i64.wrap ((8 : Int) * (i2.tmod (8 : Int))))))))]] (by kernel_rfl) (ih0 ((m1.set (IntKind.i64.wrap (i2.tdiv (8 : Int))).toNat (bor .u64 (m1.getD (IntKind.i64.wrap (i2.tdiv (8 : Int))).toNat 0) (shl .u64 (IntKind.u64.wrap (b_0.getD i2.toNat 0)) (IntKind.u64.wrap (IntKind.i64.wrap ((8 : Int) * (i2.tmod (8 : Int)))))))), (IntKind.i64.wrap (i2 + (1 : Int)))) h)
    · refine tr_cond_f (decide (i2 < (32 : Int))) (by kernel_rfl) hc3 ?_
      refine tr_exit ?_
      refine q_k_exit ?_
      refine q_kr_exit ?_
      have h := Option.some.inj h
      subst h
      exact q_less [.s 2, .s 3, .h 1, .h 2] [sO 2 (.ptr 1 0), sO 3 (.ptr 2 0), hB 1 31 [.arr .u64 4 (List.replicate 4 0)], hB 2 31 [.arr .u64 4 m1]] (by kernel_rfl) hx0

theorem ref04_sub_ok (a_0 : List Int) (b_1 : List Int) (r : List Int × Int) (h : ref04_sub a_0 b_1 = some r) {pre : List (Nat × Ent)} : CallOk P 81 [.v (.agg [.arr .u64 4 a_0]), .v (.agg [.arr .u64 4 b_1])] pre (.tup [.agg [.arr .u64 4 r.1], .one (.int .u64 r.2)]) [] := by
  refine call0 (N := 28) Try.func81 (by kernel_rfl) rfl rfl rfl pre ?_
  intro _ w
  show Tr P w.heap.size 28 w _ _ (RetQ P Try.f81 (R0 _ w))
  unfold ref04_sub at h
  refine tr_seq ?_
  refine tr_reg hT [(0, .key 0), (1, .key 1), (2, .key 2)] [.s 2, .s 3, .s 4, .h 0, .h 1, .h 2] [sO 2 (.ptr 0 0), sO 3 (.ptr 1 0), sO 4 (.ptr 2 0), hB 0 31 [.arr .u64 4 a_0], hB 1 31 [.arr .u64 4 b_1], hB 2 31 [.arr .u64 4 (List.replicate 4 0)]] [] (by kernel_rfl) trivial ?_
  refine q_k ?_
  refine tr_seq ?_
  refine tr_reg hT [] [.s 2, .s 3, .s 4, .s 6, .h 0, .h 1, .h 2] [sO 2 (.ptr 0 0), sO 3 (.ptr 1 0), sO 4 (.ptr 2 0), sI 6 .u64 (0 : Int), hB 0 31 [.arr .u64 4 a_0], hB 1 31 [.arr .u64 4 b_1], hB 2 31 [.arr .u64 4 (List.replicate 4 0)]] [] (by kernel_rfl) trivial ?_
  refine q_k ?_
  refine tr_seq ?_
  refine tr_reg hT [(0, .key 3)] [.s 2, .s 3, .s 4, .s 6, .s 7, .h 0, .h 1, .h 2, .h 3] [sO 2 (.ptr 0 0), sO 3 (.ptr 1 0), sO 4 (.ptr 2 0), sI 6 .u64 (0 : Int), sO 7 (.ptr 3 0), hB 0 31 [.arr .u64 4 a_0], hB 1 31 [.arr .u64 4 b_1], hB 2 31 [.arr .u64 4 (List.replicate 4 0)], hB 3 31 [.arr .u64 4 (List.replicate 4 0)]] [] (by kernel_rfl) trivial ?_
  refine q_k ?_
  refine tr_seq ?_
  refine tr_seq ?_
  refine tr_reg hT [] [.s 2, .s 3, .s 4, .s 6, .s 7, .s 8, .h 0, .h 1, .h 2, .h 3] [sO 2 (.ptr 0 0), sO 3 (.ptr 1 0), sO 4 (.ptr 2 0), sI 6 .u64 (0 : Int), sO 7 (.ptr 3 0), sI 8 .i64 (0 : Int), hB 0 31 [.arr .u64 4 a_0], hB 1 31 [.arr .u64 4 b_1], hB 2 31 [.arr .u64 4 (List.replicate 4 0)], hB 3 31 [.arr .u64 4 (List.replicate 4 0)]] [] (by kernel_rfl) trivial ?_
  refine q_k ?_
  refine tr_block ?_
  obtain ⟨rr0, e14, h⟩ := bind_some h
  refine tr_less [.s 2, .s 3, .s 4, .s 6, .s 7, .s 8, .h 0, .h 1, .h 2, .h 3] [sO 2 (.ptr 0 0), sO 3 (.ptr 1 0), sO 4 (.ptr 2 0), sI 6 .u64 (0 : Int), sO 7 (.ptr 3 0), sI 8 .i64 (0 : Int), hB 0 31 [.arr .u64 4 a_0], hB 1 31 [.arr .u64 4 b_1], hB 2 31 [.arr .u64 4 (List.replicate 4 0)], hB 3 31 [.arr .u64 4 (List.replicate 4 0)]] (by kernel_rfl) ?_
  refine tr_loop_fuel (id := 0) (α := List Int × Int × Int) (β := List Int × Int) (fun z => [sO 2 (.ptr 0 0), sO 3 (.ptr 1 0), sO 4 (.ptr 2 0), sI 6 .u64 z.2.1, sO 7 (.ptr 3 0), sI 8 .i64 z.2.2, hB 0 31 [.arr .u64 4 a_0], hB 1 31 [.arr .u64 4 b_1], hB 2 31 [.arr .u64 4 (List.replicate 4 0)], hB 3 31 [.arr .u64 4 z.1]]) (fun z => [sO 4 (.ptr 2 0), sI 6 .u64 z.2, sO 7 (.ptr 3 0), hB 2 31 [.arr .u64 4 (List.replicate 4 0)], hB 3 31 [.arr .u64 4 z.1]]) (fun k z => ref04_sub_l0 a_0 b_1 k z.1 z.2.1 z.2.2) rr0 (fun _ => rfl) (((4 : Int) - (0 : Int)).toNat + 1) ((List.replicate 4 0), (0 : Int), (0 : Int)) e14 ?_ ?_
  · rcases rr0 with ⟨m12, c13⟩
    replace h : (some (m12, c13)) = _ := h
    refine q_b_this ?_
    refine q_k ?_
    refine tr_seq ?_
    refine tr_reg hT [] [.s 4, .s 5, .h 2] [sO 4 (.ptr 2 0), sI 5 .u64 c13, hB 2 31 [.arr .u64 4 m12]] [] (by kernel_rfl) trivial ?_
    refine q_k ?_
    refine tr_ret ?_
    have h := Option.some.inj h
    subst h
    exact q_ret0 hT (.tup [.agg [.arr .u64 4 m12], .one (.int .u64 c13)]) rfl (by kernel_rfl)
  · clear h e14
    intro k ih0 hx0 z h
    obtain ⟨m1, c2, i3⟩ := z
    replace h : (if (decide (i3 < (4 : Int))) = true then if 0 ≤ i3 ∧ i3 < ((4 : Nat) : Int) then if 0 ≤ i3 ∧ i3 < ((4 : Nat) : Int) then (sub64 (a_0.getD i3.toNat 0) (b_1.getD i3.toNat 0) c2).bind (fun (r7, r8) => if 0 ≤ i3 ∧ i3 < ((4 : Nat) : Int) then ref04_sub_l0 a_0 b_1 k (m1.set i3.toNat r7) r8 (IntKind.i64.wrap (i3 + (1 : Int))) else none) else none else none else some (m1, c2)) = _ := h
    refine tr_seq ?_
    refine tr_seq ?_
    refine tr_reg hT [] [.s 2, .s 3, .s 4, .s 6, .s 7, .s 8, .s 10, .h 0, .h 1, .h 2, .h 3] [sO 2 (.ptr 0 0), sO 3 (.ptr 1 0), sO 4 (.ptr 2 0), sI 6 .u64 c2, sO 7 (.ptr 3 0), sI 8 .i64 i3, sB 10 (decide (i3 < (4 : Int))), hB 0 31 [.arr .u64 4 a_0], hB 1 31 [.arr .u64 4 b_1], hB 2 31 [.arr .u64 4 (List.replicate 4 0)], hB 3 31 [.arr .u64 4 m1]] [] (by kernel_rfl) trivial ?_
    refine q_k ?_
    rcases ite_split h with ⟨hc4, h⟩ | ⟨hc4, h⟩
    · refine tr_cond_t (decide (i3 < (4 : Int))) (by kernel_rfl) hc4 ?_
      refine tr_skip ?_
      refine q_k ?_
      refine tr_seq ?_
      refine tr_block ?_
      obtain ⟨hn5, h⟩ := ite_some h
      obtain ⟨hn6, h⟩ := ite_some h
      obtain ⟨⟨r7, r8⟩, e9, h⟩ := bind_some h
      obtain ⟨hn11, h⟩ := ite_some h
      refine tr_regd hT hM [(8, .call (.tup [.one (.int .u64 r7), .one (.int .u64 r8)]) [])] [.s 2, .s 3, .s 4, .s 6, .s 7, .s 8, .h 0, .h 1, .h 2, .h 3] [sO 2 (.ptr 0 0), sO 3 (.ptr 1 0), sO 4 (.ptr 2 0), sI 6 .u64 r8, sO 7 (.ptr 3 0), sI 8 .i64 i3, hB 0 31 [.arr .u64 4 a_0], hB 1 31 [.arr .u64 4 b_1], hB 2 31 [.arr .u64 4 (List.replicate 4 0)], hB 3 31 [.arr .u64 4 (m1.set i3.toNat r7)]] [0 ≤ i3 ∧ i3 < ((4 : Nat) : Int), 0 ≤ i3 ∧ i3 < ((4 : Nat) : Int), CallOk P 101 [.v (.one (.int .u64 (a_0.getD i3.toNat 0))), .v (.one (.int .u64 (b_1.getD i3.toNat 0))), .v (.one (.int .u64 c2))] [] (.tup [.one (.int .u64 r7), .one (.int .u64 r8)]) [], 0 ≤ i3 ∧ i3 < ((4 : Nat) : Int)] (by kernel_rfl) (hcons hn5 (hcons hn6 (hcons (bits_Sub64_ok (a_0.getD i3.toNat 0) (b_1.getD i3.toNat 0) c2 (r7, r8) e9) (hone hn11)))) ?_
      refine q_b 1 ?_
      refine q_k ?_
      refine tr_reg hT [] [.s 2, .s 3, .s 4, .s 6, .s 7, .s 8, .h 0, .h 1, .h 2, .h 3] [sO 2 (.ptr 0 0), sO 3 (.ptr 1 0), sO 4 (.ptr 2 0), sI 6 .u64 r8, sO 7 (.ptr 3 0), sI 8 .i64 (IntKind.i64.wrap (i3 + (1 : Int))), hB 0 31 [.arr .u64 4 a_0], hB 1 31 [.arr .u64 4 b_1], hB 2 31 [.arr .u64 4 (List.replicate 4 0)], hB 3 31 [.arr .u64 4 (m1.set i3.toNat r7)]] [] (by kernel_rfl) trivial ?_
      refine q_kr ?_
      exact trR_less [.s 2, .s 3, .s 4, .s 6, .s 7, .s 8, .h 0, .h 1, .h 2, .h 3] [sO 2 (.ptr 0 0), sO 3 (.ptr 1 0), sO 4 (.ptr 2 0), sI 6 .u64 r8, sO 7 (.ptr 3 0), sI 8 .i64 (IntKind.i64.wrap (i3 + (1 : Int))), hB 0 31 [.arr .u64 4 a_0], hB 1 31 [.arr .u64 4 b_1], hB 2 31 [.arr .u64 4 (List.replicate 4 0)], hB 3 31 [.arr .u64 4 (m1.set i3.toNat r7)]] (by kernel_rfl) (ih0 ((m1.set i3.toNat r7), r8, (IntKind.i64.wrap (i3 + (1 : Int)))) h)
    · refine tr_cond_f (decide (i3 < (4 : Int))) (by kernel_rfl) hc4 ?_
      refine tr_exit ?_
      refine q_k_exit ?_
      refine q_kr_exit ?_
      have h := Option.some.inj h
      subst h
      exact q_less [.s 4, .s 6, .s 7, .h 2, .h 3] [sO 4 (.ptr 2 0), sI 6 .u64 c2, sO 7 (.ptr 3 0), hB 2 31 [.arr .u64 4 (List.replicate 4 0)], hB 3 31 [.arr .u64 4 m1]] (by kernel_rfl) hx0

theorem ref04_less_ok (a_0 : List Int) (b_1 : List Int) (r : Bool) (h : ref04_less a_0 b_1 = some r) {pre : List (Nat × Ent)} : CallOk P 75 [.v (.agg [.arr .u64 4 a_0]), .v (.agg [.arr .u64 4 b_1])] pre (.v (.one (.bool r))) [] := by
  refine call0 (N := 15) Try.func75 (by kernel_rfl) rfl rfl rfl pre ?_
  intro _ w
  show Tr P w.heap.size 15 w _ _ (RetQ P Try.f75 (R0 _ w))
  unfold ref04_less at h
  refine tr_seq ?_
  refine tr_reg hT [(0, .key 0), (1, .key 1)] [.s 2, .s 3, .h 0, .h 1] [sO 2 (.ptr 0 0), sO 3 (.ptr 1 0), hB 0 31 [.arr .u64 4 a_0], hB 1 31 [.arr .u64 4 b_1]] [] (by kernel_rfl) trivial ?_
  refine q_k ?_
  refine tr_seq ?_
  obtain ⟨⟨a1, r2⟩, e3, h⟩ := bind_some h
  refine tr_reg hT [(2, .call (.tup [.agg [.arr .u64 4 a1], .one (.int .u64 r2)]) []), (6, .key 2)] [.s 6] [sI 6 .u64 r2] [CallOk P 81 [.v (.agg [.arr .u64 4 a_0]), .v (.agg [.arr .u64 4 b_1])] [] (.tup [.agg [.arr .u64 4 a1], .one (.int .u64 r2)]) []] (by kernel_rfl) (hone (ref04_sub_ok a_0 b_1 (a1, r2) e3)) ?_
  refine q_k ?_
  refine tr_seq ?_
  refine tr_reg hT [] [.s 4] [sB 4 (r2 == (1 : Int))] [] (by kernel_rfl) trivial ?_
  refine q_k ?_
  refine tr_ret ?_
  have h := Option.some.inj h
  subst h
  exact q_ret0 hT (.v (.one (.bool (r2 == (1 : Int))))) rfl (by kernel_rfl)

end Go.Proofs.Sb
