/- Walks, printed by a program of this session (gowalk.py): each Go function comes to its plain function's answer. -/
import Derived.Test.YtdcdanfeepncmaaSbA
import Derived.Test.YtdcdanfeepncmaaSbD
import Derived.Test.YtdcdanfeepncmaaSbI
import Derived.Test.YtdcdanfeepncmaaSbV0
namespace Go.Proofs.Sb
open Go Go.Gw D
set_option linter.unusedVariables false
set_option maxRecDepth 20000

theorem ref04_Bytes_ok (n_0 : List Int) (r : List Int) (h : ref04_Bytes n_0 = some r) {pre : List (Nat × Ent)} : CallOk P 29 [.v (.agg [.arr .u64 4 n_0])] pre (.v (.agg [.arr .u8 32 r])) [] := by
  refine call0 (N := 22) Try.func29 (by kernel_rfl) rfl rfl rfl pre ?_
  intro _ w
  show Tr P (Ge w) 22 _ _ _ (RetQ P Try.f29 (R0 _ w))
  unfold ref04_Bytes at h
  refine tr_seq ?_
  refine tr_reg hT [(0, .key 0), (1, .key 1)] [.s 1, .s 2, .h 0, .h 1] [sO 1 (.ptr 0 0), sO 2 (.ptr 1 0), hB 0 31 [.arr .u64 4 n_0], hB 1 22 [.arr .u8 32 (List.replicate 32 0)]] [] (by kernel_rfl) trivial ?_
  refine q_k ?_
  refine tr_seq ?_
  refine tr_reg hT [(0, .key 2)] [.s 1, .s 2, .s 3, .h 0, .h 1, .h 2] [sO 1 (.ptr 0 0), sO 2 (.ptr 1 0), sO 3 (.ptr 2 0), hB 0 31 [.arr .u64 4 n_0], hB 1 22 [.arr .u8 32 (List.replicate 32 0)], hB 2 22 [.arr .u8 32 (List.replicate 32 0)]] [] (by kernel_rfl) trivial ?_
  refine q_k ?_
  refine tr_seq ?_
  refine tr_seq ?_
  refine tr_reg hT [] [.s 1, .s 2, .s 3, .s 4, .h 0, .h 1, .h 2] [sO 1 (.ptr 0 0), sO 2 (.ptr 1 0), sO 3 (.ptr 2 0), sI 4 .i64 (0 : Int), hB 0 31 [.arr .u64 4 n_0], hB 1 22 [.arr .u8 32 (List.replicate 32 0)], hB 2 22 [.arr .u8 32 (List.replicate 32 0)]] [] (by kernel_rfl) trivial ?_
  refine q_k ?_
  refine tr_block ?_
  obtain ⟨m3, e8, h⟩ := bind_some h
  refine tr_fit [] [sO 1 (.ptr 0 0), sO 2 (.ptr 1 0), sO 3 (.ptr 2 0), sI 4 .i64 (0 : Int), hB 0 31 [.arr .u64 4 n_0], hB 1 22 [.arr .u8 32 (List.replicate 32 0)], hB 2 22 [.arr .u8 32 (List.replicate 32 0)]] [(0, .blk 31 [.arr .u64 4 n_0]), (1, .blk 22 [.arr .u8 32 (List.replicate 32 0)]), (2, .blk 22 [.arr .u8 32 (List.replicate 32 0)])] (by kernel_rfl) (by kernel_rfl) (by kernel_rfl) rfl ⟨.blk (by kernel_rfl) (by kernel_rfl), .blk (by kernel_rfl) (by kernel_rfl), .blk (by kernel_rfl) (by kernel_rfl), trivial⟩ (by kernel_rfl) ?_
  refine tr_loop_fuel (id := 0) (α := List Int × Int) (β := List Int) (fun z => [sO 1 (.ptr 0 0), sO 2 (.ptr 1 0), sO 3 (.ptr 2 0), sI 4 .i64 z.2, hB 0 31 [.arr .u64 4 n_0], hB 1 22 [.arr .u8 32 (List.replicate 32 0)], hB 2 22 [.arr .u8 32 z.1]]) (fun z => [sO 2 (.ptr 1 0), sO 3 (.ptr 2 0), hB 1 22 [.arr .u8 32 (List.replicate 32 0)], hB 2 22 [.arr .u8 32 z]]) (fun k z => ref04_Bytes_l0 n_0 k z.1 z.2) m3 (fun _ => rfl) (((32 : Int) - (0 : Int)).toNat + 1) ((List.replicate 32 0), (0 : Int)) e8 ?_ ?_
  · skip
    replace h : (some m3) = _ := h
    refine q_b_this ?_
    refine q_k ?_
    refine tr_seq ?_
    refine tr_reg hT [] [.s 2, .h 1] [sO 2 (.ptr 1 0), hB 1 22 [.arr .u8 32 m3]] [] (by kernel_rfl) trivial ?_
    refine q_k ?_
    refine tr_ret ?_
    have h := Option.some.inj h
    subst h
    exact q_ret0 hT (.v (.agg [.arr .u8 32 m3])) rfl (by kernel_rfl)
  · clear h e8
    intro k ih0 hx0 z h
    obtain ⟨m1, i2⟩ := z
    replace h : (if (decide (i2 < (32 : Int))) = true then if 0 ≤ (IntKind.i64.wrap (i2.tdiv (8 : Int))) ∧ (IntKind.i64.wrap (i2.tdiv (8 : Int))) < ((4 : Nat) : Int) then if 0 ≤ (IntKind.u64.wrap (IntKind.i64.wrap ((8 : Int) * (i2.tmod (8 : Int))))) then if 0 ≤ i2 ∧ i2 < ((32 : Nat) : Int) then ref04_Bytes_l0 n_0 k (m1.set i2.toNat (IntKind.u8.wrap (shr .u64 (n_0.getD (IntKind.i64.wrap (i2.tdiv (8 : Int))).toNat 0) (IntKind.u64.wrap (IntKind.i64.wrap ((8 : Int) * (i2.tmod (8 : Int)))))))) (IntKind.i64.wrap (i2 + (1 : Int))) else none else none else none else some m1) = _ := h
    refine tr_seq ?_
    refine tr_seq ?_
    refine tr_reg hT [] [.s 1, .s 2, .s 3, .s 4, .s 6, .h 0, .h 1, .h 2] [sO 1 (.ptr 0 0), sO 2 (.ptr 1 0), sO 3 (.ptr 2 0), sI 4 .i64 i2, sB 6 (decide (i2 < (32 : Int))), hB 0 31 [.arr .u64 4 n_0], hB 1 22 [.arr .u8 32 (List.replicate 32 0)], hB 2 22 [.arr .u8 32 m1]] [] (by kernel_rfl) trivial ?_
    refine q_k ?_
    rcases ite_split h with ⟨hc4, h⟩ | ⟨hc4, h⟩
    · refine tr_cond_t (decide (i2 < (32 : Int))) (by kernel_rfl) hc4 ?_
      refine tr_skip ?_
      refine q_k ?_
      refine tr_seq ?_
      refine tr_block ?_
      obtain ⟨hn5, h⟩ := ite_some h
      obtain ⟨hn6, h⟩ := ite_some h
      obtain ⟨hn7, h⟩ := ite_some h
      refine tr_reg hT [] [.s 1, .s 2, .s 3, .s 4, .h 0, .h 1, .h 2] [sO 1 (.ptr 0 0), sO 2 (.ptr 1 0), sO 3 (.ptr 2 0), sI 4 .i64 i2, hB 0 31 [.arr .u64 4 n_0], hB 1 22 [.arr .u8 32 (List.replicate 32 0)], hB 2 22 [.arr .u8 32 (m1.set i2.toNat (IntKind.u8.wrap (shr .u64 (n_0.getD (IntKind.i64.wrap (i2.tdiv (8 : Int))).toNat 0) (IntKind.u64.wrap (IntKind.i64.wrap ((8 : Int) * (i2.tmod (8 : Int))))))))]] [(8 : Int) ≠ 0, 0 ≤ (IntKind.i64.wrap (i2.tdiv (8 : Int))) ∧ (IntKind.i64.wrap (i2.tdiv (8 : Int))) < ((4 : Nat) : Int), (8 : Int) ≠ 0, 0 ≤ (IntKind.u64.wrap (IntKind.i64.wrap ((8 : Int) * (i2.tmod (8 : Int))))), 0 ≤ i2 ∧ i2 < ((32 : Nat) : Int)] (by kernel_rfl) (hcons (by decide) (hcons hn5 (hcons (by decide) (hcons hn6 (hone hn7))))) ?_
      refine q_b 1 ?_
      refine q_k ?_
      refine tr_reg hT [] [.s 1, .s 2, .s 3, .s 4, .h 0, .h 1, .h 2] [sO 1 (.ptr 0 0), sO 2 (.ptr 1 0), sO 3 (.ptr 2 0), sI 4 .i64 (IntKind.i64.wrap (i2 + (1 : Int))), hB 0 31 [.arr .u64 4 n_0], hB 1 22 [.arr .u8 32 (List.replicate 32 0)], hB 2 22 [.arr .u8 32 (m1.set i2.toNat (IntKind.u8.wrap (shr .u64 (n_0.getD (IntKind.i64.wrap (i2.tdiv (8 : Int))).toNat 0) (IntKind.u64.wrap (IntKind.i64.wrap ((8 : Int) * (i2.tmod (8 : Int))))))))]] [] (by kernel_rfl) trivial ?_
      refine q_kr ?_
      exact trR_less [.s 1, .s 2, .s 3, .s 4, .h 0, .h 1, .h 2] [sO 1 (.ptr 0 0), sO 2 (.ptr 1 0), sO 3 (.ptr 2 0), sI 4 .i64 (IntKind.i64.wrap (i2 + (1 : Int))), hB 0 31 [.arr .u64 4 n_0], hB 1 22 [.arr .u8 32 (List.replicate 32 0)], hB 2 22 [.arr .u8 32 (m1.set i2.toNat (IntKind.u8.wrap (shr .u64 (n_0.getD (IntKind.i64.wrap (i2.tdiv (8 : Int))).toNat 0) (IntKind.u64.wrap (IntKind.i64.wrap ((8 : Int) * (i2.tmod (8 : Int))))))))]] (by kernel_rfl) (ih0 ((m1.set i2.toNat (IntKind.u8.wrap (shr .u64 (n_0.getD (IntKind.i64.wrap (i2.tdiv (8 : Int))).toNat 0) (IntKind.u64.wrap (IntKind.i64.wrap ((8 : Int) * (i2.tmod (8 : Int)))))))), (IntKind.i64.wrap (i2 + (1 : Int)))) h)
    · refine tr_cond_f (decide (i2 < (32 : Int))) (by kernel_rfl) hc4 ?_
      refine tr_exit ?_
      refine q_k_exit ?_
      refine q_kr_exit ?_
      have h := Option.some.inj h
      subst h
      exact q_less [.s 2, .s 3, .h 1, .h 2] [sO 2 (.ptr 1 0), sO 3 (.ptr 2 0), hB 1 22 [.arr .u8 32 (List.replicate 32 0)], hB 2 22 [.arr .u8 32 m1]] (by kernel_rfl) hx0

theorem limb_Of_ok (b_0 : List Int) (r : List Int) (h : limb_Of b_0 = some r) {pre : List (Nat × Ent)} : CallOk P 72 [.v (.agg [.arr .u8 32 b_0])] pre (.v (.agg [.arr .u64 5 r])) [] := by
  refine call0 (N := 65) Try.func72 (by kernel_rfl) rfl rfl rfl pre ?_
  intro _ w
  show Tr P (Ge w) 65 _ _ _ (RetQ P Try.f72 (R0 _ w))
  unfold limb_Of at h
  refine tr_seq ?_
  refine tr_reg hT [(0, .key 0), (1, .key 1)] [.s 1, .s 2, .h 0, .h 1] [sO 1 (.ptr 0 0), sO 2 (.ptr 1 0), hB 0 22 [.arr .u8 32 b_0], hB 1 71 [.arr .u64 5 (List.replicate 5 0)]] [] (by kernel_rfl) trivial ?_
  refine q_k ?_
  refine tr_seq ?_
  refine tr_reg hT [(0, .key 2)] [.s 1, .s 2, .s 3, .h 0, .h 1, .h 2] [sO 1 (.ptr 0 0), sO 2 (.ptr 1 0), sO 3 (.ptr 2 0), hB 0 22 [.arr .u8 32 b_0], hB 1 71 [.arr .u64 5 (List.replicate 5 0)], hB 2 30 [.arr .u64 4 (List.replicate 4 0)]] [] (by kernel_rfl) trivial ?_
  refine q_k ?_
  refine tr_seq ?_
  refine tr_seq ?_
  refine tr_reg hT [] [.s 1, .s 2, .s 3, .s 6, .h 0, .h 1, .h 2] [sO 1 (.ptr 0 0), sO 2 (.ptr 1 0), sO 3 (.ptr 2 0), sI 6 .i64 (0 : Int), hB 0 22 [.arr .u8 32 b_0], hB 1 71 [.arr .u64 5 (List.replicate 5 0)], hB 2 30 [.arr .u64 4 (List.replicate 4 0)]] [] (by kernel_rfl) trivial ?_
  refine q_k ?_
  refine tr_block ?_
  obtain ⟨m3, e9, h⟩ := bind_some h
  refine tr_fit [] [sO 1 (.ptr 0 0), sO 2 (.ptr 1 0), sO 3 (.ptr 2 0), sI 6 .i64 (0 : Int), hB 0 22 [.arr .u8 32 b_0], hB 1 71 [.arr .u64 5 (List.replicate 5 0)], hB 2 30 [.arr .u64 4 (List.replicate 4 0)]] [(0, .blk 22 [.arr .u8 32 b_0]), (1, .blk 71 [.arr .u64 5 (List.replicate 5 0)]), (2, .blk 30 [.arr .u64 4 (List.replicate 4 0)])] (by kernel_rfl) (by kernel_rfl) (by kernel_rfl) rfl ⟨.blk (by kernel_rfl) (by kernel_rfl), .blk (by kernel_rfl) (by kernel_rfl), .blk (by kernel_rfl) (by kernel_rfl), trivial⟩ (by kernel_rfl) ?_
  refine tr_loop_fuel (id := 0) (α := List Int × Int) (β := List Int) (fun z => [sO 1 (.ptr 0 0), sO 2 (.ptr 1 0), sO 3 (.ptr 2 0), sI 6 .i64 z.2, hB 0 22 [.arr .u8 32 b_0], hB 1 71 [.arr .u64 5 (List.replicate 5 0)], hB 2 30 [.arr .u64 4 z.1]]) (fun z => [sO 2 (.ptr 1 0), sO 3 (.ptr 2 0), hB 1 71 [.arr .u64 5 (List.replicate 5 0)], hB 2 30 [.arr .u64 4 z]]) (fun k z => limb_Of_l0 b_0 k z.1 z.2) m3 (fun _ => rfl) (((32 : Int) - (0 : Int)).toNat + 1) ((List.replicate 4 0), (0 : Int)) e9 ?_ ?_
  · skip
    replace h : (some ([(band .u64 (m3.getD 0 0) (2251799813685247 : Int)), (band .u64 (bor .u64 (shr .u64 (m3.getD 0 0) (51 : Int)) (shl .u64 (m3.getD 1 0) (13 : Int))) (2251799813685247 : Int)), (band .u64 (bor .u64 (shr .u64 (m3.getD 1 0) (38 : Int)) (shl .u64 (m3.getD 2 0) (26 : Int))) (2251799813685247 : Int)), (band .u64 (bor .u64 (shr .u64 (m3.getD 2 0) (25 : Int)) (shl .u64 (m3.getD 3 0) (39 : Int))) (2251799813685247 : Int)), (band .u64 (shr .u64 (m3.getD 3 0) (12 : Int)) (2251799813685247 : Int))].set 0 (IntKind.u64.wrap (([(band .u64 (m3.getD 0 0) (2251799813685247 : Int)), (band .u64 (bor .u64 (shr .u64 (m3.getD 0 0) (51 : Int)) (shl .u64 (m3.getD 1 0) (13 : Int))) (2251799813685247 : Int)), (band .u64 (bor .u64 (shr .u64 (m3.getD 1 0) (38 : Int)) (shl .u64 (m3.getD 2 0) (26 : Int))) (2251799813685247 : Int)), (band .u64 (bor .u64 (shr .u64 (m3.getD 2 0) (25 : Int)) (shl .u64 (m3.getD 3 0) (39 : Int))) (2251799813685247 : Int)), (band .u64 (shr .u64 (m3.getD 3 0) (12 : Int)) (2251799813685247 : Int))].getD 0 0) + (IntKind.u64.wrap ((19 : Int) * (shr .u64 (m3.getD 3 0) (63 : Int)))))))) = _ := h
    refine q_b_this ?_
    refine q_k ?_
    refine tr_seq ?_
    refine tr_reg hT [(32, .key 3)] [.s 2, .s 3, .s 5, .h 1, .h 2, .h 3] [sO 2 (.ptr 1 0), sO 3 (.ptr 2 0), sO 5 (.ptr 3 0), hB 1 71 [.arr .u64 5 (List.replicate 5 0)], hB 2 30 [.arr .u64 4 m3], hB 3 71 [.arr .u64 5 [(band .u64 (m3.getD 0 0) (2251799813685247 : Int)), (band .u64 (bor .u64 (shr .u64 (m3.getD 0 0) (51 : Int)) (shl .u64 (m3.getD 1 0) (13 : Int))) (2251799813685247 : Int)), (band .u64 (bor .u64 (shr .u64 (m3.getD 1 0) (38 : Int)) (shl .u64 (m3.getD 2 0) (26 : Int))) (2251799813685247 : Int)), (band .u64 (bor .u64 (shr .u64 (m3.getD 2 0) (25 : Int)) (shl .u64 (m3.getD 3 0) (39 : Int))) (2251799813685247 : Int)), (band .u64 (shr .u64 (m3.getD 3 0) (12 : Int)) (2251799813685247 : Int))]]] [0 ≤ (0 : Int) ∧ (0 : Int) < ((4 : Nat) : Int), 0 ≤ (0 : Int) ∧ (0 : Int) < ((4 : Nat) : Int), 0 ≤ (51 : Int), 0 ≤ (1 : Int) ∧ (1 : Int) < ((4 : Nat) : Int), 0 ≤ (13 : Int), 0 ≤ (1 : Int) ∧ (1 : Int) < ((4 : Nat) : Int), 0 ≤ (38 : Int), 0 ≤ (2 : Int) ∧ (2 : Int) < ((4 : Nat) : Int), 0 ≤ (26 : Int), 0 ≤ (2 : Int) ∧ (2 : Int) < ((4 : Nat) : Int), 0 ≤ (25 : Int), 0 ≤ (3 : Int) ∧ (3 : Int) < ((4 : Nat) : Int), 0 ≤ (39 : Int), 0 ≤ (3 : Int) ∧ (3 : Int) < ((4 : Nat) : Int), 0 ≤ (12 : Int)] (by kernel_rfl) (hcons (by decide) (hcons (by decide) (hcons (by decide) (hcons (by decide) (hcons (by decide) (hcons (by decide) (hcons (by decide) (hcons (by decide) (hcons (by decide) (hcons (by decide) (hcons (by decide) (hcons (by decide) (hcons (by decide) (hcons (by decide) (hone (by decide)))))))))))))))) ?_
    refine q_k ?_
    refine tr_seq ?_
    refine tr_reg hT [] [.s 2, .s 5, .h 1, .h 3] [sO 2 (.ptr 1 0), sO 5 (.ptr 3 0), hB 1 71 [.arr .u64 5 (List.replicate 5 0)], hB 3 71 [.arr .u64 5 ([(band .u64 (m3.getD 0 0) (2251799813685247 : Int)), (band .u64 (bor .u64 (shr .u64 (m3.getD 0 0) (51 : Int)) (shl .u64 (m3.getD 1 0) (13 : Int))) (2251799813685247 : Int)), (band .u64 (bor .u64 (shr .u64 (m3.getD 1 0) (38 : Int)) (shl .u64 (m3.getD 2 0) (26 : Int))) (2251799813685247 : Int)), (band .u64 (bor .u64 (shr .u64 (m3.getD 2 0) (25 : Int)) (shl .u64 (m3.getD 3 0) (39 : Int))) (2251799813685247 : Int)), (band .u64 (shr .u64 (m3.getD 3 0) (12 : Int)) (2251799813685247 : Int))].set 0 (IntKind.u64.wrap (([(band .u64 (m3.getD 0 0) (2251799813685247 : Int)), (band .u64 (bor .u64 (shr .u64 (m3.getD 0 0) (51 : Int)) (shl .u64 (m3.getD 1 0) (13 : Int))) (2251799813685247 : Int)), (band .u64 (bor .u64 (shr .u64 (m3.getD 1 0) (38 : Int)) (shl .u64 (m3.getD 2 0) (26 : Int))) (2251799813685247 : Int)), (band .u64 (bor .u64 (shr .u64 (m3.getD 2 0) (25 : Int)) (shl .u64 (m3.getD 3 0) (39 : Int))) (2251799813685247 : Int)), (band .u64 (shr .u64 (m3.getD 3 0) (12 : Int)) (2251799813685247 : Int))].getD 0 0) + (IntKind.u64.wrap ((19 : Int) * (shr .u64 (m3.getD 3 0) (63 : Int)))))))]] [0 ≤ (0 : Int) ∧ (0 : Int) < ((5 : Nat) : Int), 0 ≤ (3 : Int) ∧ (3 : Int) < ((4 : Nat) : Int), 0 ≤ (63 : Int), 0 ≤ (0 : Int) ∧ (0 : Int) < ((5 : Nat) : Int)] (by kernel_rfl) (hcons (by decide) (hcons (by decide) (hcons (by decide) (hone (by decide))))) ?_
    refine q_k ?_
    refine tr_seq ?_
    refine tr_reg hT [] [.s 2, .h 1] [sO 2 (.ptr 1 0), hB 1 71 [.arr .u64 5 ([(band .u64 (m3.getD 0 0) (2251799813685247 : Int)), (band .u64 (bor .u64 (shr .u64 (m3.getD 0 0) (51 : Int)) (shl .u64 (m3.getD 1 0) (13 : Int))) (2251799813685247 : Int)), (band .u64 (bor .u64 (shr .u64 (m3.getD 1 0) (38 : Int)) (shl .u64 (m3.getD 2 0) (26 : Int))) (2251799813685247 : Int)), (band .u64 (bor .u64 (shr .u64 (m3.getD 2 0) (25 : Int)) (shl .u64 (m3.getD 3 0) (39 : Int))) (2251799813685247 : Int)), (band .u64 (shr .u64 (m3.getD 3 0) (12 : Int)) (2251799813685247 : Int))].set 0 (IntKind.u64.wrap (([(band .u64 (m3.getD 0 0) (2251799813685247 : Int)), (band .u64 (bor .u64 (shr .u64 (m3.getD 0 0) (51 : Int)) (shl .u64 (m3.getD 1 0) (13 : Int))) (2251799813685247 : Int)), (band .u64 (bor .u64 (shr .u64 (m3.getD 1 0) (38 : Int)) (shl .u64 (m3.getD 2 0) (26 : Int))) (2251799813685247 : Int)), (band .u64 (bor .u64 (shr .u64 (m3.getD 2 0) (25 : Int)) (shl .u64 (m3.getD 3 0) (39 : Int))) (2251799813685247 : Int)), (band .u64 (shr .u64 (m3.getD 3 0) (12 : Int)) (2251799813685247 : Int))].getD 0 0) + (IntKind.u64.wrap ((19 : Int) * (shr .u64 (m3.getD 3 0) (63 : Int)))))))]] [] (by kernel_rfl) trivial ?_
    refine q_k ?_
    refine tr_ret ?_
    have h := Option.some.inj h
    subst h
    exact q_ret0 hT (.v (.agg [.arr .u64 5 ([(band .u64 (m3.getD 0 0) (2251799813685247 : Int)), (band .u64 (bor .u64 (shr .u64 (m3.getD 0 0) (51 : Int)) (shl .u64 (m3.getD 1 0) (13 : Int))) (2251799813685247 : Int)), (band .u64 (bor .u64 (shr .u64 (m3.getD 1 0) (38 : Int)) (shl .u64 (m3.getD 2 0) (26 : Int))) (2251799813685247 : Int)), (band .u64 (bor .u64 (shr .u64 (m3.getD 2 0) (25 : Int)) (shl .u64 (m3.getD 3 0) (39 : Int))) (2251799813685247 : Int)), (band .u64 (shr .u64 (m3.getD 3 0) (12 : Int)) (2251799813685247 : Int))].set 0 (IntKind.u64.wrap (([(band .u64 (m3.getD 0 0) (2251799813685247 : Int)), (band .u64 (bor .u64 (shr .u64 (m3.getD 0 0) (51 : Int)) (shl .u64 (m3.getD 1 0) (13 : Int))) (2251799813685247 : Int)), (band .u64 (bor .u64 (shr .u64 (m3.getD 1 0) (38 : Int)) (shl .u64 (m3.getD 2 0) (26 : Int))) (2251799813685247 : Int)), (band .u64 (bor .u64 (shr .u64 (m3.getD 2 0) (25 : Int)) (shl .u64 (m3.getD 3 0) (39 : Int))) (2251799813685247 : Int)), (band .u64 (shr .u64 (m3.getD 3 0) (12 : Int)) (2251799813685247 : Int))].getD 0 0) + (IntKind.u64.wrap ((19 : Int) * (shr .u64 (m3.getD 3 0) (63 : Int)))))))])) rfl (by kernel_rfl)
  · clear h e9
    intro k ih0 hx0 z h
    obtain ⟨m1, x2⟩ := z
    replace h : (if (decide (x2 < (32 : Int))) = true then if 0 ≤ (IntKind.i64.wrap (x2.tdiv (8 : Int))) ∧ (IntKind.i64.wrap (x2.tdiv (8 : Int))) < ((4 : Nat) : Int) then if 0 ≤ x2 ∧ x2 < ((32 : Nat) : Int) then if 0 ≤ (IntKind.i64.wrap ((8 : Int) * (x2.tmod (8 : Int)))) then if 0 ≤ (IntKind.i64.wrap (x2.tdiv (8 : Int))) ∧ (IntKind.i64.wrap (x2.tdiv (8 : Int))) < ((4 : Nat) : Int) then limb_Of_l0 b_0 k (m1.set (IntKind.i64.wrap (x2.tdiv (8 : Int))).toNat (bor .u64 (m1.getD (IntKind.i64.wrap (x2.tdiv (8 : Int))).toNat 0) (shl .u64 (IntKind.u64.wrap (b_0.getD x2.toNat 0)) (IntKind.i64.wrap ((8 : Int) * (x2.tmod (8 : Int))))))) (IntKind.i64.wrap (x2 + (1 : Int))) else none else none else none else none else some m1) = _ := h
    refine tr_seq ?_
    refine tr_reg hT [] [.s 1, .s 2, .s 3, .s 6, .s 7, .h 0, .h 1, .h 2] [sO 1 (.ptr 0 0), sO 2 (.ptr 1 0), sO 3 (.ptr 2 0), sI 6 .i64 x2, sB 7 (decide (x2 < (32 : Int))), hB 0 22 [.arr .u8 32 b_0], hB 1 71 [.arr .u64 5 (List.replicate 5 0)], hB 2 30 [.arr .u64 4 m1]] [] (by kernel_rfl) trivial ?_
    refine q_k ?_
    refine tr_seq ?_
    rcases ite_split h with ⟨hc4, h⟩ | ⟨hc4, h⟩
    · refine tr_cond_t (decide (x2 < (32 : Int))) (by kernel_rfl) hc4 ?_
      refine tr_skip ?_
      refine q_k ?_
      refine tr_seq ?_
      refine tr_block ?_
      refine tr_seq ?_
      refine tr_reg hT [] [.s 1, .s 2, .s 3, .s 4, .s 6, .h 0, .h 1, .h 2] [sO 1 (.ptr 0 0), sO 2 (.ptr 1 0), sO 3 (.ptr 2 0), sI 4 .i64 x2, sI 6 .i64 x2, hB 0 22 [.arr .u8 32 b_0], hB 1 71 [.arr .u64 5 (List.replicate 5 0)], hB 2 30 [.arr .u64 4 m1]] [] (by kernel_rfl) trivial ?_
      refine q_k ?_
      obtain ⟨hn5, h⟩ := ite_some h
      obtain ⟨hn6, h⟩ := ite_some h
      obtain ⟨hn7, h⟩ := ite_some h
      obtain ⟨hn8, h⟩ := ite_some h
      refine tr_regd hT hM [] [.s 1, .s 2, .s 3, .s 6, .h 0, .h 1, .h 2] [sO 1 (.ptr 0 0), sO 2 (.ptr 1 0), sO 3 (.ptr 2 0), sI 6 .i64 x2, hB 0 22 [.arr .u8 32 b_0], hB 1 71 [.arr .u64 5 (List.replicate 5 0)], hB 2 30 [.arr .u64 4 (m1.set (IntKind.i64.wrap (x2.tdiv (8 : Int))).toNat (bor .u64 (m1.getD (IntKind.i64.wrap (x2.tdiv (8 : Int))).toNat 0) (shl .u64 (IntKind.u64.wrap (b_0.getD x2.toNat 0)) (IntKind.i64.wrap ((8 : Int) * (x2.tmod (8 : Int)))))))]] [(8 : Int) ≠ 0, 0 ≤ (IntKind.i64.wrap (x2.tdiv (8 : Int))) ∧ (IntKind.i64.wrap (x2.tdiv (8 : Int))) < ((4 : Nat) : Int), 0 ≤ x2 ∧ x2 < ((32 : Nat) : Int), (8 : Int) ≠ 0, 0 ≤ (IntKind.i64.wrap ((8 : Int) * (x2.tmod (8 : Int)))), 0 ≤ (IntKind.i64.wrap (x2.tdiv (8 : Int))) ∧ (IntKind.i64.wrap (x2.tdiv (8 : Int))) < ((4 : Nat) : Int)] (by kernel_rfl) (hcons (by decide) (hcons hn5 (hcons hn6 (hcons (by decide) (hcons hn7 (hone hn8)))))) ?_
      refine q_b 1 ?_
      refine q_k ?_
      refine tr_reg hT [] [.s 1, .s 2, .s 3, .s 6, .h 0, .h 1, .h 2] [sO 1 (.ptr 0 0), sO 2 (.ptr 1 0), sO 3 (.ptr 2 0), sI 6 .i64 (IntKind.i64.wrap (x2 + (1 : Int))), hB 0 22 [.arr .u8 32 b_0], hB 1 71 [.arr .u64 5 (List.replicate 5 0)], hB 2 30 [.arr .u64 4 (m1.set (IntKind.i64.wrap (x2.tdiv (8 : Int))).toNat (bor .u64 (m1.getD (IntKind.i64.wrap (x2.tdiv (8 : Int))).toNat 0) (shl .u64 (IntKind.u64.wrap (b_0.getD x2.toNat 0)) (IntKind.i64.wrap ((8 : Int) * (x2.tmod (8 : Int)))))))]] [] (by kernel_rfl) trivial ?_
      refine q_kr ?_
      exact trR_less [.s 1, .s 2, .s 3, .s 6, .h 0, .h 1, .h 2] [sO 1 (.ptr 0 0), sO 2 (.ptr 1 0), sO 3 (.ptr 2 0), sI 6 .i64 (IntKind.i64.wrap (x2 + (1 : Int))), hB 0 22 [.arr .u8 32 b_0], hB 1 71 [.arr .u64 5 (List.replicate 5 0)], hB 2 30 [.arr .u64 4 (m1.set (IntKind.i64.wrap (x2.tdiv (8 : Int))).toNat (bor .u64 (m1.getD (IntKind.i64.wrap (x2.tdiv (8 : Int))).toNat 0) (shl .u64 (IntKind.u64.wrap (b_0.getD x2.toNat 0)) (IntKind.i64.wrap ((8 : Int) * (x2.tmod (8 : Int)))))))]] (by kernel_rfl) (ih0 ((m1.set (IntKind.i64.wrap (x2.tdiv (8 : Int))).toNat (bor .u64 (m1.getD (IntKind.i64.wrap (x2.tdiv (8 : Int))).toNat 0) (shl .u64 (IntKind.u64.wrap (b_0.getD x2.toNat 0)) (IntKind.i64.wrap ((8 : Int) * (x2.tmod (8 : Int))))))), (IntKind.i64.wrap (x2 + (1 : Int)))) h)
    · refine tr_cond_f (decide (x2 < (32 : Int))) (by kernel_rfl) hc4 ?_
      refine tr_exit ?_
      refine q_k_exit ?_
      refine q_kr_exit ?_
      have h := Option.some.inj h
      subst h
      exact q_less [.s 2, .s 3, .h 1, .h 2] [sO 2 (.ptr 1 0), sO 3 (.ptr 2 0), hB 1 71 [.arr .u64 5 (List.replicate 5 0)], hB 2 30 [.arr .u64 4 m1]] (by kernel_rfl) hx0

theorem limb_carried_ok (a_0 : List Int) (r : List Int) (h : limb_carried a_0 = some r) {pre : List (Nat × Ent)} : CallOk P 102 [.v (.agg [.arr .u64 5 a_0])] pre (.v (.agg [.arr .u64 5 r])) [] := by
  refine call0 (N := 31) Try.func102 (by kernel_rfl) rfl rfl rfl pre ?_
  intro _ w
  show Tr P (Ge w) 31 _ _ _ (RetQ P Try.f102 (R0 _ w))
  unfold limb_carried at h
  refine tr_seq ?_
  refine tr_reg hT [(0, .key 0), (1, .key 1)] [.s 1, .s 2, .h 0, .h 1] [sO 1 (.ptr 0 0), sO 2 (.ptr 1 0), hB 0 71 [.arr .u64 5 a_0], hB 1 71 [.arr .u64 5 (List.replicate 5 0)]] [] (by kernel_rfl) trivial ?_
  refine q_k ?_
  refine tr_seq ?_
  refine tr_reg hT [] [.s 1, .s 2, .s 3, .h 0, .h 1] [sO 1 (.ptr 0 0), sO 2 (.ptr 1 0), sI 3 .u64 (0 : Int), hB 0 71 [.arr .u64 5 a_0], hB 1 71 [.arr .u64 5 (List.replicate 5 0)]] [] (by kernel_rfl) trivial ?_
  refine q_k ?_
  refine tr_seq ?_
  refine tr_seq ?_
  refine tr_reg hT [] [.s 1, .s 2, .s 3, .s 5, .h 0, .h 1] [sO 1 (.ptr 0 0), sO 2 (.ptr 1 0), sI 3 .u64 (0 : Int), sI 5 .i64 (0 : Int), hB 0 71 [.arr .u64 5 a_0], hB 1 71 [.arr .u64 5 (List.replicate 5 0)]] [] (by kernel_rfl) trivial ?_
  refine q_k ?_
  refine tr_block ?_
  obtain ⟨rr0, e12, h⟩ := bind_some h
  refine tr_fit [] [sO 1 (.ptr 0 0), sO 2 (.ptr 1 0), sI 3 .u64 (0 : Int), sI 5 .i64 (0 : Int), hB 0 71 [.arr .u64 5 a_0], hB 1 71 [.arr .u64 5 (List.replicate 5 0)]] [(0, .blk 71 [.arr .u64 5 a_0]), (1, .blk 71 [.arr .u64 5 (List.replicate 5 0)])] (by kernel_rfl) (by kernel_rfl) (by kernel_rfl) rfl ⟨.blk (by kernel_rfl) (by kernel_rfl), .blk (by kernel_rfl) (by kernel_rfl), trivial⟩ (by kernel_rfl) ?_
  refine tr_loop_fuel (id := 0) (α := List Int × Int × Int) (β := List Int × Int) (fun z => [sO 1 (.ptr 0 0), sO 2 (.ptr 1 0), sI 3 .u64 z.2.1, sI 5 .i64 z.2.2, hB 0 71 [.arr .u64 5 z.1], hB 1 71 [.arr .u64 5 (List.replicate 5 0)]]) (fun z => [sO 1 (.ptr 0 0), sO 2 (.ptr 1 0), sI 3 .u64 z.2, hB 0 71 [.arr .u64 5 z.1], hB 1 71 [.arr .u64 5 (List.replicate 5 0)]]) (fun k z => limb_carried_l0 k z.1 z.2.1 z.2.2) rr0 (fun _ => rfl) (((5 : Int) - (0 : Int)).toNat + 1) (a_0, (0 : Int), (0 : Int)) e12 ?_ ?_
  · rcases rr0 with ⟨m4, c5⟩
    replace h : (some (m4.set 0 (IntKind.u64.wrap ((m4.getD 0 0) + (IntKind.u64.wrap ((19 : Int) * c5)))))) = _ := h
    refine q_b_this ?_
    refine q_k ?_
    refine tr_seq ?_
    refine tr_reg hT [] [.s 1, .s 2, .h 0, .h 1] [sO 1 (.ptr 0 0), sO 2 (.ptr 1 0), hB 0 71 [.arr .u64 5 (m4.set 0 (IntKind.u64.wrap ((m4.getD 0 0) + (IntKind.u64.wrap ((19 : Int) * c5)))))], hB 1 71 [.arr .u64 5 (List.replicate 5 0)]] [0 ≤ (0 : Int) ∧ (0 : Int) < ((5 : Nat) : Int), 0 ≤ (0 : Int) ∧ (0 : Int) < ((5 : Nat) : Int)] (by kernel_rfl) (hcons (by decide) (hone (by decide))) ?_
    refine q_k ?_
    refine tr_seq ?_
    refine tr_reg hT [] [.s 2, .h 1] [sO 2 (.ptr 1 0), hB 1 71 [.arr .u64 5 (m4.set 0 (IntKind.u64.wrap ((m4.getD 0 0) + (IntKind.u64.wrap ((19 : Int) * c5)))))]] [] (by kernel_rfl) trivial ?_
    refine q_k ?_
    refine tr_ret ?_
    have h := Option.some.inj h
    subst h
    exact q_ret0 hT (.v (.agg [.arr .u64 5 (m4.set 0 (IntKind.u64.wrap ((m4.getD 0 0) + (IntKind.u64.wrap ((19 : Int) * c5)))))])) rfl (by kernel_rfl)
  · clear h e12
    intro k ih0 hx0 z h
    obtain ⟨m1, c2, x3⟩ := z
    replace h : (if (decide (x3 < (5 : Int))) = true then if 0 ≤ x3 ∧ x3 < ((5 : Nat) : Int) then if 0 ≤ x3 ∧ x3 < ((5 : Nat) : Int) then if 0 ≤ x3 ∧ x3 < ((5 : Nat) : Int) then if 0 ≤ x3 ∧ x3 < ((5 : Nat) : Int) then if 0 ≤ x3 ∧ x3 < ((5 : Nat) : Int) then limb_carried_l0 k ((m1.set x3.toNat (IntKind.u64.wrap ((m1.getD x3.toNat 0) + c2))).set x3.toNat (band .u64 ((m1.set x3.toNat (IntKind.u64.wrap ((m1.getD x3.toNat 0) + c2))).getD x3.toNat 0) (2251799813685247 : Int))) (shr .u64 ((m1.set x3.toNat (IntKind.u64.wrap ((m1.getD x3.toNat 0) + c2))).getD x3.toNat 0) (51 : Int)) (IntKind.i64.wrap (x3 + (1 : Int))) else none else none else none else none else none else some (m1, c2)) = _ := h
    refine tr_seq ?_
    refine tr_reg hT [] [.s 1, .s 2, .s 3, .s 5, .s 6, .h 0, .h 1] [sO 1 (.ptr 0 0), sO 2 (.ptr 1 0), sI 3 .u64 c2, sI 5 .i64 x3, sB 6 (decide (x3 < (5 : Int))), hB 0 71 [.arr .u64 5 m1], hB 1 71 [.arr .u64 5 (List.replicate 5 0)]] [] (by kernel_rfl) trivial ?_
    refine q_k ?_
    refine tr_seq ?_
    rcases ite_split h with ⟨hc6, h⟩ | ⟨hc6, h⟩
    · refine tr_cond_t (decide (x3 < (5 : Int))) (by kernel_rfl) hc6 ?_
      refine tr_skip ?_
      refine q_k ?_
      refine tr_seq ?_
      refine tr_block ?_
      refine tr_seq ?_
      refine tr_reg hT [] [.s 1, .s 2, .s 3, .s 4, .s 5, .h 0, .h 1] [sO 1 (.ptr 0 0), sO 2 (.ptr 1 0), sI 3 .u64 c2, sI 4 .i64 x3, sI 5 .i64 x3, hB 0 71 [.arr .u64 5 m1], hB 1 71 [.arr .u64 5 (List.replicate 5 0)]] [] (by kernel_rfl) trivial ?_
      refine q_k ?_
      refine tr_seq ?_
      obtain ⟨hn7, h⟩ := ite_some h
      obtain ⟨hn8, h⟩ := ite_some h
      refine tr_reg hT [] [.s 1, .s 2, .s 4, .s 5, .h 0, .h 1] [sO 1 (.ptr 0 0), sO 2 (.ptr 1 0), sI 4 .i64 x3, sI 5 .i64 x3, hB 0 71 [.arr .u64 5 (m1.set x3.toNat (IntKind.u64.wrap ((m1.getD x3.toNat 0) + c2)))], hB 1 71 [.arr .u64 5 (List.replicate 5 0)]] [0 ≤ x3 ∧ x3 < ((5 : Nat) : Int), 0 ≤ x3 ∧ x3 < ((5 : Nat) : Int)] (by kernel_rfl) (hcons hn7 (hone hn8)) ?_
      refine q_k ?_
      refine tr_seq ?_
      obtain ⟨hn9, h⟩ := ite_some h
      refine tr_reg hT [] [.s 1, .s 2, .s 3, .s 4, .s 5, .h 0, .h 1] [sO 1 (.ptr 0 0), sO 2 (.ptr 1 0), sI 3 .u64 (shr .u64 ((m1.set x3.toNat (IntKind.u64.wrap ((m1.getD x3.toNat 0) + c2))).getD x3.toNat 0) (51 : Int)), sI 4 .i64 x3, sI 5 .i64 x3, hB 0 71 [.arr .u64 5 (m1.set x3.toNat (IntKind.u64.wrap ((m1.getD x3.toNat 0) + c2)))], hB 1 71 [.arr .u64 5 (List.replicate 5 0)]] [0 ≤ x3 ∧ x3 < ((5 : Nat) : Int), 0 ≤ (51 : Int)] (by kernel_rfl) (hcons hn9 (hone (by decide))) ?_
      refine q_k ?_
      obtain ⟨hn10, h⟩ := ite_some h
      obtain ⟨hn11, h⟩ := ite_some h
      refine tr_reg hT [] [.s 1, .s 2, .s 3, .s 5, .h 0, .h 1] [sO 1 (.ptr 0 0), sO 2 (.ptr 1 0), sI 3 .u64 (shr .u64 ((m1.set x3.toNat (IntKind.u64.wrap ((m1.getD x3.toNat 0) + c2))).getD x3.toNat 0) (51 : Int)), sI 5 .i64 x3, hB 0 71 [.arr .u64 5 ((m1.set x3.toNat (IntKind.u64.wrap ((m1.getD x3.toNat 0) + c2))).set x3.toNat (band .u64 ((m1.set x3.toNat (IntKind.u64.wrap ((m1.getD x3.toNat 0) + c2))).getD x3.toNat 0) (2251799813685247 : Int)))], hB 1 71 [.arr .u64 5 (List.replicate 5 0)]] [0 ≤ x3 ∧ x3 < ((5 : Nat) : Int), 0 ≤ x3 ∧ x3 < ((5 : Nat) : Int)] (by kernel_rfl) (hcons hn10 (hone hn11)) ?_
      refine q_b 1 ?_
      refine q_k ?_
      refine tr_reg hT [] [.s 1, .s 2, .s 3, .s 5, .h 0, .h 1] [sO 1 (.ptr 0 0), sO 2 (.ptr 1 0), sI 3 .u64 (shr .u64 ((m1.set x3.toNat (IntKind.u64.wrap ((m1.getD x3.toNat 0) + c2))).getD x3.toNat 0) (51 : Int)), sI 5 .i64 (IntKind.i64.wrap (x3 + (1 : Int))), hB 0 71 [.arr .u64 5 ((m1.set x3.toNat (IntKind.u64.wrap ((m1.getD x3.toNat 0) + c2))).set x3.toNat (band .u64 ((m1.set x3.toNat (IntKind.u64.wrap ((m1.getD x3.toNat 0) + c2))).getD x3.toNat 0) (2251799813685247 : Int)))], hB 1 71 [.arr .u64 5 (List.replicate 5 0)]] [] (by kernel_rfl) trivial ?_
      refine q_kr ?_
      exact trR_less [.s 1, .s 2, .s 3, .s 5, .h 0, .h 1] [sO 1 (.ptr 0 0), sO 2 (.ptr 1 0), sI 3 .u64 (shr .u64 ((m1.set x3.toNat (IntKind.u64.wrap ((m1.getD x3.toNat 0) + c2))).getD x3.toNat 0) (51 : Int)), sI 5 .i64 (IntKind.i64.wrap (x3 + (1 : Int))), hB 0 71 [.arr .u64 5 ((m1.set x3.toNat (IntKind.u64.wrap ((m1.getD x3.toNat 0) + c2))).set x3.toNat (band .u64 ((m1.set x3.toNat (IntKind.u64.wrap ((m1.getD x3.toNat 0) + c2))).getD x3.toNat 0) (2251799813685247 : Int)))], hB 1 71 [.arr .u64 5 (List.replicate 5 0)]] (by kernel_rfl) (ih0 (((m1.set x3.toNat (IntKind.u64.wrap ((m1.getD x3.toNat 0) + c2))).set x3.toNat (band .u64 ((m1.set x3.toNat (IntKind.u64.wrap ((m1.getD x3.toNat 0) + c2))).getD x3.toNat 0) (2251799813685247 : Int))), (shr .u64 ((m1.set x3.toNat (IntKind.u64.wrap ((m1.getD x3.toNat 0) + c2))).getD x3.toNat 0) (51 : Int)), (IntKind.i64.wrap (x3 + (1 : Int)))) h)
    · refine tr_cond_f (decide (x3 < (5 : Int))) (by kernel_rfl) hc6 ?_
      refine tr_exit ?_
      refine q_k_exit ?_
      refine q_kr_exit ?_
      have h := Option.some.inj h
      subst h
      exact q_less [.s 1, .s 2, .s 3, .h 0, .h 1] [sO 1 (.ptr 0 0), sO 2 (.ptr 1 0), sI 3 .u64 c2, hB 0 71 [.arr .u64 5 m1], hB 1 71 [.arr .u64 5 (List.replicate 5 0)]] (by kernel_rfl) hx0

theorem limb_N_Bytes_ok (a_0 : List Int) (r : List Int) (h : limb_N_Bytes a_0 = some r) {pre : List (Nat × Ent)} : CallOk P 73 [.v (.agg [.arr .u64 5 a_0])] pre (.v (.agg [.arr .u8 32 r])) [] := by
  refine call0 (N := 84) Try.func73 (by kernel_rfl) rfl rfl rfl pre ?_
  intro _ w
  show Tr P (Ge w) 84 _ _ _ (RetQ P Try.f73 (R0 _ w))
  unfold limb_N_Bytes at h
  refine tr_seq ?_
  refine tr_reg hT [(0, .key 0), (1, .key 1)] [.s 1, .s 2, .h 0, .h 1] [sO 1 (.ptr 0 0), sO 2 (.ptr 1 0), hB 0 71 [.arr .u64 5 a_0], hB 1 22 [.arr .u8 32 (List.replicate 32 0)]] [] (by kernel_rfl) trivial ?_
  refine q_k ?_
  refine tr_seq ?_
  obtain ⟨a1, e2, h⟩ := bind_some h
  obtain ⟨a3, e4, h⟩ := bind_some h
  obtain ⟨a5, e6, h⟩ := bind_some h
  refine tr_reg hT [(1, .call [] (.v (.agg [.arr .u64 5 a1])) []), (2, .call [] (.v (.agg [.arr .u64 5 a3])) []), (3, .call [] (.v (.agg [.arr .u64 5 a5])) [])] [.s 1, .s 2, .h 0, .h 1] [sO 1 (.ptr 0 0), sO 2 (.ptr 1 0), hB 0 71 [.arr .u64 5 a5], hB 1 22 [.arr .u8 32 (List.replicate 32 0)]] [CallOk P 102 [.v (.agg [.arr .u64 5 a_0])] [] (.v (.agg [.arr .u64 5 a1])) [], CallOk P 102 [.v (.agg [.arr .u64 5 a1])] [] (.v (.agg [.arr .u64 5 a3])) [], CallOk P 102 [.v (.agg [.arr .u64 5 a3])] [] (.v (.agg [.arr .u64 5 a5])) []] (by kernel_rfl) (hcons (limb_carried_ok a_0 a1 e2) (hcons (limb_carried_ok a1 a3 e4) (hone (limb_carried_ok a3 a5 e6)))) ?_
  refine q_k ?_
  refine tr_seq ?_
  refine tr_reg hT [(1, .key 2)] [.s 1, .s 2, .s 3, .h 0, .h 1, .h 2] [sO 1 (.ptr 0 0), sO 2 (.ptr 1 0), sO 3 (.ptr 2 0), hB 0 71 [.arr .u64 5 a5], hB 1 22 [.arr .u8 32 (List.replicate 32 0)], hB 2 71 [.arr .u64 5 a5]] [] (by kernel_rfl) trivial ?_
  refine q_k ?_
  refine tr_seq ?_
  refine tr_reg hT [] [.s 1, .s 2, .s 3, .h 0, .h 1, .h 2] [sO 1 (.ptr 0 0), sO 2 (.ptr 1 0), sO 3 (.ptr 2 0), hB 0 71 [.arr .u64 5 a5], hB 1 22 [.arr .u8 32 (List.replicate 32 0)], hB 2 71 [.arr .u64 5 (a5.set 0 (IntKind.u64.wrap ((a5.getD 0 0) + (19 : Int))))]] [0 ≤ (0 : Int) ∧ (0 : Int) < ((5 : Nat) : Int), 0 ≤ (0 : Int) ∧ (0 : Int) < ((5 : Nat) : Int)] (by kernel_rfl) (hcons (by decide) (hone (by decide))) ?_
  refine q_k ?_
  refine tr_seq ?_
  refine tr_reg hT [] [.s 1, .s 2, .s 3, .s 4, .h 0, .h 1, .h 2] [sO 1 (.ptr 0 0), sO 2 (.ptr 1 0), sO 3 (.ptr 2 0), sI 4 .u64 (0 : Int), hB 0 71 [.arr .u64 5 a5], hB 1 22 [.arr .u8 32 (List.replicate 32 0)], hB 2 71 [.arr .u64 5 (a5.set 0 (IntKind.u64.wrap ((a5.getD 0 0) + (19 : Int))))]] [] (by kernel_rfl) trivial ?_
  refine q_k ?_
  refine tr_seq ?_
  refine tr_seq ?_
  refine tr_reg hT [] [.s 1, .s 2, .s 3, .s 4, .s 18, .h 0, .h 1, .h 2] [sO 1 (.ptr 0 0), sO 2 (.ptr 1 0), sO 3 (.ptr 2 0), sI 4 .u64 (0 : Int), sI 18 .i64 (0 : Int), hB 0 71 [.arr .u64 5 a5], hB 1 22 [.arr .u8 32 (List.replicate 32 0)], hB 2 71 [.arr .u64 5 (a5.set 0 (IntKind.u64.wrap ((a5.getD 0 0) + (19 : Int))))]] [] (by kernel_rfl) trivial ?_
  refine q_k ?_
  refine tr_block ?_
  obtain ⟨rr0, e18, h⟩ := bind_some h
  refine tr_fit [] [sO 1 (.ptr 0 0), sO 2 (.ptr 1 0), sO 3 (.ptr 2 0), sI 4 .u64 (0 : Int), sI 18 .i64 (0 : Int), hB 0 71 [.arr .u64 5 a5], hB 1 22 [.arr .u8 32 (List.replicate 32 0)], hB 2 71 [.arr .u64 5 (a5.set 0 (IntKind.u64.wrap ((a5.getD 0 0) + (19 : Int))))]] [(0, .blk 71 [.arr .u64 5 a5]), (1, .blk 22 [.arr .u8 32 (List.replicate 32 0)]), (2, .blk 71 [.arr .u64 5 (a5.set 0 (IntKind.u64.wrap ((a5.getD 0 0) + (19 : Int))))])] (by kernel_rfl) (by kernel_rfl) (by kernel_rfl) rfl ⟨.blk (by kernel_rfl) (by kernel_rfl), .blk (by kernel_rfl) (by kernel_rfl), .blk (by kernel_rfl) (by kernel_rfl), trivial⟩ (by kernel_rfl) ?_
  refine tr_loop_fuel (id := 0) (α := List Int × Int × Int) (β := List Int × Int) (fun z => [sO 1 (.ptr 0 0), sO 2 (.ptr 1 0), sO 3 (.ptr 2 0), sI 4 .u64 z.2.1, sI 18 .i64 z.2.2, hB 0 71 [.arr .u64 5 a5], hB 1 22 [.arr .u8 32 (List.replicate 32 0)], hB 2 71 [.arr .u64 5 z.1]]) (fun z => [sO 1 (.ptr 0 0), sO 2 (.ptr 1 0), sO 3 (.ptr 2 0), sI 4 .u64 z.2, hB 0 71 [.arr .u64 5 a5], hB 1 22 [.arr .u8 32 (List.replicate 32 0)], hB 2 71 [.arr .u64 5 z.1]]) (fun k z => limb_N_Bytes_l0 a5 k z.1 z.2.1 z.2.2) rr0 (fun _ => rfl) (((5 : Int) - (0 : Int)).toNat + 1) ((a5.set 0 (IntKind.u64.wrap ((a5.getD 0 0) + (19 : Int)))), (0 : Int), (0 : Int)) e18 ?_ ?_
  · rcases rr0 with ⟨m10, c11⟩
    replace h : ((show Option (List Int) from if (decide (c11 > (0 : Int))) = true then some m10 else some a5).bind (fun m19 => (limb_N_Bytes_l2 m19 (((32 : Int) - (0 : Int)).toNat + 1) (List.replicate 32 0) (0 : Int)).bind (fun m23 => some m23))) = _ := h
    refine q_b_this ?_
    refine q_k ?_
    refine tr_seq ?_
    refine tr_seq ?_
    refine tr_reg hT [] [.s 1, .s 2, .s 3, .s 38, .h 0, .h 1, .h 2] [sO 1 (.ptr 0 0), sO 2 (.ptr 1 0), sO 3 (.ptr 2 0), sB 38 (decide (c11 > (0 : Int))), hB 0 71 [.arr .u64 5 a5], hB 1 22 [.arr .u8 32 (List.replicate 32 0)], hB 2 71 [.arr .u64 5 m10]] [] (by kernel_rfl) trivial ?_
    refine q_k ?_
    obtain ⟨m19, e29, h⟩ := bind_some h
    refine tr_join (σ1 := [sO 1 (.ptr 0 0), sO 2 (.ptr 1 0), hB 0 71 [.arr .u64 5 m19], hB 1 22 [.arr .u8 32 (List.replicate 32 0)]]) ?_ ?_
    · skip
      replace h : ((limb_N_Bytes_l2 m19 (((32 : Int) - (0 : Int)).toNat + 1) (List.replicate 32 0) (0 : Int)).bind (fun m23 => some m23)) = _ := h
      refine q_k ?_
      refine tr_seq ?_
      refine tr_reg hT [(28, .key 43)] [.s 2, .s 6, .h 1, .h 43] [sO 2 (.ptr 1 0), sO 6 (.ptr 43 0), hB 1 22 [.arr .u8 32 (List.replicate 32 0)], hB 43 30 [.arr .u64 4 [(bor .u64 (m19.getD 0 0) (shl .u64 (m19.getD 1 0) (51 : Int))), (bor .u64 (shr .u64 (m19.getD 1 0) (13 : Int)) (shl .u64 (m19.getD 2 0) (38 : Int))), (bor .u64 (shr .u64 (m19.getD 2 0) (26 : Int)) (shl .u64 (m19.getD 3 0) (25 : Int))), (bor .u64 (shr .u64 (m19.getD 3 0) (39 : Int)) (shl .u64 (m19.getD 4 0) (12 : Int)))]]] [0 ≤ (0 : Int) ∧ (0 : Int) < ((5 : Nat) : Int), 0 ≤ (1 : Int) ∧ (1 : Int) < ((5 : Nat) : Int), 0 ≤ (51 : Int), 0 ≤ (1 : Int) ∧ (1 : Int) < ((5 : Nat) : Int), 0 ≤ (13 : Int), 0 ≤ (2 : Int) ∧ (2 : Int) < ((5 : Nat) : Int), 0 ≤ (38 : Int), 0 ≤ (2 : Int) ∧ (2 : Int) < ((5 : Nat) : Int), 0 ≤ (26 : Int), 0 ≤ (3 : Int) ∧ (3 : Int) < ((5 : Nat) : Int), 0 ≤ (25 : Int), 0 ≤ (3 : Int) ∧ (3 : Int) < ((5 : Nat) : Int), 0 ≤ (39 : Int), 0 ≤ (4 : Int) ∧ (4 : Int) < ((5 : Nat) : Int), 0 ≤ (12 : Int)] (by kernel_rfl) (hcons (by decide) (hcons (by decide) (hcons (by decide) (hcons (by decide) (hcons (by decide) (hcons (by decide) (hcons (by decide) (hcons (by decide) (hcons (by decide) (hcons (by decide) (hcons (by decide) (hcons (by decide) (hcons (by decide) (hcons (by decide) (hone (by decide)))))))))))))))) ?_
      refine q_k ?_
      refine tr_seq ?_
      refine tr_reg hT [(0, .key 44)] [.s 2, .s 6, .s 7, .h 1, .h 43, .h 44] [sO 2 (.ptr 1 0), sO 6 (.ptr 43 0), sO 7 (.ptr 44 0), hB 1 22 [.arr .u8 32 (List.replicate 32 0)], hB 43 30 [.arr .u64 4 [(bor .u64 (m19.getD 0 0) (shl .u64 (m19.getD 1 0) (51 : Int))), (bor .u64 (shr .u64 (m19.getD 1 0) (13 : Int)) (shl .u64 (m19.getD 2 0) (38 : Int))), (bor .u64 (shr .u64 (m19.getD 2 0) (26 : Int)) (shl .u64 (m19.getD 3 0) (25 : Int))), (bor .u64 (shr .u64 (m19.getD 3 0) (39 : Int)) (shl .u64 (m19.getD 4 0) (12 : Int)))]], hB 44 22 [.arr .u8 32 (List.replicate 32 0)]] [] (by kernel_rfl) trivial ?_
      refine q_k ?_
      refine tr_seq ?_
      refine tr_seq ?_
      refine tr_reg hT [] [.s 2, .s 6, .s 7, .s 68, .h 1, .h 43, .h 44] [sO 2 (.ptr 1 0), sO 6 (.ptr 43 0), sO 7 (.ptr 44 0), sI 68 .i64 (0 : Int), hB 1 22 [.arr .u8 32 (List.replicate 32 0)], hB 43 30 [.arr .u64 4 [(bor .u64 (m19.getD 0 0) (shl .u64 (m19.getD 1 0) (51 : Int))), (bor .u64 (shr .u64 (m19.getD 1 0) (13 : Int)) (shl .u64 (m19.getD 2 0) (38 : Int))), (bor .u64 (shr .u64 (m19.getD 2 0) (26 : Int)) (shl .u64 (m19.getD 3 0) (25 : Int))), (bor .u64 (shr .u64 (m19.getD 3 0) (39 : Int)) (shl .u64 (m19.getD 4 0) (12 : Int)))]], hB 44 22 [.arr .u8 32 (List.replicate 32 0)]] [] (by kernel_rfl) trivial ?_
      refine q_k ?_
      refine tr_block ?_
      obtain ⟨m23, e28, h⟩ := bind_some h
      refine tr_fit [] [sO 2 (.ptr 1 0), sO 6 (.ptr 43 0), sO 7 (.ptr 44 0), sI 68 .i64 (0 : Int), hB 1 22 [.arr .u8 32 (List.replicate 32 0)], hB 43 30 [.arr .u64 4 [(bor .u64 (m19.getD 0 0) (shl .u64 (m19.getD 1 0) (51 : Int))), (bor .u64 (shr .u64 (m19.getD 1 0) (13 : Int)) (shl .u64 (m19.getD 2 0) (38 : Int))), (bor .u64 (shr .u64 (m19.getD 2 0) (26 : Int)) (shl .u64 (m19.getD 3 0) (25 : Int))), (bor .u64 (shr .u64 (m19.getD 3 0) (39 : Int)) (shl .u64 (m19.getD 4 0) (12 : Int)))]], hB 44 22 [.arr .u8 32 (List.replicate 32 0)]] [(1, .blk 22 [.arr .u8 32 (List.replicate 32 0)]), (43, .blk 30 [.arr .u64 4 [(bor .u64 (m19.getD 0 0) (shl .u64 (m19.getD 1 0) (51 : Int))), (bor .u64 (shr .u64 (m19.getD 1 0) (13 : Int)) (shl .u64 (m19.getD 2 0) (38 : Int))), (bor .u64 (shr .u64 (m19.getD 2 0) (26 : Int)) (shl .u64 (m19.getD 3 0) (25 : Int))), (bor .u64 (shr .u64 (m19.getD 3 0) (39 : Int)) (shl .u64 (m19.getD 4 0) (12 : Int)))]]), (44, .blk 22 [.arr .u8 32 (List.replicate 32 0)])] (by kernel_rfl) (by kernel_rfl) (by kernel_rfl) rfl ⟨.blk (by kernel_rfl) (by kernel_rfl), .blk (by kernel_rfl) (by kernel_rfl), .blk (by kernel_rfl) (by kernel_rfl), trivial⟩ (by kernel_rfl) ?_
      refine tr_loop_fuel (id := 2) (α := List Int × Int) (β := List Int) (fun z => [sO 2 (.ptr 1 0), sO 6 (.ptr 43 0), sO 7 (.ptr 44 0), sI 68 .i64 z.2, hB 1 22 [.arr .u8 32 (List.replicate 32 0)], hB 43 30 [.arr .u64 4 [(bor .u64 (m19.getD 0 0) (shl .u64 (m19.getD 1 0) (51 : Int))), (bor .u64 (shr .u64 (m19.getD 1 0) (13 : Int)) (shl .u64 (m19.getD 2 0) (38 : Int))), (bor .u64 (shr .u64 (m19.getD 2 0) (26 : Int)) (shl .u64 (m19.getD 3 0) (25 : Int))), (bor .u64 (shr .u64 (m19.getD 3 0) (39 : Int)) (shl .u64 (m19.getD 4 0) (12 : Int)))]], hB 44 22 [.arr .u8 32 z.1]]) (fun z => [sO 2 (.ptr 1 0), sO 7 (.ptr 44 0), hB 1 22 [.arr .u8 32 (List.replicate 32 0)], hB 44 22 [.arr .u8 32 z]]) (fun k z => limb_N_Bytes_l2 m19 k z.1 z.2) m23 (fun _ => rfl) (((32 : Int) - (0 : Int)).toNat + 1) ((List.replicate 32 0), (0 : Int)) e28 ?_ ?_
      · skip
        replace h : (some m23) = _ := h
        refine q_b_this ?_
        refine q_k ?_
        refine tr_seq ?_
        refine tr_reg hT [] [.s 2, .h 1] [sO 2 (.ptr 1 0), hB 1 22 [.arr .u8 32 m23]] [] (by kernel_rfl) trivial ?_
        refine q_k ?_
        refine tr_ret ?_
        have h := Option.some.inj h
        subst h
        exact q_ret0 hT (.v (.agg [.arr .u8 32 m23])) rfl (by kernel_rfl)
      · clear h e28
        intro k ih2 hx2 z h
        obtain ⟨m21, x22⟩ := z
        replace h : (if (decide (x22 < (32 : Int))) = true then if 0 ≤ (IntKind.i64.wrap (x22.tdiv (8 : Int))) ∧ (IntKind.i64.wrap (x22.tdiv (8 : Int))) < ((4 : Nat) : Int) then if 0 ≤ (IntKind.i64.wrap ((8 : Int) * (x22.tmod (8 : Int)))) then if 0 ≤ x22 ∧ x22 < ((32 : Nat) : Int) then limb_N_Bytes_l2 m19 k (m21.set x22.toNat (IntKind.u8.wrap (shr .u64 ([(bor .u64 (m19.getD 0 0) (shl .u64 (m19.getD 1 0) (51 : Int))), (bor .u64 (shr .u64 (m19.getD 1 0) (13 : Int)) (shl .u64 (m19.getD 2 0) (38 : Int))), (bor .u64 (shr .u64 (m19.getD 2 0) (26 : Int)) (shl .u64 (m19.getD 3 0) (25 : Int))), (bor .u64 (shr .u64 (m19.getD 3 0) (39 : Int)) (shl .u64 (m19.getD 4 0) (12 : Int)))].getD (IntKind.i64.wrap (x22.tdiv (8 : Int))).toNat 0) (IntKind.i64.wrap ((8 : Int) * (x22.tmod (8 : Int))))))) (IntKind.i64.wrap (x22 + (1 : Int))) else none else none else none else some m21) = _ := h
        refine tr_seq ?_
        refine tr_reg hT [] [.s 2, .s 6, .s 7, .s 68, .s 69, .h 1, .h 43, .h 44] [sO 2 (.ptr 1 0), sO 6 (.ptr 43 0), sO 7 (.ptr 44 0), sI 68 .i64 x22, sB 69 (decide (x22 < (32 : Int))), hB 1 22 [.arr .u8 32 (List.replicate 32 0)], hB 43 30 [.arr .u64 4 [(bor .u64 (m19.getD 0 0) (shl .u64 (m19.getD 1 0) (51 : Int))), (bor .u64 (shr .u64 (m19.getD 1 0) (13 : Int)) (shl .u64 (m19.getD 2 0) (38 : Int))), (bor .u64 (shr .u64 (m19.getD 2 0) (26 : Int)) (shl .u64 (m19.getD 3 0) (25 : Int))), (bor .u64 (shr .u64 (m19.getD 3 0) (39 : Int)) (shl .u64 (m19.getD 4 0) (12 : Int)))]], hB 44 22 [.arr .u8 32 m21]] [] (by kernel_rfl) trivial ?_
        refine q_k ?_
        refine tr_seq ?_
        rcases ite_split h with ⟨hc24, h⟩ | ⟨hc24, h⟩
        · refine tr_cond_t (decide (x22 < (32 : Int))) (by kernel_rfl) hc24 ?_
          refine tr_skip ?_
          refine q_k ?_
          refine tr_seq ?_
          refine tr_block ?_
          refine tr_seq ?_
          refine tr_reg hT [] [.s 2, .s 6, .s 7, .s 8, .s 68, .h 1, .h 43, .h 44] [sO 2 (.ptr 1 0), sO 6 (.ptr 43 0), sO 7 (.ptr 44 0), sI 8 .i64 x22, sI 68 .i64 x22, hB 1 22 [.arr .u8 32 (List.replicate 32 0)], hB 43 30 [.arr .u64 4 [(bor .u64 (m19.getD 0 0) (shl .u64 (m19.getD 1 0) (51 : Int))), (bor .u64 (shr .u64 (m19.getD 1 0) (13 : Int)) (shl .u64 (m19.getD 2 0) (38 : Int))), (bor .u64 (shr .u64 (m19.getD 2 0) (26 : Int)) (shl .u64 (m19.getD 3 0) (25 : Int))), (bor .u64 (shr .u64 (m19.getD 3 0) (39 : Int)) (shl .u64 (m19.getD 4 0) (12 : Int)))]], hB 44 22 [.arr .u8 32 m21]] [] (by kernel_rfl) trivial ?_
          refine q_k ?_
          obtain ⟨hn25, h⟩ := ite_some h
          obtain ⟨hn26, h⟩ := ite_some h
          obtain ⟨hn27, h⟩ := ite_some h
          refine tr_reg hT [] [.s 2, .s 6, .s 7, .s 68, .h 1, .h 43, .h 44] [sO 2 (.ptr 1 0), sO 6 (.ptr 43 0), sO 7 (.ptr 44 0), sI 68 .i64 x22, hB 1 22 [.arr .u8 32 (List.replicate 32 0)], hB 43 30 [.arr .u64 4 [(bor .u64 (m19.getD 0 0) (shl .u64 (m19.getD 1 0) (51 : Int))), (bor .u64 (shr .u64 (m19.getD 1 0) (13 : Int)) (shl .u64 (m19.getD 2 0) (38 : Int))), (bor .u64 (shr .u64 (m19.getD 2 0) (26 : Int)) (shl .u64 (m19.getD 3 0) (25 : Int))), (bor .u64 (shr .u64 (m19.getD 3 0) (39 : Int)) (shl .u64 (m19.getD 4 0) (12 : Int)))]], hB 44 22 [.arr .u8 32 (m21.set x22.toNat (IntKind.u8.wrap (shr .u64 ([(bor .u64 (m19.getD 0 0) (shl .u64 (m19.getD 1 0) (51 : Int))), (bor .u64 (shr .u64 (m19.getD 1 0) (13 : Int)) (shl .u64 (m19.getD 2 0) (38 : Int))), (bor .u64 (shr .u64 (m19.getD 2 0) (26 : Int)) (shl .u64 (m19.getD 3 0) (25 : Int))), (bor .u64 (shr .u64 (m19.getD 3 0) (39 : Int)) (shl .u64 (m19.getD 4 0) (12 : Int)))].getD (IntKind.i64.wrap (x22.tdiv (8 : Int))).toNat 0) (IntKind.i64.wrap ((8 : Int) * (x22.tmod (8 : Int)))))))]] [(8 : Int) ≠ 0, 0 ≤ (IntKind.i64.wrap (x22.tdiv (8 : Int))) ∧ (IntKind.i64.wrap (x22.tdiv (8 : Int))) < ((4 : Nat) : Int), (8 : Int) ≠ 0, 0 ≤ (IntKind.i64.wrap ((8 : Int) * (x22.tmod (8 : Int)))), 0 ≤ x22 ∧ x22 < ((32 : Nat) : Int)] (by kernel_rfl) (hcons (by decide) (hcons hn25 (hcons (by decide) (hcons hn26 (hone hn27))))) ?_
          refine q_b 3 ?_
          refine q_k ?_
          refine tr_reg hT [] [.s 2, .s 6, .s 7, .s 68, .h 1, .h 43, .h 44] [sO 2 (.ptr 1 0), sO 6 (.ptr 43 0), sO 7 (.ptr 44 0), sI 68 .i64 (IntKind.i64.wrap (x22 + (1 : Int))), hB 1 22 [.arr .u8 32 (List.replicate 32 0)], hB 43 30 [.arr .u64 4 [(bor .u64 (m19.getD 0 0) (shl .u64 (m19.getD 1 0) (51 : Int))), (bor .u64 (shr .u64 (m19.getD 1 0) (13 : Int)) (shl .u64 (m19.getD 2 0) (38 : Int))), (bor .u64 (shr .u64 (m19.getD 2 0) (26 : Int)) (shl .u64 (m19.getD 3 0) (25 : Int))), (bor .u64 (shr .u64 (m19.getD 3 0) (39 : Int)) (shl .u64 (m19.getD 4 0) (12 : Int)))]], hB 44 22 [.arr .u8 32 (m21.set x22.toNat (IntKind.u8.wrap (shr .u64 ([(bor .u64 (m19.getD 0 0) (shl .u64 (m19.getD 1 0) (51 : Int))), (bor .u64 (shr .u64 (m19.getD 1 0) (13 : Int)) (shl .u64 (m19.getD 2 0) (38 : Int))), (bor .u64 (shr .u64 (m19.getD 2 0) (26 : Int)) (shl .u64 (m19.getD 3 0) (25 : Int))), (bor .u64 (shr .u64 (m19.getD 3 0) (39 : Int)) (shl .u64 (m19.getD 4 0) (12 : Int)))].getD (IntKind.i64.wrap (x22.tdiv (8 : Int))).toNat 0) (IntKind.i64.wrap ((8 : Int) * (x22.tmod (8 : Int)))))))]] [] (by kernel_rfl) trivial ?_
          refine q_kr ?_
          exact trR_less [.s 2, .s 6, .s 7, .s 68, .h 1, .h 43, .h 44] [sO 2 (.ptr 1 0), sO 6 (.ptr 43 0), sO 7 (.ptr 44 0), sI 68 .i64 (IntKind.i64.wrap (x22 + (1 : Int))), hB 1 22 [.arr .u8 32 (List.replicate 32 0)], hB 43 30 [.arr .u64 4 [(bor .u64 (m19.getD 0 0) (shl .u64 (m19.getD 1 0) (51 : Int))), (bor .u64 (shr .u64 (m19.getD 1 0) (13 : Int)) (shl .u64 (m19.getD 2 0) (38 : Int))), (bor .u64 (shr .u64 (m19.getD 2 0) (26 : Int)) (shl .u64 (m19.getD 3 0) (25 : Int))), (bor .u64 (shr .u64 (m19.getD 3 0) (39 : Int)) (shl .u64 (m19.getD 4 0) (12 : Int)))]], hB 44 22 [.arr .u8 32 (m21.set x22.toNat (IntKind.u8.wrap (shr .u64 ([(bor .u64 (m19.getD 0 0) (shl .u64 (m19.getD 1 0) (51 : Int))), (bor .u64 (shr .u64 (m19.getD 1 0) (13 : Int)) (shl .u64 (m19.getD 2 0) (38 : Int))), (bor .u64 (shr .u64 (m19.getD 2 0) (26 : Int)) (shl .u64 (m19.getD 3 0) (25 : Int))), (bor .u64 (shr .u64 (m19.getD 3 0) (39 : Int)) (shl .u64 (m19.getD 4 0) (12 : Int)))].getD (IntKind.i64.wrap (x22.tdiv (8 : Int))).toNat 0) (IntKind.i64.wrap ((8 : Int) * (x22.tmod (8 : Int)))))))]] (by kernel_rfl) (ih2 ((m21.set x22.toNat (IntKind.u8.wrap (shr .u64 ([(bor .u64 (m19.getD 0 0) (shl .u64 (m19.getD 1 0) (51 : Int))), (bor .u64 (shr .u64 (m19.getD 1 0) (13 : Int)) (shl .u64 (m19.getD 2 0) (38 : Int))), (bor .u64 (shr .u64 (m19.getD 2 0) (26 : Int)) (shl .u64 (m19.getD 3 0) (25 : Int))), (bor .u64 (shr .u64 (m19.getD 3 0) (39 : Int)) (shl .u64 (m19.getD 4 0) (12 : Int)))].getD (IntKind.i64.wrap (x22.tdiv (8 : Int))).toNat 0) (IntKind.i64.wrap ((8 : Int) * (x22.tmod (8 : Int))))))), (IntKind.i64.wrap (x22 + (1 : Int)))) h)
        · refine tr_cond_f (decide (x22 < (32 : Int))) (by kernel_rfl) hc24 ?_
          refine tr_exit ?_
          refine q_k_exit ?_
          refine q_kr_exit ?_
          have h := Option.some.inj h
          subst h
          exact q_less [.s 2, .s 7, .h 1, .h 44] [sO 2 (.ptr 1 0), sO 7 (.ptr 44 0), hB 1 22 [.arr .u8 32 (List.replicate 32 0)], hB 44 22 [.arr .u8 32 m21]] (by kernel_rfl) hx2
    · intro hj1
      clear h
      have h := e29
      clear e29
      rcases ite_split h with ⟨hc20, h⟩ | ⟨hc20, h⟩
      · refine tr_cond_t (decide (c11 > (0 : Int))) (by kernel_rfl) hc20 ?_
        refine tr_reg hT [] [.s 1, .s 2, .h 0, .h 1] [sO 1 (.ptr 0 0), sO 2 (.ptr 1 0), hB 0 71 [.arr .u64 5 m10], hB 1 22 [.arr .u8 32 (List.replicate 32 0)]] [] (by kernel_rfl) trivial ?_
        have h := Option.some.inj h
        subst h
        exact q_less [.s 1, .s 2, .h 0, .h 1] [sO 1 (.ptr 0 0), sO 2 (.ptr 1 0), hB 0 71 [.arr .u64 5 m10], hB 1 22 [.arr .u8 32 (List.replicate 32 0)]] (by kernel_rfl) hj1
      · refine tr_cond_f (decide (c11 > (0 : Int))) (by kernel_rfl) hc20 ?_
        refine tr_skip ?_
        have h := Option.some.inj h
        subst h
        exact q_less [.s 1, .s 2, .h 0, .h 1] [sO 1 (.ptr 0 0), sO 2 (.ptr 1 0), hB 0 71 [.arr .u64 5 a5], hB 1 22 [.arr .u8 32 (List.replicate 32 0)]] (by kernel_rfl) hj1
  · clear h e18
    intro k ih0 hx0 z h
    obtain ⟨m7, c8, x9⟩ := z
    replace h : (if (decide (x9 < (5 : Int))) = true then if 0 ≤ x9 ∧ x9 < ((5 : Nat) : Int) then if 0 ≤ x9 ∧ x9 < ((5 : Nat) : Int) then if 0 ≤ x9 ∧ x9 < ((5 : Nat) : Int) then if 0 ≤ x9 ∧ x9 < ((5 : Nat) : Int) then if 0 ≤ x9 ∧ x9 < ((5 : Nat) : Int) then limb_N_Bytes_l0 a5 k ((m7.set x9.toNat (IntKind.u64.wrap ((m7.getD x9.toNat 0) + c8))).set x9.toNat (band .u64 ((m7.set x9.toNat (IntKind.u64.wrap ((m7.getD x9.toNat 0) + c8))).getD x9.toNat 0) (2251799813685247 : Int))) (shr .u64 ((m7.set x9.toNat (IntKind.u64.wrap ((m7.getD x9.toNat 0) + c8))).getD x9.toNat 0) (51 : Int)) (IntKind.i64.wrap (x9 + (1 : Int))) else none else none else none else none else none else some (m7, c8)) = _ := h
    refine tr_seq ?_
    refine tr_reg hT [] [.s 1, .s 2, .s 3, .s 4, .s 18, .s 19, .h 0, .h 1, .h 2] [sO 1 (.ptr 0 0), sO 2 (.ptr 1 0), sO 3 (.ptr 2 0), sI 4 .u64 c8, sI 18 .i64 x9, sB 19 (decide (x9 < (5 : Int))), hB 0 71 [.arr .u64 5 a5], hB 1 22 [.arr .u8 32 (List.replicate 32 0)], hB 2 71 [.arr .u64 5 m7]] [] (by kernel_rfl) trivial ?_
    refine q_k ?_
    refine tr_seq ?_
    rcases ite_split h with ⟨hc12, h⟩ | ⟨hc12, h⟩
    · refine tr_cond_t (decide (x9 < (5 : Int))) (by kernel_rfl) hc12 ?_
      refine tr_skip ?_
      refine q_k ?_
      refine tr_seq ?_
      refine tr_block ?_
      refine tr_seq ?_
      refine tr_reg hT [] [.s 1, .s 2, .s 3, .s 4, .s 5, .s 18, .h 0, .h 1, .h 2] [sO 1 (.ptr 0 0), sO 2 (.ptr 1 0), sO 3 (.ptr 2 0), sI 4 .u64 c8, sI 5 .i64 x9, sI 18 .i64 x9, hB 0 71 [.arr .u64 5 a5], hB 1 22 [.arr .u8 32 (List.replicate 32 0)], hB 2 71 [.arr .u64 5 m7]] [] (by kernel_rfl) trivial ?_
      refine q_k ?_
      refine tr_seq ?_
      obtain ⟨hn13, h⟩ := ite_some h
      obtain ⟨hn14, h⟩ := ite_some h
      refine tr_reg hT [] [.s 1, .s 2, .s 3, .s 5, .s 18, .h 0, .h 1, .h 2] [sO 1 (.ptr 0 0), sO 2 (.ptr 1 0), sO 3 (.ptr 2 0), sI 5 .i64 x9, sI 18 .i64 x9, hB 0 71 [.arr .u64 5 a5], hB 1 22 [.arr .u8 32 (List.replicate 32 0)], hB 2 71 [.arr .u64 5 (m7.set x9.toNat (IntKind.u64.wrap ((m7.getD x9.toNat 0) + c8)))]] [0 ≤ x9 ∧ x9 < ((5 : Nat) : Int), 0 ≤ x9 ∧ x9 < ((5 : Nat) : Int)] (by kernel_rfl) (hcons hn13 (hone hn14)) ?_
      refine q_k ?_
      refine tr_seq ?_
      obtain ⟨hn15, h⟩ := ite_some h
      refine tr_reg hT [] [.s 1, .s 2, .s 3, .s 4, .s 5, .s 18, .h 0, .h 1, .h 2] [sO 1 (.ptr 0 0), sO 2 (.ptr 1 0), sO 3 (.ptr 2 0), sI 4 .u64 (shr .u64 ((m7.set x9.toNat (IntKind.u64.wrap ((m7.getD x9.toNat 0) + c8))).getD x9.toNat 0) (51 : Int)), sI 5 .i64 x9, sI 18 .i64 x9, hB 0 71 [.arr .u64 5 a5], hB 1 22 [.arr .u8 32 (List.replicate 32 0)], hB 2 71 [.arr .u64 5 (m7.set x9.toNat (IntKind.u64.wrap ((m7.getD x9.toNat 0) + c8)))]] [0 ≤ x9 ∧ x9 < ((5 : Nat) : Int), 0 ≤ (51 : Int)] (by kernel_rfl) (hcons hn15 (hone (by decide))) ?_
      refine q_k ?_
      obtain ⟨hn16, h⟩ := ite_some h
      obtain ⟨hn17, h⟩ := ite_some h
      refine tr_reg hT [] [.s 1, .s 2, .s 3, .s 4, .s 18, .h 0, .h 1, .h 2] [sO 1 (.ptr 0 0), sO 2 (.ptr 1 0), sO 3 (.ptr 2 0), sI 4 .u64 (shr .u64 ((m7.set x9.toNat (IntKind.u64.wrap ((m7.getD x9.toNat 0) + c8))).getD x9.toNat 0) (51 : Int)), sI 18 .i64 x9, hB 0 71 [.arr .u64 5 a5], hB 1 22 [.arr .u8 32 (List.replicate 32 0)], hB 2 71 [.arr .u64 5 ((m7.set x9.toNat (IntKind.u64.wrap ((m7.getD x9.toNat 0) + c8))).set x9.toNat (band .u64 ((m7.set x9.toNat (IntKind.u64.wrap ((m7.getD x9.toNat 0) + c8))).getD x9.toNat 0) (2251799813685247 : Int)))]] [0 ≤ x9 ∧ x9 < ((5 : Nat) : Int), 0 ≤ x9 ∧ x9 < ((5 : Nat) : Int)] (by kernel_rfl) (hcons hn16 (hone hn17)) ?_
      refine q_b 1 ?_
      refine q_k ?_
      refine tr_reg hT [] [.s 1, .s 2, .s 3, .s 4, .s 18, .h 0, .h 1, .h 2] [sO 1 (.ptr 0 0), sO 2 (.ptr 1 0), sO 3 (.ptr 2 0), sI 4 .u64 (shr .u64 ((m7.set x9.toNat (IntKind.u64.wrap ((m7.getD x9.toNat 0) + c8))).getD x9.toNat 0) (51 : Int)), sI 18 .i64 (IntKind.i64.wrap (x9 + (1 : Int))), hB 0 71 [.arr .u64 5 a5], hB 1 22 [.arr .u8 32 (List.replicate 32 0)], hB 2 71 [.arr .u64 5 ((m7.set x9.toNat (IntKind.u64.wrap ((m7.getD x9.toNat 0) + c8))).set x9.toNat (band .u64 ((m7.set x9.toNat (IntKind.u64.wrap ((m7.getD x9.toNat 0) + c8))).getD x9.toNat 0) (2251799813685247 : Int)))]] [] (by kernel_rfl) trivial ?_
      refine q_kr ?_
      exact trR_less [.s 1, .s 2, .s 3, .s 4, .s 18, .h 0, .h 1, .h 2] [sO 1 (.ptr 0 0), sO 2 (.ptr 1 0), sO 3 (.ptr 2 0), sI 4 .u64 (shr .u64 ((m7.set x9.toNat (IntKind.u64.wrap ((m7.getD x9.toNat 0) + c8))).getD x9.toNat 0) (51 : Int)), sI 18 .i64 (IntKind.i64.wrap (x9 + (1 : Int))), hB 0 71 [.arr .u64 5 a5], hB 1 22 [.arr .u8 32 (List.replicate 32 0)], hB 2 71 [.arr .u64 5 ((m7.set x9.toNat (IntKind.u64.wrap ((m7.getD x9.toNat 0) + c8))).set x9.toNat (band .u64 ((m7.set x9.toNat (IntKind.u64.wrap ((m7.getD x9.toNat 0) + c8))).getD x9.toNat 0) (2251799813685247 : Int)))]] (by kernel_rfl) (ih0 (((m7.set x9.toNat (IntKind.u64.wrap ((m7.getD x9.toNat 0) + c8))).set x9.toNat (band .u64 ((m7.set x9.toNat (IntKind.u64.wrap ((m7.getD x9.toNat 0) + c8))).getD x9.toNat 0) (2251799813685247 : Int))), (shr .u64 ((m7.set x9.toNat (IntKind.u64.wrap ((m7.getD x9.toNat 0) + c8))).getD x9.toNat 0) (51 : Int)), (IntKind.i64.wrap (x9 + (1 : Int)))) h)
    · refine tr_cond_f (decide (x9 < (5 : Int))) (by kernel_rfl) hc12 ?_
      refine tr_exit ?_
      refine q_k_exit ?_
      refine q_kr_exit ?_
      have h := Option.some.inj h
      subst h
      exact q_less [.s 1, .s 2, .s 3, .s 4, .h 0, .h 1, .h 2] [sO 1 (.ptr 0 0), sO 2 (.ptr 1 0), sO 3 (.ptr 2 0), sI 4 .u64 c8, hB 0 71 [.arr .u64 5 a5], hB 1 22 [.arr .u8 32 (List.replicate 32 0)], hB 2 71 [.arr .u64 5 m7]] (by kernel_rfl) hx0

theorem field_Mod_ok (a_0 : List Int) (r : List Int) (h : field_Mod a_0 = some r) {pre : List (Nat × Ent)} : CallOk P 33 [.v (.agg [.arr .u8 32 a_0])] pre (.v (.agg [.arr .u8 32 r])) [] := by
  refine call0 (N := 6) Try.func33 (by kernel_rfl) rfl rfl rfl pre ?_
  intro _ w
  show Tr P (Ge w) 6 _ _ _ (RetQ P Try.f33 (R0 _ w))
  unfold field_Mod at h
  refine tr_seq ?_
  refine tr_reg hT [(0, .key 0), (1, .key 1)] [.s 1, .s 2, .h 0, .h 1] [sO 1 (.ptr 0 0), sO 2 (.ptr 1 0), hB 0 22 [.arr .u8 32 a_0], hB 1 22 [.arr .u8 32 (List.replicate 32 0)]] [] (by kernel_rfl) trivial ?_
  refine q_k ?_
  refine tr_seq ?_
  obtain ⟨a1, e2, h⟩ := bind_some h
  obtain ⟨a3, e4, h⟩ := bind_some h
  refine tr_reg hT [(1, .call [] (.v (.agg [.arr .u64 5 a1])) []), (2, .call [] (.v (.agg [.arr .u8 32 a3])) [])] [.s 2, .h 1] [sO 2 (.ptr 1 0), hB 1 22 [.arr .u8 32 a3]] [CallOk P 72 [.v (.agg [.arr .u8 32 a_0])] [] (.v (.agg [.arr .u64 5 a1])) [], CallOk P 73 [.v (.agg [.arr .u64 5 a1])] [] (.v (.agg [.arr .u8 32 a3])) []] (by kernel_rfl) (hcons (limb_Of_ok a_0 a1 e2) (hone (limb_N_Bytes_ok a1 a3 e4))) ?_
  refine q_k ?_
  refine tr_ret ?_
  have h := Option.some.inj h
  subst h
  exact q_ret0 hT (.v (.agg [.arr .u8 32 a3])) rfl (by kernel_rfl)

theorem limb_Mul_ok (a_0 : List Int) (b_1 : List Int) (r : List Int) (h : limb_Mul a_0 b_1 = some r) {pre : List (Nat × Ent)} : CallOk P 74 [.v (.agg [.arr .u64 5 a_0]), .v (.agg [.arr .u64 5 b_1])] pre (.v (.agg [.arr .u64 5 r])) [] := by
  refine call0 (N := 122) Try.func74 (by kernel_rfl) rfl rfl rfl pre ?_
  intro _ w
  show Tr P (Ge w) 122 _ _ _ (RetQ P Try.f74 (R0 _ w))
  unfold limb_Mul at h
  refine tr_seq ?_
  refine tr_reg hT [(0, .key 0), (1, .key 1), (2, .key 2)] [.s 2, .s 3, .s 4, .h 0, .h 1, .h 2] [sO 2 (.ptr 0 0), sO 3 (.ptr 1 0), sO 4 (.ptr 2 0), hB 0 71 [.arr .u64 5 a_0], hB 1 71 [.arr .u64 5 b_1], hB 2 71 [.arr .u64 5 (List.replicate 5 0)]] [] (by kernel_rfl) trivial ?_
  refine q_k ?_
  refine tr_seq ?_
  refine tr_reg hT [(0, .key 3), (1, .key 4)] [.s 2, .s 3, .s 4, .s 5, .s 6, .h 0, .h 1, .h 2, .h 3, .h 4] [sO 2 (.ptr 0 0), sO 3 (.ptr 1 0), sO 4 (.ptr 2 0), sO 5 (.ptr 3 0), sO 6 (.ptr 4 0), hB 0 71 [.arr .u64 5 a_0], hB 1 71 [.arr .u64 5 b_1], hB 2 71 [.arr .u64 5 (List.replicate 5 0)], hB 3 70 [.arr .u64 5 (List.replicate 5 0)], hB 4 70 [.arr .u64 5 (List.replicate 5 0)]] [] (by kernel_rfl) trivial ?_
  refine q_k ?_
  refine tr_seq ?_
  refine tr_seq ?_
  refine tr_reg hT [] [.s 2, .s 3, .s 4, .s 5, .s 6, .s 22, .h 0, .h 1, .h 2, .h 3, .h 4] [sO 2 (.ptr 0 0), sO 3 (.ptr 1 0), sO 4 (.ptr 2 0), sO 5 (.ptr 3 0), sO 6 (.ptr 4 0), sI 22 .i64 (0 : Int), hB 0 71 [.arr .u64 5 a_0], hB 1 71 [.arr .u64 5 b_1], hB 2 71 [.arr .u64 5 (List.replicate 5 0)], hB 3 70 [.arr .u64 5 (List.replicate 5 0)], hB 4 70 [.arr .u64 5 (List.replicate 5 0)]] [] (by kernel_rfl) trivial ?_
  refine q_k ?_
  refine tr_block ?_
  obtain ⟨rr0, e31, h⟩ := bind_some h
  refine tr_fit [] [sO 2 (.ptr 0 0), sO 3 (.ptr 1 0), sO 4 (.ptr 2 0), sO 5 (.ptr 3 0), sO 6 (.ptr 4 0), sI 22 .i64 (0 : Int), hB 0 71 [.arr .u64 5 a_0], hB 1 71 [.arr .u64 5 b_1], hB 2 71 [.arr .u64 5 (List.replicate 5 0)], hB 3 70 [.arr .u64 5 (List.replicate 5 0)], hB 4 70 [.arr .u64 5 (List.replicate 5 0)]] [(0, .blk 71 [.arr .u64 5 a_0]), (1, .blk 71 [.arr .u64 5 b_1]), (2, .blk 71 [.arr .u64 5 (List.replicate 5 0)]), (3, .blk 70 [.arr .u64 5 (List.replicate 5 0)]), (4, .blk 70 [.arr .u64 5 (List.replicate 5 0)])] (by kernel_rfl) (by kernel_rfl) (by kernel_rfl) rfl ⟨.blk (by kernel_rfl) (by kernel_rfl), .blk (by kernel_rfl) (by kernel_rfl), .blk (by kernel_rfl) (by kernel_rfl), .blk (by kernel_rfl) (by kernel_rfl), .blk (by kernel_rfl) (by kernel_rfl), trivial⟩ (by kernel_rfl) ?_
  refine tr_loop_fuel (id := 0) (α := List Int × List Int × Int) (β := List Int × List Int) (fun z => [sO 2 (.ptr 0 0), sO 3 (.ptr 1 0), sO 4 (.ptr 2 0), sO 5 (.ptr 3 0), sO 6 (.ptr 4 0), sI 22 .i64 z.2.2, hB 0 71 [.arr .u64 5 a_0], hB 1 71 [.arr .u64 5 b_1], hB 2 71 [.arr .u64 5 (List.replicate 5 0)], hB 3 70 [.arr .u64 5 z.1], hB 4 70 [.arr .u64 5 z.2.1]]) (fun z => [sO 4 (.ptr 2 0), sO 5 (.ptr 3 0), sO 6 (.ptr 4 0), hB 2 71 [.arr .u64 5 (List.replicate 5 0)], hB 3 70 [.arr .u64 5 z.1], hB 4 70 [.arr .u64 5 z.2]]) (fun k z => limb_Mul_l0 a_0 b_1 k z.1 z.2.1 z.2.2) rr0 (fun _ => rfl) (((5 : Int) - (0 : Int)).toNat + 1) ((List.replicate 5 0), (List.replicate 5 0), (0 : Int)) e31 ?_ ?_
  · rcases rr0 with ⟨m4, m5⟩
    replace h : ((limb_Mul_l3 m4 m5 (((5 : Int) - (0 : Int)).toNat + 1) (List.replicate 5 0) (0 : Int) (0 : Int)).bind (fun (m35, carry36) => (math_bits_Mul64 carry36 (19 : Int)).bind (fun (r46, r47) => (add64 r47 (m35.getD 0 0) (0 : Int)).bind (fun (r50, r51) => (limb_carried ((m35.set 0 (band .u64 r50 (2251799813685247 : Int))).set 1 (IntKind.u64.wrap (((m35.set 0 (band .u64 r50 (2251799813685247 : Int))).getD 1 0) + (bor .u64 (shl .u64 (IntKind.u64.wrap (r46 + r51)) (13 : Int)) (shr .u64 r50 (51 : Int))))))).bind (fun a54 => some a54))))) = _ := h
    refine q_b_this ?_
    refine q_k ?_
    refine tr_seq ?_
    refine tr_reg hT [(0, .key 45)] [.s 4, .s 5, .s 6, .s 14, .h 2, .h 3, .h 4, .h 45] [sO 4 (.ptr 2 0), sO 5 (.ptr 3 0), sO 6 (.ptr 4 0), sO 14 (.ptr 45 0), hB 2 71 [.arr .u64 5 (List.replicate 5 0)], hB 3 70 [.arr .u64 5 m4], hB 4 70 [.arr .u64 5 m5], hB 45 71 [.arr .u64 5 (List.replicate 5 0)]] [] (by kernel_rfl) trivial ?_
    refine q_k ?_
    refine tr_seq ?_
    refine tr_reg hT [] [.s 4, .s 5, .s 6, .s 14, .s 15, .h 2, .h 3, .h 4, .h 45] [sO 4 (.ptr 2 0), sO 5 (.ptr 3 0), sO 6 (.ptr 4 0), sO 14 (.ptr 45 0), sI 15 .u64 (0 : Int), hB 2 71 [.arr .u64 5 (List.replicate 5 0)], hB 3 70 [.arr .u64 5 m4], hB 4 70 [.arr .u64 5 m5], hB 45 71 [.arr .u64 5 (List.replicate 5 0)]] [] (by kernel_rfl) trivial ?_
    refine q_k ?_
    refine tr_seq ?_
    refine tr_seq ?_
    refine tr_reg hT [] [.s 4, .s 5, .s 6, .s 14, .s 15, .s 69, .h 2, .h 3, .h 4, .h 45] [sO 4 (.ptr 2 0), sO 5 (.ptr 3 0), sO 6 (.ptr 4 0), sO 14 (.ptr 45 0), sI 15 .u64 (0 : Int), sI 69 .i64 (0 : Int), hB 2 71 [.arr .u64 5 (List.replicate 5 0)], hB 3 70 [.arr .u64 5 m4], hB 4 70 [.arr .u64 5 m5], hB 45 71 [.arr .u64 5 (List.replicate 5 0)]] [] (by kernel_rfl) trivial ?_
    refine q_k ?_
    refine tr_block ?_
    obtain ⟨rr3, e45, h⟩ := bind_some h
    refine tr_fit [] [sO 4 (.ptr 2 0), sO 5 (.ptr 3 0), sO 6 (.ptr 4 0), sO 14 (.ptr 45 0), sI 15 .u64 (0 : Int), sI 69 .i64 (0 : Int), hB 2 71 [.arr .u64 5 (List.replicate 5 0)], hB 3 70 [.arr .u64 5 m4], hB 4 70 [.arr .u64 5 m5], hB 45 71 [.arr .u64 5 (List.replicate 5 0)]] [(2, .blk 71 [.arr .u64 5 (List.replicate 5 0)]), (3, .blk 70 [.arr .u64 5 m4]), (4, .blk 70 [.arr .u64 5 m5]), (45, .blk 71 [.arr .u64 5 (List.replicate 5 0)])] (by kernel_rfl) (by kernel_rfl) (by kernel_rfl) rfl ⟨.blk (by kernel_rfl) (by kernel_rfl), .blk (by kernel_rfl) (by kernel_rfl), .blk (by kernel_rfl) (by kernel_rfl), .blk (by kernel_rfl) (by kernel_rfl), trivial⟩ (by kernel_rfl) ?_
    refine tr_loop_fuel (id := 4) (α := List Int × Int × Int) (β := List Int × Int) (fun z => [sO 4 (.ptr 2 0), sO 5 (.ptr 3 0), sO 6 (.ptr 4 0), sO 14 (.ptr 45 0), sI 15 .u64 z.2.1, sI 69 .i64 z.2.2, hB 2 71 [.arr .u64 5 (List.replicate 5 0)], hB 3 70 [.arr .u64 5 m4], hB 4 70 [.arr .u64 5 m5], hB 45 71 [.arr .u64 5 z.1]]) (fun z => [sO 4 (.ptr 2 0), sO 14 (.ptr 45 0), sI 15 .u64 z.2, hB 2 71 [.arr .u64 5 (List.replicate 5 0)], hB 45 71 [.arr .u64 5 z.1]]) (fun k z => limb_Mul_l3 m4 m5 k z.1 z.2.1 z.2.2) rr3 (fun _ => rfl) (((5 : Int) - (0 : Int)).toNat + 1) ((List.replicate 5 0), (0 : Int), (0 : Int)) e45 ?_ ?_
    · rcases rr3 with ⟨m35, carry36⟩
      replace h : ((math_bits_Mul64 carry36 (19 : Int)).bind (fun (r46, r47) => (add64 r47 (m35.getD 0 0) (0 : Int)).bind (fun (r50, r51) => (limb_carried ((m35.set 0 (band .u64 r50 (2251799813685247 : Int))).set 1 (IntKind.u64.wrap (((m35.set 0 (band .u64 r50 (2251799813685247 : Int))).getD 1 0) + (bor .u64 (shl .u64 (IntKind.u64.wrap (r46 + r51)) (13 : Int)) (shr .u64 r50 (51 : Int))))))).bind (fun a54 => some a54)))) = _ := h
      refine q_b_this ?_
      refine q_k ?_
      refine tr_seq ?_
      obtain ⟨⟨r46, r47⟩, e48, h⟩ := bind_some h
      refine tr_reg hT [(1, .call [] (.tup [.one (.int .u64 r46), .one (.int .u64 r47)]) [])] [.s 4, .s 14, .s 19, .s 20, .h 2, .h 45] [sO 4 (.ptr 2 0), sO 14 (.ptr 45 0), sI 19 .u64 r46, sI 20 .u64 r47, hB 2 71 [.arr .u64 5 (List.replicate 5 0)], hB 45 71 [.arr .u64 5 m35]] [CallOk P 100 [.v (.one (.int .u64 carry36)), .v (.one (.int .u64 (19 : Int)))] [] (.tup [.one (.int .u64 r46), .one (.int .u64 r47)]) []] (by kernel_rfl) (hone (math_bits_Mul64_ok carry36 (19 : Int) (r46, r47) e48)) ?_
      refine q_k ?_
      refine tr_seq ?_
      obtain ⟨⟨r50, r51⟩, e52, h⟩ := bind_some h
      refine tr_reg hT [(3, .call [] (.tup [.one (.int .u64 r50), .one (.int .u64 r51)]) [])] [.s 4, .s 14, .s 19, .s 20, .s 21, .h 2, .h 45] [sO 4 (.ptr 2 0), sO 14 (.ptr 45 0), sI 19 .u64 r46, sI 20 .u64 r50, sI 21 .u64 r51, hB 2 71 [.arr .u64 5 (List.replicate 5 0)], hB 45 71 [.arr .u64 5 m35]] [0 ≤ (0 : Int) ∧ (0 : Int) < ((5 : Nat) : Int), CallOk P 78 [.v (.one (.int .u64 r47)), .v (.one (.int .u64 (m35.getD 0 0))), .v (.one (.int .u64 (0 : Int)))] [] (.tup [.one (.int .u64 r50), .one (.int .u64 r51)]) []] (by kernel_rfl) (hcons (by decide) (hone (bits_Add64_ok r47 (m35.getD 0 0) (0 : Int) (r50, r51) e52))) ?_
      refine q_k ?_
      refine tr_seq ?_
      refine tr_reg hT [] [.s 4, .s 14, .s 19, .s 20, .s 21, .h 2, .h 45] [sO 4 (.ptr 2 0), sO 14 (.ptr 45 0), sI 19 .u64 r46, sI 20 .u64 r50, sI 21 .u64 r51, hB 2 71 [.arr .u64 5 (List.replicate 5 0)], hB 45 71 [.arr .u64 5 (m35.set 0 (band .u64 r50 (2251799813685247 : Int)))]] [0 ≤ (0 : Int) ∧ (0 : Int) < ((5 : Nat) : Int)] (by kernel_rfl) (hone (by decide)) ?_
      refine q_k ?_
      refine tr_seq ?_
      refine tr_reg hT [] [.s 4, .s 14, .h 2, .h 45] [sO 4 (.ptr 2 0), sO 14 (.ptr 45 0), hB 2 71 [.arr .u64 5 (List.replicate 5 0)], hB 45 71 [.arr .u64 5 ((m35.set 0 (band .u64 r50 (2251799813685247 : Int))).set 1 (IntKind.u64.wrap (((m35.set 0 (band .u64 r50 (2251799813685247 : Int))).getD 1 0) + (bor .u64 (shl .u64 (IntKind.u64.wrap (r46 + r51)) (13 : Int)) (shr .u64 r50 (51 : Int))))))]] [0 ≤ (1 : Int) ∧ (1 : Int) < ((5 : Nat) : Int), 0 ≤ (13 : Int), 0 ≤ (51 : Int), 0 ≤ (1 : Int) ∧ (1 : Int) < ((5 : Nat) : Int)] (by kernel_rfl) (hcons (by decide) (hcons (by decide) (hcons (by decide) (hone (by decide))))) ?_
      refine q_k ?_
      refine tr_seq ?_
      obtain ⟨a54, e55, h⟩ := bind_some h
      refine tr_reg hT [(1, .call [] (.v (.agg [.arr .u64 5 a54])) [])] [.s 4, .h 2] [sO 4 (.ptr 2 0), hB 2 71 [.arr .u64 5 a54]] [CallOk P 102 [.v (.agg [.arr .u64 5 ((m35.set 0 (band .u64 r50 (2251799813685247 : Int))).set 1 (IntKind.u64.wrap (((m35.set 0 (band .u64 r50 (2251799813685247 : Int))).getD 1 0) + (bor .u64 (shl .u64 (IntKind.u64.wrap (r46 + r51)) (13 : Int)) (shr .u64 r50 (51 : Int))))))])] [] (.v (.agg [.arr .u64 5 a54])) []] (by kernel_rfl) (hone (limb_carried_ok ((m35.set 0 (band .u64 r50 (2251799813685247 : Int))).set 1 (IntKind.u64.wrap (((m35.set 0 (band .u64 r50 (2251799813685247 : Int))).getD 1 0) + (bor .u64 (shl .u64 (IntKind.u64.wrap (r46 + r51)) (13 : Int)) (shr .u64 r50 (51 : Int)))))) a54 e55)) ?_
      refine q_k ?_
      refine tr_ret ?_
      have h := Option.some.inj h
      subst h
      exact q_ret0 hT (.v (.agg [.arr .u64 5 a54])) rfl (by kernel_rfl)
    · clear h e45
      intro k ih3 hx3 z h
      obtain ⟨m32, carry33, x34⟩ := z
      replace h : (if (decide (x34 < (5 : Int))) = true then if 0 ≤ x34 ∧ x34 < ((5 : Nat) : Int) then (add64 (m5.getD x34.toNat 0) carry33 (0 : Int)).bind (fun (r39, r40) => if 0 ≤ x34 ∧ x34 < ((5 : Nat) : Int) then if 0 ≤ x34 ∧ x34 < ((5 : Nat) : Int) then limb_Mul_l3 m4 m5 k (m32.set x34.toNat (band .u64 r39 (2251799813685247 : Int))) (bor .u64 (shl .u64 (IntKind.u64.wrap ((m4.getD x34.toNat 0) + r40)) (13 : Int)) (shr .u64 r39 (51 : Int))) (IntKind.i64.wrap (x34 + (1 : Int))) else none else none) else none else some (m32, carry33)) = _ := h
      refine tr_seq ?_
      refine tr_reg hT [] [.s 4, .s 5, .s 6, .s 14, .s 15, .s 69, .s 70, .h 2, .h 3, .h 4, .h 45] [sO 4 (.ptr 2 0), sO 5 (.ptr 3 0), sO 6 (.ptr 4 0), sO 14 (.ptr 45 0), sI 15 .u64 carry33, sI 69 .i64 x34, sB 70 (decide (x34 < (5 : Int))), hB 2 71 [.arr .u64 5 (List.replicate 5 0)], hB 3 70 [.arr .u64 5 m4], hB 4 70 [.arr .u64 5 m5], hB 45 71 [.arr .u64 5 m32]] [] (by kernel_rfl) trivial ?_
      refine q_k ?_
      refine tr_seq ?_
      rcases ite_split h with ⟨hc37, h⟩ | ⟨hc37, h⟩
      · refine tr_cond_t (decide (x34 < (5 : Int))) (by kernel_rfl) hc37 ?_
        refine tr_skip ?_
        refine q_k ?_
        refine tr_seq ?_
        refine tr_block ?_
        refine tr_seq ?_
        refine tr_reg hT [] [.s 4, .s 5, .s 6, .s 14, .s 15, .s 16, .s 69, .h 2, .h 3, .h 4, .h 45] [sO 4 (.ptr 2 0), sO 5 (.ptr 3 0), sO 6 (.ptr 4 0), sO 14 (.ptr 45 0), sI 15 .u64 carry33, sI 16 .i64 x34, sI 69 .i64 x34, hB 2 71 [.arr .u64 5 (List.replicate 5 0)], hB 3 70 [.arr .u64 5 m4], hB 4 70 [.arr .u64 5 m5], hB 45 71 [.arr .u64 5 m32]] [] (by kernel_rfl) trivial ?_
        refine q_k ?_
        refine tr_seq ?_
        obtain ⟨hn38, h⟩ := ite_some h
        obtain ⟨⟨r39, r40⟩, e41, h⟩ := bind_some h
        refine tr_reg hT [(4, .call [] (.tup [.one (.int .u64 r39), .one (.int .u64 r40)]) [])] [.s 4, .s 5, .s 6, .s 14, .s 16, .s 17, .s 18, .s 69, .h 2, .h 3, .h 4, .h 45] [sO 4 (.ptr 2 0), sO 5 (.ptr 3 0), sO 6 (.ptr 4 0), sO 14 (.ptr 45 0), sI 16 .i64 x34, sI 17 .u64 r39, sI 18 .u64 r40, sI 69 .i64 x34, hB 2 71 [.arr .u64 5 (List.replicate 5 0)], hB 3 70 [.arr .u64 5 m4], hB 4 70 [.arr .u64 5 m5], hB 45 71 [.arr .u64 5 m32]] [0 ≤ x34 ∧ x34 < ((5 : Nat) : Int), CallOk P 78 [.v (.one (.int .u64 (m5.getD x34.toNat 0))), .v (.one (.int .u64 carry33)), .v (.one (.int .u64 (0 : Int)))] [] (.tup [.one (.int .u64 r39), .one (.int .u64 r40)]) []] (by kernel_rfl) (hcons hn38 (hone (bits_Add64_ok (m5.getD x34.toNat 0) carry33 (0 : Int) (r39, r40) e41))) ?_
        refine q_k ?_
        refine tr_seq ?_
        obtain ⟨hn43, h⟩ := ite_some h
        refine tr_reg hT [] [.s 4, .s 5, .s 6, .s 14, .s 16, .s 17, .s 18, .s 69, .h 2, .h 3, .h 4, .h 45] [sO 4 (.ptr 2 0), sO 5 (.ptr 3 0), sO 6 (.ptr 4 0), sO 14 (.ptr 45 0), sI 16 .i64 x34, sI 17 .u64 r39, sI 18 .u64 r40, sI 69 .i64 x34, hB 2 71 [.arr .u64 5 (List.replicate 5 0)], hB 3 70 [.arr .u64 5 m4], hB 4 70 [.arr .u64 5 m5], hB 45 71 [.arr .u64 5 (m32.set x34.toNat (band .u64 r39 (2251799813685247 : Int)))]] [0 ≤ x34 ∧ x34 < ((5 : Nat) : Int)] (by kernel_rfl) (hone hn43) ?_
        refine q_k ?_
        obtain ⟨hn44, h⟩ := ite_some h
        refine tr_reg hT [] [.s 4, .s 5, .s 6, .s 14, .s 15, .s 69, .h 2, .h 3, .h 4, .h 45] [sO 4 (.ptr 2 0), sO 5 (.ptr 3 0), sO 6 (.ptr 4 0), sO 14 (.ptr 45 0), sI 15 .u64 (bor .u64 (shl .u64 (IntKind.u64.wrap ((m4.getD x34.toNat 0) + r40)) (13 : Int)) (shr .u64 r39 (51 : Int))), sI 69 .i64 x34, hB 2 71 [.arr .u64 5 (List.replicate 5 0)], hB 3 70 [.arr .u64 5 m4], hB 4 70 [.arr .u64 5 m5], hB 45 71 [.arr .u64 5 (m32.set x34.toNat (band .u64 r39 (2251799813685247 : Int)))]] [0 ≤ x34 ∧ x34 < ((5 : Nat) : Int), 0 ≤ (13 : Int), 0 ≤ (51 : Int)] (by kernel_rfl) (hcons hn44 (hcons (by decide) (hone (by decide)))) ?_
        refine q_b 5 ?_
        refine q_k ?_
        refine tr_reg hT [] [.s 4, .s 5, .s 6, .s 14, .s 15, .s 69, .h 2, .h 3, .h 4, .h 45] [sO 4 (.ptr 2 0), sO 5 (.ptr 3 0), sO 6 (.ptr 4 0), sO 14 (.ptr 45 0), sI 15 .u64 (bor .u64 (shl .u64 (IntKind.u64.wrap ((m4.getD x34.toNat 0) + r40)) (13 : Int)) (shr .u64 r39 (51 : Int))), sI 69 .i64 (IntKind.i64.wrap (x34 + (1 : Int))), hB 2 71 [.arr .u64 5 (List.replicate 5 0)], hB 3 70 [.arr .u64 5 m4], hB 4 70 [.arr .u64 5 m5], hB 45 71 [.arr .u64 5 (m32.set x34.toNat (band .u64 r39 (2251799813685247 : Int)))]] [] (by kernel_rfl) trivial ?_
        refine q_kr ?_
        exact trR_less [.s 4, .s 5, .s 6, .s 14, .s 15, .s 69, .h 2, .h 3, .h 4, .h 45] [sO 4 (.ptr 2 0), sO 5 (.ptr 3 0), sO 6 (.ptr 4 0), sO 14 (.ptr 45 0), sI 15 .u64 (bor .u64 (shl .u64 (IntKind.u64.wrap ((m4.getD x34.toNat 0) + r40)) (13 : Int)) (shr .u64 r39 (51 : Int))), sI 69 .i64 (IntKind.i64.wrap (x34 + (1 : Int))), hB 2 71 [.arr .u64 5 (List.replicate 5 0)], hB 3 70 [.arr .u64 5 m4], hB 4 70 [.arr .u64 5 m5], hB 45 71 [.arr .u64 5 (m32.set x34.toNat (band .u64 r39 (2251799813685247 : Int)))]] (by kernel_rfl) (ih3 ((m32.set x34.toNat (band .u64 r39 (2251799813685247 : Int))), (bor .u64 (shl .u64 (IntKind.u64.wrap ((m4.getD x34.toNat 0) + r40)) (13 : Int)) (shr .u64 r39 (51 : Int))), (IntKind.i64.wrap (x34 + (1 : Int)))) h)
      · refine tr_cond_f (decide (x34 < (5 : Int))) (by kernel_rfl) hc37 ?_
        refine tr_exit ?_
        refine q_k_exit ?_
        refine q_kr_exit ?_
        have h := Option.some.inj h
        subst h
        exact q_less [.s 4, .s 14, .s 15, .h 2, .h 45] [sO 4 (.ptr 2 0), sO 14 (.ptr 45 0), sI 15 .u64 carry33, hB 2 71 [.arr .u64 5 (List.replicate 5 0)], hB 45 71 [.arr .u64 5 m32]] (by kernel_rfl) hx3
  · clear h e31
    intro k ih0 hx0 z h
    obtain ⟨m1, m2, x3⟩ := z
    replace h : (if (decide (x3 < (5 : Int))) = true then (limb_Mul_l1 a_0 b_1 x3 (((5 : Int) - (0 : Int)).toNat + 1) m1 m2 (0 : Int)).bind (fun (m10, m11) => limb_Mul_l0 a_0 b_1 k m10 m11 (IntKind.i64.wrap (x3 + (1 : Int)))) else some (m1, m2)) = _ := h
    refine tr_seq ?_
    refine tr_reg hT [] [.s 2, .s 3, .s 4, .s 5, .s 6, .s 22, .s 23, .h 0, .h 1, .h 2, .h 3, .h 4] [sO 2 (.ptr 0 0), sO 3 (.ptr 1 0), sO 4 (.ptr 2 0), sO 5 (.ptr 3 0), sO 6 (.ptr 4 0), sI 22 .i64 x3, sB 23 (decide (x3 < (5 : Int))), hB 0 71 [.arr .u64 5 a_0], hB 1 71 [.arr .u64 5 b_1], hB 2 71 [.arr .u64 5 (List.replicate 5 0)], hB 3 70 [.arr .u64 5 m1], hB 4 70 [.arr .u64 5 m2]] [] (by kernel_rfl) trivial ?_
    refine q_k ?_
    refine tr_seq ?_
    rcases ite_split h with ⟨hc6, h⟩ | ⟨hc6, h⟩
    · refine tr_cond_t (decide (x3 < (5 : Int))) (by kernel_rfl) hc6 ?_
      refine tr_skip ?_
      refine q_k ?_
      refine tr_seq ?_
      refine tr_block ?_
      refine tr_seq ?_
      refine tr_reg hT [] [.s 2, .s 3, .s 4, .s 5, .s 6, .s 7, .s 22, .h 0, .h 1, .h 2, .h 3, .h 4] [sO 2 (.ptr 0 0), sO 3 (.ptr 1 0), sO 4 (.ptr 2 0), sO 5 (.ptr 3 0), sO 6 (.ptr 4 0), sI 7 .i64 x3, sI 22 .i64 x3, hB 0 71 [.arr .u64 5 a_0], hB 1 71 [.arr .u64 5 b_1], hB 2 71 [.arr .u64 5 (List.replicate 5 0)], hB 3 70 [.arr .u64 5 m1], hB 4 70 [.arr .u64 5 m2]] [] (by kernel_rfl) trivial ?_
      refine q_k ?_
      refine tr_seq ?_
      refine tr_reg hT [] [.s 2, .s 3, .s 4, .s 5, .s 6, .s 7, .s 22, .s 25, .h 0, .h 1, .h 2, .h 3, .h 4] [sO 2 (.ptr 0 0), sO 3 (.ptr 1 0), sO 4 (.ptr 2 0), sO 5 (.ptr 3 0), sO 6 (.ptr 4 0), sI 7 .i64 x3, sI 22 .i64 x3, sI 25 .i64 (0 : Int), hB 0 71 [.arr .u64 5 a_0], hB 1 71 [.arr .u64 5 b_1], hB 2 71 [.arr .u64 5 (List.replicate 5 0)], hB 3 70 [.arr .u64 5 m1], hB 4 70 [.arr .u64 5 m2]] [] (by kernel_rfl) trivial ?_
      refine q_k ?_
      refine tr_block ?_
      obtain ⟨rr1, e30, h⟩ := bind_some h
      refine tr_fit [] [sO 2 (.ptr 0 0), sO 3 (.ptr 1 0), sO 4 (.ptr 2 0), sO 5 (.ptr 3 0), sO 6 (.ptr 4 0), sI 7 .i64 x3, sI 22 .i64 x3, sI 25 .i64 (0 : Int), hB 0 71 [.arr .u64 5 a_0], hB 1 71 [.arr .u64 5 b_1], hB 2 71 [.arr .u64 5 (List.replicate 5 0)], hB 3 70 [.arr .u64 5 m1], hB 4 70 [.arr .u64 5 m2]] [(0, .blk 71 [.arr .u64 5 a_0]), (1, .blk 71 [.arr .u64 5 b_1]), (2, .blk 71 [.arr .u64 5 (List.replicate 5 0)]), (3, .blk 70 [.arr .u64 5 m1]), (4, .blk 70 [.arr .u64 5 m2])] (by kernel_rfl) (by kernel_rfl) (by kernel_rfl) rfl ⟨.blk (by kernel_rfl) (by kernel_rfl), .blk (by kernel_rfl) (by kernel_rfl), .blk (by kernel_rfl) (by kernel_rfl), .blk (by kernel_rfl) (by kernel_rfl), .blk (by kernel_rfl) (by kernel_rfl), trivial⟩ (by kernel_rfl) ?_
      refine tr_loop_fuel (id := 2) (α := List Int × List Int × Int) (β := List Int × List Int) (fun z => [sO 2 (.ptr 0 0), sO 3 (.ptr 1 0), sO 4 (.ptr 2 0), sO 5 (.ptr 3 0), sO 6 (.ptr 4 0), sI 7 .i64 x3, sI 22 .i64 x3, sI 25 .i64 z.2.2, hB 0 71 [.arr .u64 5 a_0], hB 1 71 [.arr .u64 5 b_1], hB 2 71 [.arr .u64 5 (List.replicate 5 0)], hB 3 70 [.arr .u64 5 z.1], hB 4 70 [.arr .u64 5 z.2.1]]) (fun z => [sO 2 (.ptr 0 0), sO 3 (.ptr 1 0), sO 4 (.ptr 2 0), sO 5 (.ptr 3 0), sO 6 (.ptr 4 0), sI 22 .i64 x3, hB 0 71 [.arr .u64 5 a_0], hB 1 71 [.arr .u64 5 b_1], hB 2 71 [.arr .u64 5 (List.replicate 5 0)], hB 3 70 [.arr .u64 5 z.1], hB 4 70 [.arr .u64 5 z.2]]) (fun k z => limb_Mul_l1 a_0 b_1 x3 k z.1 z.2.1 z.2.2) rr1 (fun _ => rfl) (((5 : Int) - (0 : Int)).toNat + 1) (m1, m2, (0 : Int)) e30 ?_ ?_
      · rcases rr1 with ⟨m10, m11⟩
        replace h : (limb_Mul_l0 a_0 b_1 k m10 m11 (IntKind.i64.wrap (x3 + (1 : Int)))) = _ := h
        refine q_b_this ?_
        refine q_b 1 ?_
        refine q_k ?_
        refine tr_reg hT [] [.s 2, .s 3, .s 4, .s 5, .s 6, .s 22, .h 0, .h 1, .h 2, .h 3, .h 4] [sO 2 (.ptr 0 0), sO 3 (.ptr 1 0), sO 4 (.ptr 2 0), sO 5 (.ptr 3 0), sO 6 (.ptr 4 0), sI 22 .i64 (IntKind.i64.wrap (x3 + (1 : Int))), hB 0 71 [.arr .u64 5 a_0], hB 1 71 [.arr .u64 5 b_1], hB 2 71 [.arr .u64 5 (List.replicate 5 0)], hB 3 70 [.arr .u64 5 m10], hB 4 70 [.arr .u64 5 m11]] [] (by kernel_rfl) trivial ?_
        refine q_kr ?_
        exact trR_less [.s 2, .s 3, .s 4, .s 5, .s 6, .s 22, .h 0, .h 1, .h 2, .h 3, .h 4] [sO 2 (.ptr 0 0), sO 3 (.ptr 1 0), sO 4 (.ptr 2 0), sO 5 (.ptr 3 0), sO 6 (.ptr 4 0), sI 22 .i64 (IntKind.i64.wrap (x3 + (1 : Int))), hB 0 71 [.arr .u64 5 a_0], hB 1 71 [.arr .u64 5 b_1], hB 2 71 [.arr .u64 5 (List.replicate 5 0)], hB 3 70 [.arr .u64 5 m10], hB 4 70 [.arr .u64 5 m11]] (by kernel_rfl) (ih0 (m10, m11, (IntKind.i64.wrap (x3 + (1 : Int)))) h)
      · clear h e30
        intro k ih1 hx1 z h
        obtain ⟨m7, m8, x9⟩ := z
        replace h : (if (decide (x9 < (5 : Int))) = true then if 0 ≤ x9 ∧ x9 < ((5 : Nat) : Int) then (show Option (Int) from if (decide ((IntKind.i64.wrap (x3 + x9)) ≥ (5 : Int))) = true then some (IntKind.u64.wrap ((b_1.getD x9.toNat 0) * (19 : Int))) else some (b_1.getD x9.toNat 0)).bind (fun x14 => if 0 ≤ x3 ∧ x3 < ((5 : Nat) : Int) then (math_bits_Mul64 (a_0.getD x3.toNat 0) x14).bind (fun (r17, r18) => if 0 ≤ ((IntKind.i64.wrap (x3 + x9)).tmod (5 : Int)) ∧ ((IntKind.i64.wrap (x3 + x9)).tmod (5 : Int)) < ((5 : Nat) : Int) then (add64 (m8.getD ((IntKind.i64.wrap (x3 + x9)).tmod (5 : Int)).toNat 0) r18 (0 : Int)).bind (fun (r22, r23) => if 0 ≤ ((IntKind.i64.wrap (x3 + x9)).tmod (5 : Int)) ∧ ((IntKind.i64.wrap (x3 + x9)).tmod (5 : Int)) < ((5 : Nat) : Int) then if 0 ≤ ((IntKind.i64.wrap (x3 + x9)).tmod (5 : Int)) ∧ ((IntKind.i64.wrap (x3 + x9)).tmod (5 : Int)) < ((5 : Nat) : Int) then if 0 ≤ ((IntKind.i64.wrap (x3 + x9)).tmod (5 : Int)) ∧ ((IntKind.i64.wrap (x3 + x9)).tmod (5 : Int)) < ((5 : Nat) : Int) then limb_Mul_l1 a_0 b_1 x3 k (m7.set ((IntKind.i64.wrap (x3 + x9)).tmod (5 : Int)).toNat (IntKind.u64.wrap ((m7.getD ((IntKind.i64.wrap (x3 + x9)).tmod (5 : Int)).toNat 0) + (IntKind.u64.wrap (r17 + r23))))) (m8.set ((IntKind.i64.wrap (x3 + x9)).tmod (5 : Int)).toNat r22) (IntKind.i64.wrap (x9 + (1 : Int))) else none else none else none) else none) else none) else none else some (m7, m8)) = _ := h
        refine tr_seq ?_
        refine tr_reg hT [] [.s 2, .s 3, .s 4, .s 5, .s 6, .s 7, .s 22, .s 25, .s 26, .h 0, .h 1, .h 2, .h 3, .h 4] [sO 2 (.ptr 0 0), sO 3 (.ptr 1 0), sO 4 (.ptr 2 0), sO 5 (.ptr 3 0), sO 6 (.ptr 4 0), sI 7 .i64 x3, sI 22 .i64 x3, sI 25 .i64 x9, sB 26 (decide (x9 < (5 : Int))), hB 0 71 [.arr .u64 5 a_0], hB 1 71 [.arr .u64 5 b_1], hB 2 71 [.arr .u64 5 (List.replicate 5 0)], hB 3 70 [.arr .u64 5 m7], hB 4 70 [.arr .u64 5 m8]] [] (by kernel_rfl) trivial ?_
        refine q_k ?_
        refine tr_seq ?_
        rcases ite_split h with ⟨hc12, h⟩ | ⟨hc12, h⟩
        · refine tr_cond_t (decide (x9 < (5 : Int))) (by kernel_rfl) hc12 ?_
          refine tr_skip ?_
          refine q_k ?_
          refine tr_seq ?_
          refine tr_block ?_
          refine tr_seq ?_
          refine tr_reg hT [] [.s 2, .s 3, .s 4, .s 5, .s 6, .s 7, .s 8, .s 22, .s 25, .h 0, .h 1, .h 2, .h 3, .h 4] [sO 2 (.ptr 0 0), sO 3 (.ptr 1 0), sO 4 (.ptr 2 0), sO 5 (.ptr 3 0), sO 6 (.ptr 4 0), sI 7 .i64 x3, sI 8 .i64 x9, sI 22 .i64 x3, sI 25 .i64 x9, hB 0 71 [.arr .u64 5 a_0], hB 1 71 [.arr .u64 5 b_1], hB 2 71 [.arr .u64 5 (List.replicate 5 0)], hB 3 70 [.arr .u64 5 m7], hB 4 70 [.arr .u64 5 m8]] [] (by kernel_rfl) trivial ?_
          refine q_k ?_
          refine tr_seq ?_
          obtain ⟨hn13, h⟩ := ite_some h
          refine tr_reg hT [] [.s 2, .s 3, .s 4, .s 5, .s 6, .s 7, .s 8, .s 9, .s 22, .s 25, .h 0, .h 1, .h 2, .h 3, .h 4] [sO 2 (.ptr 0 0), sO 3 (.ptr 1 0), sO 4 (.ptr 2 0), sO 5 (.ptr 3 0), sO 6 (.ptr 4 0), sI 7 .i64 x3, sI 8 .i64 x9, sI 9 .u64 (b_1.getD x9.toNat 0), sI 22 .i64 x3, sI 25 .i64 x9, hB 0 71 [.arr .u64 5 a_0], hB 1 71 [.arr .u64 5 b_1], hB 2 71 [.arr .u64 5 (List.replicate 5 0)], hB 3 70 [.arr .u64 5 m7], hB 4 70 [.arr .u64 5 m8]] [0 ≤ x9 ∧ x9 < ((5 : Nat) : Int)] (by kernel_rfl) (hone hn13) ?_
          refine q_k ?_
          refine tr_seq ?_
          refine tr_seq ?_
          refine tr_reg hT [] [.s 2, .s 3, .s 4, .s 5, .s 6, .s 7, .s 8, .s 9, .s 22, .s 25, .s 34, .h 0, .h 1, .h 2, .h 3, .h 4] [sO 2 (.ptr 0 0), sO 3 (.ptr 1 0), sO 4 (.ptr 2 0), sO 5 (.ptr 3 0), sO 6 (.ptr 4 0), sI 7 .i64 x3, sI 8 .i64 x9, sI 9 .u64 (b_1.getD x9.toNat 0), sI 22 .i64 x3, sI 25 .i64 x9, sB 34 (decide ((IntKind.i64.wrap (x3 + x9)) ≥ (5 : Int))), hB 0 71 [.arr .u64 5 a_0], hB 1 71 [.arr .u64 5 b_1], hB 2 71 [.arr .u64 5 (List.replicate 5 0)], hB 3 70 [.arr .u64 5 m7], hB 4 70 [.arr .u64 5 m8]] [] (by kernel_rfl) trivial ?_
          refine q_k ?_
          obtain ⟨x14, e29, h⟩ := bind_some h
          refine tr_join (σ1 := [sO 2 (.ptr 0 0), sO 3 (.ptr 1 0), sO 4 (.ptr 2 0), sO 5 (.ptr 3 0), sO 6 (.ptr 4 0), sI 7 .i64 x3, sI 8 .i64 x9, sI 9 .u64 x14, sI 22 .i64 x3, sI 25 .i64 x9, hB 0 71 [.arr .u64 5 a_0], hB 1 71 [.arr .u64 5 b_1], hB 2 71 [.arr .u64 5 (List.replicate 5 0)], hB 3 70 [.arr .u64 5 m7], hB 4 70 [.arr .u64 5 m8]]) ?_ ?_
          · skip
            replace h : (if 0 ≤ x3 ∧ x3 < ((5 : Nat) : Int) then (math_bits_Mul64 (a_0.getD x3.toNat 0) x14).bind (fun (r17, r18) => if 0 ≤ ((IntKind.i64.wrap (x3 + x9)).tmod (5 : Int)) ∧ ((IntKind.i64.wrap (x3 + x9)).tmod (5 : Int)) < ((5 : Nat) : Int) then (add64 (m8.getD ((IntKind.i64.wrap (x3 + x9)).tmod (5 : Int)).toNat 0) r18 (0 : Int)).bind (fun (r22, r23) => if 0 ≤ ((IntKind.i64.wrap (x3 + x9)).tmod (5 : Int)) ∧ ((IntKind.i64.wrap (x3 + x9)).tmod (5 : Int)) < ((5 : Nat) : Int) then if 0 ≤ ((IntKind.i64.wrap (x3 + x9)).tmod (5 : Int)) ∧ ((IntKind.i64.wrap (x3 + x9)).tmod (5 : Int)) < ((5 : Nat) : Int) then if 0 ≤ ((IntKind.i64.wrap (x3 + x9)).tmod (5 : Int)) ∧ ((IntKind.i64.wrap (x3 + x9)).tmod (5 : Int)) < ((5 : Nat) : Int) then limb_Mul_l1 a_0 b_1 x3 k (m7.set ((IntKind.i64.wrap (x3 + x9)).tmod (5 : Int)).toNat (IntKind.u64.wrap ((m7.getD ((IntKind.i64.wrap (x3 + x9)).tmod (5 : Int)).toNat 0) + (IntKind.u64.wrap (r17 + r23))))) (m8.set ((IntKind.i64.wrap (x3 + x9)).tmod (5 : Int)).toNat r22) (IntKind.i64.wrap (x9 + (1 : Int))) else none else none else none) else none) else none) = _ := h
            refine q_k ?_
            refine tr_seq ?_
            obtain ⟨hn16, h⟩ := ite_some h
            obtain ⟨⟨r17, r18⟩, e19, h⟩ := bind_some h
            refine tr_reg hT [(4, .call [] (.tup [.one (.int .u64 r17), .one (.int .u64 r18)]) [])] [.s 2, .s 3, .s 4, .s 5, .s 6, .s 7, .s 8, .s 10, .s 11, .s 22, .s 25, .h 0, .h 1, .h 2, .h 3, .h 4] [sO 2 (.ptr 0 0), sO 3 (.ptr 1 0), sO 4 (.ptr 2 0), sO 5 (.ptr 3 0), sO 6 (.ptr 4 0), sI 7 .i64 x3, sI 8 .i64 x9, sI 10 .u64 r17, sI 11 .u64 r18, sI 22 .i64 x3, sI 25 .i64 x9, hB 0 71 [.arr .u64 5 a_0], hB 1 71 [.arr .u64 5 b_1], hB 2 71 [.arr .u64 5 (List.replicate 5 0)], hB 3 70 [.arr .u64 5 m7], hB 4 70 [.arr .u64 5 m8]] [0 ≤ x3 ∧ x3 < ((5 : Nat) : Int), CallOk P 100 [.v (.one (.int .u64 (a_0.getD x3.toNat 0))), .v (.one (.int .u64 x14))] [] (.tup [.one (.int .u64 r17), .one (.int .u64 r18)]) []] (by kernel_rfl) (hcons hn16 (hone (math_bits_Mul64_ok (a_0.getD x3.toNat 0) x14 (r17, r18) e19))) ?_
            refine q_k ?_
            refine tr_seq ?_
            refine tr_reg hT [] [.s 2, .s 3, .s 4, .s 5, .s 6, .s 7, .s 10, .s 11, .s 12, .s 22, .s 25, .h 0, .h 1, .h 2, .h 3, .h 4] [sO 2 (.ptr 0 0), sO 3 (.ptr 1 0), sO 4 (.ptr 2 0), sO 5 (.ptr 3 0), sO 6 (.ptr 4 0), sI 7 .i64 x3, sI 10 .u64 r17, sI 11 .u64 r18, sI 12 .i64 ((IntKind.i64.wrap (x3 + x9)).tmod (5 : Int)), sI 22 .i64 x3, sI 25 .i64 x9, hB 0 71 [.arr .u64 5 a_0], hB 1 71 [.arr .u64 5 b_1], hB 2 71 [.arr .u64 5 (List.replicate 5 0)], hB 3 70 [.arr .u64 5 m7], hB 4 70 [.arr .u64 5 m8]] [(5 : Int) ≠ 0] (by kernel_rfl) (hone (by decide)) ?_
            refine q_k ?_
            refine tr_seq ?_
            refine tr_reg hT [] [.s 2, .s 3, .s 4, .s 5, .s 6, .s 7, .s 10, .s 11, .s 12, .s 22, .s 25, .h 0, .h 1, .h 2, .h 3, .h 4] [sO 2 (.ptr 0 0), sO 3 (.ptr 1 0), sO 4 (.ptr 2 0), sO 5 (.ptr 3 0), sO 6 (.ptr 4 0), sI 7 .i64 x3, sI 10 .u64 r17, sI 11 .u64 r18, sI 12 .i64 ((IntKind.i64.wrap (x3 + x9)).tmod (5 : Int)), sI 22 .i64 x3, sI 25 .i64 x9, hB 0 71 [.arr .u64 5 a_0], hB 1 71 [.arr .u64 5 b_1], hB 2 71 [.arr .u64 5 (List.replicate 5 0)], hB 3 70 [.arr .u64 5 m7], hB 4 70 [.arr .u64 5 m8]] [] (by kernel_rfl) trivial ?_
            refine q_k ?_
            refine tr_seq ?_
            obtain ⟨hn21, h⟩ := ite_some h
            obtain ⟨⟨r22, r23⟩, e24, h⟩ := bind_some h
            obtain ⟨hn26, h⟩ := ite_some h
            refine tr_reg hT [(5, .call [] (.tup [.one (.int .u64 r22), .one (.int .u64 r23)]) [])] [.s 2, .s 3, .s 4, .s 5, .s 6, .s 7, .s 10, .s 12, .s 13, .s 22, .s 25, .h 0, .h 1, .h 2, .h 3, .h 4] [sO 2 (.ptr 0 0), sO 3 (.ptr 1 0), sO 4 (.ptr 2 0), sO 5 (.ptr 3 0), sO 6 (.ptr 4 0), sI 7 .i64 x3, sI 10 .u64 r17, sI 12 .i64 ((IntKind.i64.wrap (x3 + x9)).tmod (5 : Int)), sI 13 .u64 r23, sI 22 .i64 x3, sI 25 .i64 x9, hB 0 71 [.arr .u64 5 a_0], hB 1 71 [.arr .u64 5 b_1], hB 2 71 [.arr .u64 5 (List.replicate 5 0)], hB 3 70 [.arr .u64 5 m7], hB 4 70 [.arr .u64 5 (m8.set ((IntKind.i64.wrap (x3 + x9)).tmod (5 : Int)).toNat r22)]] [0 ≤ ((IntKind.i64.wrap (x3 + x9)).tmod (5 : Int)) ∧ ((IntKind.i64.wrap (x3 + x9)).tmod (5 : Int)) < ((5 : Nat) : Int), CallOk P 78 [.v (.one (.int .u64 (m8.getD ((IntKind.i64.wrap (x3 + x9)).tmod (5 : Int)).toNat 0))), .v (.one (.int .u64 r18)), .v (.one (.int .u64 (0 : Int)))] [] (.tup [.one (.int .u64 r22), .one (.int .u64 r23)]) [], 0 ≤ ((IntKind.i64.wrap (x3 + x9)).tmod (5 : Int)) ∧ ((IntKind.i64.wrap (x3 + x9)).tmod (5 : Int)) < ((5 : Nat) : Int)] (by kernel_rfl) (hcons hn21 (hcons (bits_Add64_ok (m8.getD ((IntKind.i64.wrap (x3 + x9)).tmod (5 : Int)).toNat 0) r18 (0 : Int) (r22, r23) e24) (hone hn26))) ?_
            refine q_k ?_
            obtain ⟨hn27, h⟩ := ite_some h
            obtain ⟨hn28, h⟩ := ite_some h
            refine tr_reg hT [] [.s 2, .s 3, .s 4, .s 5, .s 6, .s 7, .s 22, .s 25, .h 0, .h 1, .h 2, .h 3, .h 4] [sO 2 (.ptr 0 0), sO 3 (.ptr 1 0), sO 4 (.ptr 2 0), sO 5 (.ptr 3 0), sO 6 (.ptr 4 0), sI 7 .i64 x3, sI 22 .i64 x3, sI 25 .i64 x9, hB 0 71 [.arr .u64 5 a_0], hB 1 71 [.arr .u64 5 b_1], hB 2 71 [.arr .u64 5 (List.replicate 5 0)], hB 3 70 [.arr .u64 5 (m7.set ((IntKind.i64.wrap (x3 + x9)).tmod (5 : Int)).toNat (IntKind.u64.wrap ((m7.getD ((IntKind.i64.wrap (x3 + x9)).tmod (5 : Int)).toNat 0) + (IntKind.u64.wrap (r17 + r23)))))], hB 4 70 [.arr .u64 5 (m8.set ((IntKind.i64.wrap (x3 + x9)).tmod (5 : Int)).toNat r22)]] [0 ≤ ((IntKind.i64.wrap (x3 + x9)).tmod (5 : Int)) ∧ ((IntKind.i64.wrap (x3 + x9)).tmod (5 : Int)) < ((5 : Nat) : Int), 0 ≤ ((IntKind.i64.wrap (x3 + x9)).tmod (5 : Int)) ∧ ((IntKind.i64.wrap (x3 + x9)).tmod (5 : Int)) < ((5 : Nat) : Int)] (by kernel_rfl) (hcons hn27 (hone hn28)) ?_
            refine q_b 3 ?_
            refine q_k ?_
            refine tr_reg hT [] [.s 2, .s 3, .s 4, .s 5, .s 6, .s 7, .s 22, .s 25, .h 0, .h 1, .h 2, .h 3, .h 4] [sO 2 (.ptr 0 0), sO 3 (.ptr 1 0), sO 4 (.ptr 2 0), sO 5 (.ptr 3 0), sO 6 (.ptr 4 0), sI 7 .i64 x3, sI 22 .i64 x3, sI 25 .i64 (IntKind.i64.wrap (x9 + (1 : Int))), hB 0 71 [.arr .u64 5 a_0], hB 1 71 [.arr .u64 5 b_1], hB 2 71 [.arr .u64 5 (List.replicate 5 0)], hB 3 70 [.arr .u64 5 (m7.set ((IntKind.i64.wrap (x3 + x9)).tmod (5 : Int)).toNat (IntKind.u64.wrap ((m7.getD ((IntKind.i64.wrap (x3 + x9)).tmod (5 : Int)).toNat 0) + (IntKind.u64.wrap (r17 + r23)))))], hB 4 70 [.arr .u64 5 (m8.set ((IntKind.i64.wrap (x3 + x9)).tmod (5 : Int)).toNat r22)]] [] (by kernel_rfl) trivial ?_
            refine q_kr ?_
            exact trR_less [.s 2, .s 3, .s 4, .s 5, .s 6, .s 7, .s 22, .s 25, .h 0, .h 1, .h 2, .h 3, .h 4] [sO 2 (.ptr 0 0), sO 3 (.ptr 1 0), sO 4 (.ptr 2 0), sO 5 (.ptr 3 0), sO 6 (.ptr 4 0), sI 7 .i64 x3, sI 22 .i64 x3, sI 25 .i64 (IntKind.i64.wrap (x9 + (1 : Int))), hB 0 71 [.arr .u64 5 a_0], hB 1 71 [.arr .u64 5 b_1], hB 2 71 [.arr .u64 5 (List.replicate 5 0)], hB 3 70 [.arr .u64 5 (m7.set ((IntKind.i64.wrap (x3 + x9)).tmod (5 : Int)).toNat (IntKind.u64.wrap ((m7.getD ((IntKind.i64.wrap (x3 + x9)).tmod (5 : Int)).toNat 0) + (IntKind.u64.wrap (r17 + r23)))))], hB 4 70 [.arr .u64 5 (m8.set ((IntKind.i64.wrap (x3 + x9)).tmod (5 : Int)).toNat r22)]] (by kernel_rfl) (ih1 ((m7.set ((IntKind.i64.wrap (x3 + x9)).tmod (5 : Int)).toNat (IntKind.u64.wrap ((m7.getD ((IntKind.i64.wrap (x3 + x9)).tmod (5 : Int)).toNat 0) + (IntKind.u64.wrap (r17 + r23))))), (m8.set ((IntKind.i64.wrap (x3 + x9)).tmod (5 : Int)).toNat r22), (IntKind.i64.wrap (x9 + (1 : Int)))) h)
          · intro hj2
            clear h
            have h := e29
            clear e29
            rcases ite_split h with ⟨hc15, h⟩ | ⟨hc15, h⟩
            · refine tr_cond_t (decide ((IntKind.i64.wrap (x3 + x9)) ≥ (5 : Int))) (by kernel_rfl) hc15 ?_
              refine tr_reg hT [] [.s 2, .s 3, .s 4, .s 5, .s 6, .s 7, .s 8, .s 9, .s 22, .s 25, .h 0, .h 1, .h 2, .h 3, .h 4] [sO 2 (.ptr 0 0), sO 3 (.ptr 1 0), sO 4 (.ptr 2 0), sO 5 (.ptr 3 0), sO 6 (.ptr 4 0), sI 7 .i64 x3, sI 8 .i64 x9, sI 9 .u64 (IntKind.u64.wrap ((b_1.getD x9.toNat 0) * (19 : Int))), sI 22 .i64 x3, sI 25 .i64 x9, hB 0 71 [.arr .u64 5 a_0], hB 1 71 [.arr .u64 5 b_1], hB 2 71 [.arr .u64 5 (List.replicate 5 0)], hB 3 70 [.arr .u64 5 m7], hB 4 70 [.arr .u64 5 m8]] [] (by kernel_rfl) trivial ?_
              have h := Option.some.inj h
              subst h
              exact q_less [.s 2, .s 3, .s 4, .s 5, .s 6, .s 7, .s 8, .s 9, .s 22, .s 25, .h 0, .h 1, .h 2, .h 3, .h 4] [sO 2 (.ptr 0 0), sO 3 (.ptr 1 0), sO 4 (.ptr 2 0), sO 5 (.ptr 3 0), sO 6 (.ptr 4 0), sI 7 .i64 x3, sI 8 .i64 x9, sI 9 .u64 (IntKind.u64.wrap ((b_1.getD x9.toNat 0) * (19 : Int))), sI 22 .i64 x3, sI 25 .i64 x9, hB 0 71 [.arr .u64 5 a_0], hB 1 71 [.arr .u64 5 b_1], hB 2 71 [.arr .u64 5 (List.replicate 5 0)], hB 3 70 [.arr .u64 5 m7], hB 4 70 [.arr .u64 5 m8]] (by kernel_rfl) hj2
            · refine tr_cond_f (decide ((IntKind.i64.wrap (x3 + x9)) ≥ (5 : Int))) (by kernel_rfl) hc15 ?_
              refine tr_skip ?_
              have h := Option.some.inj h
              subst h
              exact q_less [.s 2, .s 3, .s 4, .s 5, .s 6, .s 7, .s 8, .s 9, .s 22, .s 25, .h 0, .h 1, .h 2, .h 3, .h 4] [sO 2 (.ptr 0 0), sO 3 (.ptr 1 0), sO 4 (.ptr 2 0), sO 5 (.ptr 3 0), sO 6 (.ptr 4 0), sI 7 .i64 x3, sI 8 .i64 x9, sI 9 .u64 (b_1.getD x9.toNat 0), sI 22 .i64 x3, sI 25 .i64 x9, hB 0 71 [.arr .u64 5 a_0], hB 1 71 [.arr .u64 5 b_1], hB 2 71 [.arr .u64 5 (List.replicate 5 0)], hB 3 70 [.arr .u64 5 m7], hB 4 70 [.arr .u64 5 m8]] (by kernel_rfl) hj2
        · refine tr_cond_f (decide (x9 < (5 : Int))) (by kernel_rfl) hc12 ?_
          refine tr_exit ?_
          refine q_k_exit ?_
          refine q_kr_exit ?_
          have h := Option.some.inj h
          subst h
          exact q_less [.s 2, .s 3, .s 4, .s 5, .s 6, .s 22, .h 0, .h 1, .h 2, .h 3, .h 4] [sO 2 (.ptr 0 0), sO 3 (.ptr 1 0), sO 4 (.ptr 2 0), sO 5 (.ptr 3 0), sO 6 (.ptr 4 0), sI 22 .i64 x3, hB 0 71 [.arr .u64 5 a_0], hB 1 71 [.arr .u64 5 b_1], hB 2 71 [.arr .u64 5 (List.replicate 5 0)], hB 3 70 [.arr .u64 5 m7], hB 4 70 [.arr .u64 5 m8]] (by kernel_rfl) hx1
    · refine tr_cond_f (decide (x3 < (5 : Int))) (by kernel_rfl) hc6 ?_
      refine tr_exit ?_
      refine q_k_exit ?_
      refine q_kr_exit ?_
      have h := Option.some.inj h
      subst h
      exact q_less [.s 4, .s 5, .s 6, .h 2, .h 3, .h 4] [sO 4 (.ptr 2 0), sO 5 (.ptr 3 0), sO 6 (.ptr 4 0), hB 2 71 [.arr .u64 5 (List.replicate 5 0)], hB 3 70 [.arr .u64 5 m1], hB 4 70 [.arr .u64 5 m2]] (by kernel_rfl) hx0

end Go.Proofs.Sb
