/- Walks, printed by a program of this session (gowalk.py): each Go function comes to its plain function's answer. -/
import Derived.Test.YtdcdanfeepncmaaSbA
import Derived.Test.YtdcdanfeepncmaaSbD
import Derived.Test.YtdcdanfeepncmaaSbI
import Derived.Test.YtdcdanfeepncmaaSbV0
import Derived.Test.YtdcdanfeepncmaaSbV1
namespace Go.Proofs.Sb
open Go Go.Gw D
set_option linter.unusedVariables false
set_option maxRecDepth 20000

theorem ref04_Below_ok (n_0 : List Int) (r : Bool) (h : ref04_Below n_0 = some r) {pre : List (Nat × Ent)} : CallOk P 36 [.v (.agg [.arr .u8 32 n_0])] pre (.v (.one (.bool r))) [] := by
  refine call0 (N := 7) Try.func36 (by kernel_rfl) rfl rfl rfl pre ?_
  intro _ w
  show Tr P w.heap.size 7 w _ _ (RetQ P Try.f36 (R0 _ w))
  unfold ref04_Below at h
  refine tr_seq ?_
  refine tr_reg hT [(0, .key 0)] [.s 1, .h 0] [sO 1 (.ptr 0 0), hB 0 22 [.arr .u8 32 n_0]] [] (by kernel_rfl) trivial ?_
  refine q_k ?_
  refine tr_seq ?_
  obtain ⟨a1, e2, h⟩ := bind_some h
  obtain ⟨a3, e4, h⟩ := bind_some h
  obtain ⟨b5, e6, h⟩ := bind_some h
  refine tr_reg hT [(1, .call (.v (.agg [.arr .u64 4 a1])) []), (2, .call (.v (.agg [.arr .u64 4 a3])) []), (3, .call (.v (.one (.bool b5))) [])] [.s 2] [sB 2 b5] [CallOk P 44 [.v (.agg [.arr .u8 32 n_0])] [] (.v (.agg [.arr .u64 4 a1])) [], CallOk P 30 [] [] (.v (.agg [.arr .u64 4 a3])) [], CallOk P 75 [.v (.agg [.arr .u64 4 a1]), .v (.agg [.arr .u64 4 a3])] [] (.v (.one (.bool b5))) []] (by kernel_rfl) (hcons (ref04_Of_ok n_0 a1 e2) (hcons (ref04_L_ok  a3 e4) (hone (ref04_less_ok a1 a3 b5 e6)))) ?_
  refine q_k ?_
  refine tr_ret ?_
  have h := Option.some.inj h
  subst h
  exact q_ret0 hT (.v (.one (.bool b5))) rfl (by kernel_rfl)

theorem ref04_add_ok (a_0 : List Int) (b_1 : List Int) (r : List Int × Int) (h : ref04_add a_0 b_1 = some r) {pre : List (Nat × Ent)} : CallOk P 82 [.v (.agg [.arr .u64 4 a_0]), .v (.agg [.arr .u64 4 b_1])] pre (.tup [.agg [.arr .u64 4 r.1], .one (.int .u64 r.2)]) [] := by
  refine call0 (N := 28) Try.func82 (by kernel_rfl) rfl rfl rfl pre ?_
  intro _ w
  show Tr P w.heap.size 28 w _ _ (RetQ P Try.f82 (R0 _ w))
  unfold ref04_add at h
  refine tr_seq ?_
  refine tr_reg hT [(0, .key 0), (1, .key 1), (2, .key 2)] [.s 2, .s 3, .s 4, .h 0, .h 1, .h 2] [sO 2 (.ptr 0 0), sO 3 (.ptr 1 0), sO 4 (.ptr 2 0), hB 0 31 [.arr .u64 4 a_0], hB 1 31 [.arr .u64 4 b_1], hB 2 31 [.arr .u64 4 (List.replicate 4 0)]] [] (by kernel_rfl) trivial ?_
  refine q_k ?_
  refine tr_seq ?_
  refine tr_reg hT [] [.s 2, .s 3, .s 4, .s 6, .h 0, .h 1, .h 2] [sO 2 (.ptr 0 0), sO 3 (.ptr 1 0), sO 4 (.ptr 2 0), sI 6 .u64 (0 : Int), hB 0 31 [.arr .u64 4 a_0], hB 1 31 [.arr .u64 4 b_1], hB 2 31 [.arr .u64 4 (List.replicate 4 0)]] [] (by kernel_rfl) trivial ?_
  refine q_k ?_
  refine tr_seq ?_
  refine tr_reg hT [(0, .key 3)] [.s 2, .s 3, .s 4, .s 6, .s 7, .h 0, .h 1, .h 2, .h 3] [sO 2 (.ptr 0 0), sO 3 (.ptr 1 0), sO 4 (.ptr 2 0), sI 6 .u64 (0 : Int), sO 7 (.ptr 3 0), hB 0 31 [.arr .u64 4 a_0], hB 1 31 [.arr .u64 4 b_1], hB 2 31 [.arr .u64 4 (List.replicate 4 0)], hB 3 31 [.arr .u64 4 (List.replicate 4 0)]] [] (by kernel_rfl) trivial ?_
  refine q_k ?_
  refine tr_seq ?_
  refine tr_seq ?_
  refine tr_reg hT [] [.s 2, .s 3, .s 4, .s 6, .s 7, .s 8, .h 0, .h 1, .h 2, .h 3] [sO 2 (.ptr 0 0), sO 3 (.ptr 1 0), sO 4 (.ptr 2 0), sI 6 .u64 (0 : Int), sO 7 (.ptr 3 0), sI 8 .i64 (0 : Int), hB 0 31 [.arr .u64 4 a_0], hB 1 31 [.arr .u64 4 b_1], hB 2 31 [.arr .u64 4 (List.replicate 4 0)], hB 3 31 [.arr .u64 4 (List.replicate 4 0)]] [] (by kernel_rfl) trivial ?_
  refine q_k ?_
  refine tr_block ?_
  obtain ⟨rr0, e14, h⟩ := bind_some h
  refine tr_less [.s 2, .s 3, .s 4, .s 6, .s 7, .s 8, .h 0, .h 1, .h 2, .h 3] [sO 2 (.ptr 0 0), sO 3 (.ptr 1 0), sO 4 (.ptr 2 0), sI 6 .u64 (0 : Int), sO 7 (.ptr 3 0), sI 8 .i64 (0 : Int), hB 0 31 [.arr .u64 4 a_0], hB 1 31 [.arr .u64 4 b_1], hB 2 31 [.arr .u64 4 (List.replicate 4 0)], hB 3 31 [.arr .u64 4 (List.replicate 4 0)]] (by kernel_rfl) ?_
  refine tr_loop_fuel (id := 0) (α := List Int × Int × Int) (β := List Int × Int) (fun z => [sO 2 (.ptr 0 0), sO 3 (.ptr 1 0), sO 4 (.ptr 2 0), sI 6 .u64 z.2.1, sO 7 (.ptr 3 0), sI 8 .i64 z.2.2, hB 0 31 [.arr .u64 4 a_0], hB 1 31 [.arr .u64 4 b_1], hB 2 31 [.arr .u64 4 (List.replicate 4 0)], hB 3 31 [.arr .u64 4 z.1]]) (fun z => [sO 4 (.ptr 2 0), sI 6 .u64 z.2, sO 7 (.ptr 3 0), hB 2 31 [.arr .u64 4 (List.replicate 4 0)], hB 3 31 [.arr .u64 4 z.1]]) (fun k z => ref04_add_l0 a_0 b_1 k z.1 z.2.1 z.2.2) rr0 (fun _ => rfl) (((4 : Int) - (0 : Int)).toNat + 1) ((List.replicate 4 0), (0 : Int), (0 : Int)) e14 ?_ ?_
  · rcases rr0 with ⟨m12, c13⟩
    replace h : (some (m12, c13)) = _ := h
    refine q_b_this ?_
    refine q_k ?_
    refine tr_seq ?_
    refine tr_reg hT [] [.s 4, .s 5, .h 2] [sO 4 (.ptr 2 0), sI 5 .u64 c13, hB 2 31 [.arr .u64 4 m12]] [] (by kernel_rfl) trivial ?_
    refine q_k ?_
    refine tr_ret ?_
    have h := Option.some.inj h
    subst h
    exact q_ret0 hT (.tup [.agg [.arr .u64 4 m12], .one (.int .u64 c13)]) rfl (by kernel_rfl)
  · clear h e14
    intro k ih0 hx0 z h
    obtain ⟨m1, c2, i3⟩ := z
    replace h : (if (decide (i3 < (4 : Int))) = true then if 0 ≤ i3 ∧ i3 < ((4 : Nat) : Int) then if 0 ≤ i3 ∧ i3 < ((4 : Nat) : Int) then (add64 (a_0.getD i3.toNat 0) (b_1.getD i3.toNat 0) c2).bind (fun (r7, r8) => if 0 ≤ i3 ∧ i3 < ((4 : Nat) : Int) then ref04_add_l0 a_0 b_1 k (m1.set i3.toNat r7) r8 (IntKind.i64.wrap (i3 + (1 : Int))) else none) else none else none else some (m1, c2)) = _ := h
    refine tr_seq ?_
    refine tr_seq ?_
    refine tr_reg hT [] [.s 2, .s 3, .s 4, .s 6, .s 7, .s 8, .s 10, .h 0, .h 1, .h 2, .h 3] [sO 2 (.ptr 0 0), sO 3 (.ptr 1 0), sO 4 (.ptr 2 0), sI 6 .u64 c2, sO 7 (.ptr 3 0), sI 8 .i64 i3, sB 10 (decide (i3 < (4 : Int))), hB 0 31 [.arr .u64 4 a_0], hB 1 31 [.arr .u64 4 b_1], hB 2 31 [.arr .u64 4 (List.replicate 4 0)], hB 3 31 [.arr .u64 4 m1]] [] (by kernel_rfl) trivial ?_
    refine q_k ?_
    rcases ite_split h with ⟨hc4, h⟩ | ⟨hc4, h⟩
    · refine tr_cond_t (decide (i3 < (4 : Int))) (by kernel_rfl) hc4 ?_
      refine tr_skip ?_
      refine q_k ?_
      refine tr_seq ?_
      refine tr_block ?_
      obtain ⟨hn5, h⟩ := ite_some h
      obtain ⟨hn6, h⟩ := ite_some h
      obtain ⟨⟨r7, r8⟩, e9, h⟩ := bind_some h
      obtain ⟨hn11, h⟩ := ite_some h
      refine tr_regd hT hM [(8, .call (.tup [.one (.int .u64 r7), .one (.int .u64 r8)]) [])] [.s 2, .s 3, .s 4, .s 6, .s 7, .s 8, .h 0, .h 1, .h 2, .h 3] [sO 2 (.ptr 0 0), sO 3 (.ptr 1 0), sO 4 (.ptr 2 0), sI 6 .u64 r8, sO 7 (.ptr 3 0), sI 8 .i64 i3, hB 0 31 [.arr .u64 4 a_0], hB 1 31 [.arr .u64 4 b_1], hB 2 31 [.arr .u64 4 (List.replicate 4 0)], hB 3 31 [.arr .u64 4 (m1.set i3.toNat r7)]] [0 ≤ i3 ∧ i3 < ((4 : Nat) : Int), 0 ≤ i3 ∧ i3 < ((4 : Nat) : Int), CallOk P 78 [.v (.one (.int .u64 (a_0.getD i3.toNat 0))), .v (.one (.int .u64 (b_1.getD i3.toNat 0))), .v (.one (.int .u64 c2))] [] (.tup [.one (.int .u64 r7), .one (.int .u64 r8)]) [], 0 ≤ i3 ∧ i3 < ((4 : Nat) : Int)] (by kernel_rfl) (hcons hn5 (hcons hn6 (hcons (bits_Add64_ok (a_0.getD i3.toNat 0) (b_1.getD i3.toNat 0) c2 (r7, r8) e9) (hone hn11)))) ?_
      refine q_b 1 ?_
      refine q_k ?_
      refine tr_reg hT [] [.s 2, .s 3, .s 4, .s 6, .s 7, .s 8, .h 0, .h 1, .h 2, .h 3] [sO 2 (.ptr 0 0), sO 3 (.ptr 1 0), sO 4 (.ptr 2 0), sI 6 .u64 r8, sO 7 (.ptr 3 0), sI 8 .i64 (IntKind.i64.wrap (i3 + (1 : Int))), hB 0 31 [.arr .u64 4 a_0], hB 1 31 [.arr .u64 4 b_1], hB 2 31 [.arr .u64 4 (List.replicate 4 0)], hB 3 31 [.arr .u64 4 (m1.set i3.toNat r7)]] [] (by kernel_rfl) trivial ?_
      refine q_kr ?_
      exact trR_less [.s 2, .s 3, .s 4, .s 6, .s 7, .s 8, .h 0, .h 1, .h 2, .h 3] [sO 2 (.ptr 0 0), sO 3 (.ptr 1 0), sO 4 (.ptr 2 0), sI 6 .u64 r8, sO 7 (.ptr 3 0), sI 8 .i64 (IntKind.i64.wrap (i3 + (1 : Int))), hB 0 31 [.arr .u64 4 a_0], hB 1 31 [.arr .u64 4 b_1], hB 2 31 [.arr .u64 4 (List.replicate 4 0)], hB 3 31 [.arr .u64 4 (m1.set i3.toNat r7)]] (by kernel_rfl) (ih0 ((m1.set i3.toNat r7), r8, (IntKind.i64.wrap (i3 + (1 : Int)))) h)
    · refine tr_cond_f (decide (i3 < (4 : Int))) (by kernel_rfl) hc4 ?_
      refine tr_exit ?_
      refine q_k_exit ?_
      refine q_kr_exit ?_
      have h := Option.some.inj h
      subst h
      exact q_less [.s 4, .s 6, .s 7, .h 2, .h 3] [sO 4 (.ptr 2 0), sI 6 .u64 c2, sO 7 (.ptr 3 0), hB 2 31 [.arr .u64 4 (List.replicate 4 0)], hB 3 31 [.arr .u64 4 m1]] (by kernel_rfl) hx0

theorem ref04_modL_ok (t_0 : List Int) (r : List Int) (h : ref04_modL t_0 = some r) {pre : List (Nat × Ent)} : CallOk P 76 [.v (.agg [.arr .u64 8 t_0])] pre (.v (.agg [.arr .u64 4 r])) [] := by
  refine call0 (N := 39) Try.func76 (by kernel_rfl) rfl rfl rfl pre ?_
  intro _ w
  show Tr P w.heap.size 39 w _ _ (RetQ P Try.f76 (R0 _ w))
  unfold ref04_modL at h
  refine tr_seq ?_
  refine tr_reg hT [(0, .key 0), (1, .key 1)] [.s 1, .s 2, .h 0, .h 1] [sO 1 (.ptr 0 0), sO 2 (.ptr 1 0), hB 0 75 [.arr .u64 8 t_0], hB 1 31 [.arr .u64 4 (List.replicate 4 0)]] [] (by kernel_rfl) trivial ?_
  refine q_k ?_
  refine tr_seq ?_
  refine tr_reg hT [(0, .key 2)] [.s 1, .s 2, .s 3, .h 0, .h 1, .h 2] [sO 1 (.ptr 0 0), sO 2 (.ptr 1 0), sO 3 (.ptr 2 0), hB 0 75 [.arr .u64 8 t_0], hB 1 31 [.arr .u64 4 (List.replicate 4 0)], hB 2 31 [.arr .u64 4 (List.replicate 4 0)]] [] (by kernel_rfl) trivial ?_
  refine q_k ?_
  refine tr_seq ?_
  refine tr_seq ?_
  refine tr_reg hT [] [.s 1, .s 2, .s 3, .s 4, .h 0, .h 1, .h 2] [sO 1 (.ptr 0 0), sO 2 (.ptr 1 0), sO 3 (.ptr 2 0), sI 4 .i64 (511 : Int), hB 0 75 [.arr .u64 8 t_0], hB 1 31 [.arr .u64 4 (List.replicate 4 0)], hB 2 31 [.arr .u64 4 (List.replicate 4 0)]] [] (by kernel_rfl) trivial ?_
  refine q_k ?_
  refine tr_block ?_
  obtain ⟨m21, e22, h⟩ := bind_some h
  refine tr_less [.s 1, .s 2, .s 3, .s 4, .h 0, .h 1, .h 2] [sO 1 (.ptr 0 0), sO 2 (.ptr 1 0), sO 3 (.ptr 2 0), sI 4 .i64 (511 : Int), hB 0 75 [.arr .u64 8 t_0], hB 1 31 [.arr .u64 4 (List.replicate 4 0)], hB 2 31 [.arr .u64 4 (List.replicate 4 0)]] (by kernel_rfl) ?_
  refine tr_loop_fuel (id := 0) (α := List Int × Int) (β := List Int) (fun z => [sO 1 (.ptr 0 0), sO 2 (.ptr 1 0), sO 3 (.ptr 2 0), sI 4 .i64 z.2, hB 0 75 [.arr .u64 8 t_0], hB 1 31 [.arr .u64 4 (List.replicate 4 0)], hB 2 31 [.arr .u64 4 z.1]]) (fun z => [sO 2 (.ptr 1 0), sO 3 (.ptr 2 0), hB 1 31 [.arr .u64 4 (List.replicate 4 0)], hB 2 31 [.arr .u64 4 z]]) (fun k z => ref04_modL_l0 t_0 k z.1 z.2) m21 (fun _ => rfl) (((511 : Int) - (0 : Int) + 1).toNat + 1) ((List.replicate 4 0), (511 : Int)) e22 ?_ ?_
  · skip
    replace h : (some m21) = _ := h
    refine q_b_this ?_
    refine q_k ?_
    refine tr_seq ?_
    refine tr_reg hT [] [.s 2, .h 1] [sO 2 (.ptr 1 0), hB 1 31 [.arr .u64 4 m21]] [] (by kernel_rfl) trivial ?_
    refine q_k ?_
    refine tr_ret ?_
    have h := Option.some.inj h
    subst h
    exact q_ret0 hT (.v (.agg [.arr .u64 4 m21])) rfl (by kernel_rfl)
  · clear h e22
    intro k ih0 hx0 z h
    obtain ⟨m1, i2⟩ := z
    replace h : (if (decide (i2 ≥ (0 : Int))) = true then (ref04_add m1 m1).bind (fun (a4, r5) => if 0 ≤ (IntKind.i64.wrap (i2.tdiv (64 : Int))) ∧ (IntKind.i64.wrap (i2.tdiv (64 : Int))) < ((8 : Nat) : Int) then if 0 ≤ (IntKind.u64.wrap (i2.tmod (64 : Int))) then (ref04_L).bind (fun a10 => (ref04_less (a4.set 0 (bor .u64 (a4.getD 0 0) (band .u64 (shr .u64 (t_0.getD (IntKind.i64.wrap (i2.tdiv (64 : Int))).toNat 0) (IntKind.u64.wrap (i2.tmod (64 : Int)))) (1 : Int)))) a10).bind (fun b12 => if (!b12) = true then (ref04_L).bind (fun a15 => (ref04_sub (a4.set 0 (bor .u64 (a4.getD 0 0) (band .u64 (shr .u64 (t_0.getD (IntKind.i64.wrap (i2.tdiv (64 : Int))).toNat 0) (IntKind.u64.wrap (i2.tmod (64 : Int)))) (1 : Int)))) a15).bind (fun (a17, r18) => ref04_modL_l0 t_0 k a17 (IntKind.i64.wrap (i2 - (1 : Int))))) else ref04_modL_l0 t_0 k (a4.set 0 (bor .u64 (a4.getD 0 0) (band .u64 (shr .u64 (t_0.getD (IntKind.i64.wrap (i2.tdiv (64 : Int))).toNat 0) (IntKind.u64.wrap (i2.tmod (64 : Int)))) (1 : Int)))) (IntKind.i64.wrap (i2 - (1 : Int))))) else none else none) else some m1) = _ := h
    refine tr_seq ?_
    refine tr_seq ?_
    refine tr_reg hT [] [.s 1, .s 2, .s 3, .s 4, .s 6, .h 0, .h 1, .h 2] [sO 1 (.ptr 0 0), sO 2 (.ptr 1 0), sO 3 (.ptr 2 0), sI 4 .i64 i2, sB 6 (decide (i2 ≥ (0 : Int))), hB 0 75 [.arr .u64 8 t_0], hB 1 31 [.arr .u64 4 (List.replicate 4 0)], hB 2 31 [.arr .u64 4 m1]] [] (by kernel_rfl) trivial ?_
    refine q_k ?_
    rcases ite_split h with ⟨hc3, h⟩ | ⟨hc3, h⟩
    · refine tr_cond_t (decide (i2 ≥ (0 : Int))) (by kernel_rfl) hc3 ?_
      refine tr_skip ?_
      refine q_k ?_
      refine tr_seq ?_
      refine tr_block ?_
      refine tr_seq ?_
      obtain ⟨⟨a4, r5⟩, e6, h⟩ := bind_some h
      refine tr_reg hT [(2, .call (.tup [.agg [.arr .u64 4 a4], .one (.int .u64 r5)]) [])] [.s 1, .s 2, .s 3, .s 4, .h 0, .h 1, .h 2] [sO 1 (.ptr 0 0), sO 2 (.ptr 1 0), sO 3 (.ptr 2 0), sI 4 .i64 i2, hB 0 75 [.arr .u64 8 t_0], hB 1 31 [.arr .u64 4 (List.replicate 4 0)], hB 2 31 [.arr .u64 4 a4]] [CallOk P 82 [.v (.agg [.arr .u64 4 m1]), .v (.agg [.arr .u64 4 m1])] [] (.tup [.agg [.arr .u64 4 a4], .one (.int .u64 r5)]) []] (by kernel_rfl) (hone (ref04_add_ok m1 m1 (a4, r5) e6)) ?_
      refine q_k ?_
      refine tr_seq ?_
      obtain ⟨hn8, h⟩ := ite_some h
      obtain ⟨hn9, h⟩ := ite_some h
      refine tr_regd hT hM [] [.s 1, .s 2, .s 3, .s 4, .h 0, .h 1, .h 2] [sO 1 (.ptr 0 0), sO 2 (.ptr 1 0), sO 3 (.ptr 2 0), sI 4 .i64 i2, hB 0 75 [.arr .u64 8 t_0], hB 1 31 [.arr .u64 4 (List.replicate 4 0)], hB 2 31 [.arr .u64 4 (a4.set 0 (bor .u64 (a4.getD 0 0) (band .u64 (shr .u64 (t_0.getD (IntKind.i64.wrap (i2.tdiv (64 : Int))).toNat 0) (IntKind.u64.wrap (i2.tmod (64 : Int)))) (1 : Int))))]] [0 ≤ (0 : Int) ∧ (0 : Int) < ((4 : Nat) : Int), (64 : Int) ≠ 0, 0 ≤ (IntKind.i64.wrap (i2.tdiv (64 : Int))) ∧ (IntKind.i64.wrap (i2.tdiv (64 : Int))) < ((8 : Nat) : Int), (64 : Int) ≠ 0, 0 ≤ (IntKind.u64.wrap (i2.tmod (64 : Int))), 0 ≤ (0 : Int) ∧ (0 : Int) < ((4 : Nat) : Int)] (by kernel_rfl) (hcons (by decide) (hcons (by decide) (hcons hn8 (hcons (by decide) (hcons hn9 (hone (by decide))))))) ?_
      refine q_k ?_
      refine tr_seq ?_
      obtain ⟨a10, e11, h⟩ := bind_some h
      obtain ⟨b12, e13, h⟩ := bind_some h
      refine tr_regd hT hM [(1, .call (.v (.agg [.arr .u64 4 a10])) []), (2, .call (.v (.one (.bool b12))) [])] [.s 1, .s 2, .s 3, .s 4, .s 31, .h 0, .h 1, .h 2] [sO 1 (.ptr 0 0), sO 2 (.ptr 1 0), sO 3 (.ptr 2 0), sI 4 .i64 i2, sB 31 (!b12), hB 0 75 [.arr .u64 8 t_0], hB 1 31 [.arr .u64 4 (List.replicate 4 0)], hB 2 31 [.arr .u64 4 (a4.set 0 (bor .u64 (a4.getD 0 0) (band .u64 (shr .u64 (t_0.getD (IntKind.i64.wrap (i2.tdiv (64 : Int))).toNat 0) (IntKind.u64.wrap (i2.tmod (64 : Int)))) (1 : Int))))]] [CallOk P 30 [] [] (.v (.agg [.arr .u64 4 a10])) [], CallOk P 75 [.v (.agg [.arr .u64 4 (a4.set 0 (bor .u64 (a4.getD 0 0) (band .u64 (shr .u64 (t_0.getD (IntKind.i64.wrap (i2.tdiv (64 : Int))).toNat 0) (IntKind.u64.wrap (i2.tmod (64 : Int)))) (1 : Int))))]), .v (.agg [.arr .u64 4 a10])] [] (.v (.one (.bool b12))) []] (by kernel_rfl) (hcons (ref04_L_ok  a10 e11) (hone (ref04_less_ok (a4.set 0 (bor .u64 (a4.getD 0 0) (band .u64 (shr .u64 (t_0.getD (IntKind.i64.wrap (i2.tdiv (64 : Int))).toNat 0) (IntKind.u64.wrap (i2.tmod (64 : Int)))) (1 : Int)))) a10 b12 e13))) ?_
      refine q_k ?_
      rcases ite_split h with ⟨hc14, h⟩ | ⟨hc14, h⟩
      · refine tr_cond_t (!b12) (by kernel_rfl) hc14 ?_
        obtain ⟨a15, e16, h⟩ := bind_some h
        obtain ⟨⟨a17, r18⟩, e19, h⟩ := bind_some h
        refine tr_regd hT hM [(1, .call (.v (.agg [.arr .u64 4 a15])) []), (2, .call (.tup [.agg [.arr .u64 4 a17], .one (.int .u64 r18)]) [])] [.s 1, .s 2, .s 3, .s 4, .h 0, .h 1, .h 2] [sO 1 (.ptr 0 0), sO 2 (.ptr 1 0), sO 3 (.ptr 2 0), sI 4 .i64 i2, hB 0 75 [.arr .u64 8 t_0], hB 1 31 [.arr .u64 4 (List.replicate 4 0)], hB 2 31 [.arr .u64 4 a17]] [CallOk P 30 [] [] (.v (.agg [.arr .u64 4 a15])) [], CallOk P 81 [.v (.agg [.arr .u64 4 (a4.set 0 (bor .u64 (a4.getD 0 0) (band .u64 (shr .u64 (t_0.getD (IntKind.i64.wrap (i2.tdiv (64 : Int))).toNat 0) (IntKind.u64.wrap (i2.tmod (64 : Int)))) (1 : Int))))]), .v (.agg [.arr .u64 4 a15])] [] (.tup [.agg [.arr .u64 4 a17], .one (.int .u64 r18)]) []] (by kernel_rfl) (hcons (ref04_L_ok  a15 e16) (hone (ref04_sub_ok (a4.set 0 (bor .u64 (a4.getD 0 0) (band .u64 (shr .u64 (t_0.getD (IntKind.i64.wrap (i2.tdiv (64 : Int))).toNat 0) (IntKind.u64.wrap (i2.tmod (64 : Int)))) (1 : Int)))) a15 (a17, r18) e19))) ?_
        refine q_b 1 ?_
        refine q_k ?_
        refine tr_reg hT [] [.s 1, .s 2, .s 3, .s 4, .h 0, .h 1, .h 2] [sO 1 (.ptr 0 0), sO 2 (.ptr 1 0), sO 3 (.ptr 2 0), sI 4 .i64 (IntKind.i64.wrap (i2 - (1 : Int))), hB 0 75 [.arr .u64 8 t_0], hB 1 31 [.arr .u64 4 (List.replicate 4 0)], hB 2 31 [.arr .u64 4 a17]] [] (by kernel_rfl) trivial ?_
        refine q_kr ?_
        exact trR_less [.s 1, .s 2, .s 3, .s 4, .h 0, .h 1, .h 2] [sO 1 (.ptr 0 0), sO 2 (.ptr 1 0), sO 3 (.ptr 2 0), sI 4 .i64 (IntKind.i64.wrap (i2 - (1 : Int))), hB 0 75 [.arr .u64 8 t_0], hB 1 31 [.arr .u64 4 (List.replicate 4 0)], hB 2 31 [.arr .u64 4 a17]] (by kernel_rfl) (ih0 (a17, (IntKind.i64.wrap (i2 - (1 : Int)))) h)
      · refine tr_cond_f (!b12) (by kernel_rfl) hc14 ?_
        refine tr_skip ?_
        refine q_b 1 ?_
        refine q_k ?_
        refine tr_reg hT [] [.s 1, .s 2, .s 3, .s 4, .h 0, .h 1, .h 2] [sO 1 (.ptr 0 0), sO 2 (.ptr 1 0), sO 3 (.ptr 2 0), sI 4 .i64 (IntKind.i64.wrap (i2 - (1 : Int))), hB 0 75 [.arr .u64 8 t_0], hB 1 31 [.arr .u64 4 (List.replicate 4 0)], hB 2 31 [.arr .u64 4 (a4.set 0 (bor .u64 (a4.getD 0 0) (band .u64 (shr .u64 (t_0.getD (IntKind.i64.wrap (i2.tdiv (64 : Int))).toNat 0) (IntKind.u64.wrap (i2.tmod (64 : Int)))) (1 : Int))))]] [] (by kernel_rfl) trivial ?_
        refine q_kr ?_
        exact trR_less [.s 1, .s 2, .s 3, .s 4, .h 0, .h 1, .h 2] [sO 1 (.ptr 0 0), sO 2 (.ptr 1 0), sO 3 (.ptr 2 0), sI 4 .i64 (IntKind.i64.wrap (i2 - (1 : Int))), hB 0 75 [.arr .u64 8 t_0], hB 1 31 [.arr .u64 4 (List.replicate 4 0)], hB 2 31 [.arr .u64 4 (a4.set 0 (bor .u64 (a4.getD 0 0) (band .u64 (shr .u64 (t_0.getD (IntKind.i64.wrap (i2.tdiv (64 : Int))).toNat 0) (IntKind.u64.wrap (i2.tmod (64 : Int)))) (1 : Int))))]] (by kernel_rfl) (ih0 ((a4.set 0 (bor .u64 (a4.getD 0 0) (band .u64 (shr .u64 (t_0.getD (IntKind.i64.wrap (i2.tdiv (64 : Int))).toNat 0) (IntKind.u64.wrap (i2.tmod (64 : Int)))) (1 : Int)))), (IntKind.i64.wrap (i2 - (1 : Int)))) h)
    · refine tr_cond_f (decide (i2 ≥ (0 : Int))) (by kernel_rfl) hc3 ?_
      refine tr_exit ?_
      refine q_k_exit ?_
      refine q_kr_exit ?_
      have h := Option.some.inj h
      subst h
      exact q_less [.s 2, .s 3, .h 1, .h 2] [sO 2 (.ptr 1 0), sO 3 (.ptr 2 0), hB 1 31 [.arr .u64 4 (List.replicate 4 0)], hB 2 31 [.arr .u64 4 m1]] (by kernel_rfl) hx0

theorem ref04_times_ok (a_0 : List Int) (b_1 : List Int) (r : List Int) (h : ref04_times a_0 b_1 = some r) {pre : List (Nat × Ent)} : CallOk P 77 [.v (.agg [.arr .u64 4 a_0]), .v (.agg [.arr .u64 4 b_1])] pre (.v (.agg [.arr .u64 8 r])) [] := by
  refine call0 (N := 63) Try.func77 (by kernel_rfl) rfl rfl rfl pre ?_
  intro _ w
  show Tr P w.heap.size 63 w _ _ (RetQ P Try.f77 (R0 _ w))
  unfold ref04_times at h
  refine tr_seq ?_
  refine tr_reg hT [(0, .key 0), (1, .key 1), (2, .key 2)] [.s 2, .s 3, .s 4, .h 0, .h 1, .h 2] [sO 2 (.ptr 0 0), sO 3 (.ptr 1 0), sO 4 (.ptr 2 0), hB 0 31 [.arr .u64 4 a_0], hB 1 31 [.arr .u64 4 b_1], hB 2 75 [.arr .u64 8 (List.replicate 8 0)]] [] (by kernel_rfl) trivial ?_
  refine q_k ?_
  refine tr_seq ?_
  refine tr_reg hT [(0, .key 3)] [.s 2, .s 3, .s 4, .s 5, .h 0, .h 1, .h 2, .h 3] [sO 2 (.ptr 0 0), sO 3 (.ptr 1 0), sO 4 (.ptr 2 0), sO 5 (.ptr 3 0), hB 0 31 [.arr .u64 4 a_0], hB 1 31 [.arr .u64 4 b_1], hB 2 75 [.arr .u64 8 (List.replicate 8 0)], hB 3 75 [.arr .u64 8 (List.replicate 8 0)]] [] (by kernel_rfl) trivial ?_
  refine q_k ?_
  refine tr_seq ?_
  refine tr_seq ?_
  refine tr_reg hT [] [.s 2, .s 3, .s 4, .s 5, .s 6, .h 0, .h 1, .h 2, .h 3] [sO 2 (.ptr 0 0), sO 3 (.ptr 1 0), sO 4 (.ptr 2 0), sO 5 (.ptr 3 0), sI 6 .i64 (0 : Int), hB 0 31 [.arr .u64 4 a_0], hB 1 31 [.arr .u64 4 b_1], hB 2 75 [.arr .u64 8 (List.replicate 8 0)], hB 3 75 [.arr .u64 8 (List.replicate 8 0)]] [] (by kernel_rfl) trivial ?_
  refine q_k ?_
  refine tr_block ?_
  obtain ⟨m28, e29, h⟩ := bind_some h
  refine tr_less [.s 2, .s 3, .s 4, .s 5, .s 6, .h 0, .h 1, .h 2, .h 3] [sO 2 (.ptr 0 0), sO 3 (.ptr 1 0), sO 4 (.ptr 2 0), sO 5 (.ptr 3 0), sI 6 .i64 (0 : Int), hB 0 31 [.arr .u64 4 a_0], hB 1 31 [.arr .u64 4 b_1], hB 2 75 [.arr .u64 8 (List.replicate 8 0)], hB 3 75 [.arr .u64 8 (List.replicate 8 0)]] (by kernel_rfl) ?_
  refine tr_loop_fuel (id := 0) (α := List Int × Int) (β := List Int) (fun z => [sO 2 (.ptr 0 0), sO 3 (.ptr 1 0), sO 4 (.ptr 2 0), sO 5 (.ptr 3 0), sI 6 .i64 z.2, hB 0 31 [.arr .u64 4 a_0], hB 1 31 [.arr .u64 4 b_1], hB 2 75 [.arr .u64 8 (List.replicate 8 0)], hB 3 75 [.arr .u64 8 z.1]]) (fun z => [sO 4 (.ptr 2 0), sO 5 (.ptr 3 0), hB 2 75 [.arr .u64 8 (List.replicate 8 0)], hB 3 75 [.arr .u64 8 z]]) (fun k z => ref04_times_l0 a_0 b_1 k z.1 z.2) m28 (fun _ => rfl) (((4 : Int) - (0 : Int)).toNat + 1) ((List.replicate 8 0), (0 : Int)) e29 ?_ ?_
  · skip
    replace h : (some m28) = _ := h
    refine q_b_this ?_
    refine q_k ?_
    refine tr_seq ?_
    refine tr_reg hT [] [.s 4, .h 2] [sO 4 (.ptr 2 0), hB 2 75 [.arr .u64 8 m28]] [] (by kernel_rfl) trivial ?_
    refine q_k ?_
    refine tr_ret ?_
    have h := Option.some.inj h
    subst h
    exact q_ret0 hT (.v (.agg [.arr .u64 8 m28])) rfl (by kernel_rfl)
  · clear h e29
    intro k ih0 hx0 z h
    obtain ⟨m1, i2⟩ := z
    replace h : (if (decide (i2 < (4 : Int))) = true then (ref04_times_l1 a_0 b_1 i2 (((4 : Int) - (0 : Int)).toNat + 1) m1 (0 : Int) (0 : Int)).bind (fun (m24, carry25) => if 0 ≤ (IntKind.i64.wrap (i2 + (4 : Int))) ∧ (IntKind.i64.wrap (i2 + (4 : Int))) < ((8 : Nat) : Int) then ref04_times_l0 a_0 b_1 k (m24.set (IntKind.i64.wrap (i2 + (4 : Int))).toNat carry25) (IntKind.i64.wrap (i2 + (1 : Int))) else none) else some m1) = _ := h
    refine tr_seq ?_
    refine tr_seq ?_
    refine tr_reg hT [] [.s 2, .s 3, .s 4, .s 5, .s 6, .s 13, .h 0, .h 1, .h 2, .h 3] [sO 2 (.ptr 0 0), sO 3 (.ptr 1 0), sO 4 (.ptr 2 0), sO 5 (.ptr 3 0), sI 6 .i64 i2, sB 13 (decide (i2 < (4 : Int))), hB 0 31 [.arr .u64 4 a_0], hB 1 31 [.arr .u64 4 b_1], hB 2 75 [.arr .u64 8 (List.replicate 8 0)], hB 3 75 [.arr .u64 8 m1]] [] (by kernel_rfl) trivial ?_
    refine q_k ?_
    rcases ite_split h with ⟨hc3, h⟩ | ⟨hc3, h⟩
    · refine tr_cond_t (decide (i2 < (4 : Int))) (by kernel_rfl) hc3 ?_
      refine tr_skip ?_
      refine q_k ?_
      refine tr_seq ?_
      refine tr_block ?_
      refine tr_seq ?_
      refine tr_reg hT [] [.s 2, .s 3, .s 4, .s 5, .s 6, .s 7, .h 0, .h 1, .h 2, .h 3] [sO 2 (.ptr 0 0), sO 3 (.ptr 1 0), sO 4 (.ptr 2 0), sO 5 (.ptr 3 0), sI 6 .i64 i2, sI 7 .u64 (0 : Int), hB 0 31 [.arr .u64 4 a_0], hB 1 31 [.arr .u64 4 b_1], hB 2 75 [.arr .u64 8 (List.replicate 8 0)], hB 3 75 [.arr .u64 8 m1]] [] (by kernel_rfl) trivial ?_
      refine q_k ?_
      refine tr_seq ?_
      refine tr_seq ?_
      refine tr_reg hT [] [.s 2, .s 3, .s 4, .s 5, .s 6, .s 7, .s 8, .h 0, .h 1, .h 2, .h 3] [sO 2 (.ptr 0 0), sO 3 (.ptr 1 0), sO 4 (.ptr 2 0), sO 5 (.ptr 3 0), sI 6 .i64 i2, sI 7 .u64 (0 : Int), sI 8 .i64 (0 : Int), hB 0 31 [.arr .u64 4 a_0], hB 1 31 [.arr .u64 4 b_1], hB 2 75 [.arr .u64 8 (List.replicate 8 0)], hB 3 75 [.arr .u64 8 m1]] [] (by kernel_rfl) trivial ?_
      refine q_k ?_
      refine tr_block ?_
      obtain ⟨rr1, e26, h⟩ := bind_some h
      refine tr_less [.s 2, .s 3, .s 4, .s 5, .s 6, .s 7, .s 8, .h 0, .h 1, .h 2, .h 3] [sO 2 (.ptr 0 0), sO 3 (.ptr 1 0), sO 4 (.ptr 2 0), sO 5 (.ptr 3 0), sI 6 .i64 i2, sI 7 .u64 (0 : Int), sI 8 .i64 (0 : Int), hB 0 31 [.arr .u64 4 a_0], hB 1 31 [.arr .u64 4 b_1], hB 2 75 [.arr .u64 8 (List.replicate 8 0)], hB 3 75 [.arr .u64 8 m1]] (by kernel_rfl) ?_
      refine tr_loop_fuel (id := 2) (α := List Int × Int × Int) (β := List Int × Int) (fun z => [sO 2 (.ptr 0 0), sO 3 (.ptr 1 0), sO 4 (.ptr 2 0), sO 5 (.ptr 3 0), sI 6 .i64 i2, sI 7 .u64 z.2.1, sI 8 .i64 z.2.2, hB 0 31 [.arr .u64 4 a_0], hB 1 31 [.arr .u64 4 b_1], hB 2 75 [.arr .u64 8 (List.replicate 8 0)], hB 3 75 [.arr .u64 8 z.1]]) (fun z => [sO 2 (.ptr 0 0), sO 3 (.ptr 1 0), sO 4 (.ptr 2 0), sO 5 (.ptr 3 0), sI 6 .i64 i2, sI 7 .u64 z.2, hB 0 31 [.arr .u64 4 a_0], hB 1 31 [.arr .u64 4 b_1], hB 2 75 [.arr .u64 8 (List.replicate 8 0)], hB 3 75 [.arr .u64 8 z.1]]) (fun k z => ref04_times_l1 a_0 b_1 i2 k z.1 z.2.1 z.2.2) rr1 (fun _ => rfl) (((4 : Int) - (0 : Int)).toNat + 1) (m1, (0 : Int), (0 : Int)) e26 ?_ ?_
      · rcases rr1 with ⟨m24, carry25⟩
        replace h : (if 0 ≤ (IntKind.i64.wrap (i2 + (4 : Int))) ∧ (IntKind.i64.wrap (i2 + (4 : Int))) < ((8 : Nat) : Int) then ref04_times_l0 a_0 b_1 k (m24.set (IntKind.i64.wrap (i2 + (4 : Int))).toNat carry25) (IntKind.i64.wrap (i2 + (1 : Int))) else none) = _ := h
        refine q_b_this ?_
        refine q_k ?_
        obtain ⟨hn27, h⟩ := ite_some h
        refine tr_reg hT [] [.s 2, .s 3, .s 4, .s 5, .s 6, .h 0, .h 1, .h 2, .h 3] [sO 2 (.ptr 0 0), sO 3 (.ptr 1 0), sO 4 (.ptr 2 0), sO 5 (.ptr 3 0), sI 6 .i64 i2, hB 0 31 [.arr .u64 4 a_0], hB 1 31 [.arr .u64 4 b_1], hB 2 75 [.arr .u64 8 (List.replicate 8 0)], hB 3 75 [.arr .u64 8 (m24.set (IntKind.i64.wrap (i2 + (4 : Int))).toNat carry25)]] [0 ≤ (IntKind.i64.wrap (i2 + (4 : Int))) ∧ (IntKind.i64.wrap (i2 + (4 : Int))) < ((8 : Nat) : Int)] (by kernel_rfl) (hone hn27) ?_
        refine q_b 1 ?_
        refine q_k ?_
        refine tr_reg hT [] [.s 2, .s 3, .s 4, .s 5, .s 6, .h 0, .h 1, .h 2, .h 3] [sO 2 (.ptr 0 0), sO 3 (.ptr 1 0), sO 4 (.ptr 2 0), sO 5 (.ptr 3 0), sI 6 .i64 (IntKind.i64.wrap (i2 + (1 : Int))), hB 0 31 [.arr .u64 4 a_0], hB 1 31 [.arr .u64 4 b_1], hB 2 75 [.arr .u64 8 (List.replicate 8 0)], hB 3 75 [.arr .u64 8 (m24.set (IntKind.i64.wrap (i2 + (4 : Int))).toNat carry25)]] [] (by kernel_rfl) trivial ?_
        refine q_kr ?_
        exact trR_less [.s 2, .s 3, .s 4, .s 5, .s 6, .h 0, .h 1, .h 2, .h 3] [sO 2 (.ptr 0 0), sO 3 (.ptr 1 0), sO 4 (.ptr 2 0), sO 5 (.ptr 3 0), sI 6 .i64 (IntKind.i64.wrap (i2 + (1 : Int))), hB 0 31 [.arr .u64 4 a_0], hB 1 31 [.arr .u64 4 b_1], hB 2 75 [.arr .u64 8 (List.replicate 8 0)], hB 3 75 [.arr .u64 8 (m24.set (IntKind.i64.wrap (i2 + (4 : Int))).toNat carry25)]] (by kernel_rfl) (ih0 ((m24.set (IntKind.i64.wrap (i2 + (4 : Int))).toNat carry25), (IntKind.i64.wrap (i2 + (1 : Int)))) h)
      · clear h e26
        intro k ih1 hx1 z h
        obtain ⟨m4, carry5, k6⟩ := z
        replace h : (if (decide (k6 < (4 : Int))) = true then if 0 ≤ i2 ∧ i2 < ((4 : Nat) : Int) then if 0 ≤ k6 ∧ k6 < ((4 : Nat) : Int) then (math_bits_Mul64 (a_0.getD i2.toNat 0) (b_1.getD k6.toNat 0)).bind (fun (r10, r11) => if 0 ≤ (IntKind.i64.wrap (i2 + k6)) ∧ (IntKind.i64.wrap (i2 + k6)) < ((8 : Nat) : Int) then (add64 r11 (m4.getD (IntKind.i64.wrap (i2 + k6)).toNat 0) (0 : Int)).bind (fun (r15, r16) => (add64 r15 carry5 (0 : Int)).bind (fun (r19, r20) => if 0 ≤ (IntKind.i64.wrap (i2 + k6)) ∧ (IntKind.i64.wrap (i2 + k6)) < ((8 : Nat) : Int) then ref04_times_l1 a_0 b_1 i2 k (m4.set (IntKind.i64.wrap (i2 + k6)).toNat r19) (IntKind.u64.wrap ((IntKind.u64.wrap (r10 + r16)) + r20)) (IntKind.i64.wrap (k6 + (1 : Int))) else none)) else none) else none else none else some (m4, carry5)) = _ := h
        refine tr_seq ?_
        refine tr_seq ?_
        refine tr_reg hT [] [.s 2, .s 3, .s 4, .s 5, .s 6, .s 7, .s 8, .s 17, .h 0, .h 1, .h 2, .h 3] [sO 2 (.ptr 0 0), sO 3 (.ptr 1 0), sO 4 (.ptr 2 0), sO 5 (.ptr 3 0), sI 6 .i64 i2, sI 7 .u64 carry5, sI 8 .i64 k6, sB 17 (decide (k6 < (4 : Int))), hB 0 31 [.arr .u64 4 a_0], hB 1 31 [.arr .u64 4 b_1], hB 2 75 [.arr .u64 8 (List.replicate 8 0)], hB 3 75 [.arr .u64 8 m4]] [] (by kernel_rfl) trivial ?_
        refine q_k ?_
        rcases ite_split h with ⟨hc7, h⟩ | ⟨hc7, h⟩
        · refine tr_cond_t (decide (k6 < (4 : Int))) (by kernel_rfl) hc7 ?_
          refine tr_skip ?_
          refine q_k ?_
          refine tr_seq ?_
          refine tr_block ?_
          refine tr_seq ?_
          obtain ⟨hn8, h⟩ := ite_some h
          obtain ⟨hn9, h⟩ := ite_some h
          obtain ⟨⟨r10, r11⟩, e12, h⟩ := bind_some h
          refine tr_regd hT hM [(6, .call (.tup [.one (.int .u64 r10), .one (.int .u64 r11)]) [])] [.s 2, .s 3, .s 4, .s 5, .s 6, .s 7, .s 8, .s 9, .s 10, .h 0, .h 1, .h 2, .h 3] [sO 2 (.ptr 0 0), sO 3 (.ptr 1 0), sO 4 (.ptr 2 0), sO 5 (.ptr 3 0), sI 6 .i64 i2, sI 7 .u64 carry5, sI 8 .i64 k6, sI 9 .u64 r10, sI 10 .u64 r11, hB 0 31 [.arr .u64 4 a_0], hB 1 31 [.arr .u64 4 b_1], hB 2 75 [.arr .u64 8 (List.replicate 8 0)], hB 3 75 [.arr .u64 8 m4]] [0 ≤ i2 ∧ i2 < ((4 : Nat) : Int), 0 ≤ k6 ∧ k6 < ((4 : Nat) : Int), CallOk P 100 [.v (.one (.int .u64 (a_0.getD i2.toNat 0))), .v (.one (.int .u64 (b_1.getD k6.toNat 0)))] [] (.tup [.one (.int .u64 r10), .one (.int .u64 r11)]) []] (by kernel_rfl) (hcons hn8 (hcons hn9 (hone (math_bits_Mul64_ok (a_0.getD i2.toNat 0) (b_1.getD k6.toNat 0) (r10, r11) e12)))) ?_
          refine q_k ?_
          refine tr_seq ?_
          obtain ⟨hn14, h⟩ := ite_some h
          obtain ⟨⟨r15, r16⟩, e17, h⟩ := bind_some h
          refine tr_reg hT [(6, .call (.tup [.one (.int .u64 r15), .one (.int .u64 r16)]) [])] [.s 2, .s 3, .s 4, .s 5, .s 6, .s 7, .s 8, .s 9, .s 10, .s 11, .h 0, .h 1, .h 2, .h 3] [sO 2 (.ptr 0 0), sO 3 (.ptr 1 0), sO 4 (.ptr 2 0), sO 5 (.ptr 3 0), sI 6 .i64 i2, sI 7 .u64 carry5, sI 8 .i64 k6, sI 9 .u64 r10, sI 10 .u64 r15, sI 11 .u64 r16, hB 0 31 [.arr .u64 4 a_0], hB 1 31 [.arr .u64 4 b_1], hB 2 75 [.arr .u64 8 (List.replicate 8 0)], hB 3 75 [.arr .u64 8 m4]] [0 ≤ (IntKind.i64.wrap (i2 + k6)) ∧ (IntKind.i64.wrap (i2 + k6)) < ((8 : Nat) : Int), CallOk P 78 [.v (.one (.int .u64 r11)), .v (.one (.int .u64 (m4.getD (IntKind.i64.wrap (i2 + k6)).toNat 0))), .v (.one (.int .u64 (0 : Int)))] [] (.tup [.one (.int .u64 r15), .one (.int .u64 r16)]) []] (by kernel_rfl) (hcons hn14 (hone (bits_Add64_ok r11 (m4.getD (IntKind.i64.wrap (i2 + k6)).toNat 0) (0 : Int) (r15, r16) e17))) ?_
          refine q_k ?_
          refine tr_seq ?_
          refine tr_reg hT [] [.s 2, .s 3, .s 4, .s 5, .s 6, .s 7, .s 8, .s 9, .s 10, .h 0, .h 1, .h 2, .h 3] [sO 2 (.ptr 0 0), sO 3 (.ptr 1 0), sO 4 (.ptr 2 0), sO 5 (.ptr 3 0), sI 6 .i64 i2, sI 7 .u64 carry5, sI 8 .i64 k6, sI 9 .u64 (IntKind.u64.wrap (r10 + r16)), sI 10 .u64 r15, hB 0 31 [.arr .u64 4 a_0], hB 1 31 [.arr .u64 4 b_1], hB 2 75 [.arr .u64 8 (List.replicate 8 0)], hB 3 75 [.arr .u64 8 m4]] [] (by kernel_rfl) trivial ?_
          refine q_k ?_
          refine tr_seq ?_
          obtain ⟨⟨r19, r20⟩, e21, h⟩ := bind_some h
          refine tr_reg hT [(2, .call (.tup [.one (.int .u64 r19), .one (.int .u64 r20)]) [])] [.s 2, .s 3, .s 4, .s 5, .s 6, .s 8, .s 9, .s 10, .s 11, .h 0, .h 1, .h 2, .h 3] [sO 2 (.ptr 0 0), sO 3 (.ptr 1 0), sO 4 (.ptr 2 0), sO 5 (.ptr 3 0), sI 6 .i64 i2, sI 8 .i64 k6, sI 9 .u64 (IntKind.u64.wrap (r10 + r16)), sI 10 .u64 r19, sI 11 .u64 r20, hB 0 31 [.arr .u64 4 a_0], hB 1 31 [.arr .u64 4 b_1], hB 2 75 [.arr .u64 8 (List.replicate 8 0)], hB 3 75 [.arr .u64 8 m4]] [CallOk P 78 [.v (.one (.int .u64 r15)), .v (.one (.int .u64 carry5)), .v (.one (.int .u64 (0 : Int)))] [] (.tup [.one (.int .u64 r19), .one (.int .u64 r20)]) []] (by kernel_rfl) (hone (bits_Add64_ok r15 carry5 (0 : Int) (r19, r20) e21)) ?_
          refine q_k ?_
          refine tr_seq ?_
          refine tr_reg hT [] [.s 2, .s 3, .s 4, .s 5, .s 6, .s 8, .s 9, .s 10, .h 0, .h 1, .h 2, .h 3] [sO 2 (.ptr 0 0), sO 3 (.ptr 1 0), sO 4 (.ptr 2 0), sO 5 (.ptr 3 0), sI 6 .i64 i2, sI 8 .i64 k6, sI 9 .u64 (IntKind.u64.wrap ((IntKind.u64.wrap (r10 + r16)) + r20)), sI 10 .u64 r19, hB 0 31 [.arr .u64 4 a_0], hB 1 31 [.arr .u64 4 b_1], hB 2 75 [.arr .u64 8 (List.replicate 8 0)], hB 3 75 [.arr .u64 8 m4]] [] (by kernel_rfl) trivial ?_
          refine q_k ?_
          obtain ⟨hn23, h⟩ := ite_some h
          refine tr_reg hT [] [.s 2, .s 3, .s 4, .s 5, .s 6, .s 7, .s 8, .h 0, .h 1, .h 2, .h 3] [sO 2 (.ptr 0 0), sO 3 (.ptr 1 0), sO 4 (.ptr 2 0), sO 5 (.ptr 3 0), sI 6 .i64 i2, sI 7 .u64 (IntKind.u64.wrap ((IntKind.u64.wrap (r10 + r16)) + r20)), sI 8 .i64 k6, hB 0 31 [.arr .u64 4 a_0], hB 1 31 [.arr .u64 4 b_1], hB 2 75 [.arr .u64 8 (List.replicate 8 0)], hB 3 75 [.arr .u64 8 (m4.set (IntKind.i64.wrap (i2 + k6)).toNat r19)]] [0 ≤ (IntKind.i64.wrap (i2 + k6)) ∧ (IntKind.i64.wrap (i2 + k6)) < ((8 : Nat) : Int)] (by kernel_rfl) (hone hn23) ?_
          refine q_b 3 ?_
          refine q_k ?_
          refine tr_reg hT [] [.s 2, .s 3, .s 4, .s 5, .s 6, .s 7, .s 8, .h 0, .h 1, .h 2, .h 3] [sO 2 (.ptr 0 0), sO 3 (.ptr 1 0), sO 4 (.ptr 2 0), sO 5 (.ptr 3 0), sI 6 .i64 i2, sI 7 .u64 (IntKind.u64.wrap ((IntKind.u64.wrap (r10 + r16)) + r20)), sI 8 .i64 (IntKind.i64.wrap (k6 + (1 : Int))), hB 0 31 [.arr .u64 4 a_0], hB 1 31 [.arr .u64 4 b_1], hB 2 75 [.arr .u64 8 (List.replicate 8 0)], hB 3 75 [.arr .u64 8 (m4.set (IntKind.i64.wrap (i2 + k6)).toNat r19)]] [] (by kernel_rfl) trivial ?_
          refine q_kr ?_
          exact trR_less [.s 2, .s 3, .s 4, .s 5, .s 6, .s 7, .s 8, .h 0, .h 1, .h 2, .h 3] [sO 2 (.ptr 0 0), sO 3 (.ptr 1 0), sO 4 (.ptr 2 0), sO 5 (.ptr 3 0), sI 6 .i64 i2, sI 7 .u64 (IntKind.u64.wrap ((IntKind.u64.wrap (r10 + r16)) + r20)), sI 8 .i64 (IntKind.i64.wrap (k6 + (1 : Int))), hB 0 31 [.arr .u64 4 a_0], hB 1 31 [.arr .u64 4 b_1], hB 2 75 [.arr .u64 8 (List.replicate 8 0)], hB 3 75 [.arr .u64 8 (m4.set (IntKind.i64.wrap (i2 + k6)).toNat r19)]] (by kernel_rfl) (ih1 ((m4.set (IntKind.i64.wrap (i2 + k6)).toNat r19), (IntKind.u64.wrap ((IntKind.u64.wrap (r10 + r16)) + r20)), (IntKind.i64.wrap (k6 + (1 : Int)))) h)
        · refine tr_cond_f (decide (k6 < (4 : Int))) (by kernel_rfl) hc7 ?_
          refine tr_exit ?_
          refine q_k_exit ?_
          refine q_kr_exit ?_
          have h := Option.some.inj h
          subst h
          exact q_less [.s 2, .s 3, .s 4, .s 5, .s 6, .s 7, .h 0, .h 1, .h 2, .h 3] [sO 2 (.ptr 0 0), sO 3 (.ptr 1 0), sO 4 (.ptr 2 0), sO 5 (.ptr 3 0), sI 6 .i64 i2, sI 7 .u64 carry5, hB 0 31 [.arr .u64 4 a_0], hB 1 31 [.arr .u64 4 b_1], hB 2 75 [.arr .u64 8 (List.replicate 8 0)], hB 3 75 [.arr .u64 8 m4]] (by kernel_rfl) hx1
    · refine tr_cond_f (decide (i2 < (4 : Int))) (by kernel_rfl) hc3 ?_
      refine tr_exit ?_
      refine q_k_exit ?_
      refine q_kr_exit ?_
      have h := Option.some.inj h
      subst h
      exact q_less [.s 4, .s 5, .h 2, .h 3] [sO 4 (.ptr 2 0), sO 5 (.ptr 3 0), hB 2 75 [.arr .u64 8 (List.replicate 8 0)], hB 3 75 [.arr .u64 8 m1]] (by kernel_rfl) hx0

theorem ref04_MulAdd_ok (a_0 : List Int) (b_1 : List Int) (c_2 : List Int) (r : List Int) (h : ref04_MulAdd a_0 b_1 c_2 = some r) {pre : List (Nat × Ent)} : CallOk P 39 [.v (.agg [.arr .u8 32 a_0]), .v (.agg [.arr .u8 32 b_1]), .v (.agg [.arr .u8 32 c_2])] pre (.v (.agg [.arr .u8 32 r])) [] := by
  refine call0 (N := 42) Try.func39 (by kernel_rfl) rfl rfl rfl pre ?_
  intro _ w
  show Tr P w.heap.size 42 w _ _ (RetQ P Try.f39 (R0 _ w))
  unfold ref04_MulAdd at h
  refine tr_seq ?_
  refine tr_reg hT [(0, .key 0), (1, .key 1), (2, .key 2), (3, .key 3)] [.s 3, .s 4, .s 5, .s 6, .h 0, .h 1, .h 2, .h 3] [sO 3 (.ptr 0 0), sO 4 (.ptr 1 0), sO 5 (.ptr 2 0), sO 6 (.ptr 3 0), hB 0 22 [.arr .u8 32 a_0], hB 1 22 [.arr .u8 32 b_1], hB 2 22 [.arr .u8 32 c_2], hB 3 22 [.arr .u8 32 (List.replicate 32 0)]] [] (by kernel_rfl) trivial ?_
  refine q_k ?_
  refine tr_seq ?_
  obtain ⟨a1, e2, h⟩ := bind_some h
  obtain ⟨a3, e4, h⟩ := bind_some h
  obtain ⟨a5, e6, h⟩ := bind_some h
  refine tr_regd hT hM [(1, .call (.v (.agg [.arr .u64 4 a1])) []), (3, .call (.v (.agg [.arr .u64 4 a3])) []), (4, .call (.v (.agg [.arr .u64 8 a5])) []), (5, .key 4)] [.s 5, .s 6, .s 7, .h 2, .h 3, .h 4] [sO 5 (.ptr 2 0), sO 6 (.ptr 3 0), sO 7 (.ptr 4 0), hB 2 22 [.arr .u8 32 c_2], hB 3 22 [.arr .u8 32 (List.replicate 32 0)], hB 4 75 [.arr .u64 8 a5]] [CallOk P 44 [.v (.agg [.arr .u8 32 a_0])] [] (.v (.agg [.arr .u64 4 a1])) [], CallOk P 44 [.v (.agg [.arr .u8 32 b_1])] [] (.v (.agg [.arr .u64 4 a3])) [], CallOk P 77 [.v (.agg [.arr .u64 4 a1]), .v (.agg [.arr .u64 4 a3])] [] (.v (.agg [.arr .u64 8 a5])) []] (by kernel_rfl) (hcons (ref04_Of_ok a_0 a1 e2) (hcons (ref04_Of_ok b_1 a3 e4) (hone (ref04_times_ok a1 a3 a5 e6)))) ?_
  refine q_k ?_
  refine tr_seq ?_
  obtain ⟨a7, e8, h⟩ := bind_some h
  refine tr_reg hT [(1, .call (.v (.agg [.arr .u64 4 a7])) []), (2, .key 5)] [.s 6, .s 7, .s 8, .h 3, .h 4, .h 5] [sO 6 (.ptr 3 0), sO 7 (.ptr 4 0), sO 8 (.ptr 5 0), hB 3 22 [.arr .u8 32 (List.replicate 32 0)], hB 4 75 [.arr .u64 8 a5], hB 5 31 [.arr .u64 4 a7]] [CallOk P 44 [.v (.agg [.arr .u8 32 c_2])] [] (.v (.agg [.arr .u64 4 a7])) []] (by kernel_rfl) (hone (ref04_Of_ok c_2 a7 e8)) ?_
  refine q_k ?_
  refine tr_seq ?_
  refine tr_reg hT [] [.s 6, .s 7, .s 8, .s 9, .h 3, .h 4, .h 5] [sO 6 (.ptr 3 0), sO 7 (.ptr 4 0), sO 8 (.ptr 5 0), sI 9 .u64 (0 : Int), hB 3 22 [.arr .u8 32 (List.replicate 32 0)], hB 4 75 [.arr .u64 8 a5], hB 5 31 [.arr .u64 4 a7]] [] (by kernel_rfl) trivial ?_
  refine q_k ?_
  refine tr_seq ?_
  refine tr_seq ?_
  refine tr_reg hT [] [.s 6, .s 7, .s 8, .s 9, .s 10, .h 3, .h 4, .h 5] [sO 6 (.ptr 3 0), sO 7 (.ptr 4 0), sO 8 (.ptr 5 0), sI 9 .u64 (0 : Int), sI 10 .i64 (0 : Int), hB 3 22 [.arr .u8 32 (List.replicate 32 0)], hB 4 75 [.arr .u64 8 a5], hB 5 31 [.arr .u64 4 a7]] [] (by kernel_rfl) trivial ?_
  refine q_k ?_
  refine tr_block ?_
  obtain ⟨m23, e24, h⟩ := bind_some h
  refine tr_less [.s 6, .s 7, .s 8, .s 9, .s 10, .h 3, .h 4, .h 5] [sO 6 (.ptr 3 0), sO 7 (.ptr 4 0), sO 8 (.ptr 5 0), sI 9 .u64 (0 : Int), sI 10 .i64 (0 : Int), hB 3 22 [.arr .u8 32 (List.replicate 32 0)], hB 4 75 [.arr .u64 8 a5], hB 5 31 [.arr .u64 4 a7]] (by kernel_rfl) ?_
  refine tr_loop_fuel (id := 0) (α := List Int × Int × Int) (β := List Int) (fun z => [sO 6 (.ptr 3 0), sO 7 (.ptr 4 0), sO 8 (.ptr 5 0), sI 9 .u64 z.2.1, sI 10 .i64 z.2.2, hB 3 22 [.arr .u8 32 (List.replicate 32 0)], hB 4 75 [.arr .u64 8 z.1], hB 5 31 [.arr .u64 4 a7]]) (fun z => [sO 6 (.ptr 3 0), sO 7 (.ptr 4 0), hB 3 22 [.arr .u8 32 (List.replicate 32 0)], hB 4 75 [.arr .u64 8 z]]) (fun k z => ref04_MulAdd_l0 a7 k z.1 z.2.1 z.2.2) m23 (fun _ => rfl) (((8 : Int) - (0 : Int)).toNat + 1) (a5, (0 : Int), (0 : Int)) e24 ?_ ?_
  · skip
    replace h : ((ref04_modL m23).bind (fun a25 => (ref04_Bytes a25).bind (fun a27 => some a27))) = _ := h
    refine q_b_this ?_
    refine q_k ?_
    refine tr_seq ?_
    obtain ⟨a25, e26, h⟩ := bind_some h
    obtain ⟨a27, e28, h⟩ := bind_some h
    refine tr_reg hT [(1, .call (.v (.agg [.arr .u64 4 a25])) []), (2, .call (.v (.agg [.arr .u8 32 a27])) [])] [.s 6, .h 3] [sO 6 (.ptr 3 0), hB 3 22 [.arr .u8 32 a27]] [CallOk P 76 [.v (.agg [.arr .u64 8 m23])] [] (.v (.agg [.arr .u64 4 a25])) [], CallOk P 29 [.v (.agg [.arr .u64 4 a25])] [] (.v (.agg [.arr .u8 32 a27])) []] (by kernel_rfl) (hcons (ref04_modL_ok m23 a25 e26) (hone (ref04_Bytes_ok a25 a27 e28))) ?_
    refine q_k ?_
    refine tr_ret ?_
    have h := Option.some.inj h
    subst h
    exact q_ret0 hT (.v (.agg [.arr .u8 32 a27])) rfl (by kernel_rfl)
  · clear h e24
    intro k ih0 hx0 z h
    obtain ⟨m9, carry10, i11⟩ := z
    replace h : (if (decide (i11 < (8 : Int))) = true then (show Option (Int) from if (decide (i11 < (4 : Int))) = true then if 0 ≤ i11 ∧ i11 < ((4 : Nat) : Int) then some (a7.getD i11.toNat 0) else none else some (0 : Int)).bind (fun x15 => if 0 ≤ i11 ∧ i11 < ((8 : Nat) : Int) then (add64 (m9.getD i11.toNat 0) x15 carry10).bind (fun (r17, r18) => if 0 ≤ i11 ∧ i11 < ((8 : Nat) : Int) then ref04_MulAdd_l0 a7 k (m9.set i11.toNat r17) r18 (IntKind.i64.wrap (i11 + (1 : Int))) else none) else none) else some m9) = _ := h
    refine tr_seq ?_
    refine tr_seq ?_
    refine tr_reg hT [] [.s 6, .s 7, .s 8, .s 9, .s 10, .s 20, .h 3, .h 4, .h 5] [sO 6 (.ptr 3 0), sO 7 (.ptr 4 0), sO 8 (.ptr 5 0), sI 9 .u64 carry10, sI 10 .i64 i11, sB 20 (decide (i11 < (8 : Int))), hB 3 22 [.arr .u8 32 (List.replicate 32 0)], hB 4 75 [.arr .u64 8 m9], hB 5 31 [.arr .u64 4 a7]] [] (by kernel_rfl) trivial ?_
    refine q_k ?_
    rcases ite_split h with ⟨hc12, h⟩ | ⟨hc12, h⟩
    · refine tr_cond_t (decide (i11 < (8 : Int))) (by kernel_rfl) hc12 ?_
      refine tr_skip ?_
      refine q_k ?_
      refine tr_seq ?_
      refine tr_block ?_
      refine tr_seq ?_
      refine tr_reg hT [] [.s 6, .s 7, .s 8, .s 9, .s 10, .s 11, .h 3, .h 4, .h 5] [sO 6 (.ptr 3 0), sO 7 (.ptr 4 0), sO 8 (.ptr 5 0), sI 9 .u64 carry10, sI 10 .i64 i11, sI 11 .u64 (0 : Int), hB 3 22 [.arr .u8 32 (List.replicate 32 0)], hB 4 75 [.arr .u64 8 m9], hB 5 31 [.arr .u64 4 a7]] [] (by kernel_rfl) trivial ?_
      refine q_k ?_
      refine tr_seq ?_
      refine tr_seq ?_
      refine tr_reg hT [] [.s 6, .s 7, .s 8, .s 9, .s 10, .s 11, .s 24, .h 3, .h 4, .h 5] [sO 6 (.ptr 3 0), sO 7 (.ptr 4 0), sO 8 (.ptr 5 0), sI 9 .u64 carry10, sI 10 .i64 i11, sI 11 .u64 (0 : Int), sB 24 (decide (i11 < (4 : Int))), hB 3 22 [.arr .u8 32 (List.replicate 32 0)], hB 4 75 [.arr .u64 8 m9], hB 5 31 [.arr .u64 4 a7]] [] (by kernel_rfl) trivial ?_
      refine q_k ?_
      obtain ⟨x15, e22, h⟩ := bind_some h
      refine tr_join (σ1 := [sO 6 (.ptr 3 0), sO 7 (.ptr 4 0), sO 8 (.ptr 5 0), sI 9 .u64 carry10, sI 10 .i64 i11, sI 11 .u64 x15, hB 3 22 [.arr .u8 32 (List.replicate 32 0)], hB 4 75 [.arr .u64 8 m9], hB 5 31 [.arr .u64 4 a7]]) ?_ ?_
      · skip
        replace h : (if 0 ≤ i11 ∧ i11 < ((8 : Nat) : Int) then (add64 (m9.getD i11.toNat 0) x15 carry10).bind (fun (r17, r18) => if 0 ≤ i11 ∧ i11 < ((8 : Nat) : Int) then ref04_MulAdd_l0 a7 k (m9.set i11.toNat r17) r18 (IntKind.i64.wrap (i11 + (1 : Int))) else none) else none) = _ := h
        refine q_k ?_
        obtain ⟨hn16, h⟩ := ite_some h
        obtain ⟨⟨r17, r18⟩, e19, h⟩ := bind_some h
        obtain ⟨hn21, h⟩ := ite_some h
        refine tr_reg hT [(6, .call (.tup [.one (.int .u64 r17), .one (.int .u64 r18)]) [])] [.s 6, .s 7, .s 8, .s 9, .s 10, .h 3, .h 4, .h 5] [sO 6 (.ptr 3 0), sO 7 (.ptr 4 0), sO 8 (.ptr 5 0), sI 9 .u64 r18, sI 10 .i64 i11, hB 3 22 [.arr .u8 32 (List.replicate 32 0)], hB 4 75 [.arr .u64 8 (m9.set i11.toNat r17)], hB 5 31 [.arr .u64 4 a7]] [0 ≤ i11 ∧ i11 < ((8 : Nat) : Int), CallOk P 78 [.v (.one (.int .u64 (m9.getD i11.toNat 0))), .v (.one (.int .u64 x15)), .v (.one (.int .u64 carry10))] [] (.tup [.one (.int .u64 r17), .one (.int .u64 r18)]) [], 0 ≤ i11 ∧ i11 < ((8 : Nat) : Int)] (by kernel_rfl) (hcons hn16 (hcons (bits_Add64_ok (m9.getD i11.toNat 0) x15 carry10 (r17, r18) e19) (hone hn21))) ?_
        refine q_b 1 ?_
        refine q_k ?_
        refine tr_reg hT [] [.s 6, .s 7, .s 8, .s 9, .s 10, .h 3, .h 4, .h 5] [sO 6 (.ptr 3 0), sO 7 (.ptr 4 0), sO 8 (.ptr 5 0), sI 9 .u64 r18, sI 10 .i64 (IntKind.i64.wrap (i11 + (1 : Int))), hB 3 22 [.arr .u8 32 (List.replicate 32 0)], hB 4 75 [.arr .u64 8 (m9.set i11.toNat r17)], hB 5 31 [.arr .u64 4 a7]] [] (by kernel_rfl) trivial ?_
        refine q_kr ?_
        exact trR_less [.s 6, .s 7, .s 8, .s 9, .s 10, .h 3, .h 4, .h 5] [sO 6 (.ptr 3 0), sO 7 (.ptr 4 0), sO 8 (.ptr 5 0), sI 9 .u64 r18, sI 10 .i64 (IntKind.i64.wrap (i11 + (1 : Int))), hB 3 22 [.arr .u8 32 (List.replicate 32 0)], hB 4 75 [.arr .u64 8 (m9.set i11.toNat r17)], hB 5 31 [.arr .u64 4 a7]] (by kernel_rfl) (ih0 ((m9.set i11.toNat r17), r18, (IntKind.i64.wrap (i11 + (1 : Int)))) h)
      · intro hj1
        clear h
        have h := e22
        clear e22
        rcases ite_split h with ⟨hc13, h⟩ | ⟨hc13, h⟩
        · refine tr_cond_t (decide (i11 < (4 : Int))) (by kernel_rfl) hc13 ?_
          obtain ⟨hn14, h⟩ := ite_some h
          refine tr_reg hT [] [.s 6, .s 7, .s 8, .s 9, .s 10, .s 11, .h 3, .h 4, .h 5] [sO 6 (.ptr 3 0), sO 7 (.ptr 4 0), sO 8 (.ptr 5 0), sI 9 .u64 carry10, sI 10 .i64 i11, sI 11 .u64 (a7.getD i11.toNat 0), hB 3 22 [.arr .u8 32 (List.replicate 32 0)], hB 4 75 [.arr .u64 8 m9], hB 5 31 [.arr .u64 4 a7]] [0 ≤ i11 ∧ i11 < ((4 : Nat) : Int)] (by kernel_rfl) (hone hn14) ?_
          have h := Option.some.inj h
          subst h
          exact q_less [.s 6, .s 7, .s 8, .s 9, .s 10, .s 11, .h 3, .h 4, .h 5] [sO 6 (.ptr 3 0), sO 7 (.ptr 4 0), sO 8 (.ptr 5 0), sI 9 .u64 carry10, sI 10 .i64 i11, sI 11 .u64 (a7.getD i11.toNat 0), hB 3 22 [.arr .u8 32 (List.replicate 32 0)], hB 4 75 [.arr .u64 8 m9], hB 5 31 [.arr .u64 4 a7]] (by kernel_rfl) hj1
        · refine tr_cond_f (decide (i11 < (4 : Int))) (by kernel_rfl) hc13 ?_
          refine tr_skip ?_
          have h := Option.some.inj h
          subst h
          exact q_less [.s 6, .s 7, .s 8, .s 9, .s 10, .s 11, .h 3, .h 4, .h 5] [sO 6 (.ptr 3 0), sO 7 (.ptr 4 0), sO 8 (.ptr 5 0), sI 9 .u64 carry10, sI 10 .i64 i11, sI 11 .u64 (0 : Int), hB 3 22 [.arr .u8 32 (List.replicate 32 0)], hB 4 75 [.arr .u64 8 m9], hB 5 31 [.arr .u64 4 a7]] (by kernel_rfl) hj1
    · refine tr_cond_f (decide (i11 < (8 : Int))) (by kernel_rfl) hc12 ?_
      refine tr_exit ?_
      refine q_k_exit ?_
      refine q_kr_exit ?_
      have h := Option.some.inj h
      subst h
      exact q_less [.s 6, .s 7, .h 3, .h 4] [sO 6 (.ptr 3 0), sO 7 (.ptr 4 0), hB 3 22 [.arr .u8 32 (List.replicate 32 0)], hB 4 75 [.arr .u64 8 m9]] (by kernel_rfl) hx0

theorem limb_Add_ok (a_0 : List Int) (b_1 : List Int) (r : List Int) (h : limb_Add a_0 b_1 = some r) {pre : List (Nat × Ent)} : CallOk P 79 [.v (.agg [.arr .u64 5 a_0]), .v (.agg [.arr .u64 5 b_1])] pre (.v (.agg [.arr .u64 5 r])) [] := by
  refine call0 (N := 20) Try.func79 (by kernel_rfl) rfl rfl rfl pre ?_
  intro _ w
  show Tr P w.heap.size 20 w _ _ (RetQ P Try.f79 (R0 _ w))
  unfold limb_Add at h
  refine tr_seq ?_
  refine tr_reg hT [(0, .key 0), (1, .key 1), (2, .key 2)] [.s 2, .s 3, .s 4, .h 0, .h 1, .h 2] [sO 2 (.ptr 0 0), sO 3 (.ptr 1 0), sO 4 (.ptr 2 0), hB 0 71 [.arr .u64 5 a_0], hB 1 71 [.arr .u64 5 b_1], hB 2 71 [.arr .u64 5 (List.replicate 5 0)]] [] (by kernel_rfl) trivial ?_
  refine q_k ?_
  refine tr_seq ?_
  refine tr_seq ?_
  refine tr_reg hT [] [.s 2, .s 3, .s 4, .s 6, .h 0, .h 1, .h 2] [sO 2 (.ptr 0 0), sO 3 (.ptr 1 0), sO 4 (.ptr 2 0), sI 6 .i64 (0 : Int), hB 0 71 [.arr .u64 5 a_0], hB 1 71 [.arr .u64 5 b_1], hB 2 71 [.arr .u64 5 (List.replicate 5 0)]] [] (by kernel_rfl) trivial ?_
  refine q_k ?_
  refine tr_block ?_
  obtain ⟨m7, e8, h⟩ := bind_some h
  refine tr_less [.s 2, .s 3, .s 4, .s 6, .h 0, .h 1, .h 2] [sO 2 (.ptr 0 0), sO 3 (.ptr 1 0), sO 4 (.ptr 2 0), sI 6 .i64 (0 : Int), hB 0 71 [.arr .u64 5 a_0], hB 1 71 [.arr .u64 5 b_1], hB 2 71 [.arr .u64 5 (List.replicate 5 0)]] (by kernel_rfl) ?_
  refine tr_loop_fuel (id := 0) (α := List Int × Int) (β := List Int) (fun z => [sO 2 (.ptr 0 0), sO 3 (.ptr 1 0), sO 4 (.ptr 2 0), sI 6 .i64 z.2, hB 0 71 [.arr .u64 5 z.1], hB 1 71 [.arr .u64 5 b_1], hB 2 71 [.arr .u64 5 (List.replicate 5 0)]]) (fun z => [sO 2 (.ptr 0 0), sO 4 (.ptr 2 0), hB 0 71 [.arr .u64 5 z], hB 2 71 [.arr .u64 5 (List.replicate 5 0)]]) (fun k z => limb_Add_l0 b_1 k z.1 z.2) m7 (fun _ => rfl) (((5 : Int) - (0 : Int)).toNat + 1) (a_0, (0 : Int)) e8 ?_ ?_
  · skip
    replace h : ((limb_carried m7).bind (fun a9 => some a9)) = _ := h
    refine q_b_this ?_
    refine q_k ?_
    refine tr_seq ?_
    obtain ⟨a9, e10, h⟩ := bind_some h
    refine tr_reg hT [(1, .call (.v (.agg [.arr .u64 5 a9])) [])] [.s 4, .h 2] [sO 4 (.ptr 2 0), hB 2 71 [.arr .u64 5 a9]] [CallOk P 102 [.v (.agg [.arr .u64 5 m7])] [] (.v (.agg [.arr .u64 5 a9])) []] (by kernel_rfl) (hone (limb_carried_ok m7 a9 e10)) ?_
    refine q_k ?_
    refine tr_ret ?_
    have h := Option.some.inj h
    subst h
    exact q_ret0 hT (.v (.agg [.arr .u64 5 a9])) rfl (by kernel_rfl)
  · clear h e8
    intro k ih0 hx0 z h
    obtain ⟨m1, x2⟩ := z
    replace h : (if (decide (x2 < (5 : Int))) = true then if 0 ≤ x2 ∧ x2 < ((5 : Nat) : Int) then if 0 ≤ x2 ∧ x2 < ((5 : Nat) : Int) then if 0 ≤ x2 ∧ x2 < ((5 : Nat) : Int) then limb_Add_l0 b_1 k (m1.set x2.toNat (IntKind.u64.wrap ((m1.getD x2.toNat 0) + (b_1.getD x2.toNat 0)))) (IntKind.i64.wrap (x2 + (1 : Int))) else none else none else none else some m1) = _ := h
    refine tr_seq ?_
    refine tr_reg hT [] [.s 2, .s 3, .s 4, .s 6, .s 7, .h 0, .h 1, .h 2] [sO 2 (.ptr 0 0), sO 3 (.ptr 1 0), sO 4 (.ptr 2 0), sI 6 .i64 x2, sB 7 (decide (x2 < (5 : Int))), hB 0 71 [.arr .u64 5 m1], hB 1 71 [.arr .u64 5 b_1], hB 2 71 [.arr .u64 5 (List.replicate 5 0)]] [] (by kernel_rfl) trivial ?_
    refine q_k ?_
    refine tr_seq ?_
    rcases ite_split h with ⟨hc3, h⟩ | ⟨hc3, h⟩
    · refine tr_cond_t (decide (x2 < (5 : Int))) (by kernel_rfl) hc3 ?_
      refine tr_skip ?_
      refine q_k ?_
      refine tr_seq ?_
      refine tr_block ?_
      refine tr_seq ?_
      refine tr_reg hT [] [.s 2, .s 3, .s 4, .s 5, .s 6, .h 0, .h 1, .h 2] [sO 2 (.ptr 0 0), sO 3 (.ptr 1 0), sO 4 (.ptr 2 0), sI 5 .i64 x2, sI 6 .i64 x2, hB 0 71 [.arr .u64 5 m1], hB 1 71 [.arr .u64 5 b_1], hB 2 71 [.arr .u64 5 (List.replicate 5 0)]] [] (by kernel_rfl) trivial ?_
      refine q_k ?_
      obtain ⟨hn4, h⟩ := ite_some h
      obtain ⟨hn5, h⟩ := ite_some h
      obtain ⟨hn6, h⟩ := ite_some h
      refine tr_regd hT hM [] [.s 2, .s 3, .s 4, .s 6, .h 0, .h 1, .h 2] [sO 2 (.ptr 0 0), sO 3 (.ptr 1 0), sO 4 (.ptr 2 0), sI 6 .i64 x2, hB 0 71 [.arr .u64 5 (m1.set x2.toNat (IntKind.u64.wrap ((m1.getD x2.toNat 0) + (b_1.getD x2.toNat 0))))], hB 1 71 [.arr .u64 5 b_1], hB 2 71 [.arr .u64 5 (List.replicate 5 0)]] [0 ≤ x2 ∧ x2 < ((5 : Nat) : Int), 0 ≤ x2 ∧ x2 < ((5 : Nat) : Int), 0 ≤ x2 ∧ x2 < ((5 : Nat) : Int)] (by kernel_rfl) (hcons hn4 (hcons hn5 (hone hn6))) ?_
      refine q_b 1 ?_
      refine q_k ?_
      refine tr_reg hT [] [.s 2, .s 3, .s 4, .s 6, .h 0, .h 1, .h 2] [sO 2 (.ptr 0 0), sO 3 (.ptr 1 0), sO 4 (.ptr 2 0), sI 6 .i64 (IntKind.i64.wrap (x2 + (1 : Int))), hB 0 71 [.arr .u64 5 (m1.set x2.toNat (IntKind.u64.wrap ((m1.getD x2.toNat 0) + (b_1.getD x2.toNat 0))))], hB 1 71 [.arr .u64 5 b_1], hB 2 71 [.arr .u64 5 (List.replicate 5 0)]] [] (by kernel_rfl) trivial ?_
      refine q_kr ?_
      exact trR_less [.s 2, .s 3, .s 4, .s 6, .h 0, .h 1, .h 2] [sO 2 (.ptr 0 0), sO 3 (.ptr 1 0), sO 4 (.ptr 2 0), sI 6 .i64 (IntKind.i64.wrap (x2 + (1 : Int))), hB 0 71 [.arr .u64 5 (m1.set x2.toNat (IntKind.u64.wrap ((m1.getD x2.toNat 0) + (b_1.getD x2.toNat 0))))], hB 1 71 [.arr .u64 5 b_1], hB 2 71 [.arr .u64 5 (List.replicate 5 0)]] (by kernel_rfl) (ih0 ((m1.set x2.toNat (IntKind.u64.wrap ((m1.getD x2.toNat 0) + (b_1.getD x2.toNat 0)))), (IntKind.i64.wrap (x2 + (1 : Int)))) h)
    · refine tr_cond_f (decide (x2 < (5 : Int))) (by kernel_rfl) hc3 ?_
      refine tr_exit ?_
      refine q_k_exit ?_
      refine q_kr_exit ?_
      have h := Option.some.inj h
      subst h
      exact q_less [.s 2, .s 4, .h 0, .h 2] [sO 2 (.ptr 0 0), sO 4 (.ptr 2 0), hB 0 71 [.arr .u64 5 m1], hB 2 71 [.arr .u64 5 (List.replicate 5 0)]] (by kernel_rfl) hx0

theorem field_Add_ok (a_0 : List Int) (b_1 : List Int) (r : List Int) (h : field_Add a_0 b_1 = some r) {pre : List (Nat × Ent)} : CallOk P 40 [.v (.agg [.arr .u8 32 a_0]), .v (.agg [.arr .u8 32 b_1])] pre (.v (.agg [.arr .u8 32 r])) [] := by
  refine call0 (N := 11) Try.func40 (by kernel_rfl) rfl rfl rfl pre ?_
  intro _ w
  show Tr P w.heap.size 11 w _ _ (RetQ P Try.f40 (R0 _ w))
  unfold field_Add at h
  refine tr_seq ?_
  refine tr_reg hT [(0, .key 0), (1, .key 1), (2, .key 2)] [.s 2, .s 3, .s 4, .h 0, .h 1, .h 2] [sO 2 (.ptr 0 0), sO 3 (.ptr 1 0), sO 4 (.ptr 2 0), hB 0 22 [.arr .u8 32 a_0], hB 1 22 [.arr .u8 32 b_1], hB 2 22 [.arr .u8 32 (List.replicate 32 0)]] [] (by kernel_rfl) trivial ?_
  refine q_k ?_
  refine tr_seq ?_
  obtain ⟨a1, e2, h⟩ := bind_some h
  obtain ⟨a3, e4, h⟩ := bind_some h
  obtain ⟨a5, e6, h⟩ := bind_some h
  obtain ⟨a7, e8, h⟩ := bind_some h
  refine tr_regd hT hM [(1, .call (.v (.agg [.arr .u64 5 a1])) []), (3, .call (.v (.agg [.arr .u64 5 a3])) []), (4, .call (.v (.agg [.arr .u64 5 a5])) []), (5, .call (.v (.agg [.arr .u8 32 a7])) [])] [.s 4, .h 2] [sO 4 (.ptr 2 0), hB 2 22 [.arr .u8 32 a7]] [CallOk P 72 [.v (.agg [.arr .u8 32 a_0])] [] (.v (.agg [.arr .u64 5 a1])) [], CallOk P 72 [.v (.agg [.arr .u8 32 b_1])] [] (.v (.agg [.arr .u64 5 a3])) [], CallOk P 79 [.v (.agg [.arr .u64 5 a1]), .v (.agg [.arr .u64 5 a3])] [] (.v (.agg [.arr .u64 5 a5])) [], CallOk P 73 [.v (.agg [.arr .u64 5 a5])] [] (.v (.agg [.arr .u8 32 a7])) []] (by kernel_rfl) (hcons (limb_Of_ok a_0 a1 e2) (hcons (limb_Of_ok b_1 a3 e4) (hcons (limb_Add_ok a1 a3 a5 e6) (hone (limb_N_Bytes_ok a5 a7 e8))))) ?_
  refine q_k ?_
  refine tr_ret ?_
  have h := Option.some.inj h
  subst h
  exact q_ret0 hT (.v (.agg [.arr .u8 32 a7])) rfl (by kernel_rfl)

theorem law04_FieldLaws_ok (a_0 : List Int) (b_1 : List Int) (c_2 : List Int) (r : Bool) (h : law04_FieldLaws a_0 b_1 c_2 = some r) {pre : List (Nat × Ent)} : CallOk P 11 [.v (.agg [.arr .u8 32 a_0]), .v (.agg [.arr .u8 32 b_1]), .v (.agg [.arr .u8 32 c_2])] pre (.v (.one (.bool r))) [] := by
  refine call0 (N := 114) Try.func11 (by kernel_rfl) rfl rfl rfl pre ?_
  intro _ w
  show Tr P w.heap.size 114 w _ _ (RetQ P Try.f11 (R0 _ w))
  unfold law04_FieldLaws at h
  refine tr_seq ?_
  refine tr_reg hT [(0, .key 0), (1, .key 1), (2, .key 2)] [.s 3, .s 4, .s 5, .h 0, .h 1, .h 2] [sO 3 (.ptr 0 0), sO 4 (.ptr 1 0), sO 5 (.ptr 2 0), hB 0 22 [.arr .u8 32 a_0], hB 1 22 [.arr .u8 32 b_1], hB 2 22 [.arr .u8 32 c_2]] [] (by kernel_rfl) trivial ?_
  refine q_k ?_
  refine tr_seq ?_
  obtain ⟨a1, e2, h⟩ := bind_some h
  obtain ⟨a3, e4, h⟩ := bind_some h
  refine tr_regd hT hM [(2, .call (.v (.agg [.arr .u8 32 a1])) []), (5, .call (.v (.agg [.arr .u8 32 a3])) []), (6, .key 3), (7, .key 4)] [.s 3, .s 4, .s 5, .s 7, .s 8, .h 0, .h 1, .h 2, .h 3, .h 4] [sO 3 (.ptr 0 0), sO 4 (.ptr 1 0), sO 5 (.ptr 2 0), sO 7 (.ptr 3 0), sO 8 (.ptr 4 0), hB 0 22 [.arr .u8 32 a_0], hB 1 22 [.arr .u8 32 b_1], hB 2 22 [.arr .u8 32 c_2], hB 3 22 [.arr .u8 32 a1], hB 4 22 [.arr .u8 32 a3]] [CallOk P 40 [.v (.agg [.arr .u8 32 a_0]), .v (.agg [.arr .u8 32 b_1])] [] (.v (.agg [.arr .u8 32 a1])) [], CallOk P 34 [.v (.agg [.arr .u8 32 a_0]), .v (.agg [.arr .u8 32 b_1])] [] (.v (.agg [.arr .u8 32 a3])) []] (by kernel_rfl) (hcons (field_Add_ok a_0 b_1 a1 e2) (hone (field_Mul_ok a_0 b_1 a3 e4))) ?_
  refine q_k ?_
  refine tr_seq ?_
  obtain ⟨a5, e6, h⟩ := bind_some h
  rcases ite_split h with ⟨hb7, h⟩ | ⟨hb84, h⟩
  · obtain ⟨a8, e9, h⟩ := bind_some h
    rcases ite_split h with ⟨hb10, h⟩ | ⟨hb83, h⟩
    · obtain ⟨a11, e12, h⟩ := bind_some h
      obtain ⟨a13, e14, h⟩ := bind_some h
      obtain ⟨a15, e16, h⟩ := bind_some h
      rcases ite_split h with ⟨hb17, h⟩ | ⟨hb82, h⟩
      · obtain ⟨a18, e19, h⟩ := bind_some h
        obtain ⟨a20, e21, h⟩ := bind_some h
        obtain ⟨a22, e23, h⟩ := bind_some h
        rcases ite_split h with ⟨hb24, h⟩ | ⟨hb81, h⟩
        · obtain ⟨a25, e26, h⟩ := bind_some h
          obtain ⟨a27, e28, h⟩ := bind_some h
          obtain ⟨a29, e30, h⟩ := bind_some h
          obtain ⟨a31, e32, h⟩ := bind_some h
          obtain ⟨a33, e34, h⟩ := bind_some h
          rcases ite_split h with ⟨hb35, h⟩ | ⟨hb80, h⟩
          · obtain ⟨a36, e37, h⟩ := bind_some h
            obtain ⟨a38, e39, h⟩ := bind_some h
            rcases ite_split h with ⟨hb40, h⟩ | ⟨hb79, h⟩
            · obtain ⟨a41, e42, h⟩ := bind_some h
              obtain ⟨a43, e44, h⟩ := bind_some h
              rcases ite_split h with ⟨hb45, h⟩ | ⟨hb78, h⟩
              · obtain ⟨a46, e47, h⟩ := bind_some h
                obtain ⟨a48, e49, h⟩ := bind_some h
                obtain ⟨a50, e51, h⟩ := bind_some h
                rcases ite_split h with ⟨hb52, h⟩ | ⟨hb77, h⟩
                · obtain ⟨b53, e54, h⟩ := bind_some h
                  rcases ite_split h with ⟨hb55, h⟩ | ⟨hb76, h⟩
                  · obtain ⟨b56, e57, h⟩ := bind_some h
                    rcases ite_split h with ⟨hb58, h⟩ | ⟨hb75, h⟩
                    · obtain ⟨a59, e60, h⟩ := bind_some h
                      obtain ⟨b61, e62, h⟩ := bind_some h
                      rcases ite_split h with ⟨hb63, h⟩ | ⟨hb74, h⟩
                      · obtain ⟨a64, e65, h⟩ := bind_some h
                        obtain ⟨a66, e67, h⟩ := bind_some h
                        obtain ⟨a68, e69, h⟩ := bind_some h
                        rcases ite_split h with ⟨hb70, h⟩ | ⟨hb73, h⟩
                        · obtain ⟨b71, e72, h⟩ := bind_some h
                          refine tr_regd hT hM [(3, .call (.v (.agg [.arr .u8 32 a5])) []), (5, .dec true), (9, .call (.v (.agg [.arr .u8 32 a8])) []), (12, .dec true), (15, .call (.v (.agg [.arr .u8 32 a11])) []), (19, .call (.v (.agg [.arr .u8 32 a13])) []), (20, .call (.v (.agg [.arr .u8 32 a15])) []), (23, .dec true), (26, .call (.v (.agg [.arr .u8 32 a18])) []), (30, .call (.v (.agg [.arr .u8 32 a20])) []), (31, .call (.v (.agg [.arr .u8 32 a22])) []), (34, .dec true), (37, .call (.v (.agg [.arr .u8 32 a25])) []), (39, .call (.v (.agg [.arr .u8 32 a27])) []), (42, .call (.v (.agg [.arr .u8 32 a29])) []), (45, .call (.v (.agg [.arr .u8 32 a31])) []), (46, .call (.v (.agg [.arr .u8 32 a33])) []), (49, .dec true), (52, .call (.v (.agg [.arr .u8 32 a36])) []), (54, .call (.v (.agg [.arr .u8 32 a38])) []), (57, .dec true), (60, .call (.v (.agg [.arr .u8 32 a41])) []), (61, .call (.v (.agg [.arr .u8 32 a43])) []), (64, .dec true), (67, .call (.v (.agg [.arr .u8 32 a46])) []), (69, .call (.v (.agg [.arr .u8 32 a48])) []), (71, .call (.v (.agg [.arr .u8 32 a50])) []), (74, .dec true), (76, .call (.v (.one (.bool b53))) []), (78, .dec true), (80, .call (.v (.one (.bool b56))) []), (82, .dec true), (85, .call (.v (.agg [.arr .u8 32 a59])) []), (86, .call (.v (.one (.bool b61))) []), (88, .dec true), (90, .call (.v (.agg [.arr .u8 32 a64])) []), (91, .call (.v (.agg [.arr .u8 32 a66])) []), (93, .call (.v (.agg [.arr .u8 32 a68])) []), (96, .dec true), (97, .call (.v (.one (.bool b71))) [])] [.s 6] [sB 6 b71] [CallOk P 40 [.v (.agg [.arr .u8 32 b_1]), .v (.agg [.arr .u8 32 a_0])] [] (.v (.agg [.arr .u8 32 a5])) [], (decide (a1 = a5)) = true, CallOk P 34 [.v (.agg [.arr .u8 32 b_1]), .v (.agg [.arr .u8 32 a_0])] [] (.v (.agg [.arr .u8 32 a8])) [], (decide (a3 = a8)) = true, CallOk P 40 [.v (.agg [.arr .u8 32 a1]), .v (.agg [.arr .u8 32 c_2])] [] (.v (.agg [.arr .u8 32 a11])) [], CallOk P 40 [.v (.agg [.arr .u8 32 b_1]), .v (.agg [.arr .u8 32 c_2])] [] (.v (.agg [.arr .u8 32 a13])) [], CallOk P 40 [.v (.agg [.arr .u8 32 a_0]), .v (.agg [.arr .u8 32 a13])] [] (.v (.agg [.arr .u8 32 a15])) [], (decide (a11 = a15)) = true, CallOk P 34 [.v (.agg [.arr .u8 32 a3]), .v (.agg [.arr .u8 32 c_2])] [] (.v (.agg [.arr .u8 32 a18])) [], CallOk P 34 [.v (.agg [.arr .u8 32 b_1]), .v (.agg [.arr .u8 32 c_2])] [] (.v (.agg [.arr .u8 32 a20])) [], CallOk P 34 [.v (.agg [.arr .u8 32 a_0]), .v (.agg [.arr .u8 32 a20])] [] (.v (.agg [.arr .u8 32 a22])) [], (decide (a18 = a22)) = true, CallOk P 40 [.v (.agg [.arr .u8 32 a_0]), .v (.agg [.arr .u8 32 b_1])] [] (.v (.agg [.arr .u8 32 a25])) [], CallOk P 34 [.v (.agg [.arr .u8 32 a25]), .v (.agg [.arr .u8 32 c_2])] [] (.v (.agg [.arr .u8 32 a27])) [], CallOk P 34 [.v (.agg [.arr .u8 32 a_0]), .v (.agg [.arr .u8 32 c_2])] [] (.v (.agg [.arr .u8 32 a29])) [], CallOk P 34 [.v (.agg [.arr .u8 32 b_1]), .v (.agg [.arr .u8 32 c_2])] [] (.v (.agg [.arr .u8 32 a31])) [], CallOk P 40 [.v (.agg [.arr .u8 32 a29]), .v (.agg [.arr .u8 32 a31])] [] (.v (.agg [.arr .u8 32 a33])) [], (decide (a27 = a33)) = true, CallOk P 41 [.v (.agg [.arr .u8 32 a1]), .v (.agg [.arr .u8 32 b_1])] [] (.v (.agg [.arr .u8 32 a36])) [], CallOk P 33 [.v (.agg [.arr .u8 32 a_0])] [] (.v (.agg [.arr .u8 32 a38])) [], (decide (a36 = a38)) = true, CallOk P 41 [.v (.agg [.arr .u8 32 a_0]), .v (.agg [.arr .u8 32 a_0])] [] (.v (.agg [.arr .u8 32 a41])) [], CallOk P 26 [.v (.one (.int .i64 (0 : Int)))] [] (.v (.agg [.arr .u8 32 a43])) [], (decide (a41 = a43)) = true, CallOk P 41 [.v (.agg [.arr .u8 32 a_0]), .v (.agg [.arr .u8 32 b_1])] [] (.v (.agg [.arr .u8 32 a46])) [], CallOk P 40 [.v (.agg [.arr .u8 32 a46]), .v (.agg [.arr .u8 32 b_1])] [] (.v (.agg [.arr .u8 32 a48])) [], CallOk P 33 [.v (.agg [.arr .u8 32 a_0])] [] (.v (.agg [.arr .u8 32 a50])) [], (decide (a48 = a50)) = true, CallOk P 42 [.v (.agg [.arr .u8 32 a1])] [] (.v (.one (.bool b53))) [], b53 = true, CallOk P 42 [.v (.agg [.arr .u8 32 a3])] [] (.v (.one (.bool b56))) [], b56 = true, CallOk P 41 [.v (.agg [.arr .u8 32 a_0]), .v (.agg [.arr .u8 32 b_1])] [] (.v (.agg [.arr .u8 32 a59])) [], CallOk P 42 [.v (.agg [.arr .u8 32 a59])] [] (.v (.one (.bool b61))) [], b61 = true, CallOk P 33 [.v (.agg [.arr .u8 32 a_0])] [] (.v (.agg [.arr .u8 32 a64])) [], CallOk P 33 [.v (.agg [.arr .u8 32 a64])] [] (.v (.agg [.arr .u8 32 a66])) [], CallOk P 33 [.v (.agg [.arr .u8 32 a_0])] [] (.v (.agg [.arr .u8 32 a68])) [], (decide (a66 = a68)) = true, CallOk P 35 [] [] (.v (.one (.bool b71))) []] (by kernel_rfl) (hcons (field_Add_ok b_1 a_0 a5 e6) (hcons hb7 (hcons (field_Mul_ok b_1 a_0 a8 e9) (hcons hb10 (hcons (field_Add_ok a1 c_2 a11 e12) (hcons (field_Add_ok b_1 c_2 a13 e14) (hcons (field_Add_ok a_0 a13 a15 e16) (hcons hb17 (hcons (field_Mul_ok a3 c_2 a18 e19) (hcons (field_Mul_ok b_1 c_2 a20 e21) (hcons (field_Mul_ok a_0 a20 a22 e23) (hcons hb24 (hcons (field_Add_ok a_0 b_1 a25 e26) (hcons (field_Mul_ok a25 c_2 a27 e28) (hcons (field_Mul_ok a_0 c_2 a29 e30) (hcons (field_Mul_ok b_1 c_2 a31 e32) (hcons (field_Add_ok a29 a31 a33 e34) (hcons hb35 (hcons (field_Sub_ok a1 b_1 a36 e37) (hcons (field_Mod_ok a_0 a38 e39) (hcons hb40 (hcons (field_Sub_ok a_0 a_0 a41 e42) (hcons (law04_Num_ok (0 : Int) a43 e44) (hcons hb45 (hcons (field_Sub_ok a_0 b_1 a46 e47) (hcons (field_Add_ok a46 b_1 a48 e49) (hcons (field_Mod_ok a_0 a50 e51) (hcons hb52 (hcons (field_Check_ok a1 b53 e54) (hcons hb55 (hcons (field_Check_ok a3 b56 e57) (hcons hb58 (hcons (field_Sub_ok a_0 b_1 a59 e60) (hcons (field_Check_ok a59 b61 e62) (hcons hb63 (hcons (field_Mod_ok a_0 a64 e65) (hcons (field_Mod_ok a64 a66 e67) (hcons (field_Mod_ok a_0 a68 e69) (hcons hb70 (hone (law04_wakes_ok  b71 e72))))))))))))))))))))))))))))))))))))))))) ?_
                          refine q_k ?_
                          refine tr_ret ?_
                          have h := Option.some.inj h
                          subst h
                          exact q_ret0 hT (.v (.one (.bool b71))) rfl (by kernel_rfl)
                        · refine tr_regd hT hM [(3, .call (.v (.agg [.arr .u8 32 a5])) []), (5, .dec true), (9, .call (.v (.agg [.arr .u8 32 a8])) []), (12, .dec true), (15, .call (.v (.agg [.arr .u8 32 a11])) []), (19, .call (.v (.agg [.arr .u8 32 a13])) []), (20, .call (.v (.agg [.arr .u8 32 a15])) []), (23, .dec true), (26, .call (.v (.agg [.arr .u8 32 a18])) []), (30, .call (.v (.agg [.arr .u8 32 a20])) []), (31, .call (.v (.agg [.arr .u8 32 a22])) []), (34, .dec true), (37, .call (.v (.agg [.arr .u8 32 a25])) []), (39, .call (.v (.agg [.arr .u8 32 a27])) []), (42, .call (.v (.agg [.arr .u8 32 a29])) []), (45, .call (.v (.agg [.arr .u8 32 a31])) []), (46, .call (.v (.agg [.arr .u8 32 a33])) []), (49, .dec true), (52, .call (.v (.agg [.arr .u8 32 a36])) []), (54, .call (.v (.agg [.arr .u8 32 a38])) []), (57, .dec true), (60, .call (.v (.agg [.arr .u8 32 a41])) []), (61, .call (.v (.agg [.arr .u8 32 a43])) []), (64, .dec true), (67, .call (.v (.agg [.arr .u8 32 a46])) []), (69, .call (.v (.agg [.arr .u8 32 a48])) []), (71, .call (.v (.agg [.arr .u8 32 a50])) []), (74, .dec true), (76, .call (.v (.one (.bool b53))) []), (78, .dec true), (80, .call (.v (.one (.bool b56))) []), (82, .dec true), (85, .call (.v (.agg [.arr .u8 32 a59])) []), (86, .call (.v (.one (.bool b61))) []), (88, .dec true), (90, .call (.v (.agg [.arr .u8 32 a64])) []), (91, .call (.v (.agg [.arr .u8 32 a66])) []), (93, .call (.v (.agg [.arr .u8 32 a68])) []), (96, .dec false)] [.s 6] [sB 6 false] [CallOk P 40 [.v (.agg [.arr .u8 32 b_1]), .v (.agg [.arr .u8 32 a_0])] [] (.v (.agg [.arr .u8 32 a5])) [], (decide (a1 = a5)) = true, CallOk P 34 [.v (.agg [.arr .u8 32 b_1]), .v (.agg [.arr .u8 32 a_0])] [] (.v (.agg [.arr .u8 32 a8])) [], (decide (a3 = a8)) = true, CallOk P 40 [.v (.agg [.arr .u8 32 a1]), .v (.agg [.arr .u8 32 c_2])] [] (.v (.agg [.arr .u8 32 a11])) [], CallOk P 40 [.v (.agg [.arr .u8 32 b_1]), .v (.agg [.arr .u8 32 c_2])] [] (.v (.agg [.arr .u8 32 a13])) [], CallOk P 40 [.v (.agg [.arr .u8 32 a_0]), .v (.agg [.arr .u8 32 a13])] [] (.v (.agg [.arr .u8 32 a15])) [], (decide (a11 = a15)) = true, CallOk P 34 [.v (.agg [.arr .u8 32 a3]), .v (.agg [.arr .u8 32 c_2])] [] (.v (.agg [.arr .u8 32 a18])) [], CallOk P 34 [.v (.agg [.arr .u8 32 b_1]), .v (.agg [.arr .u8 32 c_2])] [] (.v (.agg [.arr .u8 32 a20])) [], CallOk P 34 [.v (.agg [.arr .u8 32 a_0]), .v (.agg [.arr .u8 32 a20])] [] (.v (.agg [.arr .u8 32 a22])) [], (decide (a18 = a22)) = true, CallOk P 40 [.v (.agg [.arr .u8 32 a_0]), .v (.agg [.arr .u8 32 b_1])] [] (.v (.agg [.arr .u8 32 a25])) [], CallOk P 34 [.v (.agg [.arr .u8 32 a25]), .v (.agg [.arr .u8 32 c_2])] [] (.v (.agg [.arr .u8 32 a27])) [], CallOk P 34 [.v (.agg [.arr .u8 32 a_0]), .v (.agg [.arr .u8 32 c_2])] [] (.v (.agg [.arr .u8 32 a29])) [], CallOk P 34 [.v (.agg [.arr .u8 32 b_1]), .v (.agg [.arr .u8 32 c_2])] [] (.v (.agg [.arr .u8 32 a31])) [], CallOk P 40 [.v (.agg [.arr .u8 32 a29]), .v (.agg [.arr .u8 32 a31])] [] (.v (.agg [.arr .u8 32 a33])) [], (decide (a27 = a33)) = true, CallOk P 41 [.v (.agg [.arr .u8 32 a1]), .v (.agg [.arr .u8 32 b_1])] [] (.v (.agg [.arr .u8 32 a36])) [], CallOk P 33 [.v (.agg [.arr .u8 32 a_0])] [] (.v (.agg [.arr .u8 32 a38])) [], (decide (a36 = a38)) = true, CallOk P 41 [.v (.agg [.arr .u8 32 a_0]), .v (.agg [.arr .u8 32 a_0])] [] (.v (.agg [.arr .u8 32 a41])) [], CallOk P 26 [.v (.one (.int .i64 (0 : Int)))] [] (.v (.agg [.arr .u8 32 a43])) [], (decide (a41 = a43)) = true, CallOk P 41 [.v (.agg [.arr .u8 32 a_0]), .v (.agg [.arr .u8 32 b_1])] [] (.v (.agg [.arr .u8 32 a46])) [], CallOk P 40 [.v (.agg [.arr .u8 32 a46]), .v (.agg [.arr .u8 32 b_1])] [] (.v (.agg [.arr .u8 32 a48])) [], CallOk P 33 [.v (.agg [.arr .u8 32 a_0])] [] (.v (.agg [.arr .u8 32 a50])) [], (decide (a48 = a50)) = true, CallOk P 42 [.v (.agg [.arr .u8 32 a1])] [] (.v (.one (.bool b53))) [], b53 = true, CallOk P 42 [.v (.agg [.arr .u8 32 a3])] [] (.v (.one (.bool b56))) [], b56 = true, CallOk P 41 [.v (.agg [.arr .u8 32 a_0]), .v (.agg [.arr .u8 32 b_1])] [] (.v (.agg [.arr .u8 32 a59])) [], CallOk P 42 [.v (.agg [.arr .u8 32 a59])] [] (.v (.one (.bool b61))) [], b61 = true, CallOk P 33 [.v (.agg [.arr .u8 32 a_0])] [] (.v (.agg [.arr .u8 32 a64])) [], CallOk P 33 [.v (.agg [.arr .u8 32 a64])] [] (.v (.agg [.arr .u8 32 a66])) [], CallOk P 33 [.v (.agg [.arr .u8 32 a_0])] [] (.v (.agg [.arr .u8 32 a68])) [], (decide (a66 = a68)) = false] (by kernel_rfl) (hcons (field_Add_ok b_1 a_0 a5 e6) (hcons hb7 (hcons (field_Mul_ok b_1 a_0 a8 e9) (hcons hb10 (hcons (field_Add_ok a1 c_2 a11 e12) (hcons (field_Add_ok b_1 c_2 a13 e14) (hcons (field_Add_ok a_0 a13 a15 e16) (hcons hb17 (hcons (field_Mul_ok a3 c_2 a18 e19) (hcons (field_Mul_ok b_1 c_2 a20 e21) (hcons (field_Mul_ok a_0 a20 a22 e23) (hcons hb24 (hcons (field_Add_ok a_0 b_1 a25 e26) (hcons (field_Mul_ok a25 c_2 a27 e28) (hcons (field_Mul_ok a_0 c_2 a29 e30) (hcons (field_Mul_ok b_1 c_2 a31 e32) (hcons (field_Add_ok a29 a31 a33 e34) (hcons hb35 (hcons (field_Sub_ok a1 b_1 a36 e37) (hcons (field_Mod_ok a_0 a38 e39) (hcons hb40 (hcons (field_Sub_ok a_0 a_0 a41 e42) (hcons (law04_Num_ok (0 : Int) a43 e44) (hcons hb45 (hcons (field_Sub_ok a_0 b_1 a46 e47) (hcons (field_Add_ok a46 b_1 a48 e49) (hcons (field_Mod_ok a_0 a50 e51) (hcons hb52 (hcons (field_Check_ok a1 b53 e54) (hcons hb55 (hcons (field_Check_ok a3 b56 e57) (hcons hb58 (hcons (field_Sub_ok a_0 b_1 a59 e60) (hcons (field_Check_ok a59 b61 e62) (hcons hb63 (hcons (field_Mod_ok a_0 a64 e65) (hcons (field_Mod_ok a64 a66 e67) (hcons (field_Mod_ok a_0 a68 e69) (hone hb73))))))))))))))))))))))))))))))))))))))) ?_
                          refine q_k ?_
                          refine tr_ret ?_
                          have h := Option.some.inj h
                          subst h
                          exact q_ret0 hT (.v (.one (.bool false))) rfl (by kernel_rfl)
                      · refine tr_regd hT hM [(3, .call (.v (.agg [.arr .u8 32 a5])) []), (5, .dec true), (9, .call (.v (.agg [.arr .u8 32 a8])) []), (12, .dec true), (15, .call (.v (.agg [.arr .u8 32 a11])) []), (19, .call (.v (.agg [.arr .u8 32 a13])) []), (20, .call (.v (.agg [.arr .u8 32 a15])) []), (23, .dec true), (26, .call (.v (.agg [.arr .u8 32 a18])) []), (30, .call (.v (.agg [.arr .u8 32 a20])) []), (31, .call (.v (.agg [.arr .u8 32 a22])) []), (34, .dec true), (37, .call (.v (.agg [.arr .u8 32 a25])) []), (39, .call (.v (.agg [.arr .u8 32 a27])) []), (42, .call (.v (.agg [.arr .u8 32 a29])) []), (45, .call (.v (.agg [.arr .u8 32 a31])) []), (46, .call (.v (.agg [.arr .u8 32 a33])) []), (49, .dec true), (52, .call (.v (.agg [.arr .u8 32 a36])) []), (54, .call (.v (.agg [.arr .u8 32 a38])) []), (57, .dec true), (60, .call (.v (.agg [.arr .u8 32 a41])) []), (61, .call (.v (.agg [.arr .u8 32 a43])) []), (64, .dec true), (67, .call (.v (.agg [.arr .u8 32 a46])) []), (69, .call (.v (.agg [.arr .u8 32 a48])) []), (71, .call (.v (.agg [.arr .u8 32 a50])) []), (74, .dec true), (76, .call (.v (.one (.bool b53))) []), (78, .dec true), (80, .call (.v (.one (.bool b56))) []), (82, .dec true), (85, .call (.v (.agg [.arr .u8 32 a59])) []), (86, .call (.v (.one (.bool b61))) []), (88, .dec false)] [.s 6] [sB 6 false] [CallOk P 40 [.v (.agg [.arr .u8 32 b_1]), .v (.agg [.arr .u8 32 a_0])] [] (.v (.agg [.arr .u8 32 a5])) [], (decide (a1 = a5)) = true, CallOk P 34 [.v (.agg [.arr .u8 32 b_1]), .v (.agg [.arr .u8 32 a_0])] [] (.v (.agg [.arr .u8 32 a8])) [], (decide (a3 = a8)) = true, CallOk P 40 [.v (.agg [.arr .u8 32 a1]), .v (.agg [.arr .u8 32 c_2])] [] (.v (.agg [.arr .u8 32 a11])) [], CallOk P 40 [.v (.agg [.arr .u8 32 b_1]), .v (.agg [.arr .u8 32 c_2])] [] (.v (.agg [.arr .u8 32 a13])) [], CallOk P 40 [.v (.agg [.arr .u8 32 a_0]), .v (.agg [.arr .u8 32 a13])] [] (.v (.agg [.arr .u8 32 a15])) [], (decide (a11 = a15)) = true, CallOk P 34 [.v (.agg [.arr .u8 32 a3]), .v (.agg [.arr .u8 32 c_2])] [] (.v (.agg [.arr .u8 32 a18])) [], CallOk P 34 [.v (.agg [.arr .u8 32 b_1]), .v (.agg [.arr .u8 32 c_2])] [] (.v (.agg [.arr .u8 32 a20])) [], CallOk P 34 [.v (.agg [.arr .u8 32 a_0]), .v (.agg [.arr .u8 32 a20])] [] (.v (.agg [.arr .u8 32 a22])) [], (decide (a18 = a22)) = true, CallOk P 40 [.v (.agg [.arr .u8 32 a_0]), .v (.agg [.arr .u8 32 b_1])] [] (.v (.agg [.arr .u8 32 a25])) [], CallOk P 34 [.v (.agg [.arr .u8 32 a25]), .v (.agg [.arr .u8 32 c_2])] [] (.v (.agg [.arr .u8 32 a27])) [], CallOk P 34 [.v (.agg [.arr .u8 32 a_0]), .v (.agg [.arr .u8 32 c_2])] [] (.v (.agg [.arr .u8 32 a29])) [], CallOk P 34 [.v (.agg [.arr .u8 32 b_1]), .v (.agg [.arr .u8 32 c_2])] [] (.v (.agg [.arr .u8 32 a31])) [], CallOk P 40 [.v (.agg [.arr .u8 32 a29]), .v (.agg [.arr .u8 32 a31])] [] (.v (.agg [.arr .u8 32 a33])) [], (decide (a27 = a33)) = true, CallOk P 41 [.v (.agg [.arr .u8 32 a1]), .v (.agg [.arr .u8 32 b_1])] [] (.v (.agg [.arr .u8 32 a36])) [], CallOk P 33 [.v (.agg [.arr .u8 32 a_0])] [] (.v (.agg [.arr .u8 32 a38])) [], (decide (a36 = a38)) = true, CallOk P 41 [.v (.agg [.arr .u8 32 a_0]), .v (.agg [.arr .u8 32 a_0])] [] (.v (.agg [.arr .u8 32 a41])) [], CallOk P 26 [.v (.one (.int .i64 (0 : Int)))] [] (.v (.agg [.arr .u8 32 a43])) [], (decide (a41 = a43)) = true, CallOk P 41 [.v (.agg [.arr .u8 32 a_0]), .v (.agg [.arr .u8 32 b_1])] [] (.v (.agg [.arr .u8 32 a46])) [], CallOk P 40 [.v (.agg [.arr .u8 32 a46]), .v (.agg [.arr .u8 32 b_1])] [] (.v (.agg [.arr .u8 32 a48])) [], CallOk P 33 [.v (.agg [.arr .u8 32 a_0])] [] (.v (.agg [.arr .u8 32 a50])) [], (decide (a48 = a50)) = true, CallOk P 42 [.v (.agg [.arr .u8 32 a1])] [] (.v (.one (.bool b53))) [], b53 = true, CallOk P 42 [.v (.agg [.arr .u8 32 a3])] [] (.v (.one (.bool b56))) [], b56 = true, CallOk P 41 [.v (.agg [.arr .u8 32 a_0]), .v (.agg [.arr .u8 32 b_1])] [] (.v (.agg [.arr .u8 32 a59])) [], CallOk P 42 [.v (.agg [.arr .u8 32 a59])] [] (.v (.one (.bool b61))) [], b61 = false] (by kernel_rfl) (hcons (field_Add_ok b_1 a_0 a5 e6) (hcons hb7 (hcons (field_Mul_ok b_1 a_0 a8 e9) (hcons hb10 (hcons (field_Add_ok a1 c_2 a11 e12) (hcons (field_Add_ok b_1 c_2 a13 e14) (hcons (field_Add_ok a_0 a13 a15 e16) (hcons hb17 (hcons (field_Mul_ok a3 c_2 a18 e19) (hcons (field_Mul_ok b_1 c_2 a20 e21) (hcons (field_Mul_ok a_0 a20 a22 e23) (hcons hb24 (hcons (field_Add_ok a_0 b_1 a25 e26) (hcons (field_Mul_ok a25 c_2 a27 e28) (hcons (field_Mul_ok a_0 c_2 a29 e30) (hcons (field_Mul_ok b_1 c_2 a31 e32) (hcons (field_Add_ok a29 a31 a33 e34) (hcons hb35 (hcons (field_Sub_ok a1 b_1 a36 e37) (hcons (field_Mod_ok a_0 a38 e39) (hcons hb40 (hcons (field_Sub_ok a_0 a_0 a41 e42) (hcons (law04_Num_ok (0 : Int) a43 e44) (hcons hb45 (hcons (field_Sub_ok a_0 b_1 a46 e47) (hcons (field_Add_ok a46 b_1 a48 e49) (hcons (field_Mod_ok a_0 a50 e51) (hcons hb52 (hcons (field_Check_ok a1 b53 e54) (hcons hb55 (hcons (field_Check_ok a3 b56 e57) (hcons hb58 (hcons (field_Sub_ok a_0 b_1 a59 e60) (hcons (field_Check_ok a59 b61 e62) (hone hb74))))))))))))))))))))))))))))))))))) ?_
                        refine q_k ?_
                        refine tr_ret ?_
                        have h := Option.some.inj h
                        subst h
                        exact q_ret0 hT (.v (.one (.bool false))) rfl (by kernel_rfl)
                    · refine tr_regd hT hM [(3, .call (.v (.agg [.arr .u8 32 a5])) []), (5, .dec true), (9, .call (.v (.agg [.arr .u8 32 a8])) []), (12, .dec true), (15, .call (.v (.agg [.arr .u8 32 a11])) []), (19, .call (.v (.agg [.arr .u8 32 a13])) []), (20, .call (.v (.agg [.arr .u8 32 a15])) []), (23, .dec true), (26, .call (.v (.agg [.arr .u8 32 a18])) []), (30, .call (.v (.agg [.arr .u8 32 a20])) []), (31, .call (.v (.agg [.arr .u8 32 a22])) []), (34, .dec true), (37, .call (.v (.agg [.arr .u8 32 a25])) []), (39, .call (.v (.agg [.arr .u8 32 a27])) []), (42, .call (.v (.agg [.arr .u8 32 a29])) []), (45, .call (.v (.agg [.arr .u8 32 a31])) []), (46, .call (.v (.agg [.arr .u8 32 a33])) []), (49, .dec true), (52, .call (.v (.agg [.arr .u8 32 a36])) []), (54, .call (.v (.agg [.arr .u8 32 a38])) []), (57, .dec true), (60, .call (.v (.agg [.arr .u8 32 a41])) []), (61, .call (.v (.agg [.arr .u8 32 a43])) []), (64, .dec true), (67, .call (.v (.agg [.arr .u8 32 a46])) []), (69, .call (.v (.agg [.arr .u8 32 a48])) []), (71, .call (.v (.agg [.arr .u8 32 a50])) []), (74, .dec true), (76, .call (.v (.one (.bool b53))) []), (78, .dec true), (80, .call (.v (.one (.bool b56))) []), (82, .dec false)] [.s 6] [sB 6 false] [CallOk P 40 [.v (.agg [.arr .u8 32 b_1]), .v (.agg [.arr .u8 32 a_0])] [] (.v (.agg [.arr .u8 32 a5])) [], (decide (a1 = a5)) = true, CallOk P 34 [.v (.agg [.arr .u8 32 b_1]), .v (.agg [.arr .u8 32 a_0])] [] (.v (.agg [.arr .u8 32 a8])) [], (decide (a3 = a8)) = true, CallOk P 40 [.v (.agg [.arr .u8 32 a1]), .v (.agg [.arr .u8 32 c_2])] [] (.v (.agg [.arr .u8 32 a11])) [], CallOk P 40 [.v (.agg [.arr .u8 32 b_1]), .v (.agg [.arr .u8 32 c_2])] [] (.v (.agg [.arr .u8 32 a13])) [], CallOk P 40 [.v (.agg [.arr .u8 32 a_0]), .v (.agg [.arr .u8 32 a13])] [] (.v (.agg [.arr .u8 32 a15])) [], (decide (a11 = a15)) = true, CallOk P 34 [.v (.agg [.arr .u8 32 a3]), .v (.agg [.arr .u8 32 c_2])] [] (.v (.agg [.arr .u8 32 a18])) [], CallOk P 34 [.v (.agg [.arr .u8 32 b_1]), .v (.agg [.arr .u8 32 c_2])] [] (.v (.agg [.arr .u8 32 a20])) [], CallOk P 34 [.v (.agg [.arr .u8 32 a_0]), .v (.agg [.arr .u8 32 a20])] [] (.v (.agg [.arr .u8 32 a22])) [], (decide (a18 = a22)) = true, CallOk P 40 [.v (.agg [.arr .u8 32 a_0]), .v (.agg [.arr .u8 32 b_1])] [] (.v (.agg [.arr .u8 32 a25])) [], CallOk P 34 [.v (.agg [.arr .u8 32 a25]), .v (.agg [.arr .u8 32 c_2])] [] (.v (.agg [.arr .u8 32 a27])) [], CallOk P 34 [.v (.agg [.arr .u8 32 a_0]), .v (.agg [.arr .u8 32 c_2])] [] (.v (.agg [.arr .u8 32 a29])) [], CallOk P 34 [.v (.agg [.arr .u8 32 b_1]), .v (.agg [.arr .u8 32 c_2])] [] (.v (.agg [.arr .u8 32 a31])) [], CallOk P 40 [.v (.agg [.arr .u8 32 a29]), .v (.agg [.arr .u8 32 a31])] [] (.v (.agg [.arr .u8 32 a33])) [], (decide (a27 = a33)) = true, CallOk P 41 [.v (.agg [.arr .u8 32 a1]), .v (.agg [.arr .u8 32 b_1])] [] (.v (.agg [.arr .u8 32 a36])) [], CallOk P 33 [.v (.agg [.arr .u8 32 a_0])] [] (.v (.agg [.arr .u8 32 a38])) [], (decide (a36 = a38)) = true, CallOk P 41 [.v (.agg [.arr .u8 32 a_0]), .v (.agg [.arr .u8 32 a_0])] [] (.v (.agg [.arr .u8 32 a41])) [], CallOk P 26 [.v (.one (.int .i64 (0 : Int)))] [] (.v (.agg [.arr .u8 32 a43])) [], (decide (a41 = a43)) = true, CallOk P 41 [.v (.agg [.arr .u8 32 a_0]), .v (.agg [.arr .u8 32 b_1])] [] (.v (.agg [.arr .u8 32 a46])) [], CallOk P 40 [.v (.agg [.arr .u8 32 a46]), .v (.agg [.arr .u8 32 b_1])] [] (.v (.agg [.arr .u8 32 a48])) [], CallOk P 33 [.v (.agg [.arr .u8 32 a_0])] [] (.v (.agg [.arr .u8 32 a50])) [], (decide (a48 = a50)) = true, CallOk P 42 [.v (.agg [.arr .u8 32 a1])] [] (.v (.one (.bool b53))) [], b53 = true, CallOk P 42 [.v (.agg [.arr .u8 32 a3])] [] (.v (.one (.bool b56))) [], b56 = false] (by kernel_rfl) (hcons (field_Add_ok b_1 a_0 a5 e6) (hcons hb7 (hcons (field_Mul_ok b_1 a_0 a8 e9) (hcons hb10 (hcons (field_Add_ok a1 c_2 a11 e12) (hcons (field_Add_ok b_1 c_2 a13 e14) (hcons (field_Add_ok a_0 a13 a15 e16) (hcons hb17 (hcons (field_Mul_ok a3 c_2 a18 e19) (hcons (field_Mul_ok b_1 c_2 a20 e21) (hcons (field_Mul_ok a_0 a20 a22 e23) (hcons hb24 (hcons (field_Add_ok a_0 b_1 a25 e26) (hcons (field_Mul_ok a25 c_2 a27 e28) (hcons (field_Mul_ok a_0 c_2 a29 e30) (hcons (field_Mul_ok b_1 c_2 a31 e32) (hcons (field_Add_ok a29 a31 a33 e34) (hcons hb35 (hcons (field_Sub_ok a1 b_1 a36 e37) (hcons (field_Mod_ok a_0 a38 e39) (hcons hb40 (hcons (field_Sub_ok a_0 a_0 a41 e42) (hcons (law04_Num_ok (0 : Int) a43 e44) (hcons hb45 (hcons (field_Sub_ok a_0 b_1 a46 e47) (hcons (field_Add_ok a46 b_1 a48 e49) (hcons (field_Mod_ok a_0 a50 e51) (hcons hb52 (hcons (field_Check_ok a1 b53 e54) (hcons hb55 (hcons (field_Check_ok a3 b56 e57) (hone hb75)))))))))))))))))))))))))))))))) ?_
                      refine q_k ?_
                      refine tr_ret ?_
                      have h := Option.some.inj h
                      subst h
                      exact q_ret0 hT (.v (.one (.bool false))) rfl (by kernel_rfl)
                  · refine tr_regd hT hM [(3, .call (.v (.agg [.arr .u8 32 a5])) []), (5, .dec true), (9, .call (.v (.agg [.arr .u8 32 a8])) []), (12, .dec true), (15, .call (.v (.agg [.arr .u8 32 a11])) []), (19, .call (.v (.agg [.arr .u8 32 a13])) []), (20, .call (.v (.agg [.arr .u8 32 a15])) []), (23, .dec true), (26, .call (.v (.agg [.arr .u8 32 a18])) []), (30, .call (.v (.agg [.arr .u8 32 a20])) []), (31, .call (.v (.agg [.arr .u8 32 a22])) []), (34, .dec true), (37, .call (.v (.agg [.arr .u8 32 a25])) []), (39, .call (.v (.agg [.arr .u8 32 a27])) []), (42, .call (.v (.agg [.arr .u8 32 a29])) []), (45, .call (.v (.agg [.arr .u8 32 a31])) []), (46, .call (.v (.agg [.arr .u8 32 a33])) []), (49, .dec true), (52, .call (.v (.agg [.arr .u8 32 a36])) []), (54, .call (.v (.agg [.arr .u8 32 a38])) []), (57, .dec true), (60, .call (.v (.agg [.arr .u8 32 a41])) []), (61, .call (.v (.agg [.arr .u8 32 a43])) []), (64, .dec true), (67, .call (.v (.agg [.arr .u8 32 a46])) []), (69, .call (.v (.agg [.arr .u8 32 a48])) []), (71, .call (.v (.agg [.arr .u8 32 a50])) []), (74, .dec true), (76, .call (.v (.one (.bool b53))) []), (78, .dec false)] [.s 6] [sB 6 false] [CallOk P 40 [.v (.agg [.arr .u8 32 b_1]), .v (.agg [.arr .u8 32 a_0])] [] (.v (.agg [.arr .u8 32 a5])) [], (decide (a1 = a5)) = true, CallOk P 34 [.v (.agg [.arr .u8 32 b_1]), .v (.agg [.arr .u8 32 a_0])] [] (.v (.agg [.arr .u8 32 a8])) [], (decide (a3 = a8)) = true, CallOk P 40 [.v (.agg [.arr .u8 32 a1]), .v (.agg [.arr .u8 32 c_2])] [] (.v (.agg [.arr .u8 32 a11])) [], CallOk P 40 [.v (.agg [.arr .u8 32 b_1]), .v (.agg [.arr .u8 32 c_2])] [] (.v (.agg [.arr .u8 32 a13])) [], CallOk P 40 [.v (.agg [.arr .u8 32 a_0]), .v (.agg [.arr .u8 32 a13])] [] (.v (.agg [.arr .u8 32 a15])) [], (decide (a11 = a15)) = true, CallOk P 34 [.v (.agg [.arr .u8 32 a3]), .v (.agg [.arr .u8 32 c_2])] [] (.v (.agg [.arr .u8 32 a18])) [], CallOk P 34 [.v (.agg [.arr .u8 32 b_1]), .v (.agg [.arr .u8 32 c_2])] [] (.v (.agg [.arr .u8 32 a20])) [], CallOk P 34 [.v (.agg [.arr .u8 32 a_0]), .v (.agg [.arr .u8 32 a20])] [] (.v (.agg [.arr .u8 32 a22])) [], (decide (a18 = a22)) = true, CallOk P 40 [.v (.agg [.arr .u8 32 a_0]), .v (.agg [.arr .u8 32 b_1])] [] (.v (.agg [.arr .u8 32 a25])) [], CallOk P 34 [.v (.agg [.arr .u8 32 a25]), .v (.agg [.arr .u8 32 c_2])] [] (.v (.agg [.arr .u8 32 a27])) [], CallOk P 34 [.v (.agg [.arr .u8 32 a_0]), .v (.agg [.arr .u8 32 c_2])] [] (.v (.agg [.arr .u8 32 a29])) [], CallOk P 34 [.v (.agg [.arr .u8 32 b_1]), .v (.agg [.arr .u8 32 c_2])] [] (.v (.agg [.arr .u8 32 a31])) [], CallOk P 40 [.v (.agg [.arr .u8 32 a29]), .v (.agg [.arr .u8 32 a31])] [] (.v (.agg [.arr .u8 32 a33])) [], (decide (a27 = a33)) = true, CallOk P 41 [.v (.agg [.arr .u8 32 a1]), .v (.agg [.arr .u8 32 b_1])] [] (.v (.agg [.arr .u8 32 a36])) [], CallOk P 33 [.v (.agg [.arr .u8 32 a_0])] [] (.v (.agg [.arr .u8 32 a38])) [], (decide (a36 = a38)) = true, CallOk P 41 [.v (.agg [.arr .u8 32 a_0]), .v (.agg [.arr .u8 32 a_0])] [] (.v (.agg [.arr .u8 32 a41])) [], CallOk P 26 [.v (.one (.int .i64 (0 : Int)))] [] (.v (.agg [.arr .u8 32 a43])) [], (decide (a41 = a43)) = true, CallOk P 41 [.v (.agg [.arr .u8 32 a_0]), .v (.agg [.arr .u8 32 b_1])] [] (.v (.agg [.arr .u8 32 a46])) [], CallOk P 40 [.v (.agg [.arr .u8 32 a46]), .v (.agg [.arr .u8 32 b_1])] [] (.v (.agg [.arr .u8 32 a48])) [], CallOk P 33 [.v (.agg [.arr .u8 32 a_0])] [] (.v (.agg [.arr .u8 32 a50])) [], (decide (a48 = a50)) = true, CallOk P 42 [.v (.agg [.arr .u8 32 a1])] [] (.v (.one (.bool b53))) [], b53 = false] (by kernel_rfl) (hcons (field_Add_ok b_1 a_0 a5 e6) (hcons hb7 (hcons (field_Mul_ok b_1 a_0 a8 e9) (hcons hb10 (hcons (field_Add_ok a1 c_2 a11 e12) (hcons (field_Add_ok b_1 c_2 a13 e14) (hcons (field_Add_ok a_0 a13 a15 e16) (hcons hb17 (hcons (field_Mul_ok a3 c_2 a18 e19) (hcons (field_Mul_ok b_1 c_2 a20 e21) (hcons (field_Mul_ok a_0 a20 a22 e23) (hcons hb24 (hcons (field_Add_ok a_0 b_1 a25 e26) (hcons (field_Mul_ok a25 c_2 a27 e28) (hcons (field_Mul_ok a_0 c_2 a29 e30) (hcons (field_Mul_ok b_1 c_2 a31 e32) (hcons (field_Add_ok a29 a31 a33 e34) (hcons hb35 (hcons (field_Sub_ok a1 b_1 a36 e37) (hcons (field_Mod_ok a_0 a38 e39) (hcons hb40 (hcons (field_Sub_ok a_0 a_0 a41 e42) (hcons (law04_Num_ok (0 : Int) a43 e44) (hcons hb45 (hcons (field_Sub_ok a_0 b_1 a46 e47) (hcons (field_Add_ok a46 b_1 a48 e49) (hcons (field_Mod_ok a_0 a50 e51) (hcons hb52 (hcons (field_Check_ok a1 b53 e54) (hone hb76)))))))))))))))))))))))))))))) ?_
                    refine q_k ?_
                    refine tr_ret ?_
                    have h := Option.some.inj h
                    subst h
                    exact q_ret0 hT (.v (.one (.bool false))) rfl (by kernel_rfl)
                · refine tr_regd hT hM [(3, .call (.v (.agg [.arr .u8 32 a5])) []), (5, .dec true), (9, .call (.v (.agg [.arr .u8 32 a8])) []), (12, .dec true), (15, .call (.v (.agg [.arr .u8 32 a11])) []), (19, .call (.v (.agg [.arr .u8 32 a13])) []), (20, .call (.v (.agg [.arr .u8 32 a15])) []), (23, .dec true), (26, .call (.v (.agg [.arr .u8 32 a18])) []), (30, .call (.v (.agg [.arr .u8 32 a20])) []), (31, .call (.v (.agg [.arr .u8 32 a22])) []), (34, .dec true), (37, .call (.v (.agg [.arr .u8 32 a25])) []), (39, .call (.v (.agg [.arr .u8 32 a27])) []), (42, .call (.v (.agg [.arr .u8 32 a29])) []), (45, .call (.v (.agg [.arr .u8 32 a31])) []), (46, .call (.v (.agg [.arr .u8 32 a33])) []), (49, .dec true), (52, .call (.v (.agg [.arr .u8 32 a36])) []), (54, .call (.v (.agg [.arr .u8 32 a38])) []), (57, .dec true), (60, .call (.v (.agg [.arr .u8 32 a41])) []), (61, .call (.v (.agg [.arr .u8 32 a43])) []), (64, .dec true), (67, .call (.v (.agg [.arr .u8 32 a46])) []), (69, .call (.v (.agg [.arr .u8 32 a48])) []), (71, .call (.v (.agg [.arr .u8 32 a50])) []), (74, .dec false)] [.s 6] [sB 6 false] [CallOk P 40 [.v (.agg [.arr .u8 32 b_1]), .v (.agg [.arr .u8 32 a_0])] [] (.v (.agg [.arr .u8 32 a5])) [], (decide (a1 = a5)) = true, CallOk P 34 [.v (.agg [.arr .u8 32 b_1]), .v (.agg [.arr .u8 32 a_0])] [] (.v (.agg [.arr .u8 32 a8])) [], (decide (a3 = a8)) = true, CallOk P 40 [.v (.agg [.arr .u8 32 a1]), .v (.agg [.arr .u8 32 c_2])] [] (.v (.agg [.arr .u8 32 a11])) [], CallOk P 40 [.v (.agg [.arr .u8 32 b_1]), .v (.agg [.arr .u8 32 c_2])] [] (.v (.agg [.arr .u8 32 a13])) [], CallOk P 40 [.v (.agg [.arr .u8 32 a_0]), .v (.agg [.arr .u8 32 a13])] [] (.v (.agg [.arr .u8 32 a15])) [], (decide (a11 = a15)) = true, CallOk P 34 [.v (.agg [.arr .u8 32 a3]), .v (.agg [.arr .u8 32 c_2])] [] (.v (.agg [.arr .u8 32 a18])) [], CallOk P 34 [.v (.agg [.arr .u8 32 b_1]), .v (.agg [.arr .u8 32 c_2])] [] (.v (.agg [.arr .u8 32 a20])) [], CallOk P 34 [.v (.agg [.arr .u8 32 a_0]), .v (.agg [.arr .u8 32 a20])] [] (.v (.agg [.arr .u8 32 a22])) [], (decide (a18 = a22)) = true, CallOk P 40 [.v (.agg [.arr .u8 32 a_0]), .v (.agg [.arr .u8 32 b_1])] [] (.v (.agg [.arr .u8 32 a25])) [], CallOk P 34 [.v (.agg [.arr .u8 32 a25]), .v (.agg [.arr .u8 32 c_2])] [] (.v (.agg [.arr .u8 32 a27])) [], CallOk P 34 [.v (.agg [.arr .u8 32 a_0]), .v (.agg [.arr .u8 32 c_2])] [] (.v (.agg [.arr .u8 32 a29])) [], CallOk P 34 [.v (.agg [.arr .u8 32 b_1]), .v (.agg [.arr .u8 32 c_2])] [] (.v (.agg [.arr .u8 32 a31])) [], CallOk P 40 [.v (.agg [.arr .u8 32 a29]), .v (.agg [.arr .u8 32 a31])] [] (.v (.agg [.arr .u8 32 a33])) [], (decide (a27 = a33)) = true, CallOk P 41 [.v (.agg [.arr .u8 32 a1]), .v (.agg [.arr .u8 32 b_1])] [] (.v (.agg [.arr .u8 32 a36])) [], CallOk P 33 [.v (.agg [.arr .u8 32 a_0])] [] (.v (.agg [.arr .u8 32 a38])) [], (decide (a36 = a38)) = true, CallOk P 41 [.v (.agg [.arr .u8 32 a_0]), .v (.agg [.arr .u8 32 a_0])] [] (.v (.agg [.arr .u8 32 a41])) [], CallOk P 26 [.v (.one (.int .i64 (0 : Int)))] [] (.v (.agg [.arr .u8 32 a43])) [], (decide (a41 = a43)) = true, CallOk P 41 [.v (.agg [.arr .u8 32 a_0]), .v (.agg [.arr .u8 32 b_1])] [] (.v (.agg [.arr .u8 32 a46])) [], CallOk P 40 [.v (.agg [.arr .u8 32 a46]), .v (.agg [.arr .u8 32 b_1])] [] (.v (.agg [.arr .u8 32 a48])) [], CallOk P 33 [.v (.agg [.arr .u8 32 a_0])] [] (.v (.agg [.arr .u8 32 a50])) [], (decide (a48 = a50)) = false] (by kernel_rfl) (hcons (field_Add_ok b_1 a_0 a5 e6) (hcons hb7 (hcons (field_Mul_ok b_1 a_0 a8 e9) (hcons hb10 (hcons (field_Add_ok a1 c_2 a11 e12) (hcons (field_Add_ok b_1 c_2 a13 e14) (hcons (field_Add_ok a_0 a13 a15 e16) (hcons hb17 (hcons (field_Mul_ok a3 c_2 a18 e19) (hcons (field_Mul_ok b_1 c_2 a20 e21) (hcons (field_Mul_ok a_0 a20 a22 e23) (hcons hb24 (hcons (field_Add_ok a_0 b_1 a25 e26) (hcons (field_Mul_ok a25 c_2 a27 e28) (hcons (field_Mul_ok a_0 c_2 a29 e30) (hcons (field_Mul_ok b_1 c_2 a31 e32) (hcons (field_Add_ok a29 a31 a33 e34) (hcons hb35 (hcons (field_Sub_ok a1 b_1 a36 e37) (hcons (field_Mod_ok a_0 a38 e39) (hcons hb40 (hcons (field_Sub_ok a_0 a_0 a41 e42) (hcons (law04_Num_ok (0 : Int) a43 e44) (hcons hb45 (hcons (field_Sub_ok a_0 b_1 a46 e47) (hcons (field_Add_ok a46 b_1 a48 e49) (hcons (field_Mod_ok a_0 a50 e51) (hone hb77)))))))))))))))))))))))))))) ?_
                  refine q_k ?_
                  refine tr_ret ?_
                  have h := Option.some.inj h
                  subst h
                  exact q_ret0 hT (.v (.one (.bool false))) rfl (by kernel_rfl)
              · refine tr_regd hT hM [(3, .call (.v (.agg [.arr .u8 32 a5])) []), (5, .dec true), (9, .call (.v (.agg [.arr .u8 32 a8])) []), (12, .dec true), (15, .call (.v (.agg [.arr .u8 32 a11])) []), (19, .call (.v (.agg [.arr .u8 32 a13])) []), (20, .call (.v (.agg [.arr .u8 32 a15])) []), (23, .dec true), (26, .call (.v (.agg [.arr .u8 32 a18])) []), (30, .call (.v (.agg [.arr .u8 32 a20])) []), (31, .call (.v (.agg [.arr .u8 32 a22])) []), (34, .dec true), (37, .call (.v (.agg [.arr .u8 32 a25])) []), (39, .call (.v (.agg [.arr .u8 32 a27])) []), (42, .call (.v (.agg [.arr .u8 32 a29])) []), (45, .call (.v (.agg [.arr .u8 32 a31])) []), (46, .call (.v (.agg [.arr .u8 32 a33])) []), (49, .dec true), (52, .call (.v (.agg [.arr .u8 32 a36])) []), (54, .call (.v (.agg [.arr .u8 32 a38])) []), (57, .dec true), (60, .call (.v (.agg [.arr .u8 32 a41])) []), (61, .call (.v (.agg [.arr .u8 32 a43])) []), (64, .dec false)] [.s 6] [sB 6 false] [CallOk P 40 [.v (.agg [.arr .u8 32 b_1]), .v (.agg [.arr .u8 32 a_0])] [] (.v (.agg [.arr .u8 32 a5])) [], (decide (a1 = a5)) = true, CallOk P 34 [.v (.agg [.arr .u8 32 b_1]), .v (.agg [.arr .u8 32 a_0])] [] (.v (.agg [.arr .u8 32 a8])) [], (decide (a3 = a8)) = true, CallOk P 40 [.v (.agg [.arr .u8 32 a1]), .v (.agg [.arr .u8 32 c_2])] [] (.v (.agg [.arr .u8 32 a11])) [], CallOk P 40 [.v (.agg [.arr .u8 32 b_1]), .v (.agg [.arr .u8 32 c_2])] [] (.v (.agg [.arr .u8 32 a13])) [], CallOk P 40 [.v (.agg [.arr .u8 32 a_0]), .v (.agg [.arr .u8 32 a13])] [] (.v (.agg [.arr .u8 32 a15])) [], (decide (a11 = a15)) = true, CallOk P 34 [.v (.agg [.arr .u8 32 a3]), .v (.agg [.arr .u8 32 c_2])] [] (.v (.agg [.arr .u8 32 a18])) [], CallOk P 34 [.v (.agg [.arr .u8 32 b_1]), .v (.agg [.arr .u8 32 c_2])] [] (.v (.agg [.arr .u8 32 a20])) [], CallOk P 34 [.v (.agg [.arr .u8 32 a_0]), .v (.agg [.arr .u8 32 a20])] [] (.v (.agg [.arr .u8 32 a22])) [], (decide (a18 = a22)) = true, CallOk P 40 [.v (.agg [.arr .u8 32 a_0]), .v (.agg [.arr .u8 32 b_1])] [] (.v (.agg [.arr .u8 32 a25])) [], CallOk P 34 [.v (.agg [.arr .u8 32 a25]), .v (.agg [.arr .u8 32 c_2])] [] (.v (.agg [.arr .u8 32 a27])) [], CallOk P 34 [.v (.agg [.arr .u8 32 a_0]), .v (.agg [.arr .u8 32 c_2])] [] (.v (.agg [.arr .u8 32 a29])) [], CallOk P 34 [.v (.agg [.arr .u8 32 b_1]), .v (.agg [.arr .u8 32 c_2])] [] (.v (.agg [.arr .u8 32 a31])) [], CallOk P 40 [.v (.agg [.arr .u8 32 a29]), .v (.agg [.arr .u8 32 a31])] [] (.v (.agg [.arr .u8 32 a33])) [], (decide (a27 = a33)) = true, CallOk P 41 [.v (.agg [.arr .u8 32 a1]), .v (.agg [.arr .u8 32 b_1])] [] (.v (.agg [.arr .u8 32 a36])) [], CallOk P 33 [.v (.agg [.arr .u8 32 a_0])] [] (.v (.agg [.arr .u8 32 a38])) [], (decide (a36 = a38)) = true, CallOk P 41 [.v (.agg [.arr .u8 32 a_0]), .v (.agg [.arr .u8 32 a_0])] [] (.v (.agg [.arr .u8 32 a41])) [], CallOk P 26 [.v (.one (.int .i64 (0 : Int)))] [] (.v (.agg [.arr .u8 32 a43])) [], (decide (a41 = a43)) = false] (by kernel_rfl) (hcons (field_Add_ok b_1 a_0 a5 e6) (hcons hb7 (hcons (field_Mul_ok b_1 a_0 a8 e9) (hcons hb10 (hcons (field_Add_ok a1 c_2 a11 e12) (hcons (field_Add_ok b_1 c_2 a13 e14) (hcons (field_Add_ok a_0 a13 a15 e16) (hcons hb17 (hcons (field_Mul_ok a3 c_2 a18 e19) (hcons (field_Mul_ok b_1 c_2 a20 e21) (hcons (field_Mul_ok a_0 a20 a22 e23) (hcons hb24 (hcons (field_Add_ok a_0 b_1 a25 e26) (hcons (field_Mul_ok a25 c_2 a27 e28) (hcons (field_Mul_ok a_0 c_2 a29 e30) (hcons (field_Mul_ok b_1 c_2 a31 e32) (hcons (field_Add_ok a29 a31 a33 e34) (hcons hb35 (hcons (field_Sub_ok a1 b_1 a36 e37) (hcons (field_Mod_ok a_0 a38 e39) (hcons hb40 (hcons (field_Sub_ok a_0 a_0 a41 e42) (hcons (law04_Num_ok (0 : Int) a43 e44) (hone hb78)))))))))))))))))))))))) ?_
                refine q_k ?_
                refine tr_ret ?_
                have h := Option.some.inj h
                subst h
                exact q_ret0 hT (.v (.one (.bool false))) rfl (by kernel_rfl)
            · refine tr_regd hT hM [(3, .call (.v (.agg [.arr .u8 32 a5])) []), (5, .dec true), (9, .call (.v (.agg [.arr .u8 32 a8])) []), (12, .dec true), (15, .call (.v (.agg [.arr .u8 32 a11])) []), (19, .call (.v (.agg [.arr .u8 32 a13])) []), (20, .call (.v (.agg [.arr .u8 32 a15])) []), (23, .dec true), (26, .call (.v (.agg [.arr .u8 32 a18])) []), (30, .call (.v (.agg [.arr .u8 32 a20])) []), (31, .call (.v (.agg [.arr .u8 32 a22])) []), (34, .dec true), (37, .call (.v (.agg [.arr .u8 32 a25])) []), (39, .call (.v (.agg [.arr .u8 32 a27])) []), (42, .call (.v (.agg [.arr .u8 32 a29])) []), (45, .call (.v (.agg [.arr .u8 32 a31])) []), (46, .call (.v (.agg [.arr .u8 32 a33])) []), (49, .dec true), (52, .call (.v (.agg [.arr .u8 32 a36])) []), (54, .call (.v (.agg [.arr .u8 32 a38])) []), (57, .dec false)] [.s 6] [sB 6 false] [CallOk P 40 [.v (.agg [.arr .u8 32 b_1]), .v (.agg [.arr .u8 32 a_0])] [] (.v (.agg [.arr .u8 32 a5])) [], (decide (a1 = a5)) = true, CallOk P 34 [.v (.agg [.arr .u8 32 b_1]), .v (.agg [.arr .u8 32 a_0])] [] (.v (.agg [.arr .u8 32 a8])) [], (decide (a3 = a8)) = true, CallOk P 40 [.v (.agg [.arr .u8 32 a1]), .v (.agg [.arr .u8 32 c_2])] [] (.v (.agg [.arr .u8 32 a11])) [], CallOk P 40 [.v (.agg [.arr .u8 32 b_1]), .v (.agg [.arr .u8 32 c_2])] [] (.v (.agg [.arr .u8 32 a13])) [], CallOk P 40 [.v (.agg [.arr .u8 32 a_0]), .v (.agg [.arr .u8 32 a13])] [] (.v (.agg [.arr .u8 32 a15])) [], (decide (a11 = a15)) = true, CallOk P 34 [.v (.agg [.arr .u8 32 a3]), .v (.agg [.arr .u8 32 c_2])] [] (.v (.agg [.arr .u8 32 a18])) [], CallOk P 34 [.v (.agg [.arr .u8 32 b_1]), .v (.agg [.arr .u8 32 c_2])] [] (.v (.agg [.arr .u8 32 a20])) [], CallOk P 34 [.v (.agg [.arr .u8 32 a_0]), .v (.agg [.arr .u8 32 a20])] [] (.v (.agg [.arr .u8 32 a22])) [], (decide (a18 = a22)) = true, CallOk P 40 [.v (.agg [.arr .u8 32 a_0]), .v (.agg [.arr .u8 32 b_1])] [] (.v (.agg [.arr .u8 32 a25])) [], CallOk P 34 [.v (.agg [.arr .u8 32 a25]), .v (.agg [.arr .u8 32 c_2])] [] (.v (.agg [.arr .u8 32 a27])) [], CallOk P 34 [.v (.agg [.arr .u8 32 a_0]), .v (.agg [.arr .u8 32 c_2])] [] (.v (.agg [.arr .u8 32 a29])) [], CallOk P 34 [.v (.agg [.arr .u8 32 b_1]), .v (.agg [.arr .u8 32 c_2])] [] (.v (.agg [.arr .u8 32 a31])) [], CallOk P 40 [.v (.agg [.arr .u8 32 a29]), .v (.agg [.arr .u8 32 a31])] [] (.v (.agg [.arr .u8 32 a33])) [], (decide (a27 = a33)) = true, CallOk P 41 [.v (.agg [.arr .u8 32 a1]), .v (.agg [.arr .u8 32 b_1])] [] (.v (.agg [.arr .u8 32 a36])) [], CallOk P 33 [.v (.agg [.arr .u8 32 a_0])] [] (.v (.agg [.arr .u8 32 a38])) [], (decide (a36 = a38)) = false] (by kernel_rfl) (hcons (field_Add_ok b_1 a_0 a5 e6) (hcons hb7 (hcons (field_Mul_ok b_1 a_0 a8 e9) (hcons hb10 (hcons (field_Add_ok a1 c_2 a11 e12) (hcons (field_Add_ok b_1 c_2 a13 e14) (hcons (field_Add_ok a_0 a13 a15 e16) (hcons hb17 (hcons (field_Mul_ok a3 c_2 a18 e19) (hcons (field_Mul_ok b_1 c_2 a20 e21) (hcons (field_Mul_ok a_0 a20 a22 e23) (hcons hb24 (hcons (field_Add_ok a_0 b_1 a25 e26) (hcons (field_Mul_ok a25 c_2 a27 e28) (hcons (field_Mul_ok a_0 c_2 a29 e30) (hcons (field_Mul_ok b_1 c_2 a31 e32) (hcons (field_Add_ok a29 a31 a33 e34) (hcons hb35 (hcons (field_Sub_ok a1 b_1 a36 e37) (hcons (field_Mod_ok a_0 a38 e39) (hone hb79))))))))))))))))))))) ?_
              refine q_k ?_
              refine tr_ret ?_
              have h := Option.some.inj h
              subst h
              exact q_ret0 hT (.v (.one (.bool false))) rfl (by kernel_rfl)
          · refine tr_regd hT hM [(3, .call (.v (.agg [.arr .u8 32 a5])) []), (5, .dec true), (9, .call (.v (.agg [.arr .u8 32 a8])) []), (12, .dec true), (15, .call (.v (.agg [.arr .u8 32 a11])) []), (19, .call (.v (.agg [.arr .u8 32 a13])) []), (20, .call (.v (.agg [.arr .u8 32 a15])) []), (23, .dec true), (26, .call (.v (.agg [.arr .u8 32 a18])) []), (30, .call (.v (.agg [.arr .u8 32 a20])) []), (31, .call (.v (.agg [.arr .u8 32 a22])) []), (34, .dec true), (37, .call (.v (.agg [.arr .u8 32 a25])) []), (39, .call (.v (.agg [.arr .u8 32 a27])) []), (42, .call (.v (.agg [.arr .u8 32 a29])) []), (45, .call (.v (.agg [.arr .u8 32 a31])) []), (46, .call (.v (.agg [.arr .u8 32 a33])) []), (49, .dec false)] [.s 6] [sB 6 false] [CallOk P 40 [.v (.agg [.arr .u8 32 b_1]), .v (.agg [.arr .u8 32 a_0])] [] (.v (.agg [.arr .u8 32 a5])) [], (decide (a1 = a5)) = true, CallOk P 34 [.v (.agg [.arr .u8 32 b_1]), .v (.agg [.arr .u8 32 a_0])] [] (.v (.agg [.arr .u8 32 a8])) [], (decide (a3 = a8)) = true, CallOk P 40 [.v (.agg [.arr .u8 32 a1]), .v (.agg [.arr .u8 32 c_2])] [] (.v (.agg [.arr .u8 32 a11])) [], CallOk P 40 [.v (.agg [.arr .u8 32 b_1]), .v (.agg [.arr .u8 32 c_2])] [] (.v (.agg [.arr .u8 32 a13])) [], CallOk P 40 [.v (.agg [.arr .u8 32 a_0]), .v (.agg [.arr .u8 32 a13])] [] (.v (.agg [.arr .u8 32 a15])) [], (decide (a11 = a15)) = true, CallOk P 34 [.v (.agg [.arr .u8 32 a3]), .v (.agg [.arr .u8 32 c_2])] [] (.v (.agg [.arr .u8 32 a18])) [], CallOk P 34 [.v (.agg [.arr .u8 32 b_1]), .v (.agg [.arr .u8 32 c_2])] [] (.v (.agg [.arr .u8 32 a20])) [], CallOk P 34 [.v (.agg [.arr .u8 32 a_0]), .v (.agg [.arr .u8 32 a20])] [] (.v (.agg [.arr .u8 32 a22])) [], (decide (a18 = a22)) = true, CallOk P 40 [.v (.agg [.arr .u8 32 a_0]), .v (.agg [.arr .u8 32 b_1])] [] (.v (.agg [.arr .u8 32 a25])) [], CallOk P 34 [.v (.agg [.arr .u8 32 a25]), .v (.agg [.arr .u8 32 c_2])] [] (.v (.agg [.arr .u8 32 a27])) [], CallOk P 34 [.v (.agg [.arr .u8 32 a_0]), .v (.agg [.arr .u8 32 c_2])] [] (.v (.agg [.arr .u8 32 a29])) [], CallOk P 34 [.v (.agg [.arr .u8 32 b_1]), .v (.agg [.arr .u8 32 c_2])] [] (.v (.agg [.arr .u8 32 a31])) [], CallOk P 40 [.v (.agg [.arr .u8 32 a29]), .v (.agg [.arr .u8 32 a31])] [] (.v (.agg [.arr .u8 32 a33])) [], (decide (a27 = a33)) = false] (by kernel_rfl) (hcons (field_Add_ok b_1 a_0 a5 e6) (hcons hb7 (hcons (field_Mul_ok b_1 a_0 a8 e9) (hcons hb10 (hcons (field_Add_ok a1 c_2 a11 e12) (hcons (field_Add_ok b_1 c_2 a13 e14) (hcons (field_Add_ok a_0 a13 a15 e16) (hcons hb17 (hcons (field_Mul_ok a3 c_2 a18 e19) (hcons (field_Mul_ok b_1 c_2 a20 e21) (hcons (field_Mul_ok a_0 a20 a22 e23) (hcons hb24 (hcons (field_Add_ok a_0 b_1 a25 e26) (hcons (field_Mul_ok a25 c_2 a27 e28) (hcons (field_Mul_ok a_0 c_2 a29 e30) (hcons (field_Mul_ok b_1 c_2 a31 e32) (hcons (field_Add_ok a29 a31 a33 e34) (hone hb80)))))))))))))))))) ?_
            refine q_k ?_
            refine tr_ret ?_
            have h := Option.some.inj h
            subst h
            exact q_ret0 hT (.v (.one (.bool false))) rfl (by kernel_rfl)
        · refine tr_regd hT hM [(3, .call (.v (.agg [.arr .u8 32 a5])) []), (5, .dec true), (9, .call (.v (.agg [.arr .u8 32 a8])) []), (12, .dec true), (15, .call (.v (.agg [.arr .u8 32 a11])) []), (19, .call (.v (.agg [.arr .u8 32 a13])) []), (20, .call (.v (.agg [.arr .u8 32 a15])) []), (23, .dec true), (26, .call (.v (.agg [.arr .u8 32 a18])) []), (30, .call (.v (.agg [.arr .u8 32 a20])) []), (31, .call (.v (.agg [.arr .u8 32 a22])) []), (34, .dec false)] [.s 6] [sB 6 false] [CallOk P 40 [.v (.agg [.arr .u8 32 b_1]), .v (.agg [.arr .u8 32 a_0])] [] (.v (.agg [.arr .u8 32 a5])) [], (decide (a1 = a5)) = true, CallOk P 34 [.v (.agg [.arr .u8 32 b_1]), .v (.agg [.arr .u8 32 a_0])] [] (.v (.agg [.arr .u8 32 a8])) [], (decide (a3 = a8)) = true, CallOk P 40 [.v (.agg [.arr .u8 32 a1]), .v (.agg [.arr .u8 32 c_2])] [] (.v (.agg [.arr .u8 32 a11])) [], CallOk P 40 [.v (.agg [.arr .u8 32 b_1]), .v (.agg [.arr .u8 32 c_2])] [] (.v (.agg [.arr .u8 32 a13])) [], CallOk P 40 [.v (.agg [.arr .u8 32 a_0]), .v (.agg [.arr .u8 32 a13])] [] (.v (.agg [.arr .u8 32 a15])) [], (decide (a11 = a15)) = true, CallOk P 34 [.v (.agg [.arr .u8 32 a3]), .v (.agg [.arr .u8 32 c_2])] [] (.v (.agg [.arr .u8 32 a18])) [], CallOk P 34 [.v (.agg [.arr .u8 32 b_1]), .v (.agg [.arr .u8 32 c_2])] [] (.v (.agg [.arr .u8 32 a20])) [], CallOk P 34 [.v (.agg [.arr .u8 32 a_0]), .v (.agg [.arr .u8 32 a20])] [] (.v (.agg [.arr .u8 32 a22])) [], (decide (a18 = a22)) = false] (by kernel_rfl) (hcons (field_Add_ok b_1 a_0 a5 e6) (hcons hb7 (hcons (field_Mul_ok b_1 a_0 a8 e9) (hcons hb10 (hcons (field_Add_ok a1 c_2 a11 e12) (hcons (field_Add_ok b_1 c_2 a13 e14) (hcons (field_Add_ok a_0 a13 a15 e16) (hcons hb17 (hcons (field_Mul_ok a3 c_2 a18 e19) (hcons (field_Mul_ok b_1 c_2 a20 e21) (hcons (field_Mul_ok a_0 a20 a22 e23) (hone hb81)))))))))))) ?_
          refine q_k ?_
          refine tr_ret ?_
          have h := Option.some.inj h
          subst h
          exact q_ret0 hT (.v (.one (.bool false))) rfl (by kernel_rfl)
      · refine tr_regd hT hM [(3, .call (.v (.agg [.arr .u8 32 a5])) []), (5, .dec true), (9, .call (.v (.agg [.arr .u8 32 a8])) []), (12, .dec true), (15, .call (.v (.agg [.arr .u8 32 a11])) []), (19, .call (.v (.agg [.arr .u8 32 a13])) []), (20, .call (.v (.agg [.arr .u8 32 a15])) []), (23, .dec false)] [.s 6] [sB 6 false] [CallOk P 40 [.v (.agg [.arr .u8 32 b_1]), .v (.agg [.arr .u8 32 a_0])] [] (.v (.agg [.arr .u8 32 a5])) [], (decide (a1 = a5)) = true, CallOk P 34 [.v (.agg [.arr .u8 32 b_1]), .v (.agg [.arr .u8 32 a_0])] [] (.v (.agg [.arr .u8 32 a8])) [], (decide (a3 = a8)) = true, CallOk P 40 [.v (.agg [.arr .u8 32 a1]), .v (.agg [.arr .u8 32 c_2])] [] (.v (.agg [.arr .u8 32 a11])) [], CallOk P 40 [.v (.agg [.arr .u8 32 b_1]), .v (.agg [.arr .u8 32 c_2])] [] (.v (.agg [.arr .u8 32 a13])) [], CallOk P 40 [.v (.agg [.arr .u8 32 a_0]), .v (.agg [.arr .u8 32 a13])] [] (.v (.agg [.arr .u8 32 a15])) [], (decide (a11 = a15)) = false] (by kernel_rfl) (hcons (field_Add_ok b_1 a_0 a5 e6) (hcons hb7 (hcons (field_Mul_ok b_1 a_0 a8 e9) (hcons hb10 (hcons (field_Add_ok a1 c_2 a11 e12) (hcons (field_Add_ok b_1 c_2 a13 e14) (hcons (field_Add_ok a_0 a13 a15 e16) (hone hb82)))))))) ?_
        refine q_k ?_
        refine tr_ret ?_
        have h := Option.some.inj h
        subst h
        exact q_ret0 hT (.v (.one (.bool false))) rfl (by kernel_rfl)
    · refine tr_regd hT hM [(3, .call (.v (.agg [.arr .u8 32 a5])) []), (5, .dec true), (9, .call (.v (.agg [.arr .u8 32 a8])) []), (12, .dec false)] [.s 6] [sB 6 false] [CallOk P 40 [.v (.agg [.arr .u8 32 b_1]), .v (.agg [.arr .u8 32 a_0])] [] (.v (.agg [.arr .u8 32 a5])) [], (decide (a1 = a5)) = true, CallOk P 34 [.v (.agg [.arr .u8 32 b_1]), .v (.agg [.arr .u8 32 a_0])] [] (.v (.agg [.arr .u8 32 a8])) [], (decide (a3 = a8)) = false] (by kernel_rfl) (hcons (field_Add_ok b_1 a_0 a5 e6) (hcons hb7 (hcons (field_Mul_ok b_1 a_0 a8 e9) (hone hb83)))) ?_
      refine q_k ?_
      refine tr_ret ?_
      have h := Option.some.inj h
      subst h
      exact q_ret0 hT (.v (.one (.bool false))) rfl (by kernel_rfl)
  · refine tr_regd hT hM [(3, .call (.v (.agg [.arr .u8 32 a5])) []), (5, .dec false)] [.s 6] [sB 6 false] [CallOk P 40 [.v (.agg [.arr .u8 32 b_1]), .v (.agg [.arr .u8 32 a_0])] [] (.v (.agg [.arr .u8 32 a5])) [], (decide (a1 = a5)) = false] (by kernel_rfl) (hcons (field_Add_ok b_1 a_0 a5 e6) (hone hb84)) ?_
    refine q_k ?_
    refine tr_ret ?_
    have h := Option.some.inj h
    subst h
    exact q_ret0 hT (.v (.one (.bool false))) rfl (by kernel_rfl)

theorem ref04_P_ok (r : List Int) (h : ref04_P = some r) {pre : List (Nat × Ent)} : CallOk P 43 [] pre (.v (.agg [.arr .u64 4 r])) [] := by
  refine call0 (N := 2) Try.func43 (by kernel_rfl) rfl rfl rfl pre ?_
  intro _ w
  show Tr P w.heap.size 2 w _ _ (RetQ P Try.f43 (R0 _ w))
  unfold ref04_P at h
  refine tr_seq ?_
  refine tr_reg hT [(0, .key 0)] [.s 0, .h 0] [sO 0 (.ptr 0 0), hB 0 31 [.arr .u64 4 (List.replicate 4 0)]] [] (by kernel_rfl) trivial ?_
  refine q_k ?_
  refine tr_seq ?_
  refine tr_reg hT [] [.s 0, .h 0] [sO 0 (.ptr 0 0), hB 0 31 [.arr .u64 4 [(18446744073709551597 : Int), (18446744073709551615 : Int), (18446744073709551615 : Int), (9223372036854775807 : Int)]]] [] (by kernel_rfl) trivial ?_
  refine q_k ?_
  refine tr_ret ?_
  have h := Option.some.inj h
  subst h
  exact q_ret0 hT (.v (.agg [.arr .u64 4 [(18446744073709551597 : Int), (18446744073709551615 : Int), (18446744073709551615 : Int), (9223372036854775807 : Int)]])) rfl (by kernel_rfl)

theorem law04_FieldEnds_ok (k_0 : Int) (what_1 : Int) (r : Bool) (h : law04_FieldEnds k_0 what_1 = some r) {pre : List (Nat × Ent)} : CallOk P 12 [.v (.one (.int .i64 k_0)), .v (.one (.int .i64 what_1))] pre (.v (.one (.bool r))) [] := by
  refine call0 (N := 106) Try.func12 (by kernel_rfl) rfl rfl rfl pre ?_
  intro _ w
  show Tr P w.heap.size 106 w _ _ (RetQ P Try.f12 (R0 _ w))
  unfold law04_FieldEnds at h
  refine tr_seq ?_
  refine tr_reg hT [] [.s 0, .s 1] [sI 0 .i64 k_0, sI 1 .i64 what_1] [] (by kernel_rfl) trivial ?_
  refine q_k ?_
  refine tr_seq ?_
  refine tr_reg hT [] [.s 0, .s 1] [sI 0 .i64 (IntKind.i64.wrap ((IntKind.u64.wrap k_0).tmod (19 : Int))), sI 1 .i64 what_1] [(19 : Int) ≠ 0] (by kernel_rfl) (hone (by decide)) ?_
  refine q_k ?_
  refine tr_seq ?_
  obtain ⟨a1, e2, h⟩ := bind_some h
  refine tr_reg hT [(0, .call (.v (.agg [.arr .u64 4 a1])) []), (1, .key 0)] [.s 0, .s 1, .s 5, .h 0] [sI 0 .i64 (IntKind.i64.wrap ((IntKind.u64.wrap k_0).tmod (19 : Int))), sI 1 .i64 what_1, sO 5 (.ptr 0 0), hB 0 31 [.arr .u64 4 a1]] [CallOk P 43 [] [] (.v (.agg [.arr .u64 4 a1])) []] (by kernel_rfl) (hone (ref04_P_ok  a1 e2)) ?_
  refine q_k ?_
  refine tr_seq ?_
  refine tr_reg hT [(0, .key 1)] [.s 0, .s 1, .s 5, .s 6, .h 0, .h 1] [sI 0 .i64 (IntKind.i64.wrap ((IntKind.u64.wrap k_0).tmod (19 : Int))), sI 1 .i64 what_1, sO 5 (.ptr 0 0), sO 6 (.ptr 1 0), hB 0 31 [.arr .u64 4 a1], hB 1 22 [.arr .u8 32 (List.replicate 32 0)]] [] (by kernel_rfl) trivial ?_
  refine q_k ?_
  refine tr_seq ?_
  obtain ⟨a3, e4, h⟩ := bind_some h
  refine tr_reg hT [(1, .call (.v (.agg [.arr .u8 32 a3])) []), (2, .key 2)] [.s 0, .s 1, .s 5, .s 6, .s 7, .h 0, .h 1, .h 2] [sI 0 .i64 (IntKind.i64.wrap ((IntKind.u64.wrap k_0).tmod (19 : Int))), sI 1 .i64 what_1, sO 5 (.ptr 0 0), sO 6 (.ptr 1 0), sO 7 (.ptr 2 0), hB 0 31 [.arr .u64 4 a1], hB 1 22 [.arr .u8 32 (List.replicate 32 0)], hB 2 22 [.arr .u8 32 a3]] [CallOk P 26 [.v (.one (.int .i64 (IntKind.i64.wrap ((IntKind.u64.wrap k_0).tmod (19 : Int)))))] [] (.v (.agg [.arr .u8 32 a3])) []] (by kernel_rfl) (hone (law04_Num_ok (IntKind.i64.wrap ((IntKind.u64.wrap k_0).tmod (19 : Int))) a3 e4)) ?_
  refine q_k ?_
  refine tr_seq ?_
  refine tr_seq ?_
  refine tr_reg hT [] [.s 0, .s 5, .s 6, .s 7, .s 18, .h 0, .h 1, .h 2] [sI 0 .i64 (IntKind.i64.wrap ((IntKind.u64.wrap k_0).tmod (19 : Int))), sO 5 (.ptr 0 0), sO 6 (.ptr 1 0), sO 7 (.ptr 2 0), sI 18 .u64 ((IntKind.u64.wrap what_1).tmod (4 : Int)), hB 0 31 [.arr .u64 4 a1], hB 1 22 [.arr .u8 32 (List.replicate 32 0)], hB 2 22 [.arr .u8 32 a3]] [(4 : Int) ≠ 0] (by kernel_rfl) (hone (by decide)) ?_
  refine q_k ?_
  refine tr_block ?_
  refine tr_seq ?_
  refine tr_reg hT [] [.s 0, .s 5, .s 6, .s 7, .s 18, .s 26, .h 0, .h 1, .h 2] [sI 0 .i64 (IntKind.i64.wrap ((IntKind.u64.wrap k_0).tmod (19 : Int))), sO 5 (.ptr 0 0), sO 6 (.ptr 1 0), sO 7 (.ptr 2 0), sI 18 .u64 ((IntKind.u64.wrap what_1).tmod (4 : Int)), sB 26 (((IntKind.u64.wrap what_1).tmod (4 : Int)) == (0 : Int)), hB 0 31 [.arr .u64 4 a1], hB 1 22 [.arr .u8 32 (List.replicate 32 0)], hB 2 22 [.arr .u8 32 a3]] [] (by kernel_rfl) trivial ?_
  refine q_k ?_
  rcases ite_split h with ⟨hc5, h⟩ | ⟨hc5, h⟩
  · refine tr_cond_t (((IntKind.u64.wrap what_1).tmod (4 : Int)) == (0 : Int)) (by kernel_rfl) hc5 ?_
    obtain ⟨a6, e7, h⟩ := bind_some h
    refine tr_reg hT [(12, .call (.v (.agg [.arr .u8 32 a6])) [])] [.s 6, .s 7, .h 1, .h 2] [sO 6 (.ptr 1 0), sO 7 (.ptr 2 0), hB 1 22 [.arr .u8 32 a6], hB 2 22 [.arr .u8 32 a3]] [0 ≤ (0 : Int) ∧ (0 : Int) < ((4 : Nat) : Int), 0 ≤ (1 : Int) ∧ (1 : Int) < ((4 : Nat) : Int), 0 ≤ (2 : Int) ∧ (2 : Int) < ((4 : Nat) : Int), 0 ≤ (3 : Int) ∧ (3 : Int) < ((4 : Nat) : Int), CallOk P 29 [.v (.agg [.arr .u64 4 [(IntKind.u64.wrap ((a1.getD 0 0) + (IntKind.u64.wrap (IntKind.i64.wrap ((IntKind.u64.wrap k_0).tmod (19 : Int)))))), (a1.getD 1 0), (a1.getD 2 0), (a1.getD 3 0)]])] [] (.v (.agg [.arr .u8 32 a6])) []] (by kernel_rfl) (hcons (by decide) (hcons (by decide) (hcons (by decide) (hcons (by decide) (hone (ref04_Bytes_ok [(IntKind.u64.wrap ((a1.getD 0 0) + (IntKind.u64.wrap (IntKind.i64.wrap ((IntKind.u64.wrap k_0).tmod (19 : Int)))))), (a1.getD 1 0), (a1.getD 2 0), (a1.getD 3 0)] a6 e7)))))) ?_
    refine q_b 0 ?_
    refine q_k ?_
    refine tr_seq ?_
    obtain ⟨a8, e9, h⟩ := bind_some h
    rcases ite_split h with ⟨hb10, h⟩ | ⟨hb23, h⟩
    · obtain ⟨b11, e12, h⟩ := bind_some h
      rcases ite_split h with ⟨hb13, h⟩ | ⟨hb22, h⟩
      · obtain ⟨a14, e15, h⟩ := bind_some h
        obtain ⟨a16, e17, h⟩ := bind_some h
        rcases ite_split h with ⟨hb18, h⟩ | ⟨hb21, h⟩
        · obtain ⟨b19, e20, h⟩ := bind_some h
          refine tr_regd hT hM [(1, .call (.v (.agg [.arr .u8 32 a8])) []), (4, .dec true), (6, .call (.v (.one (.bool b11))) []), (9, .dec true), (12, .call (.v (.agg [.arr .u8 32 a14])) []), (13, .call (.v (.agg [.arr .u8 32 a16])) []), (16, .dec true), (17, .call (.v (.one (.bool b19))) [])] [.s 4] [sB 4 b19] [CallOk P 33 [.v (.agg [.arr .u8 32 a6])] [] (.v (.agg [.arr .u8 32 a8])) [], (decide (a8 = a3)) = true, CallOk P 42 [.v (.agg [.arr .u8 32 a6])] [] (.v (.one (.bool b11))) [], (!b11) = true, CallOk P 41 [.v (.agg [.arr .u8 32 a6]), .v (.agg [.arr .u8 32 a3])] [] (.v (.agg [.arr .u8 32 a14])) [], CallOk P 26 [.v (.one (.int .i64 (0 : Int)))] [] (.v (.agg [.arr .u8 32 a16])) [], (decide (a14 = a16)) = true, CallOk P 35 [] [] (.v (.one (.bool b19))) []] (by kernel_rfl) (hcons (field_Mod_ok a6 a8 e9) (hcons hb10 (hcons (field_Check_ok a6 b11 e12) (hcons hb13 (hcons (field_Sub_ok a6 a3 a14 e15) (hcons (law04_Num_ok (0 : Int) a16 e17) (hcons hb18 (hone (law04_wakes_ok  b19 e20))))))))) ?_
          refine q_k ?_
          refine tr_ret ?_
          have h := Option.some.inj h
          subst h
          exact q_ret0 hT (.v (.one (.bool b19))) rfl (by kernel_rfl)
        · refine tr_regd hT hM [(1, .call (.v (.agg [.arr .u8 32 a8])) []), (4, .dec true), (6, .call (.v (.one (.bool b11))) []), (9, .dec true), (12, .call (.v (.agg [.arr .u8 32 a14])) []), (13, .call (.v (.agg [.arr .u8 32 a16])) []), (16, .dec false)] [.s 4] [sB 4 false] [CallOk P 33 [.v (.agg [.arr .u8 32 a6])] [] (.v (.agg [.arr .u8 32 a8])) [], (decide (a8 = a3)) = true, CallOk P 42 [.v (.agg [.arr .u8 32 a6])] [] (.v (.one (.bool b11))) [], (!b11) = true, CallOk P 41 [.v (.agg [.arr .u8 32 a6]), .v (.agg [.arr .u8 32 a3])] [] (.v (.agg [.arr .u8 32 a14])) [], CallOk P 26 [.v (.one (.int .i64 (0 : Int)))] [] (.v (.agg [.arr .u8 32 a16])) [], (decide (a14 = a16)) = false] (by kernel_rfl) (hcons (field_Mod_ok a6 a8 e9) (hcons hb10 (hcons (field_Check_ok a6 b11 e12) (hcons hb13 (hcons (field_Sub_ok a6 a3 a14 e15) (hcons (law04_Num_ok (0 : Int) a16 e17) (hone hb21))))))) ?_
          refine q_k ?_
          refine tr_ret ?_
          have h := Option.some.inj h
          subst h
          exact q_ret0 hT (.v (.one (.bool false))) rfl (by kernel_rfl)
      · refine tr_regd hT hM [(1, .call (.v (.agg [.arr .u8 32 a8])) []), (4, .dec true), (6, .call (.v (.one (.bool b11))) []), (9, .dec false)] [.s 4] [sB 4 false] [CallOk P 33 [.v (.agg [.arr .u8 32 a6])] [] (.v (.agg [.arr .u8 32 a8])) [], (decide (a8 = a3)) = true, CallOk P 42 [.v (.agg [.arr .u8 32 a6])] [] (.v (.one (.bool b11))) [], (!b11) = false] (by kernel_rfl) (hcons (field_Mod_ok a6 a8 e9) (hcons hb10 (hcons (field_Check_ok a6 b11 e12) (hone hb22)))) ?_
        refine q_k ?_
        refine tr_ret ?_
        have h := Option.some.inj h
        subst h
        exact q_ret0 hT (.v (.one (.bool false))) rfl (by kernel_rfl)
    · refine tr_regd hT hM [(1, .call (.v (.agg [.arr .u8 32 a8])) []), (4, .dec false)] [.s 4] [sB 4 false] [CallOk P 33 [.v (.agg [.arr .u8 32 a6])] [] (.v (.agg [.arr .u8 32 a8])) [], (decide (a8 = a3)) = false] (by kernel_rfl) (hcons (field_Mod_ok a6 a8 e9) (hone hb23)) ?_
      refine q_k ?_
      refine tr_ret ?_
      have h := Option.some.inj h
      subst h
      exact q_ret0 hT (.v (.one (.bool false))) rfl (by kernel_rfl)
  · refine tr_cond_f (((IntKind.u64.wrap what_1).tmod (4 : Int)) == (0 : Int)) (by kernel_rfl) hc5 ?_
    refine tr_seq ?_
    refine tr_reg hT [] [.s 0, .s 5, .s 6, .s 7, .s 18, .s 41, .h 0, .h 1, .h 2] [sI 0 .i64 (IntKind.i64.wrap ((IntKind.u64.wrap k_0).tmod (19 : Int))), sO 5 (.ptr 0 0), sO 6 (.ptr 1 0), sO 7 (.ptr 2 0), sI 18 .u64 ((IntKind.u64.wrap what_1).tmod (4 : Int)), sB 41 (((IntKind.u64.wrap what_1).tmod (4 : Int)) == (1 : Int)), hB 0 31 [.arr .u64 4 a1], hB 1 22 [.arr .u8 32 (List.replicate 32 0)], hB 2 22 [.arr .u8 32 a3]] [] (by kernel_rfl) trivial ?_
    refine q_k ?_
    rcases ite_split h with ⟨hc24, h⟩ | ⟨hc24, h⟩
    · refine tr_cond_t (((IntKind.u64.wrap what_1).tmod (4 : Int)) == (1 : Int)) (by kernel_rfl) hc24 ?_
      refine tr_seq ?_
      obtain ⟨a25, e26, h⟩ := bind_some h
      refine tr_reg hT [(13, .call (.v (.agg [.arr .u8 32 a25])) [])] [.s 0, .s 6, .h 1] [sI 0 .i64 (IntKind.i64.wrap ((IntKind.u64.wrap k_0).tmod (19 : Int))), sO 6 (.ptr 1 0), hB 1 22 [.arr .u8 32 a25]] [0 ≤ (0 : Int) ∧ (0 : Int) < ((4 : Nat) : Int), 0 ≤ (1 : Int) ∧ (1 : Int) < ((4 : Nat) : Int), 0 ≤ (2 : Int) ∧ (2 : Int) < ((4 : Nat) : Int), 0 ≤ (3 : Int) ∧ (3 : Int) < ((4 : Nat) : Int), CallOk P 29 [.v (.agg [.arr .u64 4 [(IntKind.u64.wrap ((IntKind.u64.wrap ((a1.getD 0 0) - (1 : Int))) - (IntKind.u64.wrap (IntKind.i64.wrap ((IntKind.u64.wrap k_0).tmod (19 : Int)))))), (a1.getD 1 0), (a1.getD 2 0), (a1.getD 3 0)]])] [] (.v (.agg [.arr .u8 32 a25])) []] (by kernel_rfl) (hcons (by decide) (hcons (by decide) (hcons (by decide) (hcons (by decide) (hone (ref04_Bytes_ok [(IntKind.u64.wrap ((IntKind.u64.wrap ((a1.getD 0 0) - (1 : Int))) - (IntKind.u64.wrap (IntKind.i64.wrap ((IntKind.u64.wrap k_0).tmod (19 : Int)))))), (a1.getD 1 0), (a1.getD 2 0), (a1.getD 3 0)] a25 e26)))))) ?_
      refine q_k ?_
      refine tr_seq ?_
      obtain ⟨a27, e28, h⟩ := bind_some h
      rcases ite_split h with ⟨hb29, h⟩ | ⟨hb44, h⟩
      · obtain ⟨b30, e31, h⟩ := bind_some h
        rcases ite_split h with ⟨hb32, h⟩ | ⟨hb43, h⟩
        · obtain ⟨a33, e34, h⟩ := bind_some h
          obtain ⟨a35, e36, h⟩ := bind_some h
          obtain ⟨a37, e38, h⟩ := bind_some h
          rcases ite_split h with ⟨hb39, h⟩ | ⟨hb42, h⟩
          · obtain ⟨b40, e41, h⟩ := bind_some h
            refine tr_regd hT hM [(1, .call (.v (.agg [.arr .u8 32 a27])) []), (4, .dec true), (6, .call (.v (.one (.bool b30))) []), (8, .dec true), (12, .call (.v (.agg [.arr .u8 32 a33])) []), (13, .call (.v (.agg [.arr .u8 32 a35])) []), (14, .call (.v (.agg [.arr .u8 32 a37])) []), (17, .dec true), (18, .call (.v (.one (.bool b40))) [])] [.s 4] [sB 4 b40] [CallOk P 33 [.v (.agg [.arr .u8 32 a25])] [] (.v (.agg [.arr .u8 32 a27])) [], (decide (a27 = a25)) = true, CallOk P 42 [.v (.agg [.arr .u8 32 a25])] [] (.v (.one (.bool b30))) [], b30 = true, CallOk P 26 [.v (.one (.int .i64 (IntKind.i64.wrap ((IntKind.i64.wrap ((IntKind.u64.wrap k_0).tmod (19 : Int))) + (1 : Int)))))] [] (.v (.agg [.arr .u8 32 a33])) [], CallOk P 40 [.v (.agg [.arr .u8 32 a25]), .v (.agg [.arr .u8 32 a33])] [] (.v (.agg [.arr .u8 32 a35])) [], CallOk P 26 [.v (.one (.int .i64 (0 : Int)))] [] (.v (.agg [.arr .u8 32 a37])) [], (decide (a35 = a37)) = true, CallOk P 35 [] [] (.v (.one (.bool b40))) []] (by kernel_rfl) (hcons (field_Mod_ok a25 a27 e28) (hcons hb29 (hcons (field_Check_ok a25 b30 e31) (hcons hb32 (hcons (law04_Num_ok (IntKind.i64.wrap ((IntKind.i64.wrap ((IntKind.u64.wrap k_0).tmod (19 : Int))) + (1 : Int))) a33 e34) (hcons (field_Add_ok a25 a33 a35 e36) (hcons (law04_Num_ok (0 : Int) a37 e38) (hcons hb39 (hone (law04_wakes_ok  b40 e41)))))))))) ?_
            refine q_k ?_
            refine tr_ret ?_
            refine q_b_ret ?_
            refine q_k_ret ?_
            have h := Option.some.inj h
            subst h
            exact q_ret0 hT (.v (.one (.bool b40))) rfl (by kernel_rfl)
          · refine tr_regd hT hM [(1, .call (.v (.agg [.arr .u8 32 a27])) []), (4, .dec true), (6, .call (.v (.one (.bool b30))) []), (8, .dec true), (12, .call (.v (.agg [.arr .u8 32 a33])) []), (13, .call (.v (.agg [.arr .u8 32 a35])) []), (14, .call (.v (.agg [.arr .u8 32 a37])) []), (17, .dec false)] [.s 4] [sB 4 false] [CallOk P 33 [.v (.agg [.arr .u8 32 a25])] [] (.v (.agg [.arr .u8 32 a27])) [], (decide (a27 = a25)) = true, CallOk P 42 [.v (.agg [.arr .u8 32 a25])] [] (.v (.one (.bool b30))) [], b30 = true, CallOk P 26 [.v (.one (.int .i64 (IntKind.i64.wrap ((IntKind.i64.wrap ((IntKind.u64.wrap k_0).tmod (19 : Int))) + (1 : Int)))))] [] (.v (.agg [.arr .u8 32 a33])) [], CallOk P 40 [.v (.agg [.arr .u8 32 a25]), .v (.agg [.arr .u8 32 a33])] [] (.v (.agg [.arr .u8 32 a35])) [], CallOk P 26 [.v (.one (.int .i64 (0 : Int)))] [] (.v (.agg [.arr .u8 32 a37])) [], (decide (a35 = a37)) = false] (by kernel_rfl) (hcons (field_Mod_ok a25 a27 e28) (hcons hb29 (hcons (field_Check_ok a25 b30 e31) (hcons hb32 (hcons (law04_Num_ok (IntKind.i64.wrap ((IntKind.i64.wrap ((IntKind.u64.wrap k_0).tmod (19 : Int))) + (1 : Int))) a33 e34) (hcons (field_Add_ok a25 a33 a35 e36) (hcons (law04_Num_ok (0 : Int) a37 e38) (hone hb42)))))))) ?_
            refine q_k ?_
            refine tr_ret ?_
            refine q_b_ret ?_
            refine q_k_ret ?_
            have h := Option.some.inj h
            subst h
            exact q_ret0 hT (.v (.one (.bool false))) rfl (by kernel_rfl)
        · refine tr_regd hT hM [(1, .call (.v (.agg [.arr .u8 32 a27])) []), (4, .dec true), (6, .call (.v (.one (.bool b30))) []), (8, .dec false)] [.s 4] [sB 4 false] [CallOk P 33 [.v (.agg [.arr .u8 32 a25])] [] (.v (.agg [.arr .u8 32 a27])) [], (decide (a27 = a25)) = true, CallOk P 42 [.v (.agg [.arr .u8 32 a25])] [] (.v (.one (.bool b30))) [], b30 = false] (by kernel_rfl) (hcons (field_Mod_ok a25 a27 e28) (hcons hb29 (hcons (field_Check_ok a25 b30 e31) (hone hb43)))) ?_
          refine q_k ?_
          refine tr_ret ?_
          refine q_b_ret ?_
          refine q_k_ret ?_
          have h := Option.some.inj h
          subst h
          exact q_ret0 hT (.v (.one (.bool false))) rfl (by kernel_rfl)
      · refine tr_regd hT hM [(1, .call (.v (.agg [.arr .u8 32 a27])) []), (4, .dec false)] [.s 4] [sB 4 false] [CallOk P 33 [.v (.agg [.arr .u8 32 a25])] [] (.v (.agg [.arr .u8 32 a27])) [], (decide (a27 = a25)) = false] (by kernel_rfl) (hcons (field_Mod_ok a25 a27 e28) (hone hb44)) ?_
        refine q_k ?_
        refine tr_ret ?_
        refine q_b_ret ?_
        refine q_k_ret ?_
        have h := Option.some.inj h
        subst h
        exact q_ret0 hT (.v (.one (.bool false))) rfl (by kernel_rfl)
    · refine tr_cond_f (((IntKind.u64.wrap what_1).tmod (4 : Int)) == (1 : Int)) (by kernel_rfl) hc24 ?_
      refine tr_seq ?_
      refine tr_reg hT [] [.s 0, .s 5, .s 6, .s 7, .s 77, .h 0, .h 1, .h 2] [sI 0 .i64 (IntKind.i64.wrap ((IntKind.u64.wrap k_0).tmod (19 : Int))), sO 5 (.ptr 0 0), sO 6 (.ptr 1 0), sO 7 (.ptr 2 0), sB 77 (((IntKind.u64.wrap what_1).tmod (4 : Int)) == (2 : Int)), hB 0 31 [.arr .u64 4 a1], hB 1 22 [.arr .u8 32 (List.replicate 32 0)], hB 2 22 [.arr .u8 32 a3]] [] (by kernel_rfl) trivial ?_
      refine q_k ?_
      rcases ite_split h with ⟨hc45, h⟩ | ⟨hc45, h⟩
      · refine tr_cond_t (((IntKind.u64.wrap what_1).tmod (4 : Int)) == (2 : Int)) (by kernel_rfl) hc45 ?_
        obtain ⟨a46, e47, h⟩ := bind_some h
        refine tr_reg hT [(7, .call (.v (.agg [.arr .u8 32 a46])) [])] [.s 6, .s 7, .h 1, .h 2] [sO 6 (.ptr 1 0), sO 7 (.ptr 2 0), hB 1 22 [.arr .u8 32 a46], hB 2 22 [.arr .u8 32 a3]] [0 ≤ (0 : Int) ∧ (0 : Int) < ((4 : Nat) : Int), CallOk P 29 [.v (.agg [.arr .u64 4 [(IntKind.u64.wrap ((IntKind.u64.wrap ((2 : Int) * (a1.getD 0 0))) + (IntKind.u64.wrap (IntKind.i64.wrap ((IntKind.u64.wrap k_0).tmod (19 : Int)))))), (18446744073709551615 : Int), (18446744073709551615 : Int), (18446744073709551615 : Int)]])] [] (.v (.agg [.arr .u8 32 a46])) []] (by kernel_rfl) (hcons (by decide) (hone (ref04_Bytes_ok [(IntKind.u64.wrap ((IntKind.u64.wrap ((2 : Int) * (a1.getD 0 0))) + (IntKind.u64.wrap (IntKind.i64.wrap ((IntKind.u64.wrap k_0).tmod (19 : Int)))))), (18446744073709551615 : Int), (18446744073709551615 : Int), (18446744073709551615 : Int)] a46 e47))) ?_
        refine q_b 0 ?_
        refine q_k ?_
        refine tr_seq ?_
        obtain ⟨a48, e49, h⟩ := bind_some h
        rcases ite_split h with ⟨hb50, h⟩ | ⟨hb63, h⟩
        · obtain ⟨b51, e52, h⟩ := bind_some h
          rcases ite_split h with ⟨hb53, h⟩ | ⟨hb62, h⟩
          · obtain ⟨a54, e55, h⟩ := bind_some h
            obtain ⟨a56, e57, h⟩ := bind_some h
            rcases ite_split h with ⟨hb58, h⟩ | ⟨hb61, h⟩
            · obtain ⟨b59, e60, h⟩ := bind_some h
              refine tr_regd hT hM [(1, .call (.v (.agg [.arr .u8 32 a48])) []), (4, .dec true), (6, .call (.v (.one (.bool b51))) []), (9, .dec true), (12, .call (.v (.agg [.arr .u8 32 a54])) []), (13, .call (.v (.agg [.arr .u8 32 a56])) []), (16, .dec true), (17, .call (.v (.one (.bool b59))) [])] [.s 4] [sB 4 b59] [CallOk P 33 [.v (.agg [.arr .u8 32 a46])] [] (.v (.agg [.arr .u8 32 a48])) [], (decide (a48 = a3)) = true, CallOk P 42 [.v (.agg [.arr .u8 32 a46])] [] (.v (.one (.bool b51))) [], (!b51) = true, CallOk P 41 [.v (.agg [.arr .u8 32 a46]), .v (.agg [.arr .u8 32 a3])] [] (.v (.agg [.arr .u8 32 a54])) [], CallOk P 26 [.v (.one (.int .i64 (0 : Int)))] [] (.v (.agg [.arr .u8 32 a56])) [], (decide (a54 = a56)) = true, CallOk P 35 [] [] (.v (.one (.bool b59))) []] (by kernel_rfl) (hcons (field_Mod_ok a46 a48 e49) (hcons hb50 (hcons (field_Check_ok a46 b51 e52) (hcons hb53 (hcons (field_Sub_ok a46 a3 a54 e55) (hcons (law04_Num_ok (0 : Int) a56 e57) (hcons hb58 (hone (law04_wakes_ok  b59 e60))))))))) ?_
              refine q_k ?_
              refine tr_ret ?_
              have h := Option.some.inj h
              subst h
              exact q_ret0 hT (.v (.one (.bool b59))) rfl (by kernel_rfl)
            · refine tr_regd hT hM [(1, .call (.v (.agg [.arr .u8 32 a48])) []), (4, .dec true), (6, .call (.v (.one (.bool b51))) []), (9, .dec true), (12, .call (.v (.agg [.arr .u8 32 a54])) []), (13, .call (.v (.agg [.arr .u8 32 a56])) []), (16, .dec false)] [.s 4] [sB 4 false] [CallOk P 33 [.v (.agg [.arr .u8 32 a46])] [] (.v (.agg [.arr .u8 32 a48])) [], (decide (a48 = a3)) = true, CallOk P 42 [.v (.agg [.arr .u8 32 a46])] [] (.v (.one (.bool b51))) [], (!b51) = true, CallOk P 41 [.v (.agg [.arr .u8 32 a46]), .v (.agg [.arr .u8 32 a3])] [] (.v (.agg [.arr .u8 32 a54])) [], CallOk P 26 [.v (.one (.int .i64 (0 : Int)))] [] (.v (.agg [.arr .u8 32 a56])) [], (decide (a54 = a56)) = false] (by kernel_rfl) (hcons (field_Mod_ok a46 a48 e49) (hcons hb50 (hcons (field_Check_ok a46 b51 e52) (hcons hb53 (hcons (field_Sub_ok a46 a3 a54 e55) (hcons (law04_Num_ok (0 : Int) a56 e57) (hone hb61))))))) ?_
              refine q_k ?_
              refine tr_ret ?_
              have h := Option.some.inj h
              subst h
              exact q_ret0 hT (.v (.one (.bool false))) rfl (by kernel_rfl)
          · refine tr_regd hT hM [(1, .call (.v (.agg [.arr .u8 32 a48])) []), (4, .dec true), (6, .call (.v (.one (.bool b51))) []), (9, .dec false)] [.s 4] [sB 4 false] [CallOk P 33 [.v (.agg [.arr .u8 32 a46])] [] (.v (.agg [.arr .u8 32 a48])) [], (decide (a48 = a3)) = true, CallOk P 42 [.v (.agg [.arr .u8 32 a46])] [] (.v (.one (.bool b51))) [], (!b51) = false] (by kernel_rfl) (hcons (field_Mod_ok a46 a48 e49) (hcons hb50 (hcons (field_Check_ok a46 b51 e52) (hone hb62)))) ?_
            refine q_k ?_
            refine tr_ret ?_
            have h := Option.some.inj h
            subst h
            exact q_ret0 hT (.v (.one (.bool false))) rfl (by kernel_rfl)
        · refine tr_regd hT hM [(1, .call (.v (.agg [.arr .u8 32 a48])) []), (4, .dec false)] [.s 4] [sB 4 false] [CallOk P 33 [.v (.agg [.arr .u8 32 a46])] [] (.v (.agg [.arr .u8 32 a48])) [], (decide (a48 = a3)) = false] (by kernel_rfl) (hcons (field_Mod_ok a46 a48 e49) (hone hb63)) ?_
          refine q_k ?_
          refine tr_ret ?_
          have h := Option.some.inj h
          subst h
          exact q_ret0 hT (.v (.one (.bool false))) rfl (by kernel_rfl)
      · refine tr_cond_f (((IntKind.u64.wrap what_1).tmod (4 : Int)) == (2 : Int)) (by kernel_rfl) hc45 ?_
        refine tr_seq ?_
        refine tr_seq ?_
        refine tr_reg hT [] [.s 6, .s 7, .s 8, .h 1, .h 2] [sO 6 (.ptr 1 0), sO 7 (.ptr 2 0), sI 8 .i64 (0 : Int), hB 1 22 [.arr .u8 32 (List.replicate 32 0)], hB 2 22 [.arr .u8 32 a3]] [] (by kernel_rfl) trivial ?_
        refine q_k ?_
        refine tr_block ?_
        obtain ⟨m68, e69, h⟩ := bind_some h
        refine tr_less [.s 6, .s 7, .s 8, .h 1, .h 2] [sO 6 (.ptr 1 0), sO 7 (.ptr 2 0), sI 8 .i64 (0 : Int), hB 1 22 [.arr .u8 32 (List.replicate 32 0)], hB 2 22 [.arr .u8 32 a3]] (by kernel_rfl) ?_
        refine tr_loop_fuel (id := 1) (α := List Int × Int) (β := List Int) (fun z => [sO 6 (.ptr 1 0), sO 7 (.ptr 2 0), sI 8 .i64 z.2, hB 1 22 [.arr .u8 32 z.1], hB 2 22 [.arr .u8 32 a3]]) (fun z => [sO 6 (.ptr 1 0), sO 7 (.ptr 2 0), hB 1 22 [.arr .u8 32 z], hB 2 22 [.arr .u8 32 a3]]) (fun k z => law04_FieldEnds_l0 a3 k z.1 z.2) m68 (fun _ => rfl) (((32 : Int) - (0 : Int)).toNat + 1) ((List.replicate 32 0), (0 : Int)) e69 ?_ ?_
        · skip
          replace h : ((law04_Num (37 : Int)).bind (fun a70 => (field_Mod m68).bind (fun a72 => if (decide (a72 = a70)) = true then (field_Check m68).bind (fun b75 => if (!b75) = true then (field_Sub m68 a70).bind (fun a78 => (law04_Num (0 : Int)).bind (fun a80 => if (decide (a78 = a80)) = true then (law04_wakes).bind (fun b83 => some b83) else some false)) else some false) else some false))) = _ := h
          refine q_b_this ?_
          refine q_k ?_
          obtain ⟨a70, e71, h⟩ := bind_some h
          refine tr_reg hT [(0, .call (.v (.agg [.arr .u8 32 a70])) [])] [.s 6, .s 7, .h 1, .h 2] [sO 6 (.ptr 1 0), sO 7 (.ptr 2 0), hB 1 22 [.arr .u8 32 m68], hB 2 22 [.arr .u8 32 a70]] [CallOk P 26 [.v (.one (.int .i64 (37 : Int)))] [] (.v (.agg [.arr .u8 32 a70])) []] (by kernel_rfl) (hone (law04_Num_ok (37 : Int) a70 e71)) ?_
          refine q_b 0 ?_
          refine q_k ?_
          refine tr_seq ?_
          obtain ⟨a72, e73, h⟩ := bind_some h
          rcases ite_split h with ⟨hb74, h⟩ | ⟨hb87, h⟩
          · obtain ⟨b75, e76, h⟩ := bind_some h
            rcases ite_split h with ⟨hb77, h⟩ | ⟨hb86, h⟩
            · obtain ⟨a78, e79, h⟩ := bind_some h
              obtain ⟨a80, e81, h⟩ := bind_some h
              rcases ite_split h with ⟨hb82, h⟩ | ⟨hb85, h⟩
              · obtain ⟨b83, e84, h⟩ := bind_some h
                refine tr_regd hT hM [(1, .call (.v (.agg [.arr .u8 32 a72])) []), (4, .dec true), (6, .call (.v (.one (.bool b75))) []), (9, .dec true), (12, .call (.v (.agg [.arr .u8 32 a78])) []), (13, .call (.v (.agg [.arr .u8 32 a80])) []), (16, .dec true), (17, .call (.v (.one (.bool b83))) [])] [.s 4] [sB 4 b83] [CallOk P 33 [.v (.agg [.arr .u8 32 m68])] [] (.v (.agg [.arr .u8 32 a72])) [], (decide (a72 = a70)) = true, CallOk P 42 [.v (.agg [.arr .u8 32 m68])] [] (.v (.one (.bool b75))) [], (!b75) = true, CallOk P 41 [.v (.agg [.arr .u8 32 m68]), .v (.agg [.arr .u8 32 a70])] [] (.v (.agg [.arr .u8 32 a78])) [], CallOk P 26 [.v (.one (.int .i64 (0 : Int)))] [] (.v (.agg [.arr .u8 32 a80])) [], (decide (a78 = a80)) = true, CallOk P 35 [] [] (.v (.one (.bool b83))) []] (by kernel_rfl) (hcons (field_Mod_ok m68 a72 e73) (hcons hb74 (hcons (field_Check_ok m68 b75 e76) (hcons hb77 (hcons (field_Sub_ok m68 a70 a78 e79) (hcons (law04_Num_ok (0 : Int) a80 e81) (hcons hb82 (hone (law04_wakes_ok  b83 e84))))))))) ?_
                refine q_k ?_
                refine tr_ret ?_
                have h := Option.some.inj h
                subst h
                exact q_ret0 hT (.v (.one (.bool b83))) rfl (by kernel_rfl)
              · refine tr_regd hT hM [(1, .call (.v (.agg [.arr .u8 32 a72])) []), (4, .dec true), (6, .call (.v (.one (.bool b75))) []), (9, .dec true), (12, .call (.v (.agg [.arr .u8 32 a78])) []), (13, .call (.v (.agg [.arr .u8 32 a80])) []), (16, .dec false)] [.s 4] [sB 4 false] [CallOk P 33 [.v (.agg [.arr .u8 32 m68])] [] (.v (.agg [.arr .u8 32 a72])) [], (decide (a72 = a70)) = true, CallOk P 42 [.v (.agg [.arr .u8 32 m68])] [] (.v (.one (.bool b75))) [], (!b75) = true, CallOk P 41 [.v (.agg [.arr .u8 32 m68]), .v (.agg [.arr .u8 32 a70])] [] (.v (.agg [.arr .u8 32 a78])) [], CallOk P 26 [.v (.one (.int .i64 (0 : Int)))] [] (.v (.agg [.arr .u8 32 a80])) [], (decide (a78 = a80)) = false] (by kernel_rfl) (hcons (field_Mod_ok m68 a72 e73) (hcons hb74 (hcons (field_Check_ok m68 b75 e76) (hcons hb77 (hcons (field_Sub_ok m68 a70 a78 e79) (hcons (law04_Num_ok (0 : Int) a80 e81) (hone hb85))))))) ?_
                refine q_k ?_
                refine tr_ret ?_
                have h := Option.some.inj h
                subst h
                exact q_ret0 hT (.v (.one (.bool false))) rfl (by kernel_rfl)
            · refine tr_regd hT hM [(1, .call (.v (.agg [.arr .u8 32 a72])) []), (4, .dec true), (6, .call (.v (.one (.bool b75))) []), (9, .dec false)] [.s 4] [sB 4 false] [CallOk P 33 [.v (.agg [.arr .u8 32 m68])] [] (.v (.agg [.arr .u8 32 a72])) [], (decide (a72 = a70)) = true, CallOk P 42 [.v (.agg [.arr .u8 32 m68])] [] (.v (.one (.bool b75))) [], (!b75) = false] (by kernel_rfl) (hcons (field_Mod_ok m68 a72 e73) (hcons hb74 (hcons (field_Check_ok m68 b75 e76) (hone hb86)))) ?_
              refine q_k ?_
              refine tr_ret ?_
              have h := Option.some.inj h
              subst h
              exact q_ret0 hT (.v (.one (.bool false))) rfl (by kernel_rfl)
          · refine tr_regd hT hM [(1, .call (.v (.agg [.arr .u8 32 a72])) []), (4, .dec false)] [.s 4] [sB 4 false] [CallOk P 33 [.v (.agg [.arr .u8 32 m68])] [] (.v (.agg [.arr .u8 32 a72])) [], (decide (a72 = a70)) = false] (by kernel_rfl) (hcons (field_Mod_ok m68 a72 e73) (hone hb87)) ?_
            refine q_k ?_
            refine tr_ret ?_
            have h := Option.some.inj h
            subst h
            exact q_ret0 hT (.v (.one (.bool false))) rfl (by kernel_rfl)
        · clear h e69
          intro k ih0 hx0 z h
          obtain ⟨m64, i65⟩ := z
          replace h : (if (decide (i65 < (32 : Int))) = true then if 0 ≤ i65 ∧ i65 < ((32 : Nat) : Int) then law04_FieldEnds_l0 a3 k (m64.set i65.toNat (255 : Int)) (IntKind.i64.wrap (i65 + (1 : Int))) else none else some m64) = _ := h
          refine tr_seq ?_
          refine tr_seq ?_
          refine tr_reg hT [] [.s 6, .s 7, .s 8, .s 20, .h 1, .h 2] [sO 6 (.ptr 1 0), sO 7 (.ptr 2 0), sI 8 .i64 i65, sB 20 (decide (i65 < (32 : Int))), hB 1 22 [.arr .u8 32 m64], hB 2 22 [.arr .u8 32 a3]] [] (by kernel_rfl) trivial ?_
          refine q_k ?_
          rcases ite_split h with ⟨hc66, h⟩ | ⟨hc66, h⟩
          · refine tr_cond_t (decide (i65 < (32 : Int))) (by kernel_rfl) hc66 ?_
            refine tr_skip ?_
            refine q_k ?_
            refine tr_seq ?_
            refine tr_block ?_
            obtain ⟨hn67, h⟩ := ite_some h
            refine tr_reg hT [] [.s 6, .s 7, .s 8, .h 1, .h 2] [sO 6 (.ptr 1 0), sO 7 (.ptr 2 0), sI 8 .i64 i65, hB 1 22 [.arr .u8 32 (m64.set i65.toNat (255 : Int))], hB 2 22 [.arr .u8 32 a3]] [0 ≤ i65 ∧ i65 < ((32 : Nat) : Int)] (by kernel_rfl) (hone hn67) ?_
            refine q_b 2 ?_
            refine q_k ?_
            refine tr_reg hT [] [.s 6, .s 7, .s 8, .h 1, .h 2] [sO 6 (.ptr 1 0), sO 7 (.ptr 2 0), sI 8 .i64 (IntKind.i64.wrap (i65 + (1 : Int))), hB 1 22 [.arr .u8 32 (m64.set i65.toNat (255 : Int))], hB 2 22 [.arr .u8 32 a3]] [] (by kernel_rfl) trivial ?_
            refine q_kr ?_
            exact trR_less [.s 6, .s 7, .s 8, .h 1, .h 2] [sO 6 (.ptr 1 0), sO 7 (.ptr 2 0), sI 8 .i64 (IntKind.i64.wrap (i65 + (1 : Int))), hB 1 22 [.arr .u8 32 (m64.set i65.toNat (255 : Int))], hB 2 22 [.arr .u8 32 a3]] (by kernel_rfl) (ih0 ((m64.set i65.toNat (255 : Int)), (IntKind.i64.wrap (i65 + (1 : Int)))) h)
          · refine tr_cond_f (decide (i65 < (32 : Int))) (by kernel_rfl) hc66 ?_
            refine tr_exit ?_
            refine q_k_exit ?_
            refine q_kr_exit ?_
            have h := Option.some.inj h
            subst h
            exact q_less [.s 6, .s 7, .h 1, .h 2] [sO 6 (.ptr 1 0), sO 7 (.ptr 2 0), hB 1 22 [.arr .u8 32 m64], hB 2 22 [.arr .u8 32 a3]] (by kernel_rfl) hx0

end Go.Proofs.Sb
