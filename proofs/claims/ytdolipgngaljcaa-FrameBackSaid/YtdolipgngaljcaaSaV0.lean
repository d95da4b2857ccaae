/- Walks, printed by a program of this session (gowalk.py): each Go function comes to its plain function's answer. -/
import Derived.Test.YtdolipgngaljcaaSaA
import Derived.Test.YtdolipgngaljcaaSaD
import Derived.Test.YtdolipgngaljcaaGwI
namespace Go.Proofs.Sa
open Go Go.Gw D
set_option linter.unusedVariables false
set_option maxRecDepth 20000

theorem keep_Twin_ok (b_0 : List Int) (r : List Int) (h : keep_Twin b_0 = some r) : CallOk P 23 [.v (.one (.slc 9000))] [(9000, .rd .u8 b_0)] (.v (.one (.slc 8900))) [(8900, .own 5 .u8 r)] := by
  refine call1 (N := 7) Try.func23 (by kernel_rfl) rfl rfl rfl [(9000, .rd .u8 b_0)] (by kernel_rfl) ?_
  intro _ B w0
  show Tr P B 7 w0 _ _ (RetQ P Try.f23 (R1 _ _ B w0))
  unfold keep_Twin at h
  refine tr_seq ?_
  refine tr_reg hT [] [.s 0, .h 9000] [sO 0 (.slc 9000), hR 9000 .u8 b_0] [] (by kernel_rfl) trivial ?_
  refine q_k ?_
  refine tr_seq ?_
  refine tr_reg hT [] [.s 0, .s 3, .h 9000] [sO 0 (.slc 9000), sO 3 (.nils), hR 9000 .u8 b_0] [] (by kernel_rfl) trivial ?_
  refine q_k ?_
  refine tr_seq ?_
  obtain ⟨hn1, h⟩ := ite_some h
  refine tr_reg hT [(2, .key 0)] [.s 2, .h 0] [sO 2 (.slc 0), hO 0 5 .u8 b_0] [List.length b_0 ≤ maxN] (by kernel_rfl) (hone hn1) ?_
  refine q_k ?_
  refine tr_ret ?_
  have h := Option.some.inj h
  subst h
  refine q_fit [(8900, .slc 0)] [sO 2 (.slc 8900), hO 8900 5 .u8 b_0] [(8900, .own 5 .u8 b_0)] (by kernel_rfl) (by kernel_rfl) (by kernel_rfl) rfl ⟨.own (by kernel_rfl), trivial⟩ (by kernel_rfl) ?_
  exact q_ret1 hT (.v (.one (.slc 8900))) [(8900, .own 5 .u8 b_0)] (by kernel_rfl) (by kernel_rfl) (by kernel_rfl)

theorem crc_steps_ok (r : List Int) (h : crc_steps = some r) {pre : List (Nat × Ent)} : CallOk P 49 [] pre (.v (.agg [.arr .u32 16 r])) [] := by
  refine call0 (N := 26) Try.func49 (by kernel_rfl) rfl rfl rfl pre ?_
  intro _ w
  show Tr P (Ge w) 26 _ _ _ (RetQ P Try.f49 (R0 _ w))
  unfold crc_steps at h
  refine tr_seq ?_
  refine tr_reg hT [(0, .key 0)] [.s 0, .h 0] [sO 0 (.ptr 0 0), hB 0 70 [.arr .u32 16 (List.replicate 16 0)]] [] (by kernel_rfl) trivial ?_
  refine q_k ?_
  refine tr_seq ?_
  refine tr_reg hT [(0, .key 1)] [.s 0, .s 1, .h 0, .h 1] [sO 0 (.ptr 0 0), sO 1 (.ptr 1 0), hB 0 70 [.arr .u32 16 (List.replicate 16 0)], hB 1 70 [.arr .u32 16 (List.replicate 16 0)]] [] (by kernel_rfl) trivial ?_
  refine q_k ?_
  refine tr_seq ?_
  refine tr_seq ?_
  refine tr_reg hT [] [.s 0, .s 1, .s 5, .h 0, .h 1] [sO 0 (.ptr 0 0), sO 1 (.ptr 1 0), sI 5 .i64 (0 : Int), hB 0 70 [.arr .u32 16 (List.replicate 16 0)], hB 1 70 [.arr .u32 16 (List.replicate 16 0)]] [] (by kernel_rfl) trivial ?_
  refine q_k ?_
  refine tr_block ?_
  obtain ⟨m3, e12, h⟩ := bind_some h
  refine tr_fit [] [sO 0 (.ptr 0 0), sO 1 (.ptr 1 0), sI 5 .i64 (0 : Int), hB 0 70 [.arr .u32 16 (List.replicate 16 0)], hB 1 70 [.arr .u32 16 (List.replicate 16 0)]] [(0, .blk 70 [.arr .u32 16 (List.replicate 16 0)]), (1, .blk 70 [.arr .u32 16 (List.replicate 16 0)])] (by kernel_rfl) (by kernel_rfl) (by kernel_rfl) rfl ⟨.blk (by kernel_rfl) (by kernel_rfl), .blk (by kernel_rfl) (by kernel_rfl), trivial⟩ (by kernel_rfl) ?_
  refine tr_loop_fuel (id := 0) (α := List Int × Int) (β := List Int) (fun z => [sO 0 (.ptr 0 0), sO 1 (.ptr 1 0), sI 5 .i64 z.2, hB 0 70 [.arr .u32 16 (List.replicate 16 0)], hB 1 70 [.arr .u32 16 z.1]]) (fun z => [sO 0 (.ptr 0 0), sO 1 (.ptr 1 0), hB 0 70 [.arr .u32 16 (List.replicate 16 0)], hB 1 70 [.arr .u32 16 z]]) (fun k z => crc_steps_l0 k z.1 z.2) m3 (fun _ => rfl) (((16 : Int) - (0 : Int)).toNat + 1) ((List.replicate 16 0), (0 : Int)) e12 ?_ ?_
  · skip
    replace h : (some m3) = _ := h
    refine q_b_this ?_
    refine q_k ?_
    refine tr_seq ?_
    refine tr_reg hT [] [.s 0, .h 0] [sO 0 (.ptr 0 0), hB 0 70 [.arr .u32 16 m3]] [] (by kernel_rfl) trivial ?_
    refine q_k ?_
    refine tr_ret ?_
    have h := Option.some.inj h
    subst h
    exact q_ret0 hT (.v (.agg [.arr .u32 16 m3])) rfl (by kernel_rfl)
  · clear h e12
    intro k ih0 hx0 z h
    obtain ⟨m1, x2⟩ := z
    replace h : (if (decide (x2 < (16 : Int))) = true then (crc_steps_l1 m1 x2 (((4 : Int) - (0 : Int)).toNat + 1) (IntKind.u32.wrap x2) (0 : Int)).bind (fun r7 => if 0 ≤ x2 ∧ x2 < ((16 : Nat) : Int) then crc_steps_l0 k (m1.set x2.toNat r7) (IntKind.i64.wrap (x2 + (1 : Int))) else none) else some m1) = _ := h
    refine tr_seq ?_
    refine tr_reg hT [] [.s 0, .s 1, .s 5, .s 6, .h 0, .h 1] [sO 0 (.ptr 0 0), sO 1 (.ptr 1 0), sI 5 .i64 x2, sB 6 (decide (x2 < (16 : Int))), hB 0 70 [.arr .u32 16 (List.replicate 16 0)], hB 1 70 [.arr .u32 16 m1]] [] (by kernel_rfl) trivial ?_
    refine q_k ?_
    refine tr_seq ?_
    rcases ite_split h with ⟨hc4, h⟩ | ⟨hc4, h⟩
    · refine tr_cond_t (decide (x2 < (16 : Int))) (by kernel_rfl) hc4 ?_
      refine tr_skip ?_
      refine q_k ?_
      refine tr_seq ?_
      refine tr_block ?_
      refine tr_seq ?_
      refine tr_reg hT [] [.s 0, .s 1, .s 2, .s 5, .h 0, .h 1] [sO 0 (.ptr 0 0), sO 1 (.ptr 1 0), sI 2 .i64 x2, sI 5 .i64 x2, hB 0 70 [.arr .u32 16 (List.replicate 16 0)], hB 1 70 [.arr .u32 16 m1]] [] (by kernel_rfl) trivial ?_
      refine q_k ?_
      refine tr_seq ?_
      refine tr_reg hT [] [.s 0, .s 1, .s 2, .s 3, .s 5, .h 0, .h 1] [sO 0 (.ptr 0 0), sO 1 (.ptr 1 0), sI 2 .i64 x2, sI 3 .u32 (IntKind.u32.wrap x2), sI 5 .i64 x2, hB 0 70 [.arr .u32 16 (List.replicate 16 0)], hB 1 70 [.arr .u32 16 m1]] [] (by kernel_rfl) trivial ?_
      refine q_k ?_
      refine tr_seq ?_
      refine tr_seq ?_
      refine tr_reg hT [] [.s 0, .s 1, .s 2, .s 3, .s 5, .s 10, .h 0, .h 1] [sO 0 (.ptr 0 0), sO 1 (.ptr 1 0), sI 2 .i64 x2, sI 3 .u32 (IntKind.u32.wrap x2), sI 5 .i64 x2, sI 10 .i64 (0 : Int), hB 0 70 [.arr .u32 16 (List.replicate 16 0)], hB 1 70 [.arr .u32 16 m1]] [] (by kernel_rfl) trivial ?_
      refine q_k ?_
      refine tr_block ?_
      obtain ⟨r7, e10, h⟩ := bind_some h
      refine tr_fit [] [sO 0 (.ptr 0 0), sO 1 (.ptr 1 0), sI 2 .i64 x2, sI 3 .u32 (IntKind.u32.wrap x2), sI 5 .i64 x2, sI 10 .i64 (0 : Int), hB 0 70 [.arr .u32 16 (List.replicate 16 0)], hB 1 70 [.arr .u32 16 m1]] [(0, .blk 70 [.arr .u32 16 (List.replicate 16 0)]), (1, .blk 70 [.arr .u32 16 m1])] (by kernel_rfl) (by kernel_rfl) (by kernel_rfl) rfl ⟨.blk (by kernel_rfl) (by kernel_rfl), .blk (by kernel_rfl) (by kernel_rfl), trivial⟩ (by kernel_rfl) ?_
      refine tr_loop_fuel (id := 2) (α := Int × Int) (β := Int) (fun z => [sO 0 (.ptr 0 0), sO 1 (.ptr 1 0), sI 2 .i64 x2, sI 3 .u32 z.1, sI 5 .i64 x2, sI 10 .i64 z.2, hB 0 70 [.arr .u32 16 (List.replicate 16 0)], hB 1 70 [.arr .u32 16 m1]]) (fun z => [sO 0 (.ptr 0 0), sO 1 (.ptr 1 0), sI 2 .i64 x2, sI 3 .u32 z, sI 5 .i64 x2, hB 0 70 [.arr .u32 16 (List.replicate 16 0)], hB 1 70 [.arr .u32 16 m1]]) (fun k z => crc_steps_l1 m1 x2 k z.1 z.2) r7 (fun _ => rfl) (((4 : Int) - (0 : Int)).toNat + 1) ((IntKind.u32.wrap x2), (0 : Int)) e10 ?_ ?_
      · skip
        replace h : (if 0 ≤ x2 ∧ x2 < ((16 : Nat) : Int) then crc_steps_l0 k (m1.set x2.toNat r7) (IntKind.i64.wrap (x2 + (1 : Int))) else none) = _ := h
        refine q_b_this ?_
        refine q_k ?_
        obtain ⟨hn11, h⟩ := ite_some h
        refine tr_reg hT [] [.s 0, .s 1, .s 5, .h 0, .h 1] [sO 0 (.ptr 0 0), sO 1 (.ptr 1 0), sI 5 .i64 x2, hB 0 70 [.arr .u32 16 (List.replicate 16 0)], hB 1 70 [.arr .u32 16 (m1.set x2.toNat r7)]] [0 ≤ x2 ∧ x2 < ((16 : Nat) : Int)] (by kernel_rfl) (hone hn11) ?_
        refine q_b 1 ?_
        refine q_k ?_
        refine tr_reg hT [] [.s 0, .s 1, .s 5, .h 0, .h 1] [sO 0 (.ptr 0 0), sO 1 (.ptr 1 0), sI 5 .i64 (IntKind.i64.wrap (x2 + (1 : Int))), hB 0 70 [.arr .u32 16 (List.replicate 16 0)], hB 1 70 [.arr .u32 16 (m1.set x2.toNat r7)]] [] (by kernel_rfl) trivial ?_
        refine q_kr ?_
        exact trR_less [.s 0, .s 1, .s 5, .h 0, .h 1] [sO 0 (.ptr 0 0), sO 1 (.ptr 1 0), sI 5 .i64 (IntKind.i64.wrap (x2 + (1 : Int))), hB 0 70 [.arr .u32 16 (List.replicate 16 0)], hB 1 70 [.arr .u32 16 (m1.set x2.toNat r7)]] (by kernel_rfl) (ih0 ((m1.set x2.toNat r7), (IntKind.i64.wrap (x2 + (1 : Int)))) h)
      · clear h e10
        intro k ih1 hx1 z h
        obtain ⟨r5, x6⟩ := z
        replace h : (if (decide (x6 < (4 : Int))) = true then if ((band .u32 r5 (1 : Int)) == (1 : Int)) = true then crc_steps_l1 m1 x2 k (bxor .u32 (shr .u32 r5 (1 : Int)) (3988292384 : Int)) (IntKind.i64.wrap (x6 + (1 : Int))) else crc_steps_l1 m1 x2 k (shr .u32 r5 (1 : Int)) (IntKind.i64.wrap (x6 + (1 : Int))) else some r5) = _ := h
        refine tr_seq ?_
        refine tr_reg hT [] [.s 0, .s 1, .s 2, .s 3, .s 5, .s 10, .s 11, .h 0, .h 1] [sO 0 (.ptr 0 0), sO 1 (.ptr 1 0), sI 2 .i64 x2, sI 3 .u32 r5, sI 5 .i64 x2, sI 10 .i64 x6, sB 11 (decide (x6 < (4 : Int))), hB 0 70 [.arr .u32 16 (List.replicate 16 0)], hB 1 70 [.arr .u32 16 m1]] [] (by kernel_rfl) trivial ?_
        refine q_k ?_
        refine tr_seq ?_
        rcases ite_split h with ⟨hc8, h⟩ | ⟨hc8, h⟩
        · refine tr_cond_t (decide (x6 < (4 : Int))) (by kernel_rfl) hc8 ?_
          refine tr_skip ?_
          refine q_k ?_
          refine tr_seq ?_
          refine tr_block ?_
          refine tr_seq ?_
          refine tr_reg hT [] [.s 0, .s 1, .s 2, .s 3, .s 4, .s 5, .s 10, .h 0, .h 1] [sO 0 (.ptr 0 0), sO 1 (.ptr 1 0), sI 2 .i64 x2, sI 3 .u32 r5, sI 4 .u32 (band .u32 r5 (1 : Int)), sI 5 .i64 x2, sI 10 .i64 x6, hB 0 70 [.arr .u32 16 (List.replicate 16 0)], hB 1 70 [.arr .u32 16 m1]] [] (by kernel_rfl) trivial ?_
          refine q_k ?_
          refine tr_seq ?_
          refine tr_reg hT [] [.s 0, .s 1, .s 2, .s 3, .s 4, .s 5, .s 10, .h 0, .h 1] [sO 0 (.ptr 0 0), sO 1 (.ptr 1 0), sI 2 .i64 x2, sI 3 .u32 (shr .u32 r5 (1 : Int)), sI 4 .u32 (band .u32 r5 (1 : Int)), sI 5 .i64 x2, sI 10 .i64 x6, hB 0 70 [.arr .u32 16 (List.replicate 16 0)], hB 1 70 [.arr .u32 16 m1]] [0 ≤ (1 : Int)] (by kernel_rfl) (hone (by decide)) ?_
          refine q_k ?_
          refine tr_seq ?_
          refine tr_reg hT [] [.s 0, .s 1, .s 2, .s 3, .s 5, .s 10, .s 17, .h 0, .h 1] [sO 0 (.ptr 0 0), sO 1 (.ptr 1 0), sI 2 .i64 x2, sI 3 .u32 (shr .u32 r5 (1 : Int)), sI 5 .i64 x2, sI 10 .i64 x6, sB 17 ((band .u32 r5 (1 : Int)) == (1 : Int)), hB 0 70 [.arr .u32 16 (List.replicate 16 0)], hB 1 70 [.arr .u32 16 m1]] [] (by kernel_rfl) trivial ?_
          refine q_k ?_
          rcases ite_split h with ⟨hc9, h⟩ | ⟨hc9, h⟩
          · refine tr_cond_t ((band .u32 r5 (1 : Int)) == (1 : Int)) (by kernel_rfl) hc9 ?_
            refine tr_reg hT [] [.s 0, .s 1, .s 2, .s 3, .s 5, .s 10, .h 0, .h 1] [sO 0 (.ptr 0 0), sO 1 (.ptr 1 0), sI 2 .i64 x2, sI 3 .u32 (bxor .u32 (shr .u32 r5 (1 : Int)) (3988292384 : Int)), sI 5 .i64 x2, sI 10 .i64 x6, hB 0 70 [.arr .u32 16 (List.replicate 16 0)], hB 1 70 [.arr .u32 16 m1]] [] (by kernel_rfl) trivial ?_
            refine q_b 3 ?_
            refine q_k ?_
            refine tr_reg hT [] [.s 0, .s 1, .s 2, .s 3, .s 5, .s 10, .h 0, .h 1] [sO 0 (.ptr 0 0), sO 1 (.ptr 1 0), sI 2 .i64 x2, sI 3 .u32 (bxor .u32 (shr .u32 r5 (1 : Int)) (3988292384 : Int)), sI 5 .i64 x2, sI 10 .i64 (IntKind.i64.wrap (x6 + (1 : Int))), hB 0 70 [.arr .u32 16 (List.replicate 16 0)], hB 1 70 [.arr .u32 16 m1]] [] (by kernel_rfl) trivial ?_
            refine q_kr ?_
            exact trR_less [.s 0, .s 1, .s 2, .s 3, .s 5, .s 10, .h 0, .h 1] [sO 0 (.ptr 0 0), sO 1 (.ptr 1 0), sI 2 .i64 x2, sI 3 .u32 (bxor .u32 (shr .u32 r5 (1 : Int)) (3988292384 : Int)), sI 5 .i64 x2, sI 10 .i64 (IntKind.i64.wrap (x6 + (1 : Int))), hB 0 70 [.arr .u32 16 (List.replicate 16 0)], hB 1 70 [.arr .u32 16 m1]] (by kernel_rfl) (ih1 ((bxor .u32 (shr .u32 r5 (1 : Int)) (3988292384 : Int)), (IntKind.i64.wrap (x6 + (1 : Int)))) h)
          · refine tr_cond_f ((band .u32 r5 (1 : Int)) == (1 : Int)) (by kernel_rfl) hc9 ?_
            refine tr_skip ?_
            refine q_b 3 ?_
            refine q_k ?_
            refine tr_reg hT [] [.s 0, .s 1, .s 2, .s 3, .s 5, .s 10, .h 0, .h 1] [sO 0 (.ptr 0 0), sO 1 (.ptr 1 0), sI 2 .i64 x2, sI 3 .u32 (shr .u32 r5 (1 : Int)), sI 5 .i64 x2, sI 10 .i64 (IntKind.i64.wrap (x6 + (1 : Int))), hB 0 70 [.arr .u32 16 (List.replicate 16 0)], hB 1 70 [.arr .u32 16 m1]] [] (by kernel_rfl) trivial ?_
            refine q_kr ?_
            exact trR_less [.s 0, .s 1, .s 2, .s 3, .s 5, .s 10, .h 0, .h 1] [sO 0 (.ptr 0 0), sO 1 (.ptr 1 0), sI 2 .i64 x2, sI 3 .u32 (shr .u32 r5 (1 : Int)), sI 5 .i64 x2, sI 10 .i64 (IntKind.i64.wrap (x6 + (1 : Int))), hB 0 70 [.arr .u32 16 (List.replicate 16 0)], hB 1 70 [.arr .u32 16 m1]] (by kernel_rfl) (ih1 ((shr .u32 r5 (1 : Int)), (IntKind.i64.wrap (x6 + (1 : Int)))) h)
        · refine tr_cond_f (decide (x6 < (4 : Int))) (by kernel_rfl) hc8 ?_
          refine tr_exit ?_
          refine q_k_exit ?_
          refine q_kr_exit ?_
          have h := Option.some.inj h
          subst h
          exact q_less [.s 0, .s 1, .s 2, .s 3, .s 5, .h 0, .h 1] [sO 0 (.ptr 0 0), sO 1 (.ptr 1 0), sI 2 .i64 x2, sI 3 .u32 r5, sI 5 .i64 x2, hB 0 70 [.arr .u32 16 (List.replicate 16 0)], hB 1 70 [.arr .u32 16 m1]] (by kernel_rfl) hx1
    · refine tr_cond_f (decide (x2 < (16 : Int))) (by kernel_rfl) hc4 ?_
      refine tr_exit ?_
      refine q_k_exit ?_
      refine q_kr_exit ?_
      have h := Option.some.inj h
      subst h
      exact q_less [.s 0, .s 1, .h 0, .h 1] [sO 0 (.ptr 0 0), sO 1 (.ptr 1 0), hB 0 70 [.arr .u32 16 (List.replicate 16 0)], hB 1 70 [.arr .u32 16 m1]] (by kernel_rfl) hx0

theorem crc_Sum_ok (b_0 : List Int) (r : Int) (h : crc_Sum b_0 = some r) : CallOk P 24 [.v (.one (.slc 9000))] [(9000, .rd .u8 b_0)] (.v (.one (.int .u32 r))) [] := by
  refine call1 (N := 35) Try.func24 (by kernel_rfl) rfl rfl rfl [(9000, .rd .u8 b_0)] (by kernel_rfl) ?_
  intro _ B w0
  show Tr P B 35 w0 _ _ (RetQ P Try.f24 (R1 _ _ B w0))
  unfold crc_Sum at h
  refine tr_seq ?_
  refine tr_reg hT [] [.s 0, .h 9000] [sO 0 (.slc 9000), hR 9000 .u8 b_0] [] (by kernel_rfl) trivial ?_
  refine q_k ?_
  refine tr_seq ?_
  obtain ⟨a1, e2, h⟩ := bind_some h
  refine tr_reg hT [(0, .call [] (.v (.agg [.arr .u32 16 a1])) []), (1, .key 0)] [.s 0, .s 3, .s 4, .h 0, .h 9000] [sO 0 (.slc 9000), sO 3 (.ptr 0 0), sI 4 .u32 (4294967295 : Int), hB 0 70 [.arr .u32 16 a1], hR 9000 .u8 b_0] [CallOk P 49 [] [] (.v (.agg [.arr .u32 16 a1])) []] (by kernel_rfl) (hone (crc_steps_ok  a1 e2)) ?_
  refine q_k ?_
  refine tr_seq ?_
  refine tr_seq ?_
  refine tr_reg hT [] [.s 3, .s 4, .s 8, .s 9, .s 10, .h 0, .h 9000] [sO 3 (.ptr 0 0), sI 4 .u32 (4294967295 : Int), sO 8 (.slc 9000), sI 9 .i64 (↑(List.length b_0) : Int), sI 10 .i64 (0 : Int), hB 0 70 [.arr .u32 16 a1], hR 9000 .u8 b_0] [] (by kernel_rfl) trivial ?_
  refine q_k ?_
  refine tr_block ?_
  obtain ⟨r5, e10, h⟩ := bind_some h
  refine tr_fit [] [sO 3 (.ptr 0 0), sI 4 .u32 (4294967295 : Int), sO 8 (.slc 9000), sI 9 .i64 (↑(List.length b_0) : Int), sI 10 .i64 (0 : Int), hB 0 70 [.arr .u32 16 a1], hR 9000 .u8 b_0] [(0, .blk 70 [.arr .u32 16 a1]), (9000, .rd .u8 b_0)] (by kernel_rfl) (by kernel_rfl) (by kernel_rfl) rfl ⟨.blk (by kernel_rfl) (by kernel_rfl), .rd (by kernel_rfl), trivial⟩ (by kernel_rfl) ?_
  refine tr_loop_fuel (id := 0) (α := Int × Int) (β := Int) (fun z => [sO 3 (.ptr 0 0), sI 4 .u32 z.1, sO 8 (.slc 9000), sI 9 .i64 (↑(List.length b_0) : Int), sI 10 .i64 z.2, hB 0 70 [.arr .u32 16 a1], hR 9000 .u8 b_0]) (fun z => [sI 4 .u32 z]) (fun k z => crc_Sum_l0 b_0 a1 k z.1 z.2) r5 (fun _ => rfl) (((↑(List.length b_0) : Int) - (0 : Int)).toNat + 1) ((4294967295 : Int), (0 : Int)) e10 ?_ ?_
  · skip
    replace h : (some (bxor .u32 r5 (4294967295 : Int))) = _ := h
    refine q_b_this ?_
    refine q_k ?_
    refine tr_seq ?_
    refine tr_reg hT [] [.s 2] [sI 2 .u32 (bxor .u32 r5 (4294967295 : Int))] [] (by kernel_rfl) trivial ?_
    refine q_k ?_
    refine tr_ret ?_
    have h := Option.some.inj h
    subst h
    refine q_less [.s 2] [sI 2 .u32 (bxor .u32 r5 (4294967295 : Int))] (by kernel_rfl) ?_
    exact q_ret1 hT (.v (.one (.int .u32 (bxor .u32 r5 (4294967295 : Int))))) [] (by kernel_rfl) (by kernel_rfl) (by kernel_rfl)
  · clear h e10
    intro k ih0 hx0 z h
    obtain ⟨r3, x4⟩ := z
    replace h : (if (decide (x4 < (↑(List.length b_0) : Int))) = true then if 0 ≤ x4 ∧ x4 < ↑(List.length b_0) then if 0 ≤ (band .u32 (bxor .u32 r3 (IntKind.u32.wrap (b_0.getD x4.toNat 0))) (15 : Int)) ∧ (band .u32 (bxor .u32 r3 (IntKind.u32.wrap (b_0.getD x4.toNat 0))) (15 : Int)) < ((16 : Nat) : Int) then if 0 ≤ (band .u32 (bxor .u32 (shr .u32 (bxor .u32 r3 (IntKind.u32.wrap (b_0.getD x4.toNat 0))) (4 : Int)) (a1.getD (band .u32 (bxor .u32 r3 (IntKind.u32.wrap (b_0.getD x4.toNat 0))) (15 : Int)).toNat 0)) (15 : Int)) ∧ (band .u32 (bxor .u32 (shr .u32 (bxor .u32 r3 (IntKind.u32.wrap (b_0.getD x4.toNat 0))) (4 : Int)) (a1.getD (band .u32 (bxor .u32 r3 (IntKind.u32.wrap (b_0.getD x4.toNat 0))) (15 : Int)).toNat 0)) (15 : Int)) < ((16 : Nat) : Int) then crc_Sum_l0 b_0 a1 k (bxor .u32 (shr .u32 (bxor .u32 (shr .u32 (bxor .u32 r3 (IntKind.u32.wrap (b_0.getD x4.toNat 0))) (4 : Int)) (a1.getD (band .u32 (bxor .u32 r3 (IntKind.u32.wrap (b_0.getD x4.toNat 0))) (15 : Int)).toNat 0)) (4 : Int)) (a1.getD (band .u32 (bxor .u32 (shr .u32 (bxor .u32 r3 (IntKind.u32.wrap (b_0.getD x4.toNat 0))) (4 : Int)) (a1.getD (band .u32 (bxor .u32 r3 (IntKind.u32.wrap (b_0.getD x4.toNat 0))) (15 : Int)).toNat 0)) (15 : Int)).toNat 0)) (IntKind.i64.wrap (x4 + (1 : Int))) else none else none else none else some r3) = _ := h
    refine tr_seq ?_
    refine tr_reg hT [] [.s 3, .s 4, .s 8, .s 9, .s 10, .s 11, .h 0, .h 9000] [sO 3 (.ptr 0 0), sI 4 .u32 r3, sO 8 (.slc 9000), sI 9 .i64 (↑(List.length b_0) : Int), sI 10 .i64 x4, sB 11 (decide (x4 < (↑(List.length b_0) : Int))), hB 0 70 [.arr .u32 16 a1], hR 9000 .u8 b_0] [] (by kernel_rfl) trivial ?_
    refine q_k ?_
    refine tr_seq ?_
    rcases ite_split h with ⟨hc6, h⟩ | ⟨hc6, h⟩
    · refine tr_cond_t (decide (x4 < (↑(List.length b_0) : Int))) (by kernel_rfl) hc6 ?_
      refine tr_skip ?_
      refine q_k ?_
      refine tr_seq ?_
      refine tr_block ?_
      refine tr_seq ?_
      obtain ⟨hn7, h⟩ := ite_some h
      refine tr_reg hT [] [.s 3, .s 4, .s 6, .s 8, .s 9, .s 10, .h 0, .h 9000] [sO 3 (.ptr 0 0), sI 4 .u32 r3, sI 6 .u8 (b_0.getD x4.toNat 0), sO 8 (.slc 9000), sI 9 .i64 (↑(List.length b_0) : Int), sI 10 .i64 x4, hB 0 70 [.arr .u32 16 a1], hR 9000 .u8 b_0] [0 ≤ x4 ∧ x4 < ↑(List.length b_0), x4 < ↑(List.length b_0)] (by kernel_rfl) (hcons hn7 (hone hn7.2)) ?_
      refine q_k ?_
      refine tr_seq ?_
      refine tr_reg hT [] [.s 3, .s 4, .s 8, .s 9, .s 10, .h 0, .h 9000] [sO 3 (.ptr 0 0), sI 4 .u32 (bxor .u32 r3 (IntKind.u32.wrap (b_0.getD x4.toNat 0))), sO 8 (.slc 9000), sI 9 .i64 (↑(List.length b_0) : Int), sI 10 .i64 x4, hB 0 70 [.arr .u32 16 a1], hR 9000 .u8 b_0] [] (by kernel_rfl) trivial ?_
      refine q_k ?_
      refine tr_seq ?_
      obtain ⟨hn8, h⟩ := ite_some h
      refine tr_reg hT [] [.s 3, .s 4, .s 8, .s 9, .s 10, .h 0, .h 9000] [sO 3 (.ptr 0 0), sI 4 .u32 (bxor .u32 (shr .u32 (bxor .u32 r3 (IntKind.u32.wrap (b_0.getD x4.toNat 0))) (4 : Int)) (a1.getD (band .u32 (bxor .u32 r3 (IntKind.u32.wrap (b_0.getD x4.toNat 0))) (15 : Int)).toNat 0)), sO 8 (.slc 9000), sI 9 .i64 (↑(List.length b_0) : Int), sI 10 .i64 x4, hB 0 70 [.arr .u32 16 a1], hR 9000 .u8 b_0] [0 ≤ (4 : Int), 0 ≤ (band .u32 (bxor .u32 r3 (IntKind.u32.wrap (b_0.getD x4.toNat 0))) (15 : Int)) ∧ (band .u32 (bxor .u32 r3 (IntKind.u32.wrap (b_0.getD x4.toNat 0))) (15 : Int)) < ((16 : Nat) : Int)] (by kernel_rfl) (hcons (by decide) (hone hn8)) ?_
      refine q_k ?_
      obtain ⟨hn9, h⟩ := ite_some h
      refine tr_reg hT [] [.s 3, .s 4, .s 8, .s 9, .s 10, .h 0, .h 9000] [sO 3 (.ptr 0 0), sI 4 .u32 (bxor .u32 (shr .u32 (bxor .u32 (shr .u32 (bxor .u32 r3 (IntKind.u32.wrap (b_0.getD x4.toNat 0))) (4 : Int)) (a1.getD (band .u32 (bxor .u32 r3 (IntKind.u32.wrap (b_0.getD x4.toNat 0))) (15 : Int)).toNat 0)) (4 : Int)) (a1.getD (band .u32 (bxor .u32 (shr .u32 (bxor .u32 r3 (IntKind.u32.wrap (b_0.getD x4.toNat 0))) (4 : Int)) (a1.getD (band .u32 (bxor .u32 r3 (IntKind.u32.wrap (b_0.getD x4.toNat 0))) (15 : Int)).toNat 0)) (15 : Int)).toNat 0)), sO 8 (.slc 9000), sI 9 .i64 (↑(List.length b_0) : Int), sI 10 .i64 x4, hB 0 70 [.arr .u32 16 a1], hR 9000 .u8 b_0] [0 ≤ (4 : Int), 0 ≤ (band .u32 (bxor .u32 (shr .u32 (bxor .u32 r3 (IntKind.u32.wrap (b_0.getD x4.toNat 0))) (4 : Int)) (a1.getD (band .u32 (bxor .u32 r3 (IntKind.u32.wrap (b_0.getD x4.toNat 0))) (15 : Int)).toNat 0)) (15 : Int)) ∧ (band .u32 (bxor .u32 (shr .u32 (bxor .u32 r3 (IntKind.u32.wrap (b_0.getD x4.toNat 0))) (4 : Int)) (a1.getD (band .u32 (bxor .u32 r3 (IntKind.u32.wrap (b_0.getD x4.toNat 0))) (15 : Int)).toNat 0)) (15 : Int)) < ((16 : Nat) : Int)] (by kernel_rfl) (hcons (by decide) (hone hn9)) ?_
      refine q_b 1 ?_
      refine q_k ?_
      refine tr_reg hT [] [.s 3, .s 4, .s 8, .s 9, .s 10, .h 0, .h 9000] [sO 3 (.ptr 0 0), sI 4 .u32 (bxor .u32 (shr .u32 (bxor .u32 (shr .u32 (bxor .u32 r3 (IntKind.u32.wrap (b_0.getD x4.toNat 0))) (4 : Int)) (a1.getD (band .u32 (bxor .u32 r3 (IntKind.u32.wrap (b_0.getD x4.toNat 0))) (15 : Int)).toNat 0)) (4 : Int)) (a1.getD (band .u32 (bxor .u32 (shr .u32 (bxor .u32 r3 (IntKind.u32.wrap (b_0.getD x4.toNat 0))) (4 : Int)) (a1.getD (band .u32 (bxor .u32 r3 (IntKind.u32.wrap (b_0.getD x4.toNat 0))) (15 : Int)).toNat 0)) (15 : Int)).toNat 0)), sO 8 (.slc 9000), sI 9 .i64 (↑(List.length b_0) : Int), sI 10 .i64 (IntKind.i64.wrap (x4 + (1 : Int))), hB 0 70 [.arr .u32 16 a1], hR 9000 .u8 b_0] [] (by kernel_rfl) trivial ?_
      refine q_kr ?_
      exact trR_less [.s 3, .s 4, .s 8, .s 9, .s 10, .h 0, .h 9000] [sO 3 (.ptr 0 0), sI 4 .u32 (bxor .u32 (shr .u32 (bxor .u32 (shr .u32 (bxor .u32 r3 (IntKind.u32.wrap (b_0.getD x4.toNat 0))) (4 : Int)) (a1.getD (band .u32 (bxor .u32 r3 (IntKind.u32.wrap (b_0.getD x4.toNat 0))) (15 : Int)).toNat 0)) (4 : Int)) (a1.getD (band .u32 (bxor .u32 (shr .u32 (bxor .u32 r3 (IntKind.u32.wrap (b_0.getD x4.toNat 0))) (4 : Int)) (a1.getD (band .u32 (bxor .u32 r3 (IntKind.u32.wrap (b_0.getD x4.toNat 0))) (15 : Int)).toNat 0)) (15 : Int)).toNat 0)), sO 8 (.slc 9000), sI 9 .i64 (↑(List.length b_0) : Int), sI 10 .i64 (IntKind.i64.wrap (x4 + (1 : Int))), hB 0 70 [.arr .u32 16 a1], hR 9000 .u8 b_0] (by kernel_rfl) (ih0 ((bxor .u32 (shr .u32 (bxor .u32 (shr .u32 (bxor .u32 r3 (IntKind.u32.wrap (b_0.getD x4.toNat 0))) (4 : Int)) (a1.getD (band .u32 (bxor .u32 r3 (IntKind.u32.wrap (b_0.getD x4.toNat 0))) (15 : Int)).toNat 0)) (4 : Int)) (a1.getD (band .u32 (bxor .u32 (shr .u32 (bxor .u32 r3 (IntKind.u32.wrap (b_0.getD x4.toNat 0))) (4 : Int)) (a1.getD (band .u32 (bxor .u32 r3 (IntKind.u32.wrap (b_0.getD x4.toNat 0))) (15 : Int)).toNat 0)) (15 : Int)).toNat 0)), (IntKind.i64.wrap (x4 + (1 : Int)))) h)
    · refine tr_cond_f (decide (x4 < (↑(List.length b_0) : Int))) (by kernel_rfl) hc6 ?_
      refine tr_exit ?_
      refine q_k_exit ?_
      refine q_kr_exit ?_
      have h := Option.some.inj h
      subst h
      exact q_less [.s 4] [sI 4 .u32 r3] (by kernel_rfl) hx0

theorem ref01_Crc_ok (b_0 : List Int) (r : Int) (h : ref01_Crc b_0 = some r) : CallOk P 25 [.v (.one (.slc 9000))] [(9000, .rd .u8 b_0)] (.v (.one (.int .u32 r))) [] := by
  refine call1 (N := 37) Try.func25 (by kernel_rfl) rfl rfl rfl [(9000, .rd .u8 b_0)] (by kernel_rfl) ?_
  intro _ B w0
  show Tr P B 37 w0 _ _ (RetQ P Try.f25 (R1 _ _ B w0))
  unfold ref01_Crc at h
  refine tr_seq ?_
  refine tr_reg hT [] [.s 0, .h 9000] [sO 0 (.slc 9000), hR 9000 .u8 b_0] [] (by kernel_rfl) trivial ?_
  refine q_k ?_
  refine tr_seq ?_
  refine tr_reg hT [] [.s 0, .s 3, .h 9000] [sO 0 (.slc 9000), sI 3 .u32 (4294967295 : Int), hR 9000 .u8 b_0] [] (by kernel_rfl) trivial ?_
  refine q_k ?_
  refine tr_seq ?_
  refine tr_seq ?_
  refine tr_reg hT [] [.s 0, .s 3, .s 4, .h 9000] [sO 0 (.slc 9000), sI 3 .u32 (4294967295 : Int), sI 4 .i64 (0 : Int), hR 9000 .u8 b_0] [] (by kernel_rfl) trivial ?_
  refine q_k ?_
  refine tr_block ?_
  obtain ⟨r3, e13, h⟩ := bind_some h
  refine tr_fit [] [sO 0 (.slc 9000), sI 3 .u32 (4294967295 : Int), sI 4 .i64 (0 : Int), hR 9000 .u8 b_0] [(9000, .rd .u8 b_0)] (by kernel_rfl) (by kernel_rfl) (by kernel_rfl) rfl ⟨.rd (by kernel_rfl), trivial⟩ (by kernel_rfl) ?_
  refine tr_loop_fuel (id := 0) (α := Int × Int) (β := Int) (fun z => [sO 0 (.slc 9000), sI 3 .u32 z.1, sI 4 .i64 z.2, hR 9000 .u8 b_0]) (fun z => [sI 3 .u32 z]) (fun k z => ref01_Crc_l0 b_0 k z.1 z.2) r3 (fun _ => rfl) (((↑(List.length b_0) : Int) - (0 : Int)).toNat + 1) ((4294967295 : Int), (0 : Int)) e13 ?_ ?_
  · skip
    replace h : (some (bxor .u32 r3 (4294967295 : Int))) = _ := h
    refine q_b_this ?_
    refine q_k ?_
    refine tr_seq ?_
    refine tr_reg hT [] [.s 2] [sI 2 .u32 (bxor .u32 r3 (4294967295 : Int))] [] (by kernel_rfl) trivial ?_
    refine q_k ?_
    refine tr_ret ?_
    have h := Option.some.inj h
    subst h
    refine q_less [.s 2] [sI 2 .u32 (bxor .u32 r3 (4294967295 : Int))] (by kernel_rfl) ?_
    exact q_ret1 hT (.v (.one (.int .u32 (bxor .u32 r3 (4294967295 : Int))))) [] (by kernel_rfl) (by kernel_rfl) (by kernel_rfl)
  · clear h e13
    intro k ih0 hx0 z h
    obtain ⟨r1, i2⟩ := z
    replace h : (if (decide (i2 < (↑(List.length b_0) : Int))) = true then (ref01_Crc_l1 b_0 i2 (((8 : Int) - (0 : Int)).toNat + 1) r1 (0 : Int)).bind (fun r7 => ref01_Crc_l0 b_0 k r7 (IntKind.i64.wrap (i2 + (1 : Int)))) else some r1) = _ := h
    refine tr_seq ?_
    refine tr_seq ?_
    refine tr_reg hT [] [.s 0, .s 3, .s 4, .s 10, .h 9000] [sO 0 (.slc 9000), sI 3 .u32 r1, sI 4 .i64 i2, sB 10 (decide (i2 < (↑(List.length b_0) : Int))), hR 9000 .u8 b_0] [] (by kernel_rfl) trivial ?_
    refine q_k ?_
    rcases ite_split h with ⟨hc4, h⟩ | ⟨hc4, h⟩
    · refine tr_cond_t (decide (i2 < (↑(List.length b_0) : Int))) (by kernel_rfl) hc4 ?_
      refine tr_skip ?_
      refine q_k ?_
      refine tr_seq ?_
      refine tr_block ?_
      refine tr_seq ?_
      refine tr_reg hT [] [.s 0, .s 3, .s 4, .s 5, .h 9000] [sO 0 (.slc 9000), sI 3 .u32 r1, sI 4 .i64 i2, sI 5 .i64 (0 : Int), hR 9000 .u8 b_0] [] (by kernel_rfl) trivial ?_
      refine q_k ?_
      refine tr_block ?_
      obtain ⟨r7, e12, h⟩ := bind_some h
      refine tr_fit [] [sO 0 (.slc 9000), sI 3 .u32 r1, sI 4 .i64 i2, sI 5 .i64 (0 : Int), hR 9000 .u8 b_0] [(9000, .rd .u8 b_0)] (by kernel_rfl) (by kernel_rfl) (by kernel_rfl) rfl ⟨.rd (by kernel_rfl), trivial⟩ (by kernel_rfl) ?_
      refine tr_loop_fuel (id := 2) (α := Int × Int) (β := Int) (fun z => [sO 0 (.slc 9000), sI 3 .u32 z.1, sI 4 .i64 i2, sI 5 .i64 z.2, hR 9000 .u8 b_0]) (fun z => [sO 0 (.slc 9000), sI 3 .u32 z, sI 4 .i64 i2, hR 9000 .u8 b_0]) (fun k z => ref01_Crc_l1 b_0 i2 k z.1 z.2) r7 (fun _ => rfl) (((8 : Int) - (0 : Int)).toNat + 1) (r1, (0 : Int)) e12 ?_ ?_
      · skip
        replace h : (ref01_Crc_l0 b_0 k r7 (IntKind.i64.wrap (i2 + (1 : Int)))) = _ := h
        refine q_b_this ?_
        refine q_b 1 ?_
        refine q_k ?_
        refine tr_reg hT [] [.s 0, .s 3, .s 4, .h 9000] [sO 0 (.slc 9000), sI 3 .u32 r7, sI 4 .i64 (IntKind.i64.wrap (i2 + (1 : Int))), hR 9000 .u8 b_0] [] (by kernel_rfl) trivial ?_
        refine q_kr ?_
        exact trR_less [.s 0, .s 3, .s 4, .h 9000] [sO 0 (.slc 9000), sI 3 .u32 r7, sI 4 .i64 (IntKind.i64.wrap (i2 + (1 : Int))), hR 9000 .u8 b_0] (by kernel_rfl) (ih0 (r7, (IntKind.i64.wrap (i2 + (1 : Int)))) h)
      · clear h e12
        intro k ih1 hx1 z h
        obtain ⟨r5, k6⟩ := z
        replace h : (if (decide (k6 < (8 : Int))) = true then if 0 ≤ i2 ∧ i2 < ↑(List.length b_0) then if 0 ≤ (IntKind.u64.wrap k6) then if ((band .u32 r5 (1 : Int)) != (band .u32 (IntKind.u32.wrap (shr .u8 (b_0.getD i2.toNat 0) (IntKind.u64.wrap k6))) (1 : Int))) = true then ref01_Crc_l1 b_0 i2 k (bxor .u32 (shr .u32 r5 (1 : Int)) (3988292384 : Int)) (IntKind.i64.wrap (k6 + (1 : Int))) else ref01_Crc_l1 b_0 i2 k (shr .u32 r5 (1 : Int)) (IntKind.i64.wrap (k6 + (1 : Int))) else none else none else some r5) = _ := h
        refine tr_seq ?_
        refine tr_seq ?_
        refine tr_reg hT [] [.s 0, .s 3, .s 4, .s 5, .s 14, .h 9000] [sO 0 (.slc 9000), sI 3 .u32 r5, sI 4 .i64 i2, sI 5 .i64 k6, sB 14 (decide (k6 < (8 : Int))), hR 9000 .u8 b_0] [] (by kernel_rfl) trivial ?_
        refine q_k ?_
        rcases ite_split h with ⟨hc8, h⟩ | ⟨hc8, h⟩
        · refine tr_cond_t (decide (k6 < (8 : Int))) (by kernel_rfl) hc8 ?_
          refine tr_skip ?_
          refine q_k ?_
          refine tr_seq ?_
          refine tr_block ?_
          refine tr_seq ?_
          obtain ⟨hn9, h⟩ := ite_some h
          obtain ⟨hn10, h⟩ := ite_some h
          refine tr_reg hT [] [.s 0, .s 3, .s 4, .s 5, .s 6, .h 9000] [sO 0 (.slc 9000), sI 3 .u32 r5, sI 4 .i64 i2, sI 5 .i64 k6, sI 6 .u32 (band .u32 (IntKind.u32.wrap (shr .u8 (b_0.getD i2.toNat 0) (IntKind.u64.wrap k6))) (1 : Int)), hR 9000 .u8 b_0] [0 ≤ i2 ∧ i2 < ↑(List.length b_0), i2 < ↑(List.length b_0), 0 ≤ (IntKind.u64.wrap k6)] (by kernel_rfl) (hcons hn9 (hcons hn9.2 (hone hn10))) ?_
          refine q_k ?_
          refine tr_seq ?_
          refine tr_reg hT [] [.s 0, .s 3, .s 4, .s 5, .s 29, .h 9000] [sO 0 (.slc 9000), sI 3 .u32 r5, sI 4 .i64 i2, sI 5 .i64 k6, sB 29 ((band .u32 r5 (1 : Int)) != (band .u32 (IntKind.u32.wrap (shr .u8 (b_0.getD i2.toNat 0) (IntKind.u64.wrap k6))) (1 : Int))), hR 9000 .u8 b_0] [] (by kernel_rfl) trivial ?_
          refine q_k ?_
          rcases ite_split h with ⟨hc11, h⟩ | ⟨hc11, h⟩
          · refine tr_cond_t ((band .u32 r5 (1 : Int)) != (band .u32 (IntKind.u32.wrap (shr .u8 (b_0.getD i2.toNat 0) (IntKind.u64.wrap k6))) (1 : Int))) (by kernel_rfl) hc11 ?_
            refine tr_reg hT [] [.s 0, .s 3, .s 4, .s 5, .h 9000] [sO 0 (.slc 9000), sI 3 .u32 (bxor .u32 (shr .u32 r5 (1 : Int)) (3988292384 : Int)), sI 4 .i64 i2, sI 5 .i64 k6, hR 9000 .u8 b_0] [0 ≤ (1 : Int)] (by kernel_rfl) (hone (by decide)) ?_
            refine q_b 3 ?_
            refine q_k ?_
            refine tr_reg hT [] [.s 0, .s 3, .s 4, .s 5, .h 9000] [sO 0 (.slc 9000), sI 3 .u32 (bxor .u32 (shr .u32 r5 (1 : Int)) (3988292384 : Int)), sI 4 .i64 i2, sI 5 .i64 (IntKind.i64.wrap (k6 + (1 : Int))), hR 9000 .u8 b_0] [] (by kernel_rfl) trivial ?_
            refine q_kr ?_
            exact trR_less [.s 0, .s 3, .s 4, .s 5, .h 9000] [sO 0 (.slc 9000), sI 3 .u32 (bxor .u32 (shr .u32 r5 (1 : Int)) (3988292384 : Int)), sI 4 .i64 i2, sI 5 .i64 (IntKind.i64.wrap (k6 + (1 : Int))), hR 9000 .u8 b_0] (by kernel_rfl) (ih1 ((bxor .u32 (shr .u32 r5 (1 : Int)) (3988292384 : Int)), (IntKind.i64.wrap (k6 + (1 : Int)))) h)
          · refine tr_cond_f ((band .u32 r5 (1 : Int)) != (band .u32 (IntKind.u32.wrap (shr .u8 (b_0.getD i2.toNat 0) (IntKind.u64.wrap k6))) (1 : Int))) (by kernel_rfl) hc11 ?_
            refine tr_reg hT [] [.s 0, .s 3, .s 4, .s 5, .h 9000] [sO 0 (.slc 9000), sI 3 .u32 (shr .u32 r5 (1 : Int)), sI 4 .i64 i2, sI 5 .i64 k6, hR 9000 .u8 b_0] [0 ≤ (1 : Int)] (by kernel_rfl) (hone (by decide)) ?_
            refine q_b 3 ?_
            refine q_k ?_
            refine tr_reg hT [] [.s 0, .s 3, .s 4, .s 5, .h 9000] [sO 0 (.slc 9000), sI 3 .u32 (shr .u32 r5 (1 : Int)), sI 4 .i64 i2, sI 5 .i64 (IntKind.i64.wrap (k6 + (1 : Int))), hR 9000 .u8 b_0] [] (by kernel_rfl) trivial ?_
            refine q_kr ?_
            exact trR_less [.s 0, .s 3, .s 4, .s 5, .h 9000] [sO 0 (.slc 9000), sI 3 .u32 (shr .u32 r5 (1 : Int)), sI 4 .i64 i2, sI 5 .i64 (IntKind.i64.wrap (k6 + (1 : Int))), hR 9000 .u8 b_0] (by kernel_rfl) (ih1 ((shr .u32 r5 (1 : Int)), (IntKind.i64.wrap (k6 + (1 : Int)))) h)
        · refine tr_cond_f (decide (k6 < (8 : Int))) (by kernel_rfl) hc8 ?_
          refine tr_exit ?_
          refine q_k_exit ?_
          refine q_kr_exit ?_
          have h := Option.some.inj h
          subst h
          exact q_less [.s 0, .s 3, .s 4, .h 9000] [sO 0 (.slc 9000), sI 3 .u32 r5, sI 4 .i64 i2, hR 9000 .u8 b_0] (by kernel_rfl) hx1
    · refine tr_cond_f (decide (i2 < (↑(List.length b_0) : Int))) (by kernel_rfl) hc4 ?_
      refine tr_exit ?_
      refine q_k_exit ?_
      refine q_kr_exit ?_
      have h := Option.some.inj h
      subst h
      exact q_less [.s 3] [sI 3 .u32 r1] (by kernel_rfl) hx0

theorem keep_Bytes_ok (a_0 : List Int) (b_1 : List Int) (r : Bool) (h : keep_Bytes a_0 b_1 = some r) : CallOk P 26 [.v (.one (.slc 9000)), .v (.one (.slc 9001))] [(9000, .rd .u8 a_0), (9001, .rd .u8 b_1)] (.v (.one (.bool r))) [] := by
  refine call1 (N := 26) Try.func26 (by kernel_rfl) rfl rfl rfl [(9000, .rd .u8 a_0), (9001, .rd .u8 b_1)] (by kernel_rfl) ?_
  intro _ B w0
  show Tr P B 26 w0 _ _ (RetQ P Try.f26 (R1 _ _ B w0))
  unfold keep_Bytes at h
  refine tr_seq ?_
  refine tr_reg hT [] [.s 0, .s 1, .h 9000, .h 9001] [sO 0 (.slc 9000), sO 1 (.slc 9001), hR 9000 .u8 a_0, hR 9001 .u8 b_1] [] (by kernel_rfl) trivial ?_
  refine q_k ?_
  refine tr_seq ?_
  refine tr_seq ?_
  refine tr_reg hT [] [.s 0, .s 1, .s 10, .h 9000, .h 9001] [sO 0 (.slc 9000), sO 1 (.slc 9001), sB 10 ((↑(List.length a_0) : Int) != (↑(List.length b_1) : Int)), hR 9000 .u8 a_0, hR 9001 .u8 b_1] [] (by kernel_rfl) trivial ?_
  refine q_k ?_
  rcases ite_split h with ⟨hc1, h⟩ | ⟨hc1, h⟩
  · refine tr_cond_t ((↑(List.length a_0) : Int) != (↑(List.length b_1) : Int)) (by kernel_rfl) hc1 ?_
    refine tr_seq ?_
    refine tr_reg hT [] [.s 4] [sB 4 false] [] (by kernel_rfl) trivial ?_
    refine q_k ?_
    refine tr_ret ?_
    refine q_k_ret ?_
    have h := Option.some.inj h
    subst h
    refine q_less [.s 4] [sB 4 false] (by kernel_rfl) ?_
    exact q_ret1 hT (.v (.one (.bool false))) [] (by kernel_rfl) (by kernel_rfl) (by kernel_rfl)
  · refine tr_cond_f ((↑(List.length a_0) : Int) != (↑(List.length b_1) : Int)) (by kernel_rfl) hc1 ?_
    refine tr_skip ?_
    refine q_k ?_
    refine tr_seq ?_
    refine tr_seq ?_
    refine tr_reg hT [] [.s 0, .s 1, .s 5, .h 9000, .h 9001] [sO 0 (.slc 9000), sO 1 (.slc 9001), sI 5 .i64 (0 : Int), hR 9000 .u8 a_0, hR 9001 .u8 b_1] [] (by kernel_rfl) trivial ?_
    refine q_k ?_
    refine tr_block ?_
    obtain ⟨rr0, e7, h⟩ := bind_some h
    refine tr_fit [] [sO 0 (.slc 9000), sO 1 (.slc 9001), sI 5 .i64 (0 : Int), hR 9000 .u8 a_0, hR 9001 .u8 b_1] [(9000, .rd .u8 a_0), (9001, .rd .u8 b_1)] (by kernel_rfl) (by kernel_rfl) (by kernel_rfl) rfl ⟨.rd (by kernel_rfl), .rd (by kernel_rfl), trivial⟩ (by kernel_rfl) ?_
    refine tr_loop_ret (id := 0) (α := Int) (β := Unit) (ρ := Bool) (fun z => [sO 0 (.slc 9000), sO 1 (.slc 9001), sI 5 .i64 z, hR 9000 .u8 a_0, hR 9001 .u8 b_1]) (fun z => []) (fun v σ => resS T (Gw.look σ) Try.f26.results.toList = some (.v (.one (.bool v))) ∧ Gw.hasAll σ [] = some (Gw.preSS [])) (fun k z => keep_Bytes_l0 a_0 b_1 k z) rr0 (fun _ => rfl) (((↑(List.length a_0) : Int) - (0 : Int)).toNat + 1) (0 : Int) e7 ?_ ?_ ?_
    · intro z hz
      subst hz
      rcases z with _
      replace h : (some true) = _ := h
      refine q_b_this ?_
      refine q_k ?_
      refine tr_seq ?_
      refine tr_reg hT [] [.s 4] [sB 4 true] [] (by kernel_rfl) trivial ?_
      refine q_k ?_
      refine tr_ret ?_
      have h := Option.some.inj h
      subst h
      refine q_less [.s 4] [sB 4 true] (by kernel_rfl) ?_
      exact q_ret1 hT (.v (.one (.bool true))) [] (by kernel_rfl) (by kernel_rfl) (by kernel_rfl)
    · intro v σ hz hv
      subst hz
      have h := Option.some.inj h
      subst h
      refine q_b_ret ?_
      refine q_k_ret ?_
      exact q_ret1 hT _ _ hv.1 hv.2 (by kernel_rfl)
    · clear h e7
      intro k ih0 hx0 hr0 i2 h
      replace h : (if (decide (i2 < (↑(List.length a_0) : Int))) = true then if 0 ≤ i2 ∧ i2 < ↑(List.length a_0) then if 0 ≤ i2 ∧ i2 < ↑(List.length b_1) then if ((a_0.getD i2.toNat 0) != (b_1.getD i2.toNat 0)) = true then some (.inr false) else keep_Bytes_l0 a_0 b_1 k (IntKind.i64.wrap (i2 + (1 : Int))) else none else none else some (.inl ())) = _ := h
      refine tr_seq ?_
      refine tr_seq ?_
      refine tr_reg hT [] [.s 0, .s 1, .s 5, .s 14, .h 9000, .h 9001] [sO 0 (.slc 9000), sO 1 (.slc 9001), sI 5 .i64 i2, sB 14 (decide (i2 < (↑(List.length a_0) : Int))), hR 9000 .u8 a_0, hR 9001 .u8 b_1] [] (by kernel_rfl) trivial ?_
      refine q_k ?_
      rcases ite_split h with ⟨hc3, h⟩ | ⟨hc3, h⟩
      · refine tr_cond_t (decide (i2 < (↑(List.length a_0) : Int))) (by kernel_rfl) hc3 ?_
        refine tr_skip ?_
        refine q_k ?_
        refine tr_seq ?_
        refine tr_block ?_
        refine tr_seq ?_
        obtain ⟨hn4, h⟩ := ite_some h
        obtain ⟨hn5, h⟩ := ite_some h
        refine tr_regd hT hM [] [.s 0, .s 1, .s 5, .s 25, .h 9000, .h 9001] [sO 0 (.slc 9000), sO 1 (.slc 9001), sI 5 .i64 i2, sB 25 ((a_0.getD i2.toNat 0) != (b_1.getD i2.toNat 0)), hR 9000 .u8 a_0, hR 9001 .u8 b_1] [0 ≤ i2 ∧ i2 < ↑(List.length a_0), i2 < ↑(List.length a_0), 0 ≤ i2 ∧ i2 < ↑(List.length b_1), i2 < ↑(List.length b_1)] (by kernel_rfl) (hcons hn4 (hcons hn4.2 (hcons hn5 (hone hn5.2)))) ?_
        refine q_k ?_
        rcases ite_split h with ⟨hc6, h⟩ | ⟨hc6, h⟩
        · refine tr_cond_t ((a_0.getD i2.toNat 0) != (b_1.getD i2.toNat 0)) (by kernel_rfl) hc6 ?_
          refine tr_seq ?_
          refine tr_reg hT [] [.s 4] [sB 4 false] [] (by kernel_rfl) trivial ?_
          refine q_k ?_
          refine tr_ret ?_
          refine q_b_ret ?_
          refine q_k_ret ?_
          refine q_kr_ret ?_
          have h := Option.some.inj h
          subst h
          exact q_less [.s 4] [sB 4 false] (by kernel_rfl) (hr0 false _ rfl ⟨by kernel_rfl, by kernel_rfl⟩)
        · refine tr_cond_f ((a_0.getD i2.toNat 0) != (b_1.getD i2.toNat 0)) (by kernel_rfl) hc6 ?_
          refine tr_skip ?_
          refine q_b 1 ?_
          refine q_k ?_
          refine tr_reg hT [] [.s 0, .s 1, .s 5, .h 9000, .h 9001] [sO 0 (.slc 9000), sO 1 (.slc 9001), sI 5 .i64 (IntKind.i64.wrap (i2 + (1 : Int))), hR 9000 .u8 a_0, hR 9001 .u8 b_1] [] (by kernel_rfl) trivial ?_
          refine q_kr ?_
          exact trR_less [.s 0, .s 1, .s 5, .h 9000, .h 9001] [sO 0 (.slc 9000), sO 1 (.slc 9001), sI 5 .i64 (IntKind.i64.wrap (i2 + (1 : Int))), hR 9000 .u8 a_0, hR 9001 .u8 b_1] (by kernel_rfl) (ih0 (IntKind.i64.wrap (i2 + (1 : Int))) h)
      · refine tr_cond_f (decide (i2 < (↑(List.length a_0) : Int))) (by kernel_rfl) hc3 ?_
        refine tr_exit ?_
        refine q_k_exit ?_
        refine q_kr_exit ?_
        have h := Option.some.inj h
        subst h
        exact q_less [] [] (by kernel_rfl) (hx0 () rfl)

theorem law03_wakes_ok (r : Bool) (h : law03_wakes = some r) {pre : List (Nat × Ent)} : CallOk P 27 [] pre (.v (.one (.bool r))) [] := by
  refine call0 (N := 5) Try.func27 (by kernel_rfl) rfl rfl rfl pre ?_
  intro _ w
  show Tr P (Ge w) 5 _ _ _ (RetQ P Try.f27 (R0 _ w))
  unfold law03_wakes at h
  refine tr_seq ?_
  refine tr_reg hT [] [] [] [] (by kernel_rfl) trivial ?_
  refine q_k ?_
  refine tr_seq ?_
  obtain ⟨r1, e2, h⟩ := bind_some h
  refine tr_reg hT [(0, .key 0), (1, .key 1), (2, .call [1] (.v (.one (.int .u32 r1))) [])] [.s 0] [sB 0 (r1 == (3421780262 : Int))] [0 < List.length [(49 : Int), (50 : Int), (51 : Int), (52 : Int), (53 : Int), (54 : Int), (55 : Int), (56 : Int), (57 : Int)], CallOk P 24 [.v (.one (.slc 1))] [(1, .rd .u8 [(49 : Int), (50 : Int), (51 : Int), (52 : Int), (53 : Int), (54 : Int), (55 : Int), (56 : Int), (57 : Int)])] (.v (.one (.int .u32 r1))) []] (by kernel_rfl) (hcons (by decide) (hone ((crc_Sum_ok [(49 : Int), (50 : Int), (51 : Int), (52 : Int), (53 : Int), (54 : Int), (55 : Int), (56 : Int), (57 : Int)] r1 e2).tr [(9000, .slc 1)] rfl (by kernel_rfl) ⟨.rd (by kernel_rfl), trivial⟩ (by kernel_rfl) (by kernel_rfl) rfl rfl))) ?_
  refine q_k ?_
  refine tr_ret ?_
  have h := Option.some.inj h
  subst h
  exact q_ret0 hT (.v (.one (.bool (r1 == (3421780262 : Int))))) rfl (by kernel_rfl)

theorem law03_CrcExact_ok (b_0 : List Int) (r : Bool) (h : law03_CrcExact b_0 = some r) : CallOk P 3 [.v (.one (.slc 9000))] [(9000, .rd .u8 b_0)] (.v (.one (.bool r))) [] := by
  refine call1 (N := 22) Try.func3 (by kernel_rfl) rfl rfl rfl [(9000, .rd .u8 b_0)] (by kernel_rfl) ?_
  intro _ B w0
  show Tr P B 22 w0 _ _ (RetQ P Try.f3 (R1 _ _ B w0))
  unfold law03_CrcExact at h
  refine tr_seq ?_
  refine tr_reg hT [] [.s 0, .h 9000] [sO 0 (.slc 9000), hR 9000 .u8 b_0] [] (by kernel_rfl) trivial ?_
  refine q_k ?_
  refine tr_seq ?_
  refine tr_seq ?_
  refine tr_reg hT [] [.s 0, .s 6, .h 9000] [sO 0 (.slc 9000), sB 6 (decide ((↑(List.length b_0) : Int) > (400 : Int))), hR 9000 .u8 b_0] [] (by kernel_rfl) trivial ?_
  refine q_k ?_
  rcases ite_split h with ⟨hc1, h⟩ | ⟨hc1, h⟩
  · refine tr_cond_t (decide ((↑(List.length b_0) : Int) > (400 : Int))) (by kernel_rfl) hc1 ?_
    refine tr_seq ?_
    refine tr_reg hT [] [.s 2] [sB 2 true] [] (by kernel_rfl) trivial ?_
    refine q_k ?_
    refine tr_ret ?_
    refine q_k_ret ?_
    have h := Option.some.inj h
    subst h
    refine q_less [.s 2] [sB 2 true] (by kernel_rfl) ?_
    exact q_ret1 hT (.v (.one (.bool true))) [] (by kernel_rfl) (by kernel_rfl) (by kernel_rfl)
  · refine tr_cond_f (decide ((↑(List.length b_0) : Int) > (400 : Int))) (by kernel_rfl) hc1 ?_
    refine tr_skip ?_
    refine q_k ?_
    refine tr_seq ?_
    obtain ⟨a2, e3, h⟩ := bind_some h
    refine tr_reg hT [(1, .call [9000] (.v (.one (.slc 0))) [(0, .own 5 .u8 a2)])] [.s 0, .s 3, .h 0, .h 9000] [sO 0 (.slc 9000), sO 3 (.slc 0), hO 0 5 .u8 a2, hR 9000 .u8 b_0] [CallOk P 23 [.v (.one (.slc 9000))] [(9000, .rd .u8 b_0)] (.v (.one (.slc 0))) [(0, .own 5 .u8 a2)]] (by kernel_rfl) (hone ((keep_Twin_ok b_0 a2 e3).tr [(9000, .slc 9000), (8900, .slc 0)] rfl (by kernel_rfl) ⟨.rd (by kernel_rfl), trivial⟩ (by kernel_rfl) (by kernel_rfl) rfl rfl)) ?_
    refine q_k ?_
    refine tr_seq ?_
    obtain ⟨r4, e5, h⟩ := bind_some h
    obtain ⟨r6, e7, h⟩ := bind_some h
    rcases ite_split h with ⟨hb8, h⟩ | ⟨hb15, h⟩
    · obtain ⟨b9, e10, h⟩ := bind_some h
      rcases ite_split h with ⟨hb11, h⟩ | ⟨hb14, h⟩
      · obtain ⟨b12, e13, h⟩ := bind_some h
        refine tr_reg hT [(1, .call [0] (.v (.one (.int .u32 r4))) []), (3, .call [9000] (.v (.one (.int .u32 r6))) []), (5, .dec true), (8, .call [0, 9000] (.v (.one (.bool b9))) []), (10, .dec true), (11, .call [] (.v (.one (.bool b12))) [])] [.s 2] [sB 2 b12] [CallOk P 24 [.v (.one (.slc 0))] [(0, .own 5 .u8 a2)] (.v (.one (.int .u32 r4))) [], CallOk P 25 [.v (.one (.slc 9000))] [(9000, .rd .u8 b_0)] (.v (.one (.int .u32 r6))) [], (r4 == r6) = true, CallOk P 26 [.v (.one (.slc 0)), .v (.one (.slc 9000))] [(0, .own 5 .u8 a2), (9000, .rd .u8 b_0)] (.v (.one (.bool b9))) [], b9 = true, CallOk P 27 [] [] (.v (.one (.bool b12))) []] (by kernel_rfl) (hcons ((crc_Sum_ok a2 r4 e5).tr [(9000, .slc 0)] rfl (by kernel_rfl) ⟨.ownrd (e := 5) (by kernel_rfl), trivial⟩ (by kernel_rfl) (by kernel_rfl) rfl rfl) (hcons ((ref01_Crc_ok b_0 r6 e7).tr [(9000, .slc 9000)] rfl (by kernel_rfl) ⟨.rd (by kernel_rfl), trivial⟩ (by kernel_rfl) (by kernel_rfl) rfl rfl) (hcons hb8 (hcons ((keep_Bytes_ok a2 b_0 b9 e10).tr [(9000, .slc 0), (9001, .slc 9000)] rfl (by kernel_rfl) ⟨.ownrd (e := 5) (by kernel_rfl), .rd (by kernel_rfl), trivial⟩ (by kernel_rfl) (by kernel_rfl) rfl rfl) (hcons hb11 (hone (law03_wakes_ok  b12 e13))))))) ?_
        refine q_k ?_
        refine tr_ret ?_
        have h := Option.some.inj h
        subst h
        refine q_less [.s 2] [sB 2 b12] (by kernel_rfl) ?_
        exact q_ret1 hT (.v (.one (.bool b12))) [] (by kernel_rfl) (by kernel_rfl) (by kernel_rfl)
      · refine tr_reg hT [(1, .call [0] (.v (.one (.int .u32 r4))) []), (3, .call [9000] (.v (.one (.int .u32 r6))) []), (5, .dec true), (8, .call [0, 9000] (.v (.one (.bool b9))) []), (10, .dec false)] [.s 2] [sB 2 false] [CallOk P 24 [.v (.one (.slc 0))] [(0, .own 5 .u8 a2)] (.v (.one (.int .u32 r4))) [], CallOk P 25 [.v (.one (.slc 9000))] [(9000, .rd .u8 b_0)] (.v (.one (.int .u32 r6))) [], (r4 == r6) = true, CallOk P 26 [.v (.one (.slc 0)), .v (.one (.slc 9000))] [(0, .own 5 .u8 a2), (9000, .rd .u8 b_0)] (.v (.one (.bool b9))) [], b9 = false] (by kernel_rfl) (hcons ((crc_Sum_ok a2 r4 e5).tr [(9000, .slc 0)] rfl (by kernel_rfl) ⟨.ownrd (e := 5) (by kernel_rfl), trivial⟩ (by kernel_rfl) (by kernel_rfl) rfl rfl) (hcons ((ref01_Crc_ok b_0 r6 e7).tr [(9000, .slc 9000)] rfl (by kernel_rfl) ⟨.rd (by kernel_rfl), trivial⟩ (by kernel_rfl) (by kernel_rfl) rfl rfl) (hcons hb8 (hcons ((keep_Bytes_ok a2 b_0 b9 e10).tr [(9000, .slc 0), (9001, .slc 9000)] rfl (by kernel_rfl) ⟨.ownrd (e := 5) (by kernel_rfl), .rd (by kernel_rfl), trivial⟩ (by kernel_rfl) (by kernel_rfl) rfl rfl) (hone hb14))))) ?_
        refine q_k ?_
        refine tr_ret ?_
        have h := Option.some.inj h
        subst h
        refine q_less [.s 2] [sB 2 false] (by kernel_rfl) ?_
        exact q_ret1 hT (.v (.one (.bool false))) [] (by kernel_rfl) (by kernel_rfl) (by kernel_rfl)
    · refine tr_reg hT [(1, .call [0] (.v (.one (.int .u32 r4))) []), (3, .call [9000] (.v (.one (.int .u32 r6))) []), (5, .dec false)] [.s 2] [sB 2 false] [CallOk P 24 [.v (.one (.slc 0))] [(0, .own 5 .u8 a2)] (.v (.one (.int .u32 r4))) [], CallOk P 25 [.v (.one (.slc 9000))] [(9000, .rd .u8 b_0)] (.v (.one (.int .u32 r6))) [], (r4 == r6) = false] (by kernel_rfl) (hcons ((crc_Sum_ok a2 r4 e5).tr [(9000, .slc 0)] rfl (by kernel_rfl) ⟨.ownrd (e := 5) (by kernel_rfl), trivial⟩ (by kernel_rfl) (by kernel_rfl) rfl rfl) (hcons ((ref01_Crc_ok b_0 r6 e7).tr [(9000, .slc 9000)] rfl (by kernel_rfl) ⟨.rd (by kernel_rfl), trivial⟩ (by kernel_rfl) (by kernel_rfl) rfl rfl) (hone hb15))) ?_
      refine q_k ?_
      refine tr_ret ?_
      have h := Option.some.inj h
      subst h
      refine q_less [.s 2] [sB 2 false] (by kernel_rfl) ?_
      exact q_ret1 hT (.v (.one (.bool false))) [] (by kernel_rfl) (by kernel_rfl) (by kernel_rfl)

theorem law03_CrcRest_ok (b_0 : List Int) (r : Bool) (h : law03_CrcRest b_0 = some r) : CallOk P 4 [.v (.one (.slc 9000))] [(9000, .rd .u8 b_0)] (.v (.one (.bool r))) [] := by
  refine call1 (N := 29) Try.func4 (by kernel_rfl) rfl rfl rfl [(9000, .rd .u8 b_0)] (by kernel_rfl) ?_
  intro _ B w0
  show Tr P B 29 w0 _ _ (RetQ P Try.f4 (R1 _ _ B w0))
  unfold law03_CrcRest at h
  refine tr_seq ?_
  refine tr_reg hT [] [.s 0, .h 9000] [sO 0 (.slc 9000), hR 9000 .u8 b_0] [] (by kernel_rfl) trivial ?_
  refine q_k ?_
  refine tr_seq ?_
  refine tr_seq ?_
  refine tr_reg hT [] [.s 0, .s 6, .h 9000] [sO 0 (.slc 9000), sB 6 (decide ((↑(List.length b_0) : Int) > (400 : Int))), hR 9000 .u8 b_0] [] (by kernel_rfl) trivial ?_
  refine q_k ?_
  rcases ite_split h with ⟨hc1, h⟩ | ⟨hc1, h⟩
  · refine tr_cond_t (decide ((↑(List.length b_0) : Int) > (400 : Int))) (by kernel_rfl) hc1 ?_
    refine tr_seq ?_
    refine tr_reg hT [] [.s 2] [sB 2 true] [] (by kernel_rfl) trivial ?_
    refine q_k ?_
    refine tr_ret ?_
    refine q_k_ret ?_
    have h := Option.some.inj h
    subst h
    refine q_less [.s 2] [sB 2 true] (by kernel_rfl) ?_
    exact q_ret1 hT (.v (.one (.bool true))) [] (by kernel_rfl) (by kernel_rfl) (by kernel_rfl)
  · refine tr_cond_f (decide ((↑(List.length b_0) : Int) > (400 : Int))) (by kernel_rfl) hc1 ?_
    refine tr_skip ?_
    refine q_k ?_
    refine tr_seq ?_
    obtain ⟨r2, e3, h⟩ := bind_some h
    refine tr_reg hT [(1, .call [9000] (.v (.one (.int .u32 r2))) [])] [.s 0, .s 3, .h 9000] [sO 0 (.slc 9000), sI 3 .u32 r2, hR 9000 .u8 b_0] [CallOk P 24 [.v (.one (.slc 9000))] [(9000, .rd .u8 b_0)] (.v (.one (.int .u32 r2))) []] (by kernel_rfl) (hone ((crc_Sum_ok b_0 r2 e3).tr [(9000, .slc 9000)] rfl (by kernel_rfl) ⟨.rd (by kernel_rfl), trivial⟩ (by kernel_rfl) (by kernel_rfl) rfl rfl)) ?_
    refine q_k ?_
    refine tr_seq ?_
    obtain ⟨a4, e5, h⟩ := bind_some h
    obtain ⟨hn6, h⟩ := ite_some h
    obtain ⟨r7, e8, h⟩ := bind_some h
    rcases ite_split h with ⟨hb9, h⟩ | ⟨hb12, h⟩
    · obtain ⟨b10, e11, h⟩ := bind_some h
      refine tr_reg hT [(1, .call [9000] (.v (.one (.slc 0))) [(0, .own 5 .u8 a4)]), (13, .key 1), (14, .key 2), (15, .call [2] (.v (.one (.int .u32 r7))) []), (17, .dec true), (18, .call [] (.v (.one (.bool b10))) [])] [.s 2] [sB 2 b10] [CallOk P 23 [.v (.one (.slc 9000))] [(9000, .rd .u8 b_0)] (.v (.one (.slc 0))) [(0, .own 5 .u8 a4)], 0 ≤ (8 : Int), 0 ≤ (16 : Int), 0 ≤ (24 : Int), List.length (a4 ++ [(IntKind.u8.wrap r2), (IntKind.u8.wrap (shr .u32 r2 (8 : Int))), (IntKind.u8.wrap (shr .u32 r2 (16 : Int))), (IntKind.u8.wrap (shr .u32 r2 (24 : Int)))]) ≤ maxN, CallOk P 24 [.v (.one (.slc 2))] [(2, .own 5 .u8 (a4 ++ [(IntKind.u8.wrap r2), (IntKind.u8.wrap (shr .u32 r2 (8 : Int))), (IntKind.u8.wrap (shr .u32 r2 (16 : Int))), (IntKind.u8.wrap (shr .u32 r2 (24 : Int)))]))] (.v (.one (.int .u32 r7))) [], (r7 == (558161692 : Int)) = true, CallOk P 27 [] [] (.v (.one (.bool b10))) []] (by kernel_rfl) (hcons ((keep_Twin_ok b_0 a4 e5).tr [(9000, .slc 9000), (8900, .slc 0)] rfl (by kernel_rfl) ⟨.rd (by kernel_rfl), trivial⟩ (by kernel_rfl) (by kernel_rfl) rfl rfl) (hcons (by decide) (hcons (by decide) (hcons (by decide) (hcons hn6 (hcons ((crc_Sum_ok (a4 ++ [(IntKind.u8.wrap r2), (IntKind.u8.wrap (shr .u32 r2 (8 : Int))), (IntKind.u8.wrap (shr .u32 r2 (16 : Int))), (IntKind.u8.wrap (shr .u32 r2 (24 : Int)))]) r7 e8).tr [(9000, .slc 2)] rfl (by kernel_rfl) ⟨.ownrd (e := 5) (by kernel_rfl), trivial⟩ (by kernel_rfl) (by kernel_rfl) rfl rfl) (hcons hb9 (hone (law03_wakes_ok  b10 e11))))))))) ?_
      refine q_k ?_
      refine tr_ret ?_
      have h := Option.some.inj h
      subst h
      refine q_less [.s 2] [sB 2 b10] (by kernel_rfl) ?_
      exact q_ret1 hT (.v (.one (.bool b10))) [] (by kernel_rfl) (by kernel_rfl) (by kernel_rfl)
    · refine tr_reg hT [(1, .call [9000] (.v (.one (.slc 0))) [(0, .own 5 .u8 a4)]), (13, .key 1), (14, .key 2), (15, .call [2] (.v (.one (.int .u32 r7))) []), (17, .dec false)] [.s 2] [sB 2 false] [CallOk P 23 [.v (.one (.slc 9000))] [(9000, .rd .u8 b_0)] (.v (.one (.slc 0))) [(0, .own 5 .u8 a4)], 0 ≤ (8 : Int), 0 ≤ (16 : Int), 0 ≤ (24 : Int), List.length (a4 ++ [(IntKind.u8.wrap r2), (IntKind.u8.wrap (shr .u32 r2 (8 : Int))), (IntKind.u8.wrap (shr .u32 r2 (16 : Int))), (IntKind.u8.wrap (shr .u32 r2 (24 : Int)))]) ≤ maxN, CallOk P 24 [.v (.one (.slc 2))] [(2, .own 5 .u8 (a4 ++ [(IntKind.u8.wrap r2), (IntKind.u8.wrap (shr .u32 r2 (8 : Int))), (IntKind.u8.wrap (shr .u32 r2 (16 : Int))), (IntKind.u8.wrap (shr .u32 r2 (24 : Int)))]))] (.v (.one (.int .u32 r7))) [], (r7 == (558161692 : Int)) = false] (by kernel_rfl) (hcons ((keep_Twin_ok b_0 a4 e5).tr [(9000, .slc 9000), (8900, .slc 0)] rfl (by kernel_rfl) ⟨.rd (by kernel_rfl), trivial⟩ (by kernel_rfl) (by kernel_rfl) rfl rfl) (hcons (by decide) (hcons (by decide) (hcons (by decide) (hcons hn6 (hcons ((crc_Sum_ok (a4 ++ [(IntKind.u8.wrap r2), (IntKind.u8.wrap (shr .u32 r2 (8 : Int))), (IntKind.u8.wrap (shr .u32 r2 (16 : Int))), (IntKind.u8.wrap (shr .u32 r2 (24 : Int)))]) r7 e8).tr [(9000, .slc 2)] rfl (by kernel_rfl) ⟨.ownrd (e := 5) (by kernel_rfl), trivial⟩ (by kernel_rfl) (by kernel_rfl) rfl rfl) (hone hb12))))))) ?_
      refine q_k ?_
      refine tr_ret ?_
      have h := Option.some.inj h
      subst h
      refine q_less [.s 2] [sB 2 false] (by kernel_rfl) ?_
      exact q_ret1 hT (.v (.one (.bool false))) [] (by kernel_rfl) (by kernel_rfl) (by kernel_rfl)

theorem law03_CrcUnlike_ok (b_0 : List Int) (at_1 : Int) (bits_2 : Int) (r : Bool) (h : law03_CrcUnlike b_0 at_1 bits_2 = some r) : CallOk P 5 [.v (.one (.slc 9000)), .v (.one (.int .i64 at_1)), .v (.one (.int .u32 bits_2))] [(9000, .rd .u8 b_0)] (.v (.one (.bool r))) [] := by
  refine call1 (N := 73) Try.func5 (by kernel_rfl) rfl rfl rfl [(9000, .rd .u8 b_0)] (by kernel_rfl) ?_
  intro _ B w0
  show Tr P B 73 w0 _ _ (RetQ P Try.f5 (R1 _ _ B w0))
  unfold law03_CrcUnlike at h
  refine tr_seq ?_
  refine tr_reg hT [] [.s 0, .s 1, .s 2, .h 9000] [sO 0 (.slc 9000), sI 1 .i64 at_1, sI 2 .u32 bits_2, hR 9000 .u8 b_0] [] (by kernel_rfl) trivial ?_
  refine q_k ?_
  refine tr_seq ?_
  refine tr_seq ?_
  rcases ite_split h with ⟨hb1, h⟩ | ⟨hb2, h⟩
  · refine tr_reg hT [(3, .dec true)] [.s 0, .s 1, .s 2, .s 16, .h 9000] [sO 0 (.slc 9000), sI 1 .i64 at_1, sI 2 .u32 bits_2, sB 16 true, hR 9000 .u8 b_0] [(decide ((↑(List.length b_0) : Int) < (1 : Int))) = true] (by kernel_rfl) (hone hb1) ?_
    refine q_k ?_
    refine tr_cond_t true (by kernel_rfl) rfl ?_
    refine tr_seq ?_
    refine tr_reg hT [] [.s 6] [sB 6 true] [] (by kernel_rfl) trivial ?_
    refine q_k ?_
    refine tr_ret ?_
    refine q_k_ret ?_
    have h := Option.some.inj h
    subst h
    refine q_less [.s 6] [sB 6 true] (by kernel_rfl) ?_
    exact q_ret1 hT (.v (.one (.bool true))) [] (by kernel_rfl) (by kernel_rfl) (by kernel_rfl)
  · refine tr_reg hT [(3, .dec false)] [.s 0, .s 1, .s 2, .s 16, .h 9000] [sO 0 (.slc 9000), sI 1 .i64 at_1, sI 2 .u32 bits_2, sB 16 (decide ((↑(List.length b_0) : Int) > (400 : Int))), hR 9000 .u8 b_0] [(decide ((↑(List.length b_0) : Int) < (1 : Int))) = false] (by kernel_rfl) (hone hb2) ?_
    refine q_k ?_
    rcases ite_split h with ⟨hc3, h⟩ | ⟨hc3, h⟩
    · refine tr_cond_t (decide ((↑(List.length b_0) : Int) > (400 : Int))) (by kernel_rfl) hc3 ?_
      refine tr_seq ?_
      refine tr_reg hT [] [.s 6] [sB 6 true] [] (by kernel_rfl) trivial ?_
      refine q_k ?_
      refine tr_ret ?_
      refine q_k_ret ?_
      have h := Option.some.inj h
      subst h
      refine q_less [.s 6] [sB 6 true] (by kernel_rfl) ?_
      exact q_ret1 hT (.v (.one (.bool true))) [] (by kernel_rfl) (by kernel_rfl) (by kernel_rfl)
    · refine tr_cond_f (decide ((↑(List.length b_0) : Int) > (400 : Int))) (by kernel_rfl) hc3 ?_
      refine tr_skip ?_
      refine q_k ?_
      refine tr_seq ?_
      obtain ⟨a4, e5, h⟩ := bind_some h
      refine tr_reg hT [(1, .call [9000] (.v (.one (.slc 0))) [(0, .own 5 .u8 a4)])] [.s 0, .s 1, .s 2, .s 7, .h 0, .h 9000] [sO 0 (.slc 9000), sI 1 .i64 at_1, sI 2 .u32 bits_2, sO 7 (.slc 0), hO 0 5 .u8 a4, hR 9000 .u8 b_0] [CallOk P 23 [.v (.one (.slc 9000))] [(9000, .rd .u8 b_0)] (.v (.one (.slc 0))) [(0, .own 5 .u8 a4)]] (by kernel_rfl) (hone ((keep_Twin_ok b_0 a4 e5).tr [(9000, .slc 9000), (8900, .slc 0)] rfl (by kernel_rfl) ⟨.rd (by kernel_rfl), trivial⟩ (by kernel_rfl) (by kernel_rfl) rfl rfl)) ?_
      refine q_k ?_
      refine tr_seq ?_
      obtain ⟨hn6, h⟩ := ite_some h
      refine tr_reg hT [] [.s 0, .s 1, .s 2, .s 7, .h 0, .h 9000] [sO 0 (.slc 9000), sI 1 .i64 (IntKind.i64.wrap ((IntKind.u64.wrap at_1).tmod (IntKind.u64.wrap (IntKind.i64.wrap ((8 : Int) * (↑(List.length b_0) : Int)))))), sI 2 .u32 bits_2, sO 7 (.slc 0), hO 0 5 .u8 a4, hR 9000 .u8 b_0] [(IntKind.u64.wrap (IntKind.i64.wrap ((8 : Int) * (↑(List.length b_0) : Int)))) ≠ 0] (by kernel_rfl) (hone hn6) ?_
      refine q_k ?_
      refine tr_seq ?_
      refine tr_seq ?_
      refine tr_reg hT [] [.s 0, .s 1, .s 2, .s 7, .s 8, .h 0, .h 9000] [sO 0 (.slc 9000), sI 1 .i64 (IntKind.i64.wrap ((IntKind.u64.wrap at_1).tmod (IntKind.u64.wrap (IntKind.i64.wrap ((8 : Int) * (↑(List.length b_0) : Int)))))), sI 2 .u32 bits_2, sO 7 (.slc 0), sI 8 .i64 (0 : Int), hO 0 5 .u8 a4, hR 9000 .u8 b_0] [] (by kernel_rfl) trivial ?_
      refine q_k ?_
      refine tr_block ?_
      obtain ⟨m9, e17, h⟩ := bind_some h
      refine tr_fit [] [sO 0 (.slc 9000), sI 1 .i64 (IntKind.i64.wrap ((IntKind.u64.wrap at_1).tmod (IntKind.u64.wrap (IntKind.i64.wrap ((8 : Int) * (↑(List.length b_0) : Int)))))), sI 2 .u32 bits_2, sO 7 (.slc 0), sI 8 .i64 (0 : Int), hO 0 5 .u8 a4, hR 9000 .u8 b_0] [(0, .own 5 .u8 a4), (9000, .rd .u8 b_0)] (by kernel_rfl) (by kernel_rfl) (by kernel_rfl) rfl ⟨.own (by kernel_rfl), .rd (by kernel_rfl), trivial⟩ (by kernel_rfl) ?_
      refine tr_loop_fuel (id := 0) (α := List Int × Int) (β := List Int) (fun z => [sO 0 (.slc 9000), sI 1 .i64 (IntKind.i64.wrap ((IntKind.u64.wrap at_1).tmod (IntKind.u64.wrap (IntKind.i64.wrap ((8 : Int) * (↑(List.length b_0) : Int)))))), sI 2 .u32 bits_2, sO 7 (.slc 0), sI 8 .i64 z.2, hO 0 5 .u8 z.1, hR 9000 .u8 b_0]) (fun z => [sO 0 (.slc 9000), sO 7 (.slc 0), hO 0 5 .u8 z, hR 9000 .u8 b_0]) (fun k z => law03_CrcUnlike_l0 b_0 at_1 bits_2 k z.1 z.2) m9 (fun _ => rfl) (((32 : Int) - (0 : Int)).toNat + 1) (a4, (0 : Int)) e17 ?_ ?_
      · skip
        replace h : ((crc_Sum b_0).bind (fun r18 => (crc_Sum m9).bind (fun r20 => (keep_Bytes b_0 m9).bind (fun b22 => if ((r18 == r20) == b22) = true then (law03_wakes).bind (fun b25 => some b25) else some false)))) = _ := h
        refine q_b_this ?_
        refine q_k ?_
        refine tr_seq ?_
        obtain ⟨r18, e19, h⟩ := bind_some h
        obtain ⟨r20, e21, h⟩ := bind_some h
        obtain ⟨b22, e23, h⟩ := bind_some h
        rcases ite_split h with ⟨hb24, h⟩ | ⟨hb27, h⟩
        · obtain ⟨b25, e26, h⟩ := bind_some h
          refine tr_reg hT [(1, .call [9000] (.v (.one (.int .u32 r18))) []), (3, .call [0] (.v (.one (.int .u32 r20))) []), (7, .call [9000, 0] (.v (.one (.bool b22))) []), (9, .dec true), (10, .call [] (.v (.one (.bool b25))) [])] [.s 6] [sB 6 b25] [CallOk P 24 [.v (.one (.slc 9000))] [(9000, .rd .u8 b_0)] (.v (.one (.int .u32 r18))) [], CallOk P 24 [.v (.one (.slc 0))] [(0, .own 5 .u8 m9)] (.v (.one (.int .u32 r20))) [], CallOk P 26 [.v (.one (.slc 9000)), .v (.one (.slc 0))] [(9000, .rd .u8 b_0), (0, .own 5 .u8 m9)] (.v (.one (.bool b22))) [], ((r18 == r20) == b22) = true, CallOk P 27 [] [] (.v (.one (.bool b25))) []] (by kernel_rfl) (hcons ((crc_Sum_ok b_0 r18 e19).tr [(9000, .slc 9000)] rfl (by kernel_rfl) ⟨.rd (by kernel_rfl), trivial⟩ (by kernel_rfl) (by kernel_rfl) rfl rfl) (hcons ((crc_Sum_ok m9 r20 e21).tr [(9000, .slc 0)] rfl (by kernel_rfl) ⟨.ownrd (e := 5) (by kernel_rfl), trivial⟩ (by kernel_rfl) (by kernel_rfl) rfl rfl) (hcons ((keep_Bytes_ok b_0 m9 b22 e23).tr [(9000, .slc 9000), (9001, .slc 0)] rfl (by kernel_rfl) ⟨.rd (by kernel_rfl), .ownrd (e := 5) (by kernel_rfl), trivial⟩ (by kernel_rfl) (by kernel_rfl) rfl rfl) (hcons hb24 (hone (law03_wakes_ok  b25 e26)))))) ?_
          refine q_k ?_
          refine tr_ret ?_
          have h := Option.some.inj h
          subst h
          refine q_less [.s 6] [sB 6 b25] (by kernel_rfl) ?_
          exact q_ret1 hT (.v (.one (.bool b25))) [] (by kernel_rfl) (by kernel_rfl) (by kernel_rfl)
        · refine tr_reg hT [(1, .call [9000] (.v (.one (.int .u32 r18))) []), (3, .call [0] (.v (.one (.int .u32 r20))) []), (7, .call [9000, 0] (.v (.one (.bool b22))) []), (9, .dec false)] [.s 6] [sB 6 false] [CallOk P 24 [.v (.one (.slc 9000))] [(9000, .rd .u8 b_0)] (.v (.one (.int .u32 r18))) [], CallOk P 24 [.v (.one (.slc 0))] [(0, .own 5 .u8 m9)] (.v (.one (.int .u32 r20))) [], CallOk P 26 [.v (.one (.slc 9000)), .v (.one (.slc 0))] [(9000, .rd .u8 b_0), (0, .own 5 .u8 m9)] (.v (.one (.bool b22))) [], ((r18 == r20) == b22) = false] (by kernel_rfl) (hcons ((crc_Sum_ok b_0 r18 e19).tr [(9000, .slc 9000)] rfl (by kernel_rfl) ⟨.rd (by kernel_rfl), trivial⟩ (by kernel_rfl) (by kernel_rfl) rfl rfl) (hcons ((crc_Sum_ok m9 r20 e21).tr [(9000, .slc 0)] rfl (by kernel_rfl) ⟨.ownrd (e := 5) (by kernel_rfl), trivial⟩ (by kernel_rfl) (by kernel_rfl) rfl rfl) (hcons ((keep_Bytes_ok b_0 m9 b22 e23).tr [(9000, .slc 9000), (9001, .slc 0)] rfl (by kernel_rfl) ⟨.rd (by kernel_rfl), .ownrd (e := 5) (by kernel_rfl), trivial⟩ (by kernel_rfl) (by kernel_rfl) rfl rfl) (hone hb27)))) ?_
          refine q_k ?_
          refine tr_ret ?_
          have h := Option.some.inj h
          subst h
          refine q_less [.s 6] [sB 6 false] (by kernel_rfl) ?_
          exact q_ret1 hT (.v (.one (.bool false))) [] (by kernel_rfl) (by kernel_rfl) (by kernel_rfl)
      · clear h e17
        intro k ih0 hx0 z h
        obtain ⟨m7, i8⟩ := z
        replace h : (if (decide (i8 < (32 : Int))) = true then if (decide ((IntKind.i64.wrap ((IntKind.i64.wrap ((IntKind.u64.wrap at_1).tmod (IntKind.u64.wrap (IntKind.i64.wrap ((8 : Int) * (↑(List.length b_0) : Int)))))) + i8)) < (IntKind.i64.wrap ((8 : Int) * (↑(List.length b_0) : Int))))) = true then if 0 ≤ (IntKind.u64.wrap i8) then if ((band .u32 (shr .u32 bits_2 (IntKind.u64.wrap i8)) (1 : Int)) == (1 : Int)) = true then if 0 ≤ (IntKind.i64.wrap ((IntKind.i64.wrap ((IntKind.i64.wrap ((IntKind.u64.wrap at_1).tmod (IntKind.u64.wrap (IntKind.i64.wrap ((8 : Int) * (↑(List.length b_0) : Int)))))) + i8)).tdiv (8 : Int))) ∧ (IntKind.i64.wrap ((IntKind.i64.wrap ((IntKind.i64.wrap ((IntKind.u64.wrap at_1).tmod (IntKind.u64.wrap (IntKind.i64.wrap ((8 : Int) * (↑(List.length b_0) : Int)))))) + i8)).tdiv (8 : Int))) < ↑(List.length m7) then if 0 ≤ (IntKind.u64.wrap ((IntKind.i64.wrap ((IntKind.i64.wrap ((IntKind.u64.wrap at_1).tmod (IntKind.u64.wrap (IntKind.i64.wrap ((8 : Int) * (↑(List.length b_0) : Int)))))) + i8)).tmod (8 : Int))) then law03_CrcUnlike_l0 b_0 at_1 bits_2 k (m7.set (IntKind.i64.wrap ((IntKind.i64.wrap ((IntKind.i64.wrap ((IntKind.u64.wrap at_1).tmod (IntKind.u64.wrap (IntKind.i64.wrap ((8 : Int) * (↑(List.length b_0) : Int)))))) + i8)).tdiv (8 : Int))).toNat (bxor .u8 (m7.getD (IntKind.i64.wrap ((IntKind.i64.wrap ((IntKind.i64.wrap ((IntKind.u64.wrap at_1).tmod (IntKind.u64.wrap (IntKind.i64.wrap ((8 : Int) * (↑(List.length b_0) : Int)))))) + i8)).tdiv (8 : Int))).toNat 0) (shl .u8 (1 : Int) (IntKind.u64.wrap ((IntKind.i64.wrap ((IntKind.i64.wrap ((IntKind.u64.wrap at_1).tmod (IntKind.u64.wrap (IntKind.i64.wrap ((8 : Int) * (↑(List.length b_0) : Int)))))) + i8)).tmod (8 : Int)))))) (IntKind.i64.wrap (i8 + (1 : Int))) else none else none else law03_CrcUnlike_l0 b_0 at_1 bits_2 k m7 (IntKind.i64.wrap (i8 + (1 : Int))) else none else some m7 else some m7) = _ := h
        refine tr_seq ?_
        refine tr_seq ?_
        rcases ite_split h with ⟨hb10, h⟩ | ⟨hb16, h⟩
        · refine tr_reg hT [(2, .dec true)] [.s 0, .s 1, .s 2, .s 7, .s 8, .s 37, .h 0, .h 9000] [sO 0 (.slc 9000), sI 1 .i64 (IntKind.i64.wrap ((IntKind.u64.wrap at_1).tmod (IntKind.u64.wrap (IntKind.i64.wrap ((8 : Int) * (↑(List.length b_0) : Int)))))), sI 2 .u32 bits_2, sO 7 (.slc 0), sI 8 .i64 i8, sB 37 (decide ((IntKind.i64.wrap ((IntKind.i64.wrap ((IntKind.u64.wrap at_1).tmod (IntKind.u64.wrap (IntKind.i64.wrap ((8 : Int) * (↑(List.length b_0) : Int)))))) + i8)) < (IntKind.i64.wrap ((8 : Int) * (↑(List.length b_0) : Int))))), hO 0 5 .u8 m7, hR 9000 .u8 b_0] [(decide (i8 < (32 : Int))) = true] (by kernel_rfl) (hone hb10) ?_
          refine q_k ?_
          rcases ite_split h with ⟨hc11, h⟩ | ⟨hc11, h⟩
          · refine tr_cond_t (decide ((IntKind.i64.wrap ((IntKind.i64.wrap ((IntKind.u64.wrap at_1).tmod (IntKind.u64.wrap (IntKind.i64.wrap ((8 : Int) * (↑(List.length b_0) : Int)))))) + i8)) < (IntKind.i64.wrap ((8 : Int) * (↑(List.length b_0) : Int))))) (by kernel_rfl) hc11 ?_
            refine tr_skip ?_
            refine q_k ?_
            refine tr_seq ?_
            refine tr_block ?_
            refine tr_seq ?_
            obtain ⟨hn12, h⟩ := ite_some h
            refine tr_reg hT [] [.s 0, .s 1, .s 2, .s 7, .s 8, .s 45, .h 0, .h 9000] [sO 0 (.slc 9000), sI 1 .i64 (IntKind.i64.wrap ((IntKind.u64.wrap at_1).tmod (IntKind.u64.wrap (IntKind.i64.wrap ((8 : Int) * (↑(List.length b_0) : Int)))))), sI 2 .u32 bits_2, sO 7 (.slc 0), sI 8 .i64 i8, sB 45 ((band .u32 (shr .u32 bits_2 (IntKind.u64.wrap i8)) (1 : Int)) == (1 : Int)), hO 0 5 .u8 m7, hR 9000 .u8 b_0] [0 ≤ (IntKind.u64.wrap i8)] (by kernel_rfl) (hone hn12) ?_
            refine q_k ?_
            rcases ite_split h with ⟨hc13, h⟩ | ⟨hc13, h⟩
            · refine tr_cond_t ((band .u32 (shr .u32 bits_2 (IntKind.u64.wrap i8)) (1 : Int)) == (1 : Int)) (by kernel_rfl) hc13 ?_
              obtain ⟨hn14, h⟩ := ite_some h
              obtain ⟨hn15, h⟩ := ite_some h
              refine tr_reg hT [] [.s 0, .s 1, .s 2, .s 7, .s 8, .h 0, .h 9000] [sO 0 (.slc 9000), sI 1 .i64 (IntKind.i64.wrap ((IntKind.u64.wrap at_1).tmod (IntKind.u64.wrap (IntKind.i64.wrap ((8 : Int) * (↑(List.length b_0) : Int)))))), sI 2 .u32 bits_2, sO 7 (.slc 0), sI 8 .i64 i8, hO 0 5 .u8 (m7.set (IntKind.i64.wrap ((IntKind.i64.wrap ((IntKind.i64.wrap ((IntKind.u64.wrap at_1).tmod (IntKind.u64.wrap (IntKind.i64.wrap ((8 : Int) * (↑(List.length b_0) : Int)))))) + i8)).tdiv (8 : Int))).toNat (bxor .u8 (m7.getD (IntKind.i64.wrap ((IntKind.i64.wrap ((IntKind.i64.wrap ((IntKind.u64.wrap at_1).tmod (IntKind.u64.wrap (IntKind.i64.wrap ((8 : Int) * (↑(List.length b_0) : Int)))))) + i8)).tdiv (8 : Int))).toNat 0) (shl .u8 (1 : Int) (IntKind.u64.wrap ((IntKind.i64.wrap ((IntKind.i64.wrap ((IntKind.u64.wrap at_1).tmod (IntKind.u64.wrap (IntKind.i64.wrap ((8 : Int) * (↑(List.length b_0) : Int)))))) + i8)).tmod (8 : Int)))))), hR 9000 .u8 b_0] [(8 : Int) ≠ 0, 0 ≤ (IntKind.i64.wrap ((IntKind.i64.wrap ((IntKind.i64.wrap ((IntKind.u64.wrap at_1).tmod (IntKind.u64.wrap (IntKind.i64.wrap ((8 : Int) * (↑(List.length b_0) : Int)))))) + i8)).tdiv (8 : Int))) ∧ (IntKind.i64.wrap ((IntKind.i64.wrap ((IntKind.i64.wrap ((IntKind.u64.wrap at_1).tmod (IntKind.u64.wrap (IntKind.i64.wrap ((8 : Int) * (↑(List.length b_0) : Int)))))) + i8)).tdiv (8 : Int))) < ↑(List.length m7), (IntKind.i64.wrap ((IntKind.i64.wrap ((IntKind.i64.wrap ((IntKind.u64.wrap at_1).tmod (IntKind.u64.wrap (IntKind.i64.wrap ((8 : Int) * (↑(List.length b_0) : Int)))))) + i8)).tdiv (8 : Int))) < ↑(List.length m7), (8 : Int) ≠ 0, 0 ≤ (IntKind.u64.wrap ((IntKind.i64.wrap ((IntKind.i64.wrap ((IntKind.u64.wrap at_1).tmod (IntKind.u64.wrap (IntKind.i64.wrap ((8 : Int) * (↑(List.length b_0) : Int)))))) + i8)).tmod (8 : Int))), 0 ≤ (IntKind.i64.wrap ((IntKind.i64.wrap ((IntKind.i64.wrap ((IntKind.u64.wrap at_1).tmod (IntKind.u64.wrap (IntKind.i64.wrap ((8 : Int) * (↑(List.length b_0) : Int)))))) + i8)).tdiv (8 : Int))) ∧ (IntKind.i64.wrap ((IntKind.i64.wrap ((IntKind.i64.wrap ((IntKind.u64.wrap at_1).tmod (IntKind.u64.wrap (IntKind.i64.wrap ((8 : Int) * (↑(List.length b_0) : Int)))))) + i8)).tdiv (8 : Int))) < ↑(List.length m7), (IntKind.i64.wrap ((IntKind.i64.wrap ((IntKind.i64.wrap ((IntKind.u64.wrap at_1).tmod (IntKind.u64.wrap (IntKind.i64.wrap ((8 : Int) * (↑(List.length b_0) : Int)))))) + i8)).tdiv (8 : Int))) < ↑(List.length m7)] (by kernel_rfl) (hcons (by decide) (hcons hn14 (hcons hn14.2 (hcons (by decide) (hcons hn15 (hcons hn14 (hone hn14.2))))))) ?_
              refine q_b 1 ?_
              refine q_k ?_
              refine tr_reg hT [] [.s 0, .s 1, .s 2, .s 7, .s 8, .h 0, .h 9000] [sO 0 (.slc 9000), sI 1 .i64 (IntKind.i64.wrap ((IntKind.u64.wrap at_1).tmod (IntKind.u64.wrap (IntKind.i64.wrap ((8 : Int) * (↑(List.length b_0) : Int)))))), sI 2 .u32 bits_2, sO 7 (.slc 0), sI 8 .i64 (IntKind.i64.wrap (i8 + (1 : Int))), hO 0 5 .u8 (m7.set (IntKind.i64.wrap ((IntKind.i64.wrap ((IntKind.i64.wrap ((IntKind.u64.wrap at_1).tmod (IntKind.u64.wrap (IntKind.i64.wrap ((8 : Int) * (↑(List.length b_0) : Int)))))) + i8)).tdiv (8 : Int))).toNat (bxor .u8 (m7.getD (IntKind.i64.wrap ((IntKind.i64.wrap ((IntKind.i64.wrap ((IntKind.u64.wrap at_1).tmod (IntKind.u64.wrap (IntKind.i64.wrap ((8 : Int) * (↑(List.length b_0) : Int)))))) + i8)).tdiv (8 : Int))).toNat 0) (shl .u8 (1 : Int) (IntKind.u64.wrap ((IntKind.i64.wrap ((IntKind.i64.wrap ((IntKind.u64.wrap at_1).tmod (IntKind.u64.wrap (IntKind.i64.wrap ((8 : Int) * (↑(List.length b_0) : Int)))))) + i8)).tmod (8 : Int)))))), hR 9000 .u8 b_0] [] (by kernel_rfl) trivial ?_
              refine q_kr ?_
              exact trR_less [.s 0, .s 1, .s 2, .s 7, .s 8, .h 0, .h 9000] [sO 0 (.slc 9000), sI 1 .i64 (IntKind.i64.wrap ((IntKind.u64.wrap at_1).tmod (IntKind.u64.wrap (IntKind.i64.wrap ((8 : Int) * (↑(List.length b_0) : Int)))))), sI 2 .u32 bits_2, sO 7 (.slc 0), sI 8 .i64 (IntKind.i64.wrap (i8 + (1 : Int))), hO 0 5 .u8 (m7.set (IntKind.i64.wrap ((IntKind.i64.wrap ((IntKind.i64.wrap ((IntKind.u64.wrap at_1).tmod (IntKind.u64.wrap (IntKind.i64.wrap ((8 : Int) * (↑(List.length b_0) : Int)))))) + i8)).tdiv (8 : Int))).toNat (bxor .u8 (m7.getD (IntKind.i64.wrap ((IntKind.i64.wrap ((IntKind.i64.wrap ((IntKind.u64.wrap at_1).tmod (IntKind.u64.wrap (IntKind.i64.wrap ((8 : Int) * (↑(List.length b_0) : Int)))))) + i8)).tdiv (8 : Int))).toNat 0) (shl .u8 (1 : Int) (IntKind.u64.wrap ((IntKind.i64.wrap ((IntKind.i64.wrap ((IntKind.u64.wrap at_1).tmod (IntKind.u64.wrap (IntKind.i64.wrap ((8 : Int) * (↑(List.length b_0) : Int)))))) + i8)).tmod (8 : Int)))))), hR 9000 .u8 b_0] (by kernel_rfl) (ih0 ((m7.set (IntKind.i64.wrap ((IntKind.i64.wrap ((IntKind.i64.wrap ((IntKind.u64.wrap at_1).tmod (IntKind.u64.wrap (IntKind.i64.wrap ((8 : Int) * (↑(List.length b_0) : Int)))))) + i8)).tdiv (8 : Int))).toNat (bxor .u8 (m7.getD (IntKind.i64.wrap ((IntKind.i64.wrap ((IntKind.i64.wrap ((IntKind.u64.wrap at_1).tmod (IntKind.u64.wrap (IntKind.i64.wrap ((8 : Int) * (↑(List.length b_0) : Int)))))) + i8)).tdiv (8 : Int))).toNat 0) (shl .u8 (1 : Int) (IntKind.u64.wrap ((IntKind.i64.wrap ((IntKind.i64.wrap ((IntKind.u64.wrap at_1).tmod (IntKind.u64.wrap (IntKind.i64.wrap ((8 : Int) * (↑(List.length b_0) : Int)))))) + i8)).tmod (8 : Int)))))), (IntKind.i64.wrap (i8 + (1 : Int)))) h)
            · refine tr_cond_f ((band .u32 (shr .u32 bits_2 (IntKind.u64.wrap i8)) (1 : Int)) == (1 : Int)) (by kernel_rfl) hc13 ?_
              refine tr_skip ?_
              refine q_b 1 ?_
              refine q_k ?_
              refine tr_reg hT [] [.s 0, .s 1, .s 2, .s 7, .s 8, .h 0, .h 9000] [sO 0 (.slc 9000), sI 1 .i64 (IntKind.i64.wrap ((IntKind.u64.wrap at_1).tmod (IntKind.u64.wrap (IntKind.i64.wrap ((8 : Int) * (↑(List.length b_0) : Int)))))), sI 2 .u32 bits_2, sO 7 (.slc 0), sI 8 .i64 (IntKind.i64.wrap (i8 + (1 : Int))), hO 0 5 .u8 m7, hR 9000 .u8 b_0] [] (by kernel_rfl) trivial ?_
              refine q_kr ?_
              exact trR_less [.s 0, .s 1, .s 2, .s 7, .s 8, .h 0, .h 9000] [sO 0 (.slc 9000), sI 1 .i64 (IntKind.i64.wrap ((IntKind.u64.wrap at_1).tmod (IntKind.u64.wrap (IntKind.i64.wrap ((8 : Int) * (↑(List.length b_0) : Int)))))), sI 2 .u32 bits_2, sO 7 (.slc 0), sI 8 .i64 (IntKind.i64.wrap (i8 + (1 : Int))), hO 0 5 .u8 m7, hR 9000 .u8 b_0] (by kernel_rfl) (ih0 (m7, (IntKind.i64.wrap (i8 + (1 : Int)))) h)
          · refine tr_cond_f (decide ((IntKind.i64.wrap ((IntKind.i64.wrap ((IntKind.u64.wrap at_1).tmod (IntKind.u64.wrap (IntKind.i64.wrap ((8 : Int) * (↑(List.length b_0) : Int)))))) + i8)) < (IntKind.i64.wrap ((8 : Int) * (↑(List.length b_0) : Int))))) (by kernel_rfl) hc11 ?_
            refine tr_exit ?_
            refine q_k_exit ?_
            refine q_kr_exit ?_
            have h := Option.some.inj h
            subst h
            exact q_less [.s 0, .s 7, .h 0, .h 9000] [sO 0 (.slc 9000), sO 7 (.slc 0), hO 0 5 .u8 m7, hR 9000 .u8 b_0] (by kernel_rfl) hx0
        · refine tr_reg hT [(2, .dec false)] [.s 0, .s 1, .s 2, .s 7, .s 8, .s 37, .h 0, .h 9000] [sO 0 (.slc 9000), sI 1 .i64 (IntKind.i64.wrap ((IntKind.u64.wrap at_1).tmod (IntKind.u64.wrap (IntKind.i64.wrap ((8 : Int) * (↑(List.length b_0) : Int)))))), sI 2 .u32 bits_2, sO 7 (.slc 0), sI 8 .i64 i8, sB 37 false, hO 0 5 .u8 m7, hR 9000 .u8 b_0] [(decide (i8 < (32 : Int))) = false] (by kernel_rfl) (hone hb16) ?_
          refine q_k ?_
          refine tr_cond_f false (by kernel_rfl) rfl ?_
          refine tr_exit ?_
          refine q_k_exit ?_
          refine q_kr_exit ?_
          have h := Option.some.inj h
          subst h
          exact q_less [.s 0, .s 7, .h 0, .h 9000] [sO 0 (.slc 9000), sO 7 (.slc 0), hO 0 5 .u8 m7, hR 9000 .u8 b_0] (by kernel_rfl) hx0

theorem law03_CrcLinear_ok (a_0 : List Int) (b_1 : List Int) (c_2 : List Int) (r : Bool) (h : law03_CrcLinear a_0 b_1 c_2 = some r) : CallOk P 6 [.v (.one (.slc 9000)), .v (.one (.slc 9001)), .v (.one (.slc 9002))] [(9000, .rd .u8 a_0), (9001, .rd .u8 b_1), (9002, .rd .u8 c_2)] (.v (.one (.bool r))) [] := by
  refine call1 (N := 75) Try.func6 (by kernel_rfl) rfl rfl rfl [(9000, .rd .u8 a_0), (9001, .rd .u8 b_1), (9002, .rd .u8 c_2)] (by kernel_rfl) ?_
  intro _ B w0
  show Tr P B 75 w0 _ _ (RetQ P Try.f6 (R1 _ _ B w0))
  unfold law03_CrcLinear at h
  refine tr_seq ?_
  refine tr_reg hT [] [.s 0, .s 1, .s 2, .h 9000, .h 9001, .h 9002] [sO 0 (.slc 9000), sO 1 (.slc 9001), sO 2 (.slc 9002), hR 9000 .u8 a_0, hR 9001 .u8 b_1, hR 9002 .u8 c_2] [] (by kernel_rfl) trivial ?_
  refine q_k ?_
  refine tr_seq ?_
  refine tr_seq ?_
  rcases ite_split h with ⟨hb1, h⟩ | ⟨hb2, h⟩
  · refine tr_reg hT [(3, .dec true)] [.s 0, .s 1, .s 2, .s 22, .h 9000, .h 9001, .h 9002] [sO 0 (.slc 9000), sO 1 (.slc 9001), sO 2 (.slc 9002), sB 22 true, hR 9000 .u8 a_0, hR 9001 .u8 b_1, hR 9002 .u8 c_2] [(decide ((↑(List.length a_0) : Int) > (400 : Int))) = true] (by kernel_rfl) (hone hb1) ?_
    refine q_k ?_
    refine tr_cond_t true (by kernel_rfl) rfl ?_
    refine tr_seq ?_
    refine tr_reg hT [] [.s 6] [sB 6 true] [] (by kernel_rfl) trivial ?_
    refine q_k ?_
    refine tr_ret ?_
    refine q_k_ret ?_
    have h := Option.some.inj h
    subst h
    refine q_less [.s 6] [sB 6 true] (by kernel_rfl) ?_
    exact q_ret1 hT (.v (.one (.bool true))) [] (by kernel_rfl) (by kernel_rfl) (by kernel_rfl)
  · rcases ite_split h with ⟨hb3, h⟩ | ⟨hb4, h⟩
    · refine tr_reg hT [(3, .dec false), (8, .dec true)] [.s 0, .s 1, .s 2, .s 22, .h 9000, .h 9001, .h 9002] [sO 0 (.slc 9000), sO 1 (.slc 9001), sO 2 (.slc 9002), sB 22 true, hR 9000 .u8 a_0, hR 9001 .u8 b_1, hR 9002 .u8 c_2] [(decide ((↑(List.length a_0) : Int) > (400 : Int))) = false, (decide ((↑(List.length b_1) : Int) > (400 : Int))) = true] (by kernel_rfl) (hcons hb2 (hone hb3)) ?_
      refine q_k ?_
      refine tr_cond_t true (by kernel_rfl) rfl ?_
      refine tr_seq ?_
      refine tr_reg hT [] [.s 6] [sB 6 true] [] (by kernel_rfl) trivial ?_
      refine q_k ?_
      refine tr_ret ?_
      refine q_k_ret ?_
      have h := Option.some.inj h
      subst h
      refine q_less [.s 6] [sB 6 true] (by kernel_rfl) ?_
      exact q_ret1 hT (.v (.one (.bool true))) [] (by kernel_rfl) (by kernel_rfl) (by kernel_rfl)
    · refine tr_reg hT [(3, .dec false), (8, .dec false)] [.s 0, .s 1, .s 2, .s 22, .h 9000, .h 9001, .h 9002] [sO 0 (.slc 9000), sO 1 (.slc 9001), sO 2 (.slc 9002), sB 22 (decide ((↑(List.length c_2) : Int) > (400 : Int))), hR 9000 .u8 a_0, hR 9001 .u8 b_1, hR 9002 .u8 c_2] [(decide ((↑(List.length a_0) : Int) > (400 : Int))) = false, (decide ((↑(List.length b_1) : Int) > (400 : Int))) = false] (by kernel_rfl) (hcons hb2 (hone hb4)) ?_
      refine q_k ?_
      rcases ite_split h with ⟨hc5, h⟩ | ⟨hc5, h⟩
      · refine tr_cond_t (decide ((↑(List.length c_2) : Int) > (400 : Int))) (by kernel_rfl) hc5 ?_
        refine tr_seq ?_
        refine tr_reg hT [] [.s 6] [sB 6 true] [] (by kernel_rfl) trivial ?_
        refine q_k ?_
        refine tr_ret ?_
        refine q_k_ret ?_
        have h := Option.some.inj h
        subst h
        refine q_less [.s 6] [sB 6 true] (by kernel_rfl) ?_
        exact q_ret1 hT (.v (.one (.bool true))) [] (by kernel_rfl) (by kernel_rfl) (by kernel_rfl)
      · refine tr_cond_f (decide ((↑(List.length c_2) : Int) > (400 : Int))) (by kernel_rfl) hc5 ?_
        refine tr_skip ?_
        refine q_k ?_
        refine tr_seq ?_
        refine tr_reg hT [] [.s 0, .s 1, .s 2, .s 7, .h 9000, .h 9001, .h 9002] [sO 0 (.slc 9000), sO 1 (.slc 9001), sO 2 (.slc 9002), sI 7 .i64 (if (if (↑(List.length c_2) : Int) < (↑(List.length b_1) : Int) then (↑(List.length c_2) : Int) else (↑(List.length b_1) : Int)) < (↑(List.length a_0) : Int) then (if (↑(List.length c_2) : Int) < (↑(List.length b_1) : Int) then (↑(List.length c_2) : Int) else (↑(List.length b_1) : Int)) else (↑(List.length a_0) : Int)), hR 9000 .u8 a_0, hR 9001 .u8 b_1, hR 9002 .u8 c_2] [] (by kernel_rfl) trivial ?_
        refine q_k ?_
        refine tr_seq ?_
        obtain ⟨hn6, h⟩ := ite_some h
        refine tr_reg hT [(1, .key 0)] [.s 0, .s 1, .s 2, .s 7, .s 8, .h 0, .h 9000, .h 9001, .h 9002] [sO 0 (.slc 9000), sO 1 (.slc 9001), sO 2 (.slc 9002), sI 7 .i64 (if (if (↑(List.length c_2) : Int) < (↑(List.length b_1) : Int) then (↑(List.length c_2) : Int) else (↑(List.length b_1) : Int)) < (↑(List.length a_0) : Int) then (if (↑(List.length c_2) : Int) < (↑(List.length b_1) : Int) then (↑(List.length c_2) : Int) else (↑(List.length b_1) : Int)) else (↑(List.length a_0) : Int)), sO 8 (.slc 0), hO 0 5 .u8 (List.replicate (if (if (↑(List.length c_2) : Int) < (↑(List.length b_1) : Int) then (↑(List.length c_2) : Int) else (↑(List.length b_1) : Int)) < (↑(List.length a_0) : Int) then (if (↑(List.length c_2) : Int) < (↑(List.length b_1) : Int) then (↑(List.length c_2) : Int) else (↑(List.length b_1) : Int)) else (↑(List.length a_0) : Int)).toNat (0 : Int)), hR 9000 .u8 a_0, hR 9001 .u8 b_1, hR 9002 .u8 c_2] [(if (if (↑(List.length c_2) : Int) < (↑(List.length b_1) : Int) then (↑(List.length c_2) : Int) else (↑(List.length b_1) : Int)) < (↑(List.length a_0) : Int) then (if (↑(List.length c_2) : Int) < (↑(List.length b_1) : Int) then (↑(List.length c_2) : Int) else (↑(List.length b_1) : Int)) else (↑(List.length a_0) : Int)) = (if (if (↑(List.length c_2) : Int) < (↑(List.length b_1) : Int) then (↑(List.length c_2) : Int) else (↑(List.length b_1) : Int)) < (↑(List.length a_0) : Int) then (if (↑(List.length c_2) : Int) < (↑(List.length b_1) : Int) then (↑(List.length c_2) : Int) else (↑(List.length b_1) : Int)) else (↑(List.length a_0) : Int)), 0 ≤ (if (if (↑(List.length c_2) : Int) < (↑(List.length b_1) : Int) then (↑(List.length c_2) : Int) else (↑(List.length b_1) : Int)) < (↑(List.length a_0) : Int) then (if (↑(List.length c_2) : Int) < (↑(List.length b_1) : Int) then (↑(List.length c_2) : Int) else (↑(List.length b_1) : Int)) else (↑(List.length a_0) : Int)) ∧ (if (if (↑(List.length c_2) : Int) < (↑(List.length b_1) : Int) then (↑(List.length c_2) : Int) else (↑(List.length b_1) : Int)) < (↑(List.length a_0) : Int) then (if (↑(List.length c_2) : Int) < (↑(List.length b_1) : Int) then (↑(List.length c_2) : Int) else (↑(List.length b_1) : Int)) else (↑(List.length a_0) : Int)) ≤ (↑maxN : Int)] (by kernel_rfl) (hcons rfl (hone hn6)) ?_
        refine q_k ?_
        refine tr_seq ?_
        refine tr_seq ?_
        refine tr_reg hT [] [.s 0, .s 1, .s 2, .s 7, .s 8, .s 9, .h 0, .h 9000, .h 9001, .h 9002] [sO 0 (.slc 9000), sO 1 (.slc 9001), sO 2 (.slc 9002), sI 7 .i64 (if (if (↑(List.length c_2) : Int) < (↑(List.length b_1) : Int) then (↑(List.length c_2) : Int) else (↑(List.length b_1) : Int)) < (↑(List.length a_0) : Int) then (if (↑(List.length c_2) : Int) < (↑(List.length b_1) : Int) then (↑(List.length c_2) : Int) else (↑(List.length b_1) : Int)) else (↑(List.length a_0) : Int)), sO 8 (.slc 0), sI 9 .i64 (0 : Int), hO 0 5 .u8 (List.replicate (if (if (↑(List.length c_2) : Int) < (↑(List.length b_1) : Int) then (↑(List.length c_2) : Int) else (↑(List.length b_1) : Int)) < (↑(List.length a_0) : Int) then (if (↑(List.length c_2) : Int) < (↑(List.length b_1) : Int) then (↑(List.length c_2) : Int) else (↑(List.length b_1) : Int)) else (↑(List.length a_0) : Int)).toNat (0 : Int)), hR 9000 .u8 a_0, hR 9001 .u8 b_1, hR 9002 .u8 c_2] [] (by kernel_rfl) trivial ?_
        refine q_k ?_
        refine tr_block ?_
        obtain ⟨m9, e15, h⟩ := bind_some h
        refine tr_fit [] [sO 0 (.slc 9000), sO 1 (.slc 9001), sO 2 (.slc 9002), sI 7 .i64 (if (if (↑(List.length c_2) : Int) < (↑(List.length b_1) : Int) then (↑(List.length c_2) : Int) else (↑(List.length b_1) : Int)) < (↑(List.length a_0) : Int) then (if (↑(List.length c_2) : Int) < (↑(List.length b_1) : Int) then (↑(List.length c_2) : Int) else (↑(List.length b_1) : Int)) else (↑(List.length a_0) : Int)), sO 8 (.slc 0), sI 9 .i64 (0 : Int), hO 0 5 .u8 (List.replicate (if (if (↑(List.length c_2) : Int) < (↑(List.length b_1) : Int) then (↑(List.length c_2) : Int) else (↑(List.length b_1) : Int)) < (↑(List.length a_0) : Int) then (if (↑(List.length c_2) : Int) < (↑(List.length b_1) : Int) then (↑(List.length c_2) : Int) else (↑(List.length b_1) : Int)) else (↑(List.length a_0) : Int)).toNat (0 : Int)), hR 9000 .u8 a_0, hR 9001 .u8 b_1, hR 9002 .u8 c_2] [(0, .own 5 .u8 (List.replicate (if (if (↑(List.length c_2) : Int) < (↑(List.length b_1) : Int) then (↑(List.length c_2) : Int) else (↑(List.length b_1) : Int)) < (↑(List.length a_0) : Int) then (if (↑(List.length c_2) : Int) < (↑(List.length b_1) : Int) then (↑(List.length c_2) : Int) else (↑(List.length b_1) : Int)) else (↑(List.length a_0) : Int)).toNat (0 : Int))), (9000, .rd .u8 a_0), (9001, .rd .u8 b_1), (9002, .rd .u8 c_2)] (by kernel_rfl) (by kernel_rfl) (by kernel_rfl) rfl ⟨.own (by kernel_rfl), .rd (by kernel_rfl), .rd (by kernel_rfl), .rd (by kernel_rfl), trivial⟩ (by kernel_rfl) ?_
        refine tr_loop_fuel (id := 0) (α := List Int × Int) (β := List Int) (fun z => [sO 0 (.slc 9000), sO 1 (.slc 9001), sO 2 (.slc 9002), sI 7 .i64 (if (if (↑(List.length c_2) : Int) < (↑(List.length b_1) : Int) then (↑(List.length c_2) : Int) else (↑(List.length b_1) : Int)) < (↑(List.length a_0) : Int) then (if (↑(List.length c_2) : Int) < (↑(List.length b_1) : Int) then (↑(List.length c_2) : Int) else (↑(List.length b_1) : Int)) else (↑(List.length a_0) : Int)), sO 8 (.slc 0), sI 9 .i64 z.2, hO 0 5 .u8 z.1, hR 9000 .u8 a_0, hR 9001 .u8 b_1, hR 9002 .u8 c_2]) (fun z => [sO 0 (.slc 9000), sO 1 (.slc 9001), sO 2 (.slc 9002), sI 7 .i64 (if (if (↑(List.length c_2) : Int) < (↑(List.length b_1) : Int) then (↑(List.length c_2) : Int) else (↑(List.length b_1) : Int)) < (↑(List.length a_0) : Int) then (if (↑(List.length c_2) : Int) < (↑(List.length b_1) : Int) then (↑(List.length c_2) : Int) else (↑(List.length b_1) : Int)) else (↑(List.length a_0) : Int)), sO 8 (.slc 0), hO 0 5 .u8 z, hR 9000 .u8 a_0, hR 9001 .u8 b_1, hR 9002 .u8 c_2]) (fun k z => law03_CrcLinear_l0 a_0 b_1 c_2 k z.1 z.2) m9 (fun _ => rfl) (((if (if (↑(List.length c_2) : Int) < (↑(List.length b_1) : Int) then (↑(List.length c_2) : Int) else (↑(List.length b_1) : Int)) < (↑(List.length a_0) : Int) then (if (↑(List.length c_2) : Int) < (↑(List.length b_1) : Int) then (↑(List.length c_2) : Int) else (↑(List.length b_1) : Int)) else (↑(List.length a_0) : Int)) - (0 : Int)).toNat + 1) ((List.replicate (if (if (↑(List.length c_2) : Int) < (↑(List.length b_1) : Int) then (↑(List.length c_2) : Int) else (↑(List.length b_1) : Int)) < (↑(List.length a_0) : Int) then (if (↑(List.length c_2) : Int) < (↑(List.length b_1) : Int) then (↑(List.length c_2) : Int) else (↑(List.length b_1) : Int)) else (↑(List.length a_0) : Int)).toNat (0 : Int)), (0 : Int)) e15 ?_ ?_
        · skip
          replace h : ((crc_Sum m9).bind (fun r16 => if 0 ≤ (0 : Int) ∧ (0 : Int) ≤ (if (if (↑(List.length c_2) : Int) < (↑(List.length b_1) : Int) then (↑(List.length c_2) : Int) else (↑(List.length b_1) : Int)) < (↑(List.length a_0) : Int) then (if (↑(List.length c_2) : Int) < (↑(List.length b_1) : Int) then (↑(List.length c_2) : Int) else (↑(List.length b_1) : Int)) else (↑(List.length a_0) : Int)) ∧ (if (if (↑(List.length c_2) : Int) < (↑(List.length b_1) : Int) then (↑(List.length c_2) : Int) else (↑(List.length b_1) : Int)) < (↑(List.length a_0) : Int) then (if (↑(List.length c_2) : Int) < (↑(List.length b_1) : Int) then (↑(List.length c_2) : Int) else (↑(List.length b_1) : Int)) else (↑(List.length a_0) : Int)) ≤ (↑(List.length a_0) : Int) then (crc_Sum ((a_0.take ((if (if (↑(List.length c_2) : Int) < (↑(List.length b_1) : Int) then (↑(List.length c_2) : Int) else (↑(List.length b_1) : Int)) < (↑(List.length a_0) : Int) then (if (↑(List.length c_2) : Int) < (↑(List.length b_1) : Int) then (↑(List.length c_2) : Int) else (↑(List.length b_1) : Int)) else (↑(List.length a_0) : Int)).toNat)).drop 0)).bind (fun r19 => if 0 ≤ (0 : Int) ∧ (0 : Int) ≤ (if (if (↑(List.length c_2) : Int) < (↑(List.length b_1) : Int) then (↑(List.length c_2) : Int) else (↑(List.length b_1) : Int)) < (↑(List.length a_0) : Int) then (if (↑(List.length c_2) : Int) < (↑(List.length b_1) : Int) then (↑(List.length c_2) : Int) else (↑(List.length b_1) : Int)) else (↑(List.length a_0) : Int)) ∧ (if (if (↑(List.length c_2) : Int) < (↑(List.length b_1) : Int) then (↑(List.length c_2) : Int) else (↑(List.length b_1) : Int)) < (↑(List.length a_0) : Int) then (if (↑(List.length c_2) : Int) < (↑(List.length b_1) : Int) then (↑(List.length c_2) : Int) else (↑(List.length b_1) : Int)) else (↑(List.length a_0) : Int)) ≤ (↑(List.length b_1) : Int) then (crc_Sum ((b_1.take ((if (if (↑(List.length c_2) : Int) < (↑(List.length b_1) : Int) then (↑(List.length c_2) : Int) else (↑(List.length b_1) : Int)) < (↑(List.length a_0) : Int) then (if (↑(List.length c_2) : Int) < (↑(List.length b_1) : Int) then (↑(List.length c_2) : Int) else (↑(List.length b_1) : Int)) else (↑(List.length a_0) : Int)).toNat)).drop 0)).bind (fun r22 => if 0 ≤ (0 : Int) ∧ (0 : Int) ≤ (if (if (↑(List.length c_2) : Int) < (↑(List.length b_1) : Int) then (↑(List.length c_2) : Int) else (↑(List.length b_1) : Int)) < (↑(List.length a_0) : Int) then (if (↑(List.length c_2) : Int) < (↑(List.length b_1) : Int) then (↑(List.length c_2) : Int) else (↑(List.length b_1) : Int)) else (↑(List.length a_0) : Int)) ∧ (if (if (↑(List.length c_2) : Int) < (↑(List.length b_1) : Int) then (↑(List.length c_2) : Int) else (↑(List.length b_1) : Int)) < (↑(List.length a_0) : Int) then (if (↑(List.length c_2) : Int) < (↑(List.length b_1) : Int) then (↑(List.length c_2) : Int) else (↑(List.length b_1) : Int)) else (↑(List.length a_0) : Int)) ≤ (↑(List.length c_2) : Int) then (crc_Sum ((c_2.take ((if (if (↑(List.length c_2) : Int) < (↑(List.length b_1) : Int) then (↑(List.length c_2) : Int) else (↑(List.length b_1) : Int)) < (↑(List.length a_0) : Int) then (if (↑(List.length c_2) : Int) < (↑(List.length b_1) : Int) then (↑(List.length c_2) : Int) else (↑(List.length b_1) : Int)) else (↑(List.length a_0) : Int)).toNat)).drop 0)).bind (fun r25 => if (r16 == (bxor .u32 (bxor .u32 r19 r22) r25)) = true then (law03_wakes).bind (fun b28 => some b28) else some false) else none) else none) else none)) = _ := h
          refine q_b_this ?_
          refine q_k ?_
          refine tr_seq ?_
          obtain ⟨r16, e17, h⟩ := bind_some h
          obtain ⟨hn18, h⟩ := ite_some h
          obtain ⟨r19, e20, h⟩ := bind_some h
          obtain ⟨hn21, h⟩ := ite_some h
          obtain ⟨r22, e23, h⟩ := bind_some h
          obtain ⟨hn24, h⟩ := ite_some h
          obtain ⟨r25, e26, h⟩ := bind_some h
          rcases ite_split h with ⟨hb27, h⟩ | ⟨hb30, h⟩
          · obtain ⟨b28, e29, h⟩ := bind_some h
            refine tr_regd hT hM [(1, .call [0] (.v (.one (.int .u32 r16))) []), (4, .key 1), (5, .call [1] (.v (.one (.int .u32 r19))) []), (8, .key 2), (9, .call [2] (.v (.one (.int .u32 r22))) []), (13, .key 3), (14, .call [3] (.v (.one (.int .u32 r25))) []), (17, .dec true), (18, .call [] (.v (.one (.bool b28))) [])] [.s 6] [sB 6 b28] [CallOk P 24 [.v (.one (.slc 0))] [(0, .own 5 .u8 m9)] (.v (.one (.int .u32 r16))) [], 0 ≤ (0 : Int) ∧ (0 : Int) ≤ (if (if (↑(List.length c_2) : Int) < (↑(List.length b_1) : Int) then (↑(List.length c_2) : Int) else (↑(List.length b_1) : Int)) < (↑(List.length a_0) : Int) then (if (↑(List.length c_2) : Int) < (↑(List.length b_1) : Int) then (↑(List.length c_2) : Int) else (↑(List.length b_1) : Int)) else (↑(List.length a_0) : Int)) ∧ (if (if (↑(List.length c_2) : Int) < (↑(List.length b_1) : Int) then (↑(List.length c_2) : Int) else (↑(List.length b_1) : Int)) < (↑(List.length a_0) : Int) then (if (↑(List.length c_2) : Int) < (↑(List.length b_1) : Int) then (↑(List.length c_2) : Int) else (↑(List.length b_1) : Int)) else (↑(List.length a_0) : Int)) ≤ (↑(List.length a_0) : Int), CallOk P 24 [.v (.one (.slc 1))] [(1, .rd .u8 ((a_0.take ((if (if (↑(List.length c_2) : Int) < (↑(List.length b_1) : Int) then (↑(List.length c_2) : Int) else (↑(List.length b_1) : Int)) < (↑(List.length a_0) : Int) then (if (↑(List.length c_2) : Int) < (↑(List.length b_1) : Int) then (↑(List.length c_2) : Int) else (↑(List.length b_1) : Int)) else (↑(List.length a_0) : Int)).toNat)).drop 0))] (.v (.one (.int .u32 r19))) [], 0 ≤ (0 : Int) ∧ (0 : Int) ≤ (if (if (↑(List.length c_2) : Int) < (↑(List.length b_1) : Int) then (↑(List.length c_2) : Int) else (↑(List.length b_1) : Int)) < (↑(List.length a_0) : Int) then (if (↑(List.length c_2) : Int) < (↑(List.length b_1) : Int) then (↑(List.length c_2) : Int) else (↑(List.length b_1) : Int)) else (↑(List.length a_0) : Int)) ∧ (if (if (↑(List.length c_2) : Int) < (↑(List.length b_1) : Int) then (↑(List.length c_2) : Int) else (↑(List.length b_1) : Int)) < (↑(List.length a_0) : Int) then (if (↑(List.length c_2) : Int) < (↑(List.length b_1) : Int) then (↑(List.length c_2) : Int) else (↑(List.length b_1) : Int)) else (↑(List.length a_0) : Int)) ≤ (↑(List.length b_1) : Int), CallOk P 24 [.v (.one (.slc 2))] [(2, .rd .u8 ((b_1.take ((if (if (↑(List.length c_2) : Int) < (↑(List.length b_1) : Int) then (↑(List.length c_2) : Int) else (↑(List.length b_1) : Int)) < (↑(List.length a_0) : Int) then (if (↑(List.length c_2) : Int) < (↑(List.length b_1) : Int) then (↑(List.length c_2) : Int) else (↑(List.length b_1) : Int)) else (↑(List.length a_0) : Int)).toNat)).drop 0))] (.v (.one (.int .u32 r22))) [], 0 ≤ (0 : Int) ∧ (0 : Int) ≤ (if (if (↑(List.length c_2) : Int) < (↑(List.length b_1) : Int) then (↑(List.length c_2) : Int) else (↑(List.length b_1) : Int)) < (↑(List.length a_0) : Int) then (if (↑(List.length c_2) : Int) < (↑(List.length b_1) : Int) then (↑(List.length c_2) : Int) else (↑(List.length b_1) : Int)) else (↑(List.length a_0) : Int)) ∧ (if (if (↑(List.length c_2) : Int) < (↑(List.length b_1) : Int) then (↑(List.length c_2) : Int) else (↑(List.length b_1) : Int)) < (↑(List.length a_0) : Int) then (if (↑(List.length c_2) : Int) < (↑(List.length b_1) : Int) then (↑(List.length c_2) : Int) else (↑(List.length b_1) : Int)) else (↑(List.length a_0) : Int)) ≤ (↑(List.length c_2) : Int), CallOk P 24 [.v (.one (.slc 3))] [(3, .rd .u8 ((c_2.take ((if (if (↑(List.length c_2) : Int) < (↑(List.length b_1) : Int) then (↑(List.length c_2) : Int) else (↑(List.length b_1) : Int)) < (↑(List.length a_0) : Int) then (if (↑(List.length c_2) : Int) < (↑(List.length b_1) : Int) then (↑(List.length c_2) : Int) else (↑(List.length b_1) : Int)) else (↑(List.length a_0) : Int)).toNat)).drop 0))] (.v (.one (.int .u32 r25))) [], (r16 == (bxor .u32 (bxor .u32 r19 r22) r25)) = true, CallOk P 27 [] [] (.v (.one (.bool b28))) []] (by kernel_rfl) (hcons ((crc_Sum_ok m9 r16 e17).tr [(9000, .slc 0)] rfl (by kernel_rfl) ⟨.ownrd (e := 5) (by kernel_rfl), trivial⟩ (by kernel_rfl) (by kernel_rfl) rfl rfl) (hcons hn18 (hcons ((crc_Sum_ok ((a_0.take ((if (if (↑(List.length c_2) : Int) < (↑(List.length b_1) : Int) then (↑(List.length c_2) : Int) else (↑(List.length b_1) : Int)) < (↑(List.length a_0) : Int) then (if (↑(List.length c_2) : Int) < (↑(List.length b_1) : Int) then (↑(List.length c_2) : Int) else (↑(List.length b_1) : Int)) else (↑(List.length a_0) : Int)).toNat)).drop 0) r19 e20).tr [(9000, .slc 1)] rfl (by kernel_rfl) ⟨.rd (by kernel_rfl), trivial⟩ (by kernel_rfl) (by kernel_rfl) rfl rfl) (hcons hn21 (hcons ((crc_Sum_ok ((b_1.take ((if (if (↑(List.length c_2) : Int) < (↑(List.length b_1) : Int) then (↑(List.length c_2) : Int) else (↑(List.length b_1) : Int)) < (↑(List.length a_0) : Int) then (if (↑(List.length c_2) : Int) < (↑(List.length b_1) : Int) then (↑(List.length c_2) : Int) else (↑(List.length b_1) : Int)) else (↑(List.length a_0) : Int)).toNat)).drop 0) r22 e23).tr [(9000, .slc 2)] rfl (by kernel_rfl) ⟨.rd (by kernel_rfl), trivial⟩ (by kernel_rfl) (by kernel_rfl) rfl rfl) (hcons hn24 (hcons ((crc_Sum_ok ((c_2.take ((if (if (↑(List.length c_2) : Int) < (↑(List.length b_1) : Int) then (↑(List.length c_2) : Int) else (↑(List.length b_1) : Int)) < (↑(List.length a_0) : Int) then (if (↑(List.length c_2) : Int) < (↑(List.length b_1) : Int) then (↑(List.length c_2) : Int) else (↑(List.length b_1) : Int)) else (↑(List.length a_0) : Int)).toNat)).drop 0) r25 e26).tr [(9000, .slc 3)] rfl (by kernel_rfl) ⟨.rd (by kernel_rfl), trivial⟩ (by kernel_rfl) (by kernel_rfl) rfl rfl) (hcons hb27 (hone (law03_wakes_ok  b28 e29)))))))))) ?_
            refine q_k ?_
            refine tr_ret ?_
            have h := Option.some.inj h
            subst h
            refine q_less [.s 6] [sB 6 b28] (by kernel_rfl) ?_
            exact q_ret1 hT (.v (.one (.bool b28))) [] (by kernel_rfl) (by kernel_rfl) (by kernel_rfl)
          · refine tr_regd hT hM [(1, .call [0] (.v (.one (.int .u32 r16))) []), (4, .key 1), (5, .call [1] (.v (.one (.int .u32 r19))) []), (8, .key 2), (9, .call [2] (.v (.one (.int .u32 r22))) []), (13, .key 3), (14, .call [3] (.v (.one (.int .u32 r25))) []), (17, .dec false)] [.s 6] [sB 6 false] [CallOk P 24 [.v (.one (.slc 0))] [(0, .own 5 .u8 m9)] (.v (.one (.int .u32 r16))) [], 0 ≤ (0 : Int) ∧ (0 : Int) ≤ (if (if (↑(List.length c_2) : Int) < (↑(List.length b_1) : Int) then (↑(List.length c_2) : Int) else (↑(List.length b_1) : Int)) < (↑(List.length a_0) : Int) then (if (↑(List.length c_2) : Int) < (↑(List.length b_1) : Int) then (↑(List.length c_2) : Int) else (↑(List.length b_1) : Int)) else (↑(List.length a_0) : Int)) ∧ (if (if (↑(List.length c_2) : Int) < (↑(List.length b_1) : Int) then (↑(List.length c_2) : Int) else (↑(List.length b_1) : Int)) < (↑(List.length a_0) : Int) then (if (↑(List.length c_2) : Int) < (↑(List.length b_1) : Int) then (↑(List.length c_2) : Int) else (↑(List.length b_1) : Int)) else (↑(List.length a_0) : Int)) ≤ (↑(List.length a_0) : Int), CallOk P 24 [.v (.one (.slc 1))] [(1, .rd .u8 ((a_0.take ((if (if (↑(List.length c_2) : Int) < (↑(List.length b_1) : Int) then (↑(List.length c_2) : Int) else (↑(List.length b_1) : Int)) < (↑(List.length a_0) : Int) then (if (↑(List.length c_2) : Int) < (↑(List.length b_1) : Int) then (↑(List.length c_2) : Int) else (↑(List.length b_1) : Int)) else (↑(List.length a_0) : Int)).toNat)).drop 0))] (.v (.one (.int .u32 r19))) [], 0 ≤ (0 : Int) ∧ (0 : Int) ≤ (if (if (↑(List.length c_2) : Int) < (↑(List.length b_1) : Int) then (↑(List.length c_2) : Int) else (↑(List.length b_1) : Int)) < (↑(List.length a_0) : Int) then (if (↑(List.length c_2) : Int) < (↑(List.length b_1) : Int) then (↑(List.length c_2) : Int) else (↑(List.length b_1) : Int)) else (↑(List.length a_0) : Int)) ∧ (if (if (↑(List.length c_2) : Int) < (↑(List.length b_1) : Int) then (↑(List.length c_2) : Int) else (↑(List.length b_1) : Int)) < (↑(List.length a_0) : Int) then (if (↑(List.length c_2) : Int) < (↑(List.length b_1) : Int) then (↑(List.length c_2) : Int) else (↑(List.length b_1) : Int)) else (↑(List.length a_0) : Int)) ≤ (↑(List.length b_1) : Int), CallOk P 24 [.v (.one (.slc 2))] [(2, .rd .u8 ((b_1.take ((if (if (↑(List.length c_2) : Int) < (↑(List.length b_1) : Int) then (↑(List.length c_2) : Int) else (↑(List.length b_1) : Int)) < (↑(List.length a_0) : Int) then (if (↑(List.length c_2) : Int) < (↑(List.length b_1) : Int) then (↑(List.length c_2) : Int) else (↑(List.length b_1) : Int)) else (↑(List.length a_0) : Int)).toNat)).drop 0))] (.v (.one (.int .u32 r22))) [], 0 ≤ (0 : Int) ∧ (0 : Int) ≤ (if (if (↑(List.length c_2) : Int) < (↑(List.length b_1) : Int) then (↑(List.length c_2) : Int) else (↑(List.length b_1) : Int)) < (↑(List.length a_0) : Int) then (if (↑(List.length c_2) : Int) < (↑(List.length b_1) : Int) then (↑(List.length c_2) : Int) else (↑(List.length b_1) : Int)) else (↑(List.length a_0) : Int)) ∧ (if (if (↑(List.length c_2) : Int) < (↑(List.length b_1) : Int) then (↑(List.length c_2) : Int) else (↑(List.length b_1) : Int)) < (↑(List.length a_0) : Int) then (if (↑(List.length c_2) : Int) < (↑(List.length b_1) : Int) then (↑(List.length c_2) : Int) else (↑(List.length b_1) : Int)) else (↑(List.length a_0) : Int)) ≤ (↑(List.length c_2) : Int), CallOk P 24 [.v (.one (.slc 3))] [(3, .rd .u8 ((c_2.take ((if (if (↑(List.length c_2) : Int) < (↑(List.length b_1) : Int) then (↑(List.length c_2) : Int) else (↑(List.length b_1) : Int)) < (↑(List.length a_0) : Int) then (if (↑(List.length c_2) : Int) < (↑(List.length b_1) : Int) then (↑(List.length c_2) : Int) else (↑(List.length b_1) : Int)) else (↑(List.length a_0) : Int)).toNat)).drop 0))] (.v (.one (.int .u32 r25))) [], (r16 == (bxor .u32 (bxor .u32 r19 r22) r25)) = false] (by kernel_rfl) (hcons ((crc_Sum_ok m9 r16 e17).tr [(9000, .slc 0)] rfl (by kernel_rfl) ⟨.ownrd (e := 5) (by kernel_rfl), trivial⟩ (by kernel_rfl) (by kernel_rfl) rfl rfl) (hcons hn18 (hcons ((crc_Sum_ok ((a_0.take ((if (if (↑(List.length c_2) : Int) < (↑(List.length b_1) : Int) then (↑(List.length c_2) : Int) else (↑(List.length b_1) : Int)) < (↑(List.length a_0) : Int) then (if (↑(List.length c_2) : Int) < (↑(List.length b_1) : Int) then (↑(List.length c_2) : Int) else (↑(List.length b_1) : Int)) else (↑(List.length a_0) : Int)).toNat)).drop 0) r19 e20).tr [(9000, .slc 1)] rfl (by kernel_rfl) ⟨.rd (by kernel_rfl), trivial⟩ (by kernel_rfl) (by kernel_rfl) rfl rfl) (hcons hn21 (hcons ((crc_Sum_ok ((b_1.take ((if (if (↑(List.length c_2) : Int) < (↑(List.length b_1) : Int) then (↑(List.length c_2) : Int) else (↑(List.length b_1) : Int)) < (↑(List.length a_0) : Int) then (if (↑(List.length c_2) : Int) < (↑(List.length b_1) : Int) then (↑(List.length c_2) : Int) else (↑(List.length b_1) : Int)) else (↑(List.length a_0) : Int)).toNat)).drop 0) r22 e23).tr [(9000, .slc 2)] rfl (by kernel_rfl) ⟨.rd (by kernel_rfl), trivial⟩ (by kernel_rfl) (by kernel_rfl) rfl rfl) (hcons hn24 (hcons ((crc_Sum_ok ((c_2.take ((if (if (↑(List.length c_2) : Int) < (↑(List.length b_1) : Int) then (↑(List.length c_2) : Int) else (↑(List.length b_1) : Int)) < (↑(List.length a_0) : Int) then (if (↑(List.length c_2) : Int) < (↑(List.length b_1) : Int) then (↑(List.length c_2) : Int) else (↑(List.length b_1) : Int)) else (↑(List.length a_0) : Int)).toNat)).drop 0) r25 e26).tr [(9000, .slc 3)] rfl (by kernel_rfl) ⟨.rd (by kernel_rfl), trivial⟩ (by kernel_rfl) (by kernel_rfl) rfl rfl) (hone hb30)))))))) ?_
            refine q_k ?_
            refine tr_ret ?_
            have h := Option.some.inj h
            subst h
            refine q_less [.s 6] [sB 6 false] (by kernel_rfl) ?_
            exact q_ret1 hT (.v (.one (.bool false))) [] (by kernel_rfl) (by kernel_rfl) (by kernel_rfl)
        · clear h e15
          intro k ih0 hx0 z h
          obtain ⟨m7, i8⟩ := z
          replace h : (if (decide (i8 < (if (if (↑(List.length c_2) : Int) < (↑(List.length b_1) : Int) then (↑(List.length c_2) : Int) else (↑(List.length b_1) : Int)) < (↑(List.length a_0) : Int) then (if (↑(List.length c_2) : Int) < (↑(List.length b_1) : Int) then (↑(List.length c_2) : Int) else (↑(List.length b_1) : Int)) else (↑(List.length a_0) : Int)))) = true then if 0 ≤ i8 ∧ i8 < ↑(List.length a_0) then if 0 ≤ i8 ∧ i8 < ↑(List.length b_1) then if 0 ≤ i8 ∧ i8 < ↑(List.length c_2) then if 0 ≤ i8 ∧ i8 < ↑(List.length m7) then law03_CrcLinear_l0 a_0 b_1 c_2 k (m7.set i8.toNat (bxor .u8 (bxor .u8 (a_0.getD i8.toNat 0) (b_1.getD i8.toNat 0)) (c_2.getD i8.toNat 0))) (IntKind.i64.wrap (i8 + (1 : Int))) else none else none else none else none else some m7) = _ := h
          refine tr_seq ?_
          refine tr_seq ?_
          refine tr_reg hT [] [.s 0, .s 1, .s 2, .s 7, .s 8, .s 9, .s 35, .h 0, .h 9000, .h 9001, .h 9002] [sO 0 (.slc 9000), sO 1 (.slc 9001), sO 2 (.slc 9002), sI 7 .i64 (if (if (↑(List.length c_2) : Int) < (↑(List.length b_1) : Int) then (↑(List.length c_2) : Int) else (↑(List.length b_1) : Int)) < (↑(List.length a_0) : Int) then (if (↑(List.length c_2) : Int) < (↑(List.length b_1) : Int) then (↑(List.length c_2) : Int) else (↑(List.length b_1) : Int)) else (↑(List.length a_0) : Int)), sO 8 (.slc 0), sI 9 .i64 i8, sB 35 (decide (i8 < (if (if (↑(List.length c_2) : Int) < (↑(List.length b_1) : Int) then (↑(List.length c_2) : Int) else (↑(List.length b_1) : Int)) < (↑(List.length a_0) : Int) then (if (↑(List.length c_2) : Int) < (↑(List.length b_1) : Int) then (↑(List.length c_2) : Int) else (↑(List.length b_1) : Int)) else (↑(List.length a_0) : Int)))), hO 0 5 .u8 m7, hR 9000 .u8 a_0, hR 9001 .u8 b_1, hR 9002 .u8 c_2] [] (by kernel_rfl) trivial ?_
          refine q_k ?_
          rcases ite_split h with ⟨hc10, h⟩ | ⟨hc10, h⟩
          · refine tr_cond_t (decide (i8 < (if (if (↑(List.length c_2) : Int) < (↑(List.length b_1) : Int) then (↑(List.length c_2) : Int) else (↑(List.length b_1) : Int)) < (↑(List.length a_0) : Int) then (if (↑(List.length c_2) : Int) < (↑(List.length b_1) : Int) then (↑(List.length c_2) : Int) else (↑(List.length b_1) : Int)) else (↑(List.length a_0) : Int)))) (by kernel_rfl) hc10 ?_
            refine tr_skip ?_
            refine q_k ?_
            refine tr_seq ?_
            refine tr_block ?_
            obtain ⟨hn11, h⟩ := ite_some h
            obtain ⟨hn12, h⟩ := ite_some h
            obtain ⟨hn13, h⟩ := ite_some h
            obtain ⟨hn14, h⟩ := ite_some h
            refine tr_regd hT hM [] [.s 0, .s 1, .s 2, .s 7, .s 8, .s 9, .h 0, .h 9000, .h 9001, .h 9002] [sO 0 (.slc 9000), sO 1 (.slc 9001), sO 2 (.slc 9002), sI 7 .i64 (if (if (↑(List.length c_2) : Int) < (↑(List.length b_1) : Int) then (↑(List.length c_2) : Int) else (↑(List.length b_1) : Int)) < (↑(List.length a_0) : Int) then (if (↑(List.length c_2) : Int) < (↑(List.length b_1) : Int) then (↑(List.length c_2) : Int) else (↑(List.length b_1) : Int)) else (↑(List.length a_0) : Int)), sO 8 (.slc 0), sI 9 .i64 i8, hO 0 5 .u8 (m7.set i8.toNat (bxor .u8 (bxor .u8 (a_0.getD i8.toNat 0) (b_1.getD i8.toNat 0)) (c_2.getD i8.toNat 0))), hR 9000 .u8 a_0, hR 9001 .u8 b_1, hR 9002 .u8 c_2] [0 ≤ i8 ∧ i8 < ↑(List.length a_0), i8 < ↑(List.length a_0), 0 ≤ i8 ∧ i8 < ↑(List.length b_1), i8 < ↑(List.length b_1), 0 ≤ i8 ∧ i8 < ↑(List.length c_2), i8 < ↑(List.length c_2), 0 ≤ i8 ∧ i8 < ↑(List.length m7), i8 < ↑(List.length m7)] (by kernel_rfl) (hcons hn11 (hcons hn11.2 (hcons hn12 (hcons hn12.2 (hcons hn13 (hcons hn13.2 (hcons hn14 (hone hn14.2)))))))) ?_
            refine q_b 1 ?_
            refine q_k ?_
            refine tr_reg hT [] [.s 0, .s 1, .s 2, .s 7, .s 8, .s 9, .h 0, .h 9000, .h 9001, .h 9002] [sO 0 (.slc 9000), sO 1 (.slc 9001), sO 2 (.slc 9002), sI 7 .i64 (if (if (↑(List.length c_2) : Int) < (↑(List.length b_1) : Int) then (↑(List.length c_2) : Int) else (↑(List.length b_1) : Int)) < (↑(List.length a_0) : Int) then (if (↑(List.length c_2) : Int) < (↑(List.length b_1) : Int) then (↑(List.length c_2) : Int) else (↑(List.length b_1) : Int)) else (↑(List.length a_0) : Int)), sO 8 (.slc 0), sI 9 .i64 (IntKind.i64.wrap (i8 + (1 : Int))), hO 0 5 .u8 (m7.set i8.toNat (bxor .u8 (bxor .u8 (a_0.getD i8.toNat 0) (b_1.getD i8.toNat 0)) (c_2.getD i8.toNat 0))), hR 9000 .u8 a_0, hR 9001 .u8 b_1, hR 9002 .u8 c_2] [] (by kernel_rfl) trivial ?_
            refine q_kr ?_
            exact trR_less [.s 0, .s 1, .s 2, .s 7, .s 8, .s 9, .h 0, .h 9000, .h 9001, .h 9002] [sO 0 (.slc 9000), sO 1 (.slc 9001), sO 2 (.slc 9002), sI 7 .i64 (if (if (↑(List.length c_2) : Int) < (↑(List.length b_1) : Int) then (↑(List.length c_2) : Int) else (↑(List.length b_1) : Int)) < (↑(List.length a_0) : Int) then (if (↑(List.length c_2) : Int) < (↑(List.length b_1) : Int) then (↑(List.length c_2) : Int) else (↑(List.length b_1) : Int)) else (↑(List.length a_0) : Int)), sO 8 (.slc 0), sI 9 .i64 (IntKind.i64.wrap (i8 + (1 : Int))), hO 0 5 .u8 (m7.set i8.toNat (bxor .u8 (bxor .u8 (a_0.getD i8.toNat 0) (b_1.getD i8.toNat 0)) (c_2.getD i8.toNat 0))), hR 9000 .u8 a_0, hR 9001 .u8 b_1, hR 9002 .u8 c_2] (by kernel_rfl) (ih0 ((m7.set i8.toNat (bxor .u8 (bxor .u8 (a_0.getD i8.toNat 0) (b_1.getD i8.toNat 0)) (c_2.getD i8.toNat 0))), (IntKind.i64.wrap (i8 + (1 : Int)))) h)
          · refine tr_cond_f (decide (i8 < (if (if (↑(List.length c_2) : Int) < (↑(List.length b_1) : Int) then (↑(List.length c_2) : Int) else (↑(List.length b_1) : Int)) < (↑(List.length a_0) : Int) then (if (↑(List.length c_2) : Int) < (↑(List.length b_1) : Int) then (↑(List.length c_2) : Int) else (↑(List.length b_1) : Int)) else (↑(List.length a_0) : Int)))) (by kernel_rfl) hc10 ?_
            refine tr_exit ?_
            refine q_k_exit ?_
            refine q_kr_exit ?_
            have h := Option.some.inj h
            subst h
            exact q_less [.s 0, .s 1, .s 2, .s 7, .s 8, .h 0, .h 9000, .h 9001, .h 9002] [sO 0 (.slc 9000), sO 1 (.slc 9001), sO 2 (.slc 9002), sI 7 .i64 (if (if (↑(List.length c_2) : Int) < (↑(List.length b_1) : Int) then (↑(List.length c_2) : Int) else (↑(List.length b_1) : Int)) < (↑(List.length a_0) : Int) then (if (↑(List.length c_2) : Int) < (↑(List.length b_1) : Int) then (↑(List.length c_2) : Int) else (↑(List.length b_1) : Int)) else (↑(List.length a_0) : Int)), sO 8 (.slc 0), hO 0 5 .u8 m7, hR 9000 .u8 a_0, hR 9001 .u8 b_1, hR 9002 .u8 c_2] (by kernel_rfl) hx0

theorem law03_CrcForgets_ok (a_0 : List Int) (b_1 : List Int) (c_2 : List Int) (r : Bool) (h : law03_CrcForgets a_0 b_1 c_2 = some r) : CallOk P 7 [.v (.one (.slc 9000)), .v (.one (.slc 9001)), .v (.one (.slc 9002))] [(9000, .rd .u8 a_0), (9001, .rd .u8 b_1), (9002, .rd .u8 c_2)] (.v (.one (.bool r))) [] := by
  refine call1 (N := 74) Try.func7 (by kernel_rfl) rfl rfl rfl [(9000, .rd .u8 a_0), (9001, .rd .u8 b_1), (9002, .rd .u8 c_2)] (by kernel_rfl) ?_
  intro _ B w0
  show Tr P B 74 w0 _ _ (RetQ P Try.f7 (R1 _ _ B w0))
  unfold law03_CrcForgets at h
  refine tr_seq ?_
  refine tr_reg hT [] [.s 0, .s 1, .s 2, .h 9000, .h 9001, .h 9002] [sO 0 (.slc 9000), sO 1 (.slc 9001), sO 2 (.slc 9002), hR 9000 .u8 a_0, hR 9001 .u8 b_1, hR 9002 .u8 c_2] [] (by kernel_rfl) trivial ?_
  refine q_k ?_
  refine tr_seq ?_
  refine tr_seq ?_
  rcases ite_split h with ⟨hb1, h⟩ | ⟨hb2, h⟩
  · refine tr_reg hT [(3, .dec true)] [.s 0, .s 1, .s 2, .s 23, .h 9000, .h 9001, .h 9002] [sO 0 (.slc 9000), sO 1 (.slc 9001), sO 2 (.slc 9002), sB 23 true, hR 9000 .u8 a_0, hR 9001 .u8 b_1, hR 9002 .u8 c_2] [(decide ((↑(List.length a_0) : Int) > (400 : Int))) = true] (by kernel_rfl) (hone hb1) ?_
    refine q_k ?_
    refine tr_cond_t true (by kernel_rfl) rfl ?_
    refine tr_seq ?_
    refine tr_reg hT [] [.s 6] [sB 6 true] [] (by kernel_rfl) trivial ?_
    refine q_k ?_
    refine tr_ret ?_
    refine q_k_ret ?_
    have h := Option.some.inj h
    subst h
    refine q_less [.s 6] [sB 6 true] (by kernel_rfl) ?_
    exact q_ret1 hT (.v (.one (.bool true))) [] (by kernel_rfl) (by kernel_rfl) (by kernel_rfl)
  · rcases ite_split h with ⟨hb3, h⟩ | ⟨hb4, h⟩
    · refine tr_reg hT [(3, .dec false), (8, .dec true)] [.s 0, .s 1, .s 2, .s 23, .h 9000, .h 9001, .h 9002] [sO 0 (.slc 9000), sO 1 (.slc 9001), sO 2 (.slc 9002), sB 23 true, hR 9000 .u8 a_0, hR 9001 .u8 b_1, hR 9002 .u8 c_2] [(decide ((↑(List.length a_0) : Int) > (400 : Int))) = false, (decide ((↑(List.length b_1) : Int) > (400 : Int))) = true] (by kernel_rfl) (hcons hb2 (hone hb3)) ?_
      refine q_k ?_
      refine tr_cond_t true (by kernel_rfl) rfl ?_
      refine tr_seq ?_
      refine tr_reg hT [] [.s 6] [sB 6 true] [] (by kernel_rfl) trivial ?_
      refine q_k ?_
      refine tr_ret ?_
      refine q_k_ret ?_
      have h := Option.some.inj h
      subst h
      refine q_less [.s 6] [sB 6 true] (by kernel_rfl) ?_
      exact q_ret1 hT (.v (.one (.bool true))) [] (by kernel_rfl) (by kernel_rfl) (by kernel_rfl)
    · refine tr_reg hT [(3, .dec false), (8, .dec false)] [.s 0, .s 1, .s 2, .s 23, .h 9000, .h 9001, .h 9002] [sO 0 (.slc 9000), sO 1 (.slc 9001), sO 2 (.slc 9002), sB 23 (decide ((↑(List.length c_2) : Int) > (400 : Int))), hR 9000 .u8 a_0, hR 9001 .u8 b_1, hR 9002 .u8 c_2] [(decide ((↑(List.length a_0) : Int) > (400 : Int))) = false, (decide ((↑(List.length b_1) : Int) > (400 : Int))) = false] (by kernel_rfl) (hcons hb2 (hone hb4)) ?_
      refine q_k ?_
      rcases ite_split h with ⟨hc5, h⟩ | ⟨hc5, h⟩
      · refine tr_cond_t (decide ((↑(List.length c_2) : Int) > (400 : Int))) (by kernel_rfl) hc5 ?_
        refine tr_seq ?_
        refine tr_reg hT [] [.s 6] [sB 6 true] [] (by kernel_rfl) trivial ?_
        refine q_k ?_
        refine tr_ret ?_
        refine q_k_ret ?_
        have h := Option.some.inj h
        subst h
        refine q_less [.s 6] [sB 6 true] (by kernel_rfl) ?_
        exact q_ret1 hT (.v (.one (.bool true))) [] (by kernel_rfl) (by kernel_rfl) (by kernel_rfl)
      · refine tr_cond_f (decide ((↑(List.length c_2) : Int) > (400 : Int))) (by kernel_rfl) hc5 ?_
        refine tr_skip ?_
        refine q_k ?_
        refine tr_seq ?_
        obtain ⟨r6, e7, h⟩ := bind_some h
        obtain ⟨r8, e9, h⟩ := bind_some h
        refine tr_reg hT [(1, .call [9000] (.v (.one (.int .u32 r6))) []), (3, .call [9001] (.v (.one (.int .u32 r8))) [])] [.s 0, .s 1, .s 2, .s 7, .s 8, .h 9000, .h 9001, .h 9002] [sO 0 (.slc 9000), sO 1 (.slc 9001), sO 2 (.slc 9002), sI 7 .u32 r6, sI 8 .u32 r8, hR 9000 .u8 a_0, hR 9001 .u8 b_1, hR 9002 .u8 c_2] [CallOk P 24 [.v (.one (.slc 9000))] [(9000, .rd .u8 a_0)] (.v (.one (.int .u32 r6))) [], CallOk P 24 [.v (.one (.slc 9001))] [(9001, .rd .u8 b_1)] (.v (.one (.int .u32 r8))) []] (by kernel_rfl) (hcons ((crc_Sum_ok a_0 r6 e7).tr [(9000, .slc 9000)] rfl (by kernel_rfl) ⟨.rd (by kernel_rfl), trivial⟩ (by kernel_rfl) (by kernel_rfl) rfl rfl) (hone ((crc_Sum_ok b_1 r8 e9).tr [(9000, .slc 9001)] rfl (by kernel_rfl) ⟨.rd (by kernel_rfl), trivial⟩ (by kernel_rfl) (by kernel_rfl) rfl rfl))) ?_
        refine q_k ?_
        refine tr_seq ?_
        obtain ⟨a10, e11, h⟩ := bind_some h
        obtain ⟨hn12, h⟩ := ite_some h
        obtain ⟨hn13, h⟩ := ite_some h
        refine tr_reg hT [(1, .call [9000] (.v (.one (.slc 0))) [(0, .own 5 .u8 a10)]), (13, .key 1), (14, .key 2), (16, .key 3)] [.s 1, .s 2, .s 8, .s 9, .h 3, .h 9001, .h 9002] [sO 1 (.slc 9001), sO 2 (.slc 9002), sI 8 .u32 r8, sO 9 (.slc 3), hO 3 5 .u8 ((a10 ++ [(IntKind.u8.wrap r6), (IntKind.u8.wrap (shr .u32 r6 (8 : Int))), (IntKind.u8.wrap (shr .u32 r6 (16 : Int))), (IntKind.u8.wrap (shr .u32 r6 (24 : Int)))]) ++ c_2), hR 9001 .u8 b_1, hR 9002 .u8 c_2] [CallOk P 23 [.v (.one (.slc 9000))] [(9000, .rd .u8 a_0)] (.v (.one (.slc 0))) [(0, .own 5 .u8 a10)], 0 ≤ (8 : Int), 0 ≤ (16 : Int), 0 ≤ (24 : Int), List.length (a10 ++ [(IntKind.u8.wrap r6), (IntKind.u8.wrap (shr .u32 r6 (8 : Int))), (IntKind.u8.wrap (shr .u32 r6 (16 : Int))), (IntKind.u8.wrap (shr .u32 r6 (24 : Int)))]) ≤ maxN, List.length ((a10 ++ [(IntKind.u8.wrap r6), (IntKind.u8.wrap (shr .u32 r6 (8 : Int))), (IntKind.u8.wrap (shr .u32 r6 (16 : Int))), (IntKind.u8.wrap (shr .u32 r6 (24 : Int)))]) ++ c_2) ≤ maxN] (by kernel_rfl) (hcons ((keep_Twin_ok a_0 a10 e11).tr [(9000, .slc 9000), (8900, .slc 0)] rfl (by kernel_rfl) ⟨.rd (by kernel_rfl), trivial⟩ (by kernel_rfl) (by kernel_rfl) rfl rfl) (hcons (by decide) (hcons (by decide) (hcons (by decide) (hcons hn12 (hone hn13)))))) ?_
        refine q_k ?_
        refine tr_seq ?_
        obtain ⟨a14, e15, h⟩ := bind_some h
        obtain ⟨hn16, h⟩ := ite_some h
        obtain ⟨hn17, h⟩ := ite_some h
        refine tr_reg hT [(1, .call [9001] (.v (.one (.slc 4))) [(4, .own 5 .u8 a14)]), (13, .key 5), (14, .key 6), (16, .key 7)] [.s 9, .s 10, .h 3, .h 7] [sO 9 (.slc 3), sO 10 (.slc 7), hO 3 5 .u8 ((a10 ++ [(IntKind.u8.wrap r6), (IntKind.u8.wrap (shr .u32 r6 (8 : Int))), (IntKind.u8.wrap (shr .u32 r6 (16 : Int))), (IntKind.u8.wrap (shr .u32 r6 (24 : Int)))]) ++ c_2), hO 7 5 .u8 ((a14 ++ [(IntKind.u8.wrap r8), (IntKind.u8.wrap (shr .u32 r8 (8 : Int))), (IntKind.u8.wrap (shr .u32 r8 (16 : Int))), (IntKind.u8.wrap (shr .u32 r8 (24 : Int)))]) ++ c_2)] [CallOk P 23 [.v (.one (.slc 9001))] [(9001, .rd .u8 b_1)] (.v (.one (.slc 4))) [(4, .own 5 .u8 a14)], 0 ≤ (8 : Int), 0 ≤ (16 : Int), 0 ≤ (24 : Int), List.length (a14 ++ [(IntKind.u8.wrap r8), (IntKind.u8.wrap (shr .u32 r8 (8 : Int))), (IntKind.u8.wrap (shr .u32 r8 (16 : Int))), (IntKind.u8.wrap (shr .u32 r8 (24 : Int)))]) ≤ maxN, List.length ((a14 ++ [(IntKind.u8.wrap r8), (IntKind.u8.wrap (shr .u32 r8 (8 : Int))), (IntKind.u8.wrap (shr .u32 r8 (16 : Int))), (IntKind.u8.wrap (shr .u32 r8 (24 : Int)))]) ++ c_2) ≤ maxN] (by kernel_rfl) (hcons ((keep_Twin_ok b_1 a14 e15).tr [(9000, .slc 9001), (8900, .slc 4)] rfl (by kernel_rfl) ⟨.rd (by kernel_rfl), trivial⟩ (by kernel_rfl) (by kernel_rfl) rfl rfl) (hcons (by decide) (hcons (by decide) (hcons (by decide) (hcons hn16 (hone hn17)))))) ?_
        refine q_k ?_
        refine tr_seq ?_
        obtain ⟨r18, e19, h⟩ := bind_some h
        obtain ⟨r20, e21, h⟩ := bind_some h
        rcases ite_split h with ⟨hb22, h⟩ | ⟨hb29, h⟩
        · obtain ⟨r23, e24, h⟩ := bind_some h
          rcases ite_split h with ⟨hb25, h⟩ | ⟨hb28, h⟩
          · obtain ⟨b26, e27, h⟩ := bind_some h
            refine tr_reg hT [(1, .call [3] (.v (.one (.int .u32 r18))) []), (3, .call [7] (.v (.one (.int .u32 r20))) []), (5, .dec true), (6, .call [] (.v (.one (.int .u32 r23))) []), (9, .dec true), (10, .call [] (.v (.one (.bool b26))) [])] [.s 6] [sB 6 b26] [CallOk P 24 [.v (.one (.slc 3))] [(3, .own 5 .u8 ((a10 ++ [(IntKind.u8.wrap r6), (IntKind.u8.wrap (shr .u32 r6 (8 : Int))), (IntKind.u8.wrap (shr .u32 r6 (16 : Int))), (IntKind.u8.wrap (shr .u32 r6 (24 : Int)))]) ++ c_2))] (.v (.one (.int .u32 r18))) [], CallOk P 24 [.v (.one (.slc 7))] [(7, .own 5 .u8 ((a14 ++ [(IntKind.u8.wrap r8), (IntKind.u8.wrap (shr .u32 r8 (8 : Int))), (IntKind.u8.wrap (shr .u32 r8 (16 : Int))), (IntKind.u8.wrap (shr .u32 r8 (24 : Int)))]) ++ c_2))] (.v (.one (.int .u32 r20))) [], (r18 == r20) = true, CallOk P 24 [.v (.one (.nils))] [] (.v (.one (.int .u32 r23))) [], (r23 == (0 : Int)) = true, CallOk P 27 [] [] (.v (.one (.bool b26))) []] (by kernel_rfl) (hcons ((crc_Sum_ok ((a10 ++ [(IntKind.u8.wrap r6), (IntKind.u8.wrap (shr .u32 r6 (8 : Int))), (IntKind.u8.wrap (shr .u32 r6 (16 : Int))), (IntKind.u8.wrap (shr .u32 r6 (24 : Int)))]) ++ c_2) r18 e19).tr [(9000, .slc 3)] rfl (by kernel_rfl) ⟨.ownrd (e := 5) (by kernel_rfl), trivial⟩ (by kernel_rfl) (by kernel_rfl) rfl rfl) (hcons ((crc_Sum_ok ((a14 ++ [(IntKind.u8.wrap r8), (IntKind.u8.wrap (shr .u32 r8 (8 : Int))), (IntKind.u8.wrap (shr .u32 r8 (16 : Int))), (IntKind.u8.wrap (shr .u32 r8 (24 : Int)))]) ++ c_2) r20 e21).tr [(9000, .slc 7)] rfl (by kernel_rfl) ⟨.ownrd (e := 5) (by kernel_rfl), trivial⟩ (by kernel_rfl) (by kernel_rfl) rfl rfl) (hcons hb22 (hcons ((crc_Sum_ok [] r23 e24).tr [(9000, .nils)] rfl (by kernel_rfl) ⟨.nilrd, trivial⟩ (by kernel_rfl) (by kernel_rfl) rfl rfl) (hcons hb25 (hone (law03_wakes_ok  b26 e27))))))) ?_
            refine q_k ?_
            refine tr_ret ?_
            have h := Option.some.inj h
            subst h
            refine q_less [.s 6] [sB 6 b26] (by kernel_rfl) ?_
            exact q_ret1 hT (.v (.one (.bool b26))) [] (by kernel_rfl) (by kernel_rfl) (by kernel_rfl)
          · refine tr_reg hT [(1, .call [3] (.v (.one (.int .u32 r18))) []), (3, .call [7] (.v (.one (.int .u32 r20))) []), (5, .dec true), (6, .call [] (.v (.one (.int .u32 r23))) []), (9, .dec false)] [.s 6] [sB 6 false] [CallOk P 24 [.v (.one (.slc 3))] [(3, .own 5 .u8 ((a10 ++ [(IntKind.u8.wrap r6), (IntKind.u8.wrap (shr .u32 r6 (8 : Int))), (IntKind.u8.wrap (shr .u32 r6 (16 : Int))), (IntKind.u8.wrap (shr .u32 r6 (24 : Int)))]) ++ c_2))] (.v (.one (.int .u32 r18))) [], CallOk P 24 [.v (.one (.slc 7))] [(7, .own 5 .u8 ((a14 ++ [(IntKind.u8.wrap r8), (IntKind.u8.wrap (shr .u32 r8 (8 : Int))), (IntKind.u8.wrap (shr .u32 r8 (16 : Int))), (IntKind.u8.wrap (shr .u32 r8 (24 : Int)))]) ++ c_2))] (.v (.one (.int .u32 r20))) [], (r18 == r20) = true, CallOk P 24 [.v (.one (.nils))] [] (.v (.one (.int .u32 r23))) [], (r23 == (0 : Int)) = false] (by kernel_rfl) (hcons ((crc_Sum_ok ((a10 ++ [(IntKind.u8.wrap r6), (IntKind.u8.wrap (shr .u32 r6 (8 : Int))), (IntKind.u8.wrap (shr .u32 r6 (16 : Int))), (IntKind.u8.wrap (shr .u32 r6 (24 : Int)))]) ++ c_2) r18 e19).tr [(9000, .slc 3)] rfl (by kernel_rfl) ⟨.ownrd (e := 5) (by kernel_rfl), trivial⟩ (by kernel_rfl) (by kernel_rfl) rfl rfl) (hcons ((crc_Sum_ok ((a14 ++ [(IntKind.u8.wrap r8), (IntKind.u8.wrap (shr .u32 r8 (8 : Int))), (IntKind.u8.wrap (shr .u32 r8 (16 : Int))), (IntKind.u8.wrap (shr .u32 r8 (24 : Int)))]) ++ c_2) r20 e21).tr [(9000, .slc 7)] rfl (by kernel_rfl) ⟨.ownrd (e := 5) (by kernel_rfl), trivial⟩ (by kernel_rfl) (by kernel_rfl) rfl rfl) (hcons hb22 (hcons ((crc_Sum_ok [] r23 e24).tr [(9000, .nils)] rfl (by kernel_rfl) ⟨.nilrd, trivial⟩ (by kernel_rfl) (by kernel_rfl) rfl rfl) (hone hb28))))) ?_
            refine q_k ?_
            refine tr_ret ?_
            have h := Option.some.inj h
            subst h
            refine q_less [.s 6] [sB 6 false] (by kernel_rfl) ?_
            exact q_ret1 hT (.v (.one (.bool false))) [] (by kernel_rfl) (by kernel_rfl) (by kernel_rfl)
        · refine tr_reg hT [(1, .call [3] (.v (.one (.int .u32 r18))) []), (3, .call [7] (.v (.one (.int .u32 r20))) []), (5, .dec false)] [.s 6] [sB 6 false] [CallOk P 24 [.v (.one (.slc 3))] [(3, .own 5 .u8 ((a10 ++ [(IntKind.u8.wrap r6), (IntKind.u8.wrap (shr .u32 r6 (8 : Int))), (IntKind.u8.wrap (shr .u32 r6 (16 : Int))), (IntKind.u8.wrap (shr .u32 r6 (24 : Int)))]) ++ c_2))] (.v (.one (.int .u32 r18))) [], CallOk P 24 [.v (.one (.slc 7))] [(7, .own 5 .u8 ((a14 ++ [(IntKind.u8.wrap r8), (IntKind.u8.wrap (shr .u32 r8 (8 : Int))), (IntKind.u8.wrap (shr .u32 r8 (16 : Int))), (IntKind.u8.wrap (shr .u32 r8 (24 : Int)))]) ++ c_2))] (.v (.one (.int .u32 r20))) [], (r18 == r20) = false] (by kernel_rfl) (hcons ((crc_Sum_ok ((a10 ++ [(IntKind.u8.wrap r6), (IntKind.u8.wrap (shr .u32 r6 (8 : Int))), (IntKind.u8.wrap (shr .u32 r6 (16 : Int))), (IntKind.u8.wrap (shr .u32 r6 (24 : Int)))]) ++ c_2) r18 e19).tr [(9000, .slc 3)] rfl (by kernel_rfl) ⟨.ownrd (e := 5) (by kernel_rfl), trivial⟩ (by kernel_rfl) (by kernel_rfl) rfl rfl) (hcons ((crc_Sum_ok ((a14 ++ [(IntKind.u8.wrap r8), (IntKind.u8.wrap (shr .u32 r8 (8 : Int))), (IntKind.u8.wrap (shr .u32 r8 (16 : Int))), (IntKind.u8.wrap (shr .u32 r8 (24 : Int)))]) ++ c_2) r20 e21).tr [(9000, .slc 7)] rfl (by kernel_rfl) ⟨.ownrd (e := 5) (by kernel_rfl), trivial⟩ (by kernel_rfl) (by kernel_rfl) rfl rfl) (hone hb29))) ?_
          refine q_k ?_
          refine tr_ret ?_
          have h := Option.some.inj h
          subst h
          refine q_less [.s 6] [sB 6 false] (by kernel_rfl) ?_
          exact q_ret1 hT (.v (.one (.bool false))) [] (by kernel_rfl) (by kernel_rfl) (by kernel_rfl)

theorem keep_TwinRows_ok (l_0 : List (List Int)) (r : List (List Int)) (h : keep_TwinRows l_0 = some r) : CallOk P 28 [.v (.one (.slc 9000))] [(9000, .rows (.bs .u8 l_0))] (.v (.one (.slc 8900))) [(8900, .orows 22 (.bs .u8 r))] := by
  refine call1 (N := 20) Try.func28 (by kernel_rfl) rfl rfl rfl [(9000, .rows (.bs .u8 l_0))] (by kernel_rfl) ?_
  intro _ B w0
  show Tr P B 20 w0 _ _ (RetQ P Try.f28 (R1 _ _ B w0))
  unfold keep_TwinRows at h
  refine tr_seq ?_
  refine tr_reg hT [] [.s 0, .h 9000] [sO 0 (.slc 9000), hW 9000 (.bs .u8 l_0)] [] (by kernel_rfl) trivial ?_
  refine q_k ?_
  refine tr_seq ?_
  refine tr_reg hT [] [.s 0, .s 3, .h 9000] [sO 0 (.slc 9000), sO 3 (.nils), hW 9000 (.bs .u8 l_0)] [] (by kernel_rfl) trivial ?_
  refine q_k ?_
  refine tr_seq ?_
  refine tr_seq ?_
  refine tr_reg hT [] [.s 0, .s 3, .s 4, .h 9000] [sO 0 (.slc 9000), sO 3 (.nils), sI 4 .i64 (0 : Int), hW 9000 (.bs .u8 l_0)] [] (by kernel_rfl) trivial ?_
  refine q_k ?_
  refine tr_block ?_
  obtain ⟨out3, e9, h⟩ := bind_some h
  refine tr_fit [(0, .nils)] [sO 0 (.slc 9000), sO 3 (.slc 0), sI 4 .i64 (0 : Int), hV 0 22 (.bs .u8 []), hW 9000 (.bs .u8 l_0)] [(0, .orows 22 (.bs .u8 [])), (9000, .rows (.bs .u8 l_0))] (by kernel_rfl) (by kernel_rfl) (by kernel_rfl) rfl ⟨.nilorows rfl, .rows (by kernel_rfl), trivial⟩ (by kernel_rfl) ?_
  refine tr_loop_fuel (id := 0) (α := List (List Int) × Int) (β := List (List Int)) (fun z => [sO 0 (.slc 9000), sO 3 (.slc 0), sI 4 .i64 z.2, hV 0 22 (.bs .u8 z.1), hW 9000 (.bs .u8 l_0)]) (fun z => [sO 3 (.slc 1), hV 1 22 (.bs .u8 z)]) (fun k z => keep_TwinRows_l0 l_0 k z.1 z.2) out3 (fun _ => rfl) (((↑(List.length l_0) : Int) - (0 : Int)).toNat + 1) ([], (0 : Int)) e9 ?_ ?_
  · skip
    replace h : (some out3) = _ := h
    refine q_b_this ?_
    refine q_k ?_
    refine tr_seq ?_
    refine tr_reg hT [] [.s 2, .h 1] [sO 2 (.slc 1), hV 1 22 (.bs .u8 out3)] [] (by kernel_rfl) trivial ?_
    refine q_k ?_
    refine tr_ret ?_
    have h := Option.some.inj h
    subst h
    refine q_fit [(8900, .slc 1)] [sO 2 (.slc 8900), hV 8900 22 (.bs .u8 out3)] [(8900, .orows 22 (.bs .u8 out3))] (by kernel_rfl) (by kernel_rfl) (by kernel_rfl) rfl ⟨.orows (by kernel_rfl), trivial⟩ (by kernel_rfl) ?_
    exact q_ret1 hT (.v (.one (.slc 8900))) [(8900, .orows 22 (.bs .u8 out3))] (by kernel_rfl) (by kernel_rfl) (by kernel_rfl)
  · clear h e9
    intro k ih0 hx0 z h
    obtain ⟨out1, i2⟩ := z
    replace h : (if (decide (i2 < (↑(List.length l_0) : Int))) = true then if 0 ≤ i2 ∧ i2 < ↑(List.length l_0) then (keep_Twin (l_0.getD i2.toNat [])).bind (fun a6 => if List.length (out1 ++ [a6]) ≤ maxR then keep_TwinRows_l0 l_0 k (out1 ++ [a6]) (IntKind.i64.wrap (i2 + (1 : Int))) else none) else none else some out1) = _ := h
    refine tr_seq ?_
    refine tr_seq ?_
    refine tr_reg hT [] [.s 0, .s 3, .s 4, .s 8, .h 0, .h 9000] [sO 0 (.slc 9000), sO 3 (.slc 0), sI 4 .i64 i2, sB 8 (decide (i2 < (↑(List.length l_0) : Int))), hV 0 22 (.bs .u8 out1), hW 9000 (.bs .u8 l_0)] [] (by kernel_rfl) trivial ?_
    refine q_k ?_
    rcases ite_split h with ⟨hc4, h⟩ | ⟨hc4, h⟩
    · refine tr_cond_t (decide (i2 < (↑(List.length l_0) : Int))) (by kernel_rfl) hc4 ?_
      refine tr_skip ?_
      refine q_k ?_
      refine tr_seq ?_
      refine tr_block ?_
      obtain ⟨hn5, h⟩ := ite_some h
      obtain ⟨a6, e7, h⟩ := bind_some h
      obtain ⟨hn8, h⟩ := ite_some h
      refine tr_reg hT [(4, .key 2), (5, .call [2] (.v (.one (.slc 3))) [(3, .own 5 .u8 a6)]), (6, .key 4), (7, .key 5)] [.s 0, .s 3, .s 4, .h 5, .h 9000] [sO 0 (.slc 9000), sO 3 (.slc 5), sI 4 .i64 i2, hV 5 22 (.bs .u8 (out1 ++ [a6])), hW 9000 (.bs .u8 l_0)] [0 ≤ i2 ∧ i2 < ↑(List.length l_0), i2 < ↑(List.length l_0), CallOk P 23 [.v (.one (.slc 2))] [(2, .rd .u8 (l_0.getD i2.toNat []))] (.v (.one (.slc 3))) [(3, .own 5 .u8 a6)], List.length (out1 ++ [a6]) ≤ maxR] (by kernel_rfl) (hcons hn5 (hcons hn5.2 (hcons ((keep_Twin_ok (l_0.getD i2.toNat []) a6 e7).tr [(9000, .slc 2), (8900, .slc 3)] rfl (by kernel_rfl) ⟨.rd (by kernel_rfl), trivial⟩ (by kernel_rfl) (by kernel_rfl) rfl rfl) (hone hn8)))) ?_
      refine q_b 1 ?_
      refine q_k ?_
      refine tr_reg hT [] [.s 0, .s 3, .s 4, .h 5, .h 9000] [sO 0 (.slc 9000), sO 3 (.slc 5), sI 4 .i64 (IntKind.i64.wrap (i2 + (1 : Int))), hV 5 22 (.bs .u8 (out1 ++ [a6])), hW 9000 (.bs .u8 l_0)] [] (by kernel_rfl) trivial ?_
      refine q_kr ?_
      exact trR_fit [(0, .slc 5)] [sO 0 (.slc 9000), sO 3 (.slc 0), sI 4 .i64 (IntKind.i64.wrap (i2 + (1 : Int))), hV 0 22 (.bs .u8 (out1 ++ [a6])), hW 9000 (.bs .u8 l_0)] [(0, .orows 22 (.bs .u8 (out1 ++ [a6]))), (9000, .rows (.bs .u8 l_0))] (by kernel_rfl) (by kernel_rfl) (by kernel_rfl) rfl ⟨.orows (by kernel_rfl), .rows (by kernel_rfl), trivial⟩ (by kernel_rfl) (ih0 ((out1 ++ [a6]), (IntKind.i64.wrap (i2 + (1 : Int)))) h)
    · refine tr_cond_f (decide (i2 < (↑(List.length l_0) : Int))) (by kernel_rfl) hc4 ?_
      refine tr_exit ?_
      refine q_k_exit ?_
      refine q_kr_exit ?_
      have h := Option.some.inj h
      subst h
      exact q_fit [(1, .slc 0)] [sO 3 (.slc 1), hV 1 22 (.bs .u8 out1)] [(1, .orows 22 (.bs .u8 out1))] (by kernel_rfl) (by kernel_rfl) (by kernel_rfl) rfl ⟨.orows (by kernel_rfl), trivial⟩ (by kernel_rfl) hx0

end Go.Proofs.Sa
