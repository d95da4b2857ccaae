/- Walks, printed by a program of this session (gowalk.py): each Go function comes to its plain function's answer. -/
import Derived.Test.YtdolipgngaljcaaSaA
import Derived.Test.YtdolipgngaljcaaSaD
import Derived.Test.YtdolipgngaljcaaGwI
namespace Go.Proofs.Sa
open Go Go.Gw D
set_option linter.unusedVariables false
set_option maxRecDepth 20000

theorem keep_Twin_ok (b_0 : List Int) (r : List Int) (h : keep_Twin b_0 = some r) : CallOk P 23 [.v (.one (.slc 9000))] [(9000, .rd .u8 b_0)] (.v (.one (.slc 8900))) [(8900, .own 5 .u8 r)] := by
  refine call1 (N := 7) Try.func23 (by kernel_rfl) rfl rfl rfl [(9000, .rd .u8 b_0)] (by kernel_rfl) ?_
  intro _ B w0
  show Tr P B 7 w0 _ _ (RetQ P Try.f23 (R1 _ _ B w0))
  unfold keep_Twin at h
  refine tr_seq ?_
  refine tr_reg hT [] [.s 0, .h 9000] [sO 0 (.slc 9000), hR 9000 .u8 b_0] [] (by kernel_rfl) trivial ?_
  refine q_k ?_
  refine tr_seq ?_
  refine tr_reg hT [] [.s 0, .s 3, .h 9000] [sO 0 (.slc 9000), sO 3 (.nils), hR 9000 .u8 b_0] [] (by kernel_rfl) trivial ?_
  refine q_k ?_
  refine tr_seq ?_
  obtain ⟨hn1, h⟩ := ite_some h
  refine tr_reg hT [(2, .key 0)] [.s 2, .h 0] [sO 2 (.slc 0), hO 0 5 .u8 b_0] [List.length b_0 ≤ maxN] (by kernel_rfl) (hone hn1) ?_
  refine q_k ?_
  refine tr_ret ?_
  have h := Option.some.inj h
  subst h
  refine q_fit [(8900, .slc 0)] [sO 2 (.slc 8900), hO 8900 5 .u8 b_0] [(8900, .own 5 .u8 b_0)] (by kernel_rfl) (by kernel_rfl) (by kernel_rfl) rfl ⟨.own (by kernel_rfl), trivial⟩ (by kernel_rfl) ?_
  exact q_ret1 hT (.v (.one (.slc 8900))) [(8900, .own 5 .u8 b_0)] (by kernel_rfl) (by kernel_rfl) (by kernel_rfl)

theorem crc_steps_ok (r : List Int) (h : crc_steps = some r) {pre : List (Nat × Ent)} : CallOk P 49 [] pre (.v (.agg [.arr .u32 16 r])) [] := by
  refine call0 (N := 26) Try.func49 (by kernel_rfl) rfl rfl rfl pre ?_
  intro _ w
  show Tr P (Ge w) 26 _ _ _ (RetQ P Try.f49 (R0 _ w))
  unfold crc_steps at h
  refine tr_seq ?_
  refine tr_reg hT [(0, .key 0)] [.s 0, .h 0] [sO 0 (.ptr 0 0), hB 0 70 [.arr .u32 16 (List.replicate 16 0)]] [] (by kernel_rfl) trivial ?_
  refine q_k ?_
  refine tr_seq ?_
  refine tr_reg hT [(0, .key 1)] [.s 0, .s 1, .h 0, .h 1] [sO 0 (.ptr 0 0), sO 1 (.ptr 1 0), hB 0 70 [.arr .u32 16 (List.replicate 16 0)], hB 1 70 [.arr .u32 16 (List.replicate 16 0)]] [] (by kernel_rfl) trivial ?_
  refine q_k ?_
  refine tr_seq ?_
  refine tr_seq ?_
  refine tr_reg hT [] [.s 0, .s 1, .s 5, .h 0, .h 1] [sO 0 (.ptr 0 0), sO 1 (.ptr 1 0), sI 5 .i64 (0 : Int), hB 0 70 [.arr .u32 16 (List.replicate 16 0)], hB 1 70 [.arr .u32 16 (List.replicate 16 0)]] [] (by kernel_rfl) trivial ?_
  refine q_k ?_
  refine tr_block ?_
  obtain ⟨m3, e12, h⟩ := bind_some h
  refine tr_fit [] [sO 0 (.ptr 0 0), sO 1 (.ptr 1 0), sI 5 .i64 (0 : Int), hB 0 70 [.arr .u32 16 (List.replicate 16 0)], hB 1 70 [.arr .u32 16 (List.replicate 16 0)]] [(0, .blk 70 [.arr .u32 16 (List.replicate 16 0)]), (1, .blk 70 [.arr .u32 16 (List.replicate 16 0)])] (by kernel_rfl) (by kernel_rfl) (by kernel_rfl) rfl ⟨.blk (by kernel_rfl) (by kernel_rfl), .blk (by kernel_rfl) (by kernel_rfl), trivial⟩ (by kernel_rfl) ?_
  refine tr_loop_fuel (id := 0) (α := List Int × Int) (β := List Int) (fun z => [sO 0 (.ptr 0 0), sO 1 (.ptr 1 0), sI 5 .i64 z.2, hB 0 70 [.arr .u32 16 (List.replicate 16 0)], hB 1 70 [.arr .u32 16 z.1]]) (fun z => [sO 0 (.ptr 0 0), sO 1 (.ptr 1 0), hB 0 70 [.arr .u32 16 (List.replicate 16 0)], hB 1 70 [.arr .u32 16 z]]) (fun k z => crc_steps_l0 k z.1 z.2) m3 (fun _ => rfl) (((16 : Int) - (0 : Int)).toNat + 1) ((List.replicate 16 0), (0 : Int)) e12 ?_ ?_
  · skip
    replace h : (some m3) = _ := h
    refine q_b_this ?_
    refine q_k ?_
    refine tr_seq ?_
    refine tr_reg hT [] [.s 0, .h 0] [sO 0 (.ptr 0 0), hB 0 70 [.arr .u32 16 m3]] [] (by kernel_rfl) trivial ?_
    refine q_k ?_
    refine tr_ret ?_
    have h := Option.some.inj h
    subst h
    exact q_ret0 hT (.v (.agg [.arr .u32 16 m3])) rfl (by kernel_rfl)
  · clear h e12
    intro k ih0 hx0 z h
    obtain ⟨m1, x2⟩ := z
    replace h : (if (decide (x2 < (16 : Int))) = true then (crc_steps_l1 m1 x2 (((4 : Int) - (0 : Int)).toNat + 1) (IntKind.u32.wrap x2) (0 : Int)).bind (fun r7 => if 0 ≤ x2 ∧ x2 < ((16 : Nat) : Int) then crc_steps_l0 k (m1.set x2.toNat r7) (IntKind.i64.wrap (x2 + (1 : Int))) else none) else some m1) = _ := h
    refine tr_seq ?_
    refine tr_reg hT [] [.s 0, .s 1, .s 5, .s 6, .h 0, .h 1] [sO 0 (.ptr 0 0), sO 1 (.ptr 1 0), sI 5 .i64 x2, sB 6 (decide (x2 < (16 : Int))), hB 0 70 [.arr .u32 16 (List.replicate 16 0)], hB 1 70 [.arr .u32 16 m1]] [] (by kernel_rfl) trivial ?_
    refine q_k ?_
    refine tr_seq ?_
    rcases ite_split h with ⟨hc4, h⟩ | ⟨hc4, h⟩
    · refine tr_cond_t (decide (x2 < (16 : Int))) (by kernel_rfl) hc4 ?_
      refine tr_skip ?_
      refine q_k ?_
      refine tr_seq ?_
      refine tr_block ?_
      refine tr_seq ?_
      refine tr_reg hT [] [.s 0, .s 1, .s 2, .s 5, .h 0, .h 1] [sO 0 (.ptr 0 0), sO 1 (.ptr 1 0), sI 2 .i64 x2, sI 5 .i64 x2, hB 0 70 [.arr .u32 16 (List.replicate 16 0)], hB 1 70 [.arr .u32 16 m1]] [] (by kernel_rfl) trivial ?_
      refine q_k ?_
      refine tr_seq ?_
      refine tr_reg hT [] [.s 0, .s 1, .s 2, .s 3, .s 5, .h 0, .h 1] [sO 0 (.ptr 0 0), sO 1 (.ptr 1 0), sI 2 .i64 x2, sI 3 .u32 (IntKind.u32.wrap x2), sI 5 .i64 x2, hB 0 70 [.arr .u32 16 (List.replicate 16 0)], hB 1 70 [.arr .u32 16 m1]] [] (by kernel_rfl) trivial ?_
      refine q_k ?_
      refine tr_seq ?_
      refine tr_seq ?_
      refine tr_reg hT [] [.s 0, .s 1, .s 2, .s 3, .s 5, .s 10, .h 0, .h 1] [sO 0 (.ptr 0 0), sO 1 (.ptr 1 0), sI 2 .i64 x2, sI 3 .u32 (IntKind.u32.wrap x2), sI 5 .i64 x2, sI 10 .i64 (0 : Int), hB 0 70 [.arr .u32 16 (List.replicate 16 0)], hB 1 70 [.arr .u32 16 m1]] [] (by kernel_rfl) trivial ?_
      refine q_k ?_
      refine tr_block ?_
      obtain ⟨r7, e10, h⟩ := bind_some h
      refine tr_fit [] [sO 0 (.ptr 0 0), sO 1 (.ptr 1 0), sI 2 .i64 x2, sI 3 .u32 (IntKind.u32.wrap x2), sI 5 .i64 x2, sI 10 .i64 (0 : Int), hB 0 70 [.arr .u32 16 (List.replicate 16 0)], hB 1 70 [.arr .u32 16 m1]] [(0, .blk 70 [.arr .u32 16 (List.replicate 16 0)]), (1, .blk 70 [.arr .u32 16 m1])] (by kernel_rfl) (by kernel_rfl) (by kernel_rfl) rfl ⟨.blk (by kernel_rfl) (by kernel_rfl), .blk (by kernel_rfl) (by kernel_rfl), trivial⟩ (by kernel_rfl) ?_
      refine tr_loop_fuel (id := 2) (α := Int × Int) (β := Int) (fun z => [sO 0 (.ptr 0 0), sO 1 (.ptr 1 0), sI 2 .i64 x2, sI 3 .u32 z.1, sI 5 .i64 x2, sI 10 .i64 z.2, hB 0 70 [.arr .u32 16 (List.replicate 16 0)], hB 1 70 [.arr .u32 16 m1]]) (fun z => [sO 0 (.ptr 0 0), sO 1 (.ptr 1 0), sI 2 .i64 x2, sI 3 .u32 z, sI 5 .i64 x2, hB 0 70 [.arr .u32 16 (List.replicate 16 0)], hB 1 70 [.arr .u32 16 m1]]) (fun k z => crc_steps_l1 m1 x2 k z.1 z.2) r7 (fun _ => rfl) (((4 : Int) - (0 : Int)).toNat + 1) ((IntKind.u32.wrap x2), (0 : Int)) e10 ?_ ?_
      · skip
        replace h : (if 0 ≤ x2 ∧ x2 < ((16 : Nat) : Int) then crc_steps_l0 k (m1.set x2.toNat r7) (IntKind.i64.wrap (x2 + (1 : Int))) else none) = _ := h
        refine q_b_this ?_
        refine q_k ?_
        obtain ⟨hn11, h⟩ := ite_some h
        refine tr_reg hT [] [.s 0, .s 1, .s 5, .h 0, .h 1] [sO 0 (.ptr 0 0), sO 1 (.ptr 1 0), sI 5 .i64 x2, hB 0 70 [.arr .u32 16 (List.replicate 16 0)], hB 1 70 [.arr .u32 16 (m1.set x2.toNat r7)]] [0 ≤ x2 ∧ x2 < ((16 : Nat) : Int)] (by kernel_rfl) (hone hn11) ?_
        refine q_b 1 ?_
        refine q_k ?_
        refine tr_reg hT [] [.s 0, .s 1, .s 5, .h 0, .h 1] [sO 0 (.ptr 0 0), sO 1 (.ptr 1 0), sI 5 .i64 (IntKind.i64.wrap (x2 + (1 : Int))), hB 0 70 [.arr .u32 16 (List.replicate 16 0)], hB 1 70 [.arr .u32 16 (m1.set x2.toNat r7)]] [] (by kernel_rfl) trivial ?_
        refine q_kr ?_
        exact trR_less [.s 0, .s 1, .s 5, .h 0, .h 1] [sO 0 (.ptr 0 0), sO 1 (.ptr 1 0), sI 5 .i64 (IntKind.i64.wrap (x2 + (1 : Int))), hB 0 70 [.arr .u32 16 (List.replicate 16 0)], hB 1 70 [.arr .u32 16 (m1.set x2.toNat r7)]] (by kernel_rfl) (ih0 ((m1.set x2.toNat r7), (IntKind.i64.wrap (x2 + (1 : Int)))) h)
      · clear h e10
        intro k ih1 hx1 z h
        obtain ⟨r5, x6⟩ := z
        replace h : (if (decide (x6 < (4 : Int))) = true then if ((band .u32 r5 (1 : Int)) == (1 : Int)) = true then crc_steps_l1 m1 x2 k (bxor .u32 (shr .u32 r5 (1 : Int)) (3988292384 : Int)) (IntKind.i64.wrap (x6 + (1 : Int))) else crc_steps_l1 m1 x2 k (shr .u32 r5 (1 : Int)) (IntKind.i64.wrap (x6 + (1 : Int))) else some r5) = _ := h
        refine tr_seq ?_
        refine tr_reg hT [] [.s 0, .s 1, .s 2, .s 3, .s 5, .s 10, .s 11, .h 0, .h 1] [sO 0 (.ptr 0 0), sO 1 (.ptr 1 0), sI 2 .i64 x2, sI 3 .u32 r5, sI 5 .i64 x2, sI 10 .i64 x6, sB 11 (decide (x6 < (4 : Int))), hB 0 70 [.arr .u32 16 (List.replicate 16 0)], hB 1 70 [.arr .u32 16 m1]] [] (by kernel_rfl) trivial ?_
        refine q_k ?_
        refine tr_seq ?_
        rcases ite_split h with ⟨hc8, h⟩ | ⟨hc8, h⟩
        · refine tr_cond_t (decide (x6 < (4 : Int))) (by kernel_rfl) hc8 ?_
          refine tr_skip ?_
          refine q_k ?_
          refine tr_seq ?_
          refine tr_block ?_
          refine tr_seq ?_
          refine tr_reg hT [] [.s 0, .s 1, .s 2, .s 3, .s 4, .s 5, .s 10, .h 0, .h 1] [sO 0 (.ptr 0 0), sO 1 (.ptr 1 0), sI 2 .i64 x2, sI 3 .u32 r5, sI 4 .u32 (band .u32 r5 (1 : Int)), sI 5 .i64 x2, sI 10 .i64 x6, hB 0 70 [.arr .u32 16 (List.replicate 16 0)], hB 1 70 [.arr .u32 16 m1]] [] (by kernel_rfl) trivial ?_
          refine q_k ?_
          refine tr_seq ?_
          refine tr_reg hT [] [.s 0, .s 1, .s 2, .s 3, .s 4, .s 5, .s 10, .h 0, .h 1] [sO 0 (.ptr 0 0), sO 1 (.ptr 1 0), sI 2 .i64 x2, sI 3 .u32 (shr .u32 r5 (1 : Int)), sI 4 .u32 (band .u32 r5 (1 : Int)), sI 5 .i64 x2, sI 10 .i64 x6, hB 0 70 [.arr .u32 16 (List.replicate 16 0)], hB 1 70 [.arr .u32 16 m1]] [0 ≤ (1 : Int)] (by kernel_rfl) (hone (by decide)) ?_
          refine q_k ?_
          refine tr_seq ?_
          refine tr_reg hT [] [.s 0, .s 1, .s 2, .s 3, .s 5, .s 10, .s 17, .h 0, .h 1] [sO 0 (.ptr 0 0), sO 1 (.ptr 1 0), sI 2 .i64 x2, sI 3 .u32 (shr .u32 r5 (1 : Int)), sI 5 .i64 x2, sI 10 .i64 x6, sB 17 ((band .u32 r5 (1 : Int)) == (1 : Int)), hB 0 70 [.arr .u32 16 (List.replicate 16 0)], hB 1 70 [.arr .u32 16 m1]] [] (by kernel_rfl) trivial ?_
          refine q_k ?_
          rcases ite_split h with ⟨hc9, h⟩ | ⟨hc9, h⟩
          · refine tr_cond_t ((band .u32 r5 (1 : Int)) == (1 : Int)) (by kernel_rfl) hc9 ?_
            refine tr_reg hT [] [.s 0, .s 1, .s 2, .s 3, .s 5, .s 10, .h 0, .h 1] [sO 0 (.ptr 0 0), sO 1 (.ptr 1 0), sI 2 .i64 x2, sI 3 .u32 (bxor .u32 (shr .u32 r5 (1 : Int)) (3988292384 : Int)), sI 5 .i64 x2, sI 10 .i64 x6, hB 0 70 [.arr .u32 16 (List.replicate 16 0)], hB 1 70 [.arr .u32 16 m1]] [] (by kernel_rfl) trivial ?_
            refine q_b 3 ?_
            refine q_k ?_
            refine tr_reg hT [] [.s 0, .s 1, .s 2, .s 3, .s 5, .s 10, .h 0, .h 1] [sO 0 (.ptr 0 0), sO 1 (.ptr 1 0), sI 2 .i64 x2, sI 3 .u32 (bxor .u32 (shr .u32 r5 (1 : Int)) (3988292384 : Int)), sI 5 .i64 x2, sI 10 .i64 (IntKind.i64.wrap (x6 + (1 : Int))), hB 0 70 [.arr .u32 16 (List.replicate 16 0)], hB 1 70 [.arr .u32 16 m1]] [] (by kernel_rfl) trivial ?_
            refine q_kr ?_
            exact trR_less [.s 0, .s 1, .s 2, .s 3, .s 5, .s 10, .h 0, .h 1] [sO 0 (.ptr 0 0), sO 1 (.ptr 1 0), sI 2 .i64 x2, sI 3 .u32 (bxor .u32 (shr .u32 r5 (1 : Int)) (3988292384 : Int)), sI 5 .i64 x2, sI 10 .i64 (IntKind.i64.wrap (x6 + (1 : Int))), hB 0 70 [.arr .u32 16 (List.replicate 16 0)], hB 1 70 [.arr .u32 16 m1]] (by kernel_rfl) (ih1 ((bxor .u32 (shr .u32 r5 (1 : Int)) (3988292384 : Int)), (IntKind.i64.wrap (x6 + (1 : Int)))) h)
          · refine tr_cond_f ((band .u32 r5 (1 : Int)) == (1 : Int)) (by kernel_rfl) hc9 ?_
            refine tr_skip ?_
            refine q_b 3 ?_
            refine q_k ?_
            refine tr_reg hT [] [.s 0, .s 1, .s 2, .s 3, .s 5, .s 10, .h 0, .h 1] [sO 0 (.ptr 0 0), sO 1 (.ptr 1 0), sI 2 .i64 x2, sI 3 .u32 (shr .u32 r5 (1 : Int)), sI 5 .i64 x2, sI 10 .i64 (IntKind.i64.wrap (x6 + (1 : Int))), hB 0 70 [.arr .u32 16 (List.replicate 16 0)], hB 1 70 [.arr .u32 16 m1]] [] (by kernel_rfl) trivial ?_
            refine q_kr ?_
            exact trR_less [.s 0, .s 1, .s 2, .s 3, .s 5, .s 10, .h 0, .h 1] [sO 0 (.ptr 0 0), sO 1 (.ptr 1 0), sI 2 .i64 x2, sI 3 .u32 (shr .u32 r5 (1 : Int)), sI 5 .i64 x2, sI 10 .i64 (IntKind.i64.wrap (x6 + (1 : Int))), hB 0 70 [.arr .u32 16 (List.replicate 16 0)], hB 1 70 [.arr .u32 16 m1]] (by kernel_rfl) (ih1 ((shr .u32 r5 (1 : Int)), (IntKind.i64.wrap (x6 + (1 : Int)))) h)
        · refine tr_cond_f (decide (x6 < (4 : Int))) (by kernel_rfl) hc8 ?_
          refine tr_exit ?_
          refine q_k_exit ?_
          refine q_kr_exit ?_
          have h := Option.some.inj h
          subst h
          exact q_less [.s 0, .s 1, .s 2, .s 3, .s 5, .h 0, .h 1] [sO 0 (.ptr 0 0), sO 1 (.ptr 1 0), sI 2 .i64 x2, sI 3 .u32 r5, sI 5 .i64 x2, hB 0 70 [.arr .u32 16 (List.replicate 16 0)], hB 1 70 [.arr .u32 16 m1]] (by kernel_rfl) hx1
    · refine tr_cond_f (decide (x2 < (16 : Int))) (by kernel_rfl) hc4 ?_
      refine tr_exit ?_
      refine q_k_exit ?_
      refine q_kr_exit ?_
      have h := Option.some.inj h
      subst h
      exact q_less [.s 0, .s 1, .h 0, .h 1] [sO 0 (.ptr 0 0), sO 1 (.ptr 1 0), hB 0 70 [.arr .u32 16 (List.replicate 16 0)], hB 1 70 [.arr .u32 16 m1]] (by kernel_rfl) hx0

theorem crc_Sum_ok (b_0 : List Int) (r : Int) (h : crc_Sum b_0 = some r) : CallOk P 24 [.v (.one (.slc 9000))] [(9000, .rd .u8 b_0)] (.v (.one (.int .u32 r))) [] := by
  refine call1 (N := 35) Try.func24 (by kernel_rfl) rfl rfl rfl [(9000, .rd .u8 b_0)] (by kernel_rfl) ?_
  intro _ B w0
  show Tr P B 35 w0 _ _ (RetQ P Try.f24 (R1 _ _ B w0))
  unfold crc_Sum at h
  refine tr_seq ?_
  refine tr_reg hT [] [.s 0, .h 9000] [sO 0 (.slc 9000), hR 9000 .u8 b_0] [] (by kernel_rfl) trivial ?_
  refine q_k ?_
  refine tr_seq ?_
  obtain ⟨a1, e2, h⟩ := bind_some h
  refine tr_reg hT [(0, .call [] (.v (.agg [.arr .u32 16 a1])) []), (1, .key 0)] [.s 0, .s 3, .s 4, .h 0, .h 9000] [sO 0 (.slc 9000), sO 3 (.ptr 0 0), sI 4 .u32 (4294967295 : Int), hB 0 70 [.arr .u32 16 a1], hR 9000 .u8 b_0] [CallOk P 49 [] [] (.v (.agg [.arr .u32 16 a1])) []] (by kernel_rfl) (hone (crc_steps_ok  a1 e2)) ?_
  refine q_k ?_
  refine tr_seq ?_
  refine tr_seq ?_
  refine tr_reg hT [] [.s 3, .s 4, .s 8, .s 9, .s 10, .h 0, .h 9000] [sO 3 (.ptr 0 0), sI 4 .u32 (4294967295 : Int), sO 8 (.slc 9000), sI 9 .i64 (↑(List.length b_0) : Int), sI 10 .i64 (0 : Int), hB 0 70 [.arr .u32 16 a1], hR 9000 .u8 b_0] [] (by kernel_rfl) trivial ?_
  refine q_k ?_
  refine tr_block ?_
  obtain ⟨r5, e10, h⟩ := bind_some h
  refine tr_fit [] [sO 3 (.ptr 0 0), sI 4 .u32 (4294967295 : Int), sO 8 (.slc 9000), sI 9 .i64 (↑(List.length b_0) : Int), sI 10 .i64 (0 : Int), hB 0 70 [.arr .u32 16 a1], hR 9000 .u8 b_0] [(0, .blk 70 [.arr .u32 16 a1]), (9000, .rd .u8 b_0)] (by kernel_rfl) (by kernel_rfl) (by kernel_rfl) rfl ⟨.blk (by kernel_rfl) (by kernel_rfl), .rd (by kernel_rfl), trivial⟩ (by kernel_rfl) ?_
  refine tr_loop_fuel (id := 0) (α := Int × Int) (β := Int) (fun z => [sO 3 (.ptr 0 0), sI 4 .u32 z.1, sO 8 (.slc 9000), sI 9 .i64 (↑(List.length b_0) : Int), sI 10 .i64 z.2, hB 0 70 [.arr .u32 16 a1], hR 9000 .u8 b_0]) (fun z => [sI 4 .u32 z]) (fun k z => crc_Sum_l0 b_0 a1 k z.1 z.2) r5 (fun _ => rfl) (((↑(List.length b_0) : Int) - (0 : Int)).toNat + 1) ((4294967295 : Int), (0 : Int)) e10 ?_ ?_
  · skip
    replace h : (some (bxor .u32 r5 (4294967295 : Int))) = _ := h
    refine q_b_this ?_
    refine q_k ?_
    refine tr_seq ?_
    refine tr_reg hT [] [.s 2] [sI 2 .u32 (bxor .u32 r5 (4294967295 : Int))] [] (by kernel_rfl) trivial ?_
    refine q_k ?_
    refine tr_ret ?_
    have h := Option.some.inj h
    subst h
    refine q_less [.s 2] [sI 2 .u32 (bxor .u32 r5 (4294967295 : Int))] (by kernel_rfl) ?_
    exact q_ret1 hT (.v (.one (.int .u32 (bxor .u32 r5 (4294967295 : Int))))) [] (by kernel_rfl) (by kernel_rfl) (by kernel_rfl)
  · clear h e10
    intro k ih0 hx0 z h
    obtain ⟨r3, x4⟩ := z
    replace h : (if (decide (x4 < (↑(List.length b_0) : Int))) = true then if 0 ≤ x4 ∧ x4 < ↑(List.length b_0) then if 0 ≤ (band .u32 (bxor .u32 r3 (IntKind.u32.wrap (b_0.getD x4.toNat 0))) (15 : Int)) ∧ (band .u32 (bxor .u32 r3 (IntKind.u32.wrap (b_0.getD x4.toNat 0))) (15 : Int)) < ((16 : Nat) : Int) then if 0 ≤ (band .u32 (bxor .u32 (shr .u32 (bxor .u32 r3 (IntKind.u32.wrap (b_0.getD x4.toNat 0))) (4 : Int)) (a1.getD (band .u32 (bxor .u32 r3 (IntKind.u32.wrap (b_0.getD x4.toNat 0))) (15 : Int)).toNat 0)) (15 : Int)) ∧ (band .u32 (bxor .u32 (shr .u32 (bxor .u32 r3 (IntKind.u32.wrap (b_0.getD x4.toNat 0))) (4 : Int)) (a1.getD (band .u32 (bxor .u32 r3 (IntKind.u32.wrap (b_0.getD x4.toNat 0))) (15 : Int)).toNat 0)) (15 : Int)) < ((16 : Nat) : Int) then crc_Sum_l0 b_0 a1 k (bxor .u32 (shr .u32 (bxor .u32 (shr .u32 (bxor .u32 r3 (IntKind.u32.wrap (b_0.getD x4.toNat 0))) (4 : Int)) (a1.getD (band .u32 (bxor .u32 r3 (IntKind.u32.wrap (b_0.getD x4.toNat 0))) (15 : Int)).toNat 0)) (4 : Int)) (a1.getD (band .u32 (bxor .u32 (shr .u32 (bxor .u32 r3 (IntKind.u32.wrap (b_0.getD x4.toNat 0))) (4 : Int)) (a1.getD (band .u32 (bxor .u32 r3 (IntKind.u32.wrap (b_0.getD x4.toNat 0))) (15 : Int)).toNat 0)) (15 : Int)).toNat 0)) (IntKind.i64.wrap (x4 + (1 : Int))) else none else none else none else some r3) = _ := h
    refine tr_seq ?_
    refine tr_reg hT [] [.s 3, .s 4, .s 8, .s 9, .s 10, .s 11, .h 0, .h 9000] [sO 3 (.ptr 0 0), sI 4 .u32 r3, sO 8 (.slc 9000), sI 9 .i64 (↑(List.length b_0) : Int), sI 10 .i64 x4, sB 11 (decide (x4 < (↑(List.length b_0) : Int))), hB 0 70 [.arr .u32 16 a1], hR 9000 .u8 b_0] [] (by kernel_rfl) trivial ?_
    refine q_k ?_
    refine tr_seq ?_
    rcases ite_split h with ⟨hc6, h⟩ | ⟨hc6, h⟩
    · refine tr_cond_t (decide (x4 < (↑(List.length b_0) : Int))) (by kernel_rfl) hc6 ?_
      refine tr_skip ?_
      refine q_k ?_
      refine tr_seq ?_
      refine tr_block ?_
      refine tr_seq ?_
      obtain ⟨hn7, h⟩ := ite_some h
      refine tr_reg hT [] [.s 3, .s 4, .s 6, .s 8, .s 9, .s 10, .h 0, .h 9000] [sO 3 (.ptr 0 0), sI 4 .u32 r3, sI 6 .u8 (b_0.getD x4.toNat 0), sO 8 (.slc 9000), sI 9 .i64 (↑(List.length b_0) : Int), sI 10 .i64 x4, hB 0 70 [.arr .u32 16 a1], hR 9000 .u8 b_0] [0 ≤ x4 ∧ x4 < ↑(List.length b_0), x4 < ↑(List.length b_0)] (by kernel_rfl) (hcons hn7 (hone hn7.2)) ?_
      refine q_k ?_
      refine tr_seq ?_
      refine tr_reg hT [] [.s 3, .s 4, .s 8, .s 9, .s 10, .h 0, .h 9000] [sO 3 (.ptr 0 0), sI 4 .u32 (bxor .u32 r3 (IntKind.u32.wrap (b_0.getD x4.toNat 0))), sO 8 (.slc 9000), sI 9 .i64 (↑(List.length b_0) : Int), sI 10 .i64 x4, hB 0 70 [.arr .u32 16 a1], hR 9000 .u8 b_0] [] (by kernel_rfl) trivial ?_
      refine q_k ?_
      refine tr_seq ?_
      obtain ⟨hn8, h⟩ := ite_some h
      refine tr_reg hT [] [.s 3, .s 4, .s 8, .s 9, .s 10, .h 0, .h 9000] [sO 3 (.ptr 0 0), sI 4 .u32 (bxor .u32 (shr .u32 (bxor .u32 r3 (IntKind.u32.wrap (b_0.getD x4.toNat 0))) (4 : Int)) (a1.getD (band .u32 (bxor .u32 r3 (IntKind.u32.wrap (b_0.getD x4.toNat 0))) (15 : Int)).toNat 0)), sO 8 (.slc 9000), sI 9 .i64 (↑(List.length b_0) : Int), sI 10 .i64 x4, hB 0 70 [.arr .u32 16 a1], hR 9000 .u8 b_0] [0 ≤ (4 : Int), 0 ≤ (band .u32 (bxor .u32 r3 (IntKind.u32.wrap (b_0.getD x4.toNat 0))) (15 : Int)) ∧ (band .u32 (bxor .u32 r3 (IntKind.u32.wrap (b_0.getD x4.toNat 0))) (15 : Int)) < ((16 : Nat) : Int)] (by kernel_rfl) (hcons (by decide) (hone hn8)) ?_
      refine q_k ?_
      obtain ⟨hn9, h⟩ := ite_some h
      refine tr_reg hT [] [.s 3, .s 4, .s 8, .s 9, .s 10, .h 0, .h 9000] [sO 3 (.ptr 0 0), sI 4 .u32 (bxor .u32 (shr .u32 (bxor .u32 (shr .u32 (bxor .u32 r3 (IntKind.u32.wrap (b_0.getD x4.toNat 0))) (4 : Int)) (a1.getD (band .u32 (bxor .u32 r3 (IntKind.u32.wrap (b_0.getD x4.toNat 0))) (15 : Int)).toNat 0)) (4 : Int)) (a1.getD (band .u32 (bxor .u32 (shr .u32 (bxor .u32 r3 (IntKind.u32.wrap (b_0.getD x4.toNat 0))) (4 : Int)) (a1.getD (band .u32 (bxor .u32 r3 (IntKind.u32.wrap (b_0.getD x4.toNat 0))) (15 : Int)).toNat 0)) (15 : Int)).toNat 0)), sO 8 (.slc 9000), sI 9 .i64 (↑(List.length b_0) : Int), sI 10 .i64 x4, hB 0 70 [.arr .u32 16 a1], hR 9000 .u8 b_0] [0 ≤ (4 : Int), 0 ≤ (band .u32 (bxor .u32 (shr .u32 (bxor .u32 r3 (IntKind.u32.wrap (b_0.getD x4.toNat 0))) (4 : Int)) (a1.getD (band .u32 (bxor .u32 r3 (IntKind.u32.wrap (b_0.getD x4.toNat 0))) (15 : Int)).toNat 0)) (15 : Int)) ∧ (band .u32 (bxor .u32 (shr .u32 (bxor .u32 r3 (IntKind.u32.wrap (b_0.getD x4.toNat 0))) (4 : Int)) (a1.getD (band .u32 (bxor .u32 r3 (IntKind.u32.wrap (b_0.getD x4.toNat 0))) (15 : Int)).toNat 0)) (15 : Int)) < ((16 : Nat) : Int)] (by kernel_rfl) (hcons (by decide) (hone hn9)) ?_
      refine q_b 1 ?_
      refine q_k ?_
      refine tr_reg hT [] [.s 3, .s 4, .s 8, .s 9, .s 10, .h 0, .h 9000] [sO 3 (.ptr 0 0), sI 4 .u32 (bxor .u32 (shr .u32 (bxor .u32 (shr .u32 (bxor .u32 r3 (IntKind.u32.wrap (b_0.getD x4.toNat 0))) (4 : Int)) (a1.getD (band .u32 (bxor .u32 r3 (IntKind.u32.wrap (b_0.getD x4.toNat 0))) (15 : Int)).toNat 0)) (4 : Int)) (a1.getD (band .u32 (bxor .u32 (shr .u32 (bxor .u32 r3 (IntKind.u32.wrap (b_0.getD x4.toNat 0))) (4 : Int)) (a1.getD (band .u32 (bxor .u32 r3 (IntKind.u32.wrap (b_0.getD x4.toNat 0))) (15 : Int)).toNat 0)) (15 : Int)).toNat 0)), sO 8 (.slc 9000), sI 9 .i64 (↑(List.length b_0) : Int), sI 10 .i64 (IntKind.i64.wrap (x4 + (1 : Int))), hB 0 70 [.arr .u32 16 a1], hR 9000 .u8 b_0] [] (by kernel_rfl) trivial ?_
      refine q_kr ?_
      exact trR_less [.s 3, .s 4, .s 8, .s 9, .s 10, .h 0, .h 9000] [sO 3 (.ptr 0 0), sI 4 .u32 (bxor .u32 (shr .u32 (bxor .u32 (shr .u32 (bxor .u32 r3 (IntKind.u32.wrap (b_0.getD x4.toNat 0))) (4 : Int)) (a1.getD (band .u32 (bxor .u32 r3 (IntKind.u32.wrap (b_0.getD x4.toNat 0))) (15 : Int)).toNat 0)) (4 : Int)) (a1.getD (band .u32 (bxor .u32 (shr .u32 (bxor .u32 r3 (IntKind.u32.wrap (b_0.getD x4.toNat 0))) (4 : Int)) (a1.getD (band .u32 (bxor .u32 r3 (IntKind.u32.wrap (b_0.getD x4.toNat 0))) (15 : Int)).toNat 0)) (15 : Int)).toNat 0)), sO 8 (.slc 9000), sI 9 .i64 (↑(List.length b_0) : Int), sI 10 .i64 (IntKind.i64.wrap (x4 + (1 : Int))), hB 0 70 [.arr .u32 16 a1], hR 9000 .u8 b_0] (by kernel_rfl) (ih0 ((bxor .u32 (shr .u32 (bxor .u32 (shr .u32 (bxor .u32 r3 (IntKind.u32.wrap (b_0.getD x4.toNat 0))) (4 : Int)) (a1.getD (band .u32 (bxor .u32 r3 (IntKind.u32.wrap (b_0.getD x4.toNat 0))) (15 : Int)).toNat 0)) (4 : Int)) (a1.getD (band .u32 (bxor .u32 (shr .u32 (bxor .u32 r3 (IntKind.u32.wrap (b_0.getD x4.toNat 0))) (4 : Int)) (a1.getD (band .u32 (bxor .u32 r3 (IntKind.u32.wrap (b_0.getD x4.toNat 0))) (15 : Int)).toNat 0)) (15 : Int)).toNat 0)), (IntKind.i64.wrap (x4 + (1 : Int)))) h)
    · refine tr_cond_f (decide (x4 < (↑(List.length b_0) : Int))) (by kernel_rfl) hc6 ?_
      refine tr_exit ?_
      refine q_k_exit ?_
      refine q_kr_exit ?_
      have h := Option.some.inj h
      subst h
      exact q_less [.s 4] [sI 4 .u32 r3] (by kernel_rfl) hx0

theorem ref01_Crc_ok (b_0 : List Int) (r : Int) (h : ref01_Crc b_0 = some r) : CallOk P 25 [.v (.one (.slc 9000))] [(9000, .rd .u8 b_0)] (.v (.one (.int .u32 r))) [] := by
  refine call1 (N := 37) Try.func25 (by kernel_rfl) rfl rfl rfl [(9000, .rd .u8 b_0)] (by kernel_rfl) ?_
  intro _ B w0
  show Tr P B 37 w0 _ _ (RetQ P Try.f25 (R1 _ _ B w0))
  unfold ref01_Crc at h
  refine tr_seq ?_
  refine tr_reg hT [] [.s 0, .h 9000] [sO 0 (.slc 9000), hR 9000 .u8 b_0] [] (by kernel_rfl) trivial ?_
  refine q_k ?_
  refine tr_seq ?_
  refine tr_reg hT [] [.s 0, .s 3, .h 9000] [sO 0 (.slc 9000), sI 3 .u32 (4294967295 : Int), hR 9000 .u8 b_0] [] (by kernel_rfl) trivial ?_
  refine q_k ?_
  refine tr_seq ?_
  refine tr_seq ?_
  refine tr_reg hT [] [.s 0, .s 3, .s 4, .h 9000] [sO 0 (.slc 9000), sI 3 .u32 (4294967295 : Int), sI 4 .i64 (0 : Int), hR 9000 .u8 b_0] [] (by kernel_rfl) trivial ?_
  refine q_k ?_
  refine tr_block ?_
  obtain ⟨r3, e13, h⟩ := bind_some h
  refine tr_fit [] [sO 0 (.slc 9000), sI 3 .u32 (4294967295 : Int), sI 4 .i64 (0 : Int), hR 9000 .u8 b_0] [(9000, .rd .u8 b_0)] (by kernel_rfl) (by kernel_rfl) (by kernel_rfl) rfl ⟨.rd (by kernel_rfl), trivial⟩ (by kernel_rfl) ?_
  refine tr_loop_fuel (id := 0) (α := Int × Int) (β := Int) (fun z => [sO 0 (.slc 9000), sI 3 .u32 z.1, sI 4 .i64 z.2, hR 9000 .u8 b_0]) (fun z => [sI 3 .u32 z]) (fun k z => ref01_Crc_l0 b_0 k z.1 z.2) r3 (fun _ => rfl) (((↑(List.length b_0) : Int) - (0 : Int)).toNat + 1) ((4294967295 : Int), (0 : Int)) e13 ?_ ?_
  · skip
    replace h : (some (bxor .u32 r3 (4294967295 : Int))) = _ := h
    refine q_b_this ?_
    refine q_k ?_
    refine tr_seq ?_
    refine tr_reg hT [] [.s 2] [sI 2 .u32 (bxor .u32 r3 (4294967295 : Int))] [] (by kernel_rfl) trivial ?_
    refine q_k ?_
    refine tr_ret ?_
    have h := Option.some.inj h
    subst h
    refine q_less [.s 2] [sI 2 .u32 (bxor .u32 r3 (4294967295 : Int))] (by kernel_rfl) ?_
    exact q_ret1 hT (.v (.one (.int .u32 (bxor .u32 r3 (4294967295 : Int))))) [] (by kernel_rfl) (by kernel_rfl) (by kernel_rfl)
  · clear h e13
    intro k ih0 hx0 z h
    obtain ⟨r1, i2⟩ := z
    replace h : (if (decide (i2 < (↑(List.length b_0) : Int))) = true then (ref01_Crc_l1 b_0 i2 (((8 : Int) - (0 : Int)).toNat + 1) r1 (0 : Int)).bind (fun r7 => ref01_Crc_l0 b_0 k r7 (IntKind.i64.wrap (i2 + (1 : Int)))) else some r1) = _ := h
    refine tr_seq ?_
    refine tr_seq ?_
    refine tr_reg hT [] [.s 0, .s 3, .s 4, .s 10, .h 9000] [sO 0 (.slc 9000), sI 3 .u32 r1, sI 4 .i64 i2, sB 10 (decide (i2 < (↑(List.length b_0) : Int))), hR 9000 .u8 b_0] [] (by kernel_rfl) trivial ?_
    refine q_k ?_
    rcases ite_split h with ⟨hc4, h⟩ | ⟨hc4, h⟩
    · refine tr_cond_t (decide (i2 < (↑(List.length b_0) : Int))) (by kernel_rfl) hc4 ?_
      refine tr_skip ?_
      refine q_k ?_
      refine tr_seq ?_
      refine tr_block ?_
      refine tr_seq ?_
      refine tr_reg hT [] [.s 0, .s 3, .s 4, .s 5, .h 9000] [sO 0 (.slc 9000), sI 3 .u32 r1, sI 4 .i64 i2, sI 5 .i64 (0 : Int), hR 9000 .u8 b_0] [] (by kernel_rfl) trivial ?_
      refine q_k ?_
      refine tr_block ?_
      obtain ⟨r7, e12, h⟩ := bind_some h
      refine tr_fit [] [sO 0 (.slc 9000), sI 3 .u32 r1, sI 4 .i64 i2, sI 5 .i64 (0 : Int), hR 9000 .u8 b_0] [(9000, .rd .u8 b_0)] (by kernel_rfl) (by kernel_rfl) (by kernel_rfl) rfl ⟨.rd (by kernel_rfl), trivial⟩ (by kernel_rfl) ?_
      refine tr_loop_fuel (id := 2) (α := Int × Int) (β := Int) (fun z => [sO 0 (.slc 9000), sI 3 .u32 z.1, sI 4 .i64 i2, sI 5 .i64 z.2, hR 9000 .u8 b_0]) (fun z => [sO 0 (.slc 9000), sI 3 .u32 z, sI 4 .i64 i2, hR 9000 .u8 b_0]) (fun k z => ref01_Crc_l1 b_0 i2 k z.1 z.2) r7 (fun _ => rfl) (((8 : Int) - (0 : Int)).toNat + 1) (r1, (0 : Int)) e12 ?_ ?_
      · skip
        replace h : (ref01_Crc_l0 b_0 k r7 (IntKind.i64.wrap (i2 + (1 : Int)))) = _ := h
        refine q_b_this ?_
        refine q_b 1 ?_
        refine q_k ?_
        refine tr_reg hT [] [.s 0, .s 3, .s 4, .h 9000] [sO 0 (.slc 9000), sI 3 .u32 r7, sI 4 .i64 (IntKind.i64.wrap (i2 + (1 : Int))), hR 9000 .u8 b_0] [] (by kernel_rfl) trivial ?_
        refine q_kr ?_
        exact trR_less [.s 0, .s 3, .s 4, .h 9000] [sO 0 (.slc 9000), sI 3 .u32 r7, sI 4 .i64 (IntKind.i64.wrap (i2 + (1 : Int))), hR 9000 .u8 b_0] (by kernel_rfl) (ih0 (r7, (IntKind.i64.wrap (i2 + (1 : Int)))) h)
      · clear h e12
        intro k ih1 hx1 z h
        obtain ⟨r5, k6⟩ := z
        replace h : (if (decide (k6 < (8 : Int))) = true then if 0 ≤ i2 ∧ i2 < ↑(List.length b_0) then if 0 ≤ (IntKind.u64.wrap k6) then if ((band .u32 r5 (1 : Int)) != (band .u32 (IntKind.u32.wrap (shr .u8 (b_0.getD i2.toNat 0) (IntKind.u64.wrap k6))) (1 : Int))) = true then ref01_Crc_l1 b_0 i2 k (bxor .u32 (shr .u32 r5 (1 : Int)) (3988292384 : Int)) (IntKind.i64.wrap (k6 + (1 : Int))) else ref01_Crc_l1 b_0 i2 k (shr .u32 r5 (1 : Int)) (IntKind.i64.wrap (k6 + (1 : Int))) else none else none else some r5) = _ := h
        refine tr_seq ?_
        refine tr_seq ?_
        refine tr_reg hT [] [.s 0, .s 3, .s 4, .s 5, .s 14, .h 9000] [sO 0 (.slc 9000), sI 3 .u32 r5, sI 4 .i64 i2, sI 5 .i64 k6, sB 14 (decide (k6 < (8 : Int))), hR 9000 .u8 b_0] [] (by kernel_rfl) trivial ?_
        refine q_k ?_
        rcases ite_split h with ⟨hc8, h⟩ | ⟨hc8, h⟩
        · refine tr_cond_t (decide (k6 < (8 : Int))) (by kernel_rfl) hc8 ?_
          refine tr_skip ?_
          refine q_k ?_
          refine tr_seq ?_
          refine tr_block ?_
          refine tr_seq ?_
          obtain ⟨hn9, h⟩ := ite_some h
          obtain ⟨hn10, h⟩ := ite_some h
          refine tr_reg hT [] [.s 0, .s 3, .s 4, .s 5, .s 6, .h 9000] [sO 0 (.slc 9000), sI 3 .u32 r5, sI 4 .i64 i2, sI 5 .i64 k6, sI 6 .u32 (band .u32 (IntKind.u32.wrap (shr .u8 (b_0.getD i2.toNat 0) (IntKind.u64.wrap k6))) (1 : Int)), hR 9000 .u8 b_0] [0 ≤ i2 ∧ i2 < ↑(List.length b_0), i2 < ↑(List.length b_0), 0 ≤ (IntKind.u64.wrap k6)] (by kernel_rfl) (hcons hn9 (hcons hn9.2 (hone hn10))) ?_
          refine q_k ?_
          refine tr_seq ?_
          refine tr_reg hT [] [.s 0, .s 3, .s 4, .s 5, .s 29, .h 9000] [sO 0 (.slc 9000), sI 3 .u32 r5, sI 4 .i64 i2, sI 5 .i64 k6, sB 29 ((band .u32 r5 (1 : Int)) != (band .u32 (IntKind.u32.wrap (shr .u8 (b_0.getD i2.toNat 0) (IntKind.u64.wrap k6))) (1 : Int))), hR 9000 .u8 b_0] [] (by kernel_rfl) trivial ?_
          refine q_k ?_
          rcases ite_split h with ⟨hc11, h⟩ | ⟨hc11, h⟩
          · refine tr_cond_t ((band .u32 r5 (1 : Int)) != (band .u32 (IntKind.u32.wrap (shr .u8 (b_0.getD i2.toNat 0) (IntKind.u64.wrap k6))) (1 : Int))) (by kernel_rfl) hc11 ?_
            refine tr_reg hT [] [.s 0, .s 3, .s 4, .s 5, .h 9000] [sO 0 (.slc 9000), sI 3 .u32 (bxor .u32 (shr .u32 r5 (1 : Int)) (3988292384 : Int)), sI 4 .i64 i2, sI 5 .i64 k6, hR 9000 .u8 b_0] [0 ≤ (1 : Int)] (by kernel_rfl) (hone (by decide)) ?_
            refine q_b 3 ?_
            refine q_k ?_
            refine tr_reg hT [] [.s 0, .s 3, .s 4, .s 5, .h 9000] [sO 0 (.slc 9000), sI 3 .u32 (bxor .u32 (shr .u32 r5 (1 : Int)) (3988292384 : Int)), sI 4 .i64 i2, sI 5 .i64 (IntKind.i64.wrap (k6 + (1 : Int))), hR 9000 .u8 b_0] [] (by kernel_rfl) trivial ?_
            refine q_kr ?_
            exact trR_less [.s 0, .s 3, .s 4, .s 5, .h 9000] [sO 0 (.slc 9000), sI 3 .u32 (bxor .u32 (shr .u32 r5 (1 : Int)) (3988292384 : Int)), sI 4 .i64 i2, sI 5 .i64 (IntKind.i64.wrap (k6 + (1 : Int))), hR 9000 .u8 b_0] (by kernel_rfl) (ih1 ((bxor .u32 (shr .u32 r5 (1 : Int)) (3988292384 : Int)), (IntKind.i64.wrap (k6 + (1 : Int)))) h)
          · refine tr_cond_f ((band .u32 r5 (1 : Int)) != (band .u32 (IntKind.u32.wrap (shr .u8 (b_0.getD i2.toNat 0) (IntKind.u64.wrap k6))) (1 : Int))) (by kernel_rfl) hc11 ?_
            refine tr_reg hT [] [.s 0, .s 3, .s 4, .s 5, .h 9000] [sO 0 (.slc 9000), sI 3 .u32 (shr .u32 r5 (1 : Int)), sI 4 .i64 i2, sI 5 .i64 k6, hR 9000 .u8 b_0] [0 ≤ (1 : Int)] (by kernel_rfl) (hone (by decide)) ?_
            refine q_b 3 ?_
            refine q_k ?_
            refine tr_reg hT [] [.s 0, .s 3, .s 4, .s 5, .h 9000] [sO 0 (.slc 9000), sI 3 .u32 (shr .u32 r5 (1 : Int)), sI 4 .i64 i2, sI 5 .i64 (IntKind.i64.wrap (k6 + (1 : Int))), hR 9000 .u8 b_0] [] (by kernel_rfl) trivial ?_
            refine q_kr ?_
            exact trR_less [.s 0, .s 3, .s 4, .s 5, .h 9000] [sO 0 (.slc 9000), sI 3 .u32 (shr .u32 r5 (1 : Int)), sI 4 .i64 i2, sI 5 .i64 (IntKind.i64.wrap (k6 + (1 : Int))), hR 9000 .u8 b_0] (by kernel_rfl) (ih1 ((shr .u32 r5 (1 : Int)), (IntKind.i64.wrap (k6 + (1 : Int)))) h)
        · refine tr_cond_f (decide (k6 < (8 : Int))) (by kernel_rfl) hc8 ?_
          refine tr_exit ?_
          refine q_k_exit ?_
          refine q_kr_exit ?_
          have h := Option.some.inj h
          subst h
          exact q_less [.s 0, .s 3, .s 4, .h 9000] [sO 0 (.slc 9000), sI 3 .u32 r5, sI 4 .i64 i2, hR 9000 .u8 b_0] (by kernel_rfl) hx1
    · refine tr_cond_f (decide (i2 < (↑(List.length b_0) : Int))) (by kernel_rfl) hc4 ?_
      refine tr_exit ?_
      refine q_k_exit ?_
      refine q_kr_exit ?_
      have h := Option.some.inj h
      subst h
      exact q_less [.s 3] [sI 3 .u32 r1] (by kernel_rfl) hx0

theorem keep_Bytes_ok (a_0 : List Int) (b_1 : List Int) (r : Bool) (h : keep_Bytes a_0 b_1 = some r) : CallOk P 26 [.v (.one (.slc 9000)), .v (.one (.slc 9001))] [(9000, .rd .u8 a_0), (9001, .rd .u8 b_1)] (.v (.one (.bool r))) [] := by
  refine call1 (N := 26) Try.func26 (by kernel_rfl) rfl rfl rfl [(9000, .rd .u8 a_0), (9001, .rd .u8 b_1)] (by kernel_rfl) ?_
  intro _ B w0
  show Tr P B 26 w0 _ _ (RetQ P Try.f26 (R1 _ _ B w0))
  unfold keep_Bytes at h
  refine tr_seq ?_
  refine tr_reg hT [] [.s 0, .s 1, .h 9000, .h 9001] [sO 0 (.slc 9000), sO 1 (.slc 9001), hR 9000 .u8 a_0, hR 9001 .u8 b_1] [] (by kernel_rfl) trivial ?_
  refine q_k ?_
  refine tr_seq ?_
  refine tr_seq ?_
  refine tr_reg hT [] [.s 0, .s 1, .s 10, .h 9000, .h 9001] [sO 0 (.slc 9000), sO 1 (.slc 9001), sB 10 ((↑(List.length a_0) : Int) != (↑(List.length b_1) : Int)), hR 9000 .u8 a_0, hR 9001 .u8 b_1] [] (by kernel_rfl) trivial ?_
  refine q_k ?_
  rcases ite_split h with ⟨hc1, h⟩ | ⟨hc1, h⟩
  · refine tr_cond_t ((↑(List.length a_0) : Int) != (↑(List.length b_1) : Int)) (by kernel_rfl) hc1 ?_
    refine tr_seq ?_
    refine tr_reg hT [] [.s 4] [sB 4 false] [] (by kernel_rfl) trivial ?_
    refine q_k ?_
    refine tr_ret ?_
    refine q_k_ret ?_
    have h := Option.some.inj h
    subst h
    refine q_less [.s 4] [sB 4 false] (by kernel_rfl) ?_
    exact q_ret1 hT (.v (.one (.bool false))) [] (by kernel_rfl) (by kernel_rfl) (by kernel_rfl)
  · refine tr_cond_f ((↑(List.length a_0) : Int) != (↑(List.length b_1) : Int)) (by kernel_rfl) hc1 ?_
    refine tr_skip ?_
    refine q_k ?_
    refine tr_seq ?_
    refine tr_seq ?_
    refine tr_reg hT [] [.s 0, .s 1, .s 5, .h 9000, .h 9001] [sO 0 (.slc 9000), sO 1 (.slc 9001), sI 5 .i64 (0 : Int), hR 9000 .u8 a_0, hR 9001 .u8 b_1] [] (by kernel_rfl) trivial ?_
    refine q_k ?_
    refine tr_block ?_
    obtain ⟨rr0, e7, h⟩ := bind_some h
    refine tr_fit [] [sO 0 (.slc 9000), sO 1 (.slc 9001), sI 5 .i64 (0 : Int), hR 9000 .u8 a_0, hR 9001 .u8 b_1] [(9000, .rd .u8 a_0), (9001, .rd .u8 b_1)] (by kernel_rfl) (by kernel_rfl) (by kernel_rfl) rfl ⟨.rd (by kernel_rfl), .rd (by kernel_rfl), trivial⟩ (by kernel_rfl) ?_
    refine tr_loop_ret (id := 0) (α := Int) (β := Unit) (ρ := Bool) (fun z => [sO 0 (.slc 9000), sO 1 (.slc 9001), sI 5 .i64 z, hR 9000 .u8 a_0, hR 9001 .u8 b_1]) (fun z => []) (fun v σ => resS T (Gw.look σ) Try.f26.results.toList = some (.v (.one (.bool v))) ∧ Gw.hasAll σ [] = some (Gw.preSS [])) (fun k z => keep_Bytes_l0 a_0 b_1 k z) rr0 (fun _ => rfl) (((↑(List.length a_0) : Int) - (0 : Int)).toNat + 1) (0 : Int) e7 ?_ ?_ ?_
    · intro z hz
      subst hz
      rcases z with _
      replace h : (some true) = _ := h
      refine q_b_this ?_
      refine q_k ?_
      refine tr_seq ?_
      refine tr_reg hT [] [.s 4] [sB 4 true] [] (by kernel_rfl) trivial ?_
      refine q_k ?_
      refine tr_ret ?_
      have h := Option.some.inj h
      subst h
      refine q_less [.s 4] [sB 4 true] (by kernel_rfl) ?_
      exact q_ret1 hT (.v (.one (.bool true))) [] (by kernel_rfl) (by kernel_rfl) (by kernel_rfl)
    · intro v σ hz hv
      subst hz
      have h := Option.some.inj h
      subst h
      refine q_b_ret ?_
      refine q_k_ret ?_
      exact q_ret1 hT _ _ hv.1 hv.2 (by kernel_rfl)
    · clear h e7
      intro k ih0 hx0 hr0 i2 h
      replace h : (if (decide (i2 < (↑(List.length a_0) : Int))) = true then if 0 ≤ i2 ∧ i2 < ↑(List.length a_0) then if 0 ≤ i2 ∧ i2 < ↑(List.length b_1) then if ((a_0.getD i2.toNat 0) != (b_1.getD i2.toNat 0)) = true then some (.inr false) else keep_Bytes_l0 a_0 b_1 k (IntKind.i64.wrap (i2 + (1 : Int))) else none else none else some (.inl ())) = _ := h
      refine tr_seq ?_
      refine tr_seq ?_
      refine tr_reg hT [] [.s 0, .s 1, .s 5, .s 14, .h 9000, .h 9001] [sO 0 (.slc 9000), sO 1 (.slc 9001), sI 5 .i64 i2, sB 14 (decide (i2 < (↑(List.length a_0) : Int))), hR 9000 .u8 a_0, hR 9001 .u8 b_1] [] (by kernel_rfl) trivial ?_
      refine q_k ?_
      rcases ite_split h with ⟨hc3, h⟩ | ⟨hc3, h⟩
      · refine tr_cond_t (decide (i2 < (↑(List.length a_0) : Int))) (by kernel_rfl) hc3 ?_
        refine tr_skip ?_
        refine q_k ?_
        refine tr_seq ?_
        refine tr_block ?_
        refine tr_seq ?_
        obtain ⟨hn4, h⟩ := ite_some h
        obtain ⟨hn5, h⟩ := ite_some h
        refine tr_regd hT hM [] [.s 0, .s 1, .s 5, .s 25, .h 9000, .h 9001] [sO 0 (.slc 9000), sO 1 (.slc 9001), sI 5 .i64 i2, sB 25 ((a_0.getD i2.toNat 0) != (b_1.getD i2.toNat 0)), hR 9000 .u8 a_0, hR 9001 .u8 b_1] [0 ≤ i2 ∧ i2 < ↑(List.length a_0), i2 < ↑(List.length a_0), 0 ≤ i2 ∧ i2 < ↑(List.length b_1), i2 < ↑(List.length b_1)] (by kernel_rfl) (hcons hn4 (hcons hn4.2 (hcons hn5 (hone hn5.2)))) ?_
        refine q_k ?_
        rcases ite_split h with ⟨hc6, h⟩ | ⟨hc6, h⟩
        · refine tr_cond_t ((a_0.getD i2.toNat 0) != (b_1.getD i2.toNat 0)) (by kernel_rfl) hc6 ?_
          refine tr_seq ?_
          refine tr_reg hT [] [.s 4] [sB 4 false] [] (by kernel_rfl) trivial ?_
          refine q_k ?_
          refine tr_ret ?_
          refine q_b_ret ?_
          refine q_k_ret ?_
          refine q_kr_ret ?_
          have h := Option.some.inj h
          subst h
          exact q_less [.s 4] [sB 4 false] (by kernel_rfl) (hr0 false _ rfl ⟨by kernel_rfl, by kernel_rfl⟩)
        · refine tr_cond_f ((a_0.getD i2.toNat 0) != (b_1.getD i2.toNat 0)) (by kernel_rfl) hc6 ?_
          refine tr_skip ?_
          refine q_b 1 ?_
          refine q_k ?_
          refine tr_reg hT [] [.s 0, .s 1, .s 5, .h 9000, .h 9001] [sO 0 (.slc 9000), sO 1 (.slc 9001), sI 5 .i64 (IntKind.i64.wrap (i2 + (1 : Int))), hR 9000 .u8 a_0, hR 9001 .u8 b_1] [] (by kernel_rfl) trivial ?_
          refine q_kr ?_
          exact trR_less [.s 0, .s 1, .s 5, .h 9000, .h 9001] [sO 0 (.slc 9000), sO 1 (.slc 9001), sI 5 .i64 (IntKind.i64.wrap (i2 + (1 : Int))), hR 9000 .u8 a_0, hR 9001 .u8 b_1] (by kernel_rfl) (ih0 (IntKind.i64.wrap (i2 + (1 : Int))) h)
      · refine tr_cond_f (decide (i2 < (↑(List.length a_0) : Int))) (by kernel_rfl) hc3 ?_
        refine tr_exit ?_
        refine q_k_exit ?_
        refine q_kr_exit ?_
        have h := Option.some.inj h
        subst h
        exact q_less [] [] (by kernel_rfl) (hx0 () rfl)

end Go.Proofs.Sa
