/- Walks, printed by a program of this session (gowalk.py): each Go function comes to its plain function's answer. -/
import Derived.Test.YtdolipgngaljcaaSaA
import Derived.Test.YtdolipgngaljcaaSaD
import Derived.Test.YtdolipgngaljcaaGwI
import Derived.Test.YtdolipgngaljcaaSaV0
import Derived.Test.YtdolipgngaljcaaSaV1
import Derived.Test.YtdolipgngaljcaaSaV2
namespace Go.Proofs.Sa
open Go Go.Gw D
set_option linter.unusedVariables false
set_option maxRecDepth 20000

theorem keep_SpoilBytes_ok (b_0 : List Int) (r : List Int) (h : keep_SpoilBytes b_0 = some r) : CallOk P 35 [.v (.one (.slc 9000))] [(9000, .own 5 .u8 b_0)] (.tup []) [(9000, .own 5 .u8 r)] := by
  refine call1 (N := 17) Try.func35 (by kernel_rfl) rfl rfl rfl [(9000, .own 5 .u8 b_0)] (by kernel_rfl) ?_
  intro _ B w0
  show Tr P B 17 w0 _ _ (RetQ P Try.f35 (R1 _ _ B w0))
  unfold keep_SpoilBytes at h
  refine tr_seq ?_
  refine tr_reg hT [] [.s 0, .s 2, .h 9000] [sO 0 (.slc 9000), sI 2 .i64 (0 : Int), hO 9000 5 .u8 b_0] [] (by kernel_rfl) trivial ?_
  refine q_k ?_
  refine tr_block ?_
  obtain ⟨m3, e6, h⟩ := bind_some h
  refine tr_fit [] [sO 0 (.slc 9000), sI 2 .i64 (0 : Int), hO 9000 5 .u8 b_0] [(9000, .own 5 .u8 b_0)] (by kernel_rfl) (by kernel_rfl) (by kernel_rfl) rfl ⟨.own (by kernel_rfl), trivial⟩ (by kernel_rfl) ?_
  refine tr_loop_fuel (id := 0) (α := List Int × Int) (β := List Int) (fun z => [sO 0 (.slc 9000), sI 2 .i64 z.2, hO 9000 5 .u8 z.1]) (fun z => [hO 9000 5 .u8 z]) (fun k z => keep_SpoilBytes_l0 k z.1 z.2) m3 (fun _ => rfl) (((↑(List.length b_0) : Int) - (0 : Int)).toNat + 1) (b_0, (0 : Int)) e6 ?_ ?_
  · skip
    replace h : (some m3) = _ := h
    refine q_b_this ?_
    have h := Option.some.inj h
    subst h
    refine q_less [.h 9000] [hO 9000 5 .u8 m3] (by kernel_rfl) ?_
    exact q_end1 hT (.tup []) [(9000, .own 5 .u8 m3)] (by kernel_rfl) (by kernel_rfl) (by kernel_rfl)
  · clear h e6
    intro k ih0 hx0 z h
    obtain ⟨m1, i2⟩ := z
    replace h : (if (decide (i2 < (↑(List.length m1) : Int))) = true then if 0 ≤ i2 ∧ i2 < ↑(List.length m1) then keep_SpoilBytes_l0 k (m1.set i2.toNat (IntKind.u8.wrap ((m1.getD i2.toNat 0) + (101 : Int)))) (IntKind.i64.wrap (i2 + (1 : Int))) else none else some m1) = _ := h
    refine tr_seq ?_
    refine tr_seq ?_
    refine tr_reg hT [] [.s 0, .s 2, .s 6, .h 9000] [sO 0 (.slc 9000), sI 2 .i64 i2, sB 6 (decide (i2 < (↑(List.length m1) : Int))), hO 9000 5 .u8 m1] [] (by kernel_rfl) trivial ?_
    refine q_k ?_
    rcases ite_split h with ⟨hc4, h⟩ | ⟨hc4, h⟩
    · refine tr_cond_t (decide (i2 < (↑(List.length m1) : Int))) (by kernel_rfl) hc4 ?_
      refine tr_skip ?_
      refine q_k ?_
      refine tr_seq ?_
      refine tr_block ?_
      obtain ⟨hn5, h⟩ := ite_some h
      refine tr_reg hT [] [.s 0, .s 2, .h 9000] [sO 0 (.slc 9000), sI 2 .i64 i2, hO 9000 5 .u8 (m1.set i2.toNat (IntKind.u8.wrap ((m1.getD i2.toNat 0) + (101 : Int))))] [0 ≤ i2 ∧ i2 < ↑(List.length m1), i2 < ↑(List.length m1), 0 ≤ i2 ∧ i2 < ↑(List.length m1), i2 < ↑(List.length m1)] (by kernel_rfl) (hcons hn5 (hcons hn5.2 (hcons hn5 (hone hn5.2)))) ?_
      refine q_b 1 ?_
      refine q_k ?_
      refine tr_reg hT [] [.s 0, .s 2, .h 9000] [sO 0 (.slc 9000), sI 2 .i64 (IntKind.i64.wrap (i2 + (1 : Int))), hO 9000 5 .u8 (m1.set i2.toNat (IntKind.u8.wrap ((m1.getD i2.toNat 0) + (101 : Int))))] [] (by kernel_rfl) trivial ?_
      refine q_kr ?_
      exact trR_less [.s 0, .s 2, .h 9000] [sO 0 (.slc 9000), sI 2 .i64 (IntKind.i64.wrap (i2 + (1 : Int))), hO 9000 5 .u8 (m1.set i2.toNat (IntKind.u8.wrap ((m1.getD i2.toNat 0) + (101 : Int))))] (by kernel_rfl) (ih0 ((m1.set i2.toNat (IntKind.u8.wrap ((m1.getD i2.toNat 0) + (101 : Int)))), (IntKind.i64.wrap (i2 + (1 : Int)))) h)
    · refine tr_cond_f (decide (i2 < (↑(List.length m1) : Int))) (by kernel_rfl) hc4 ?_
      refine tr_exit ?_
      refine q_k_exit ?_
      refine q_kr_exit ?_
      have h := Option.some.inj h
      subst h
      exact q_less [.h 9000] [hO 9000 5 .u8 m1] (by kernel_rfl) hx0

theorem slices_Equal_byte_byte_ok (s1_0 : List Int) (s2_1 : List Int) (r : Bool) (h : slices_Equal_byte_byte s1_0 s2_1 = some r) : CallOk P 59 [.v (.one (.slc 9000)), .v (.one (.slc 9001))] [(9000, .rd .u8 s1_0), (9001, .rd .u8 s2_1)] (.v (.one (.bool r))) [] := by
  refine call1 (N := 26) Try.func59 (by kernel_rfl) rfl rfl rfl [(9000, .rd .u8 s1_0), (9001, .rd .u8 s2_1)] (by kernel_rfl) ?_
  intro _ B w0
  show Tr P B 26 w0 _ _ (RetQ P Try.f59 (R1 _ _ B w0))
  unfold slices_Equal_byte_byte at h
  refine tr_seq ?_
  refine tr_reg hT [] [.s 0, .s 1, .h 9000, .h 9001] [sO 0 (.slc 9000), sO 1 (.slc 9001), hR 9000 .u8 s1_0, hR 9001 .u8 s2_1] [] (by kernel_rfl) trivial ?_
  refine q_k ?_
  refine tr_seq ?_
  refine tr_seq ?_
  refine tr_reg hT [] [.s 0, .s 1, .s 10, .h 9000, .h 9001] [sO 0 (.slc 9000), sO 1 (.slc 9001), sB 10 ((↑(List.length s1_0) : Int) != (↑(List.length s2_1) : Int)), hR 9000 .u8 s1_0, hR 9001 .u8 s2_1] [] (by kernel_rfl) trivial ?_
  refine q_k ?_
  rcases ite_split h with ⟨hc1, h⟩ | ⟨hc1, h⟩
  · refine tr_cond_t ((↑(List.length s1_0) : Int) != (↑(List.length s2_1) : Int)) (by kernel_rfl) hc1 ?_
    refine tr_seq ?_
    refine tr_reg hT [] [.s 4] [sB 4 false] [] (by kernel_rfl) trivial ?_
    refine q_k ?_
    refine tr_ret ?_
    refine q_k_ret ?_
    have h := Option.some.inj h
    subst h
    refine q_less [.s 4] [sB 4 false] (by kernel_rfl) ?_
    exact q_ret1 hT (.v (.one (.bool false))) [] (by kernel_rfl) (by kernel_rfl) (by kernel_rfl)
  · refine tr_cond_f ((↑(List.length s1_0) : Int) != (↑(List.length s2_1) : Int)) (by kernel_rfl) hc1 ?_
    refine tr_skip ?_
    refine q_k ?_
    refine tr_seq ?_
    refine tr_seq ?_
    refine tr_reg hT [] [.s 0, .s 1, .s 12, .s 13, .h 9000, .h 9001] [sO 0 (.slc 9000), sO 1 (.slc 9001), sI 12 .i64 (↑(List.length s1_0) : Int), sI 13 .i64 (0 : Int), hR 9000 .u8 s1_0, hR 9001 .u8 s2_1] [] (by kernel_rfl) trivial ?_
    refine q_k ?_
    refine tr_block ?_
    obtain ⟨rr0, e7, h⟩ := bind_some h
    refine tr_fit [] [sO 0 (.slc 9000), sO 1 (.slc 9001), sI 12 .i64 (↑(List.length s1_0) : Int), sI 13 .i64 (0 : Int), hR 9000 .u8 s1_0, hR 9001 .u8 s2_1] [(9000, .rd .u8 s1_0), (9001, .rd .u8 s2_1)] (by kernel_rfl) (by kernel_rfl) (by kernel_rfl) rfl ⟨.rd (by kernel_rfl), .rd (by kernel_rfl), trivial⟩ (by kernel_rfl) ?_
    refine tr_loop_ret (id := 0) (α := Int) (β := Unit) (ρ := Bool) (fun z => [sO 0 (.slc 9000), sO 1 (.slc 9001), sI 12 .i64 (↑(List.length s1_0) : Int), sI 13 .i64 z, hR 9000 .u8 s1_0, hR 9001 .u8 s2_1]) (fun z => []) (fun v σ => resS T (Gw.look σ) Try.f59.results.toList = some (.v (.one (.bool v))) ∧ Gw.hasAll σ [] = some (Gw.preSS [])) (fun k z => slices_Equal_byte_byte_l0 s1_0 s2_1 k z) rr0 (fun _ => rfl) (((↑(List.length s1_0) : Int) - (0 : Int)).toNat + 1) (0 : Int) e7 ?_ ?_ ?_
    · intro z hz
      subst hz
      rcases z with _
      replace h : (some true) = _ := h
      refine q_b_this ?_
      refine q_k ?_
      refine tr_seq ?_
      refine tr_reg hT [] [.s 4] [sB 4 true] [] (by kernel_rfl) trivial ?_
      refine q_k ?_
      refine tr_ret ?_
      have h := Option.some.inj h
      subst h
      refine q_less [.s 4] [sB 4 true] (by kernel_rfl) ?_
      exact q_ret1 hT (.v (.one (.bool true))) [] (by kernel_rfl) (by kernel_rfl) (by kernel_rfl)
    · intro v σ hz hv
      subst hz
      have h := Option.some.inj h
      subst h
      refine q_b_ret ?_
      refine q_k_ret ?_
      exact q_ret1 hT _ _ hv.1 hv.2 (by kernel_rfl)
    · clear h e7
      intro k ih0 hx0 hr0 x2 h
      replace h : (if (decide (x2 < (↑(List.length s1_0) : Int))) = true then if 0 ≤ x2 ∧ x2 < ↑(List.length s1_0) then if 0 ≤ x2 ∧ x2 < ↑(List.length s2_1) then if ((s1_0.getD x2.toNat 0) != (s2_1.getD x2.toNat 0)) = true then some (.inr false) else slices_Equal_byte_byte_l0 s1_0 s2_1 k (IntKind.i64.wrap (x2 + (1 : Int))) else none else none else some (.inl ())) = _ := h
      refine tr_seq ?_
      refine tr_reg hT [] [.s 0, .s 1, .s 12, .s 13, .s 14, .h 9000, .h 9001] [sO 0 (.slc 9000), sO 1 (.slc 9001), sI 12 .i64 (↑(List.length s1_0) : Int), sI 13 .i64 x2, sB 14 (decide (x2 < (↑(List.length s1_0) : Int))), hR 9000 .u8 s1_0, hR 9001 .u8 s2_1] [] (by kernel_rfl) trivial ?_
      refine q_k ?_
      refine tr_seq ?_
      rcases ite_split h with ⟨hc3, h⟩ | ⟨hc3, h⟩
      · refine tr_cond_t (decide (x2 < (↑(List.length s1_0) : Int))) (by kernel_rfl) hc3 ?_
        refine tr_skip ?_
        refine q_k ?_
        refine tr_seq ?_
        refine tr_block ?_
        refine tr_seq ?_
        refine tr_reg hT [] [.s 0, .s 1, .s 5, .s 12, .s 13, .h 9000, .h 9001] [sO 0 (.slc 9000), sO 1 (.slc 9001), sI 5 .i64 x2, sI 12 .i64 (↑(List.length s1_0) : Int), sI 13 .i64 x2, hR 9000 .u8 s1_0, hR 9001 .u8 s2_1] [] (by kernel_rfl) trivial ?_
        refine q_k ?_
        refine tr_seq ?_
        obtain ⟨hn4, h⟩ := ite_some h
        obtain ⟨hn5, h⟩ := ite_some h
        refine tr_regd hT hM [] [.s 0, .s 1, .s 12, .s 13, .s 24, .h 9000, .h 9001] [sO 0 (.slc 9000), sO 1 (.slc 9001), sI 12 .i64 (↑(List.length s1_0) : Int), sI 13 .i64 x2, sB 24 ((s1_0.getD x2.toNat 0) != (s2_1.getD x2.toNat 0)), hR 9000 .u8 s1_0, hR 9001 .u8 s2_1] [0 ≤ x2 ∧ x2 < ↑(List.length s1_0), x2 < ↑(List.length s1_0), 0 ≤ x2 ∧ x2 < ↑(List.length s2_1), x2 < ↑(List.length s2_1)] (by kernel_rfl) (hcons hn4 (hcons hn4.2 (hcons hn5 (hone hn5.2)))) ?_
        refine q_k ?_
        rcases ite_split h with ⟨hc6, h⟩ | ⟨hc6, h⟩
        · refine tr_cond_t ((s1_0.getD x2.toNat 0) != (s2_1.getD x2.toNat 0)) (by kernel_rfl) hc6 ?_
          refine tr_seq ?_
          refine tr_reg hT [] [.s 4] [sB 4 false] [] (by kernel_rfl) trivial ?_
          refine q_k ?_
          refine tr_ret ?_
          refine q_b_ret ?_
          refine q_k_ret ?_
          refine q_kr_ret ?_
          have h := Option.some.inj h
          subst h
          exact q_less [.s 4] [sB 4 false] (by kernel_rfl) (hr0 false _ rfl ⟨by kernel_rfl, by kernel_rfl⟩)
        · refine tr_cond_f ((s1_0.getD x2.toNat 0) != (s2_1.getD x2.toNat 0)) (by kernel_rfl) hc6 ?_
          refine tr_skip ?_
          refine q_b 1 ?_
          refine q_k ?_
          refine tr_reg hT [] [.s 0, .s 1, .s 12, .s 13, .h 9000, .h 9001] [sO 0 (.slc 9000), sO 1 (.slc 9001), sI 12 .i64 (↑(List.length s1_0) : Int), sI 13 .i64 (IntKind.i64.wrap (x2 + (1 : Int))), hR 9000 .u8 s1_0, hR 9001 .u8 s2_1] [] (by kernel_rfl) trivial ?_
          refine q_kr ?_
          exact trR_less [.s 0, .s 1, .s 12, .s 13, .h 9000, .h 9001] [sO 0 (.slc 9000), sO 1 (.slc 9001), sI 12 .i64 (↑(List.length s1_0) : Int), sI 13 .i64 (IntKind.i64.wrap (x2 + (1 : Int))), hR 9000 .u8 s1_0, hR 9001 .u8 s2_1] (by kernel_rfl) (ih0 (IntKind.i64.wrap (x2 + (1 : Int))) h)
      · refine tr_cond_f (decide (x2 < (↑(List.length s1_0) : Int))) (by kernel_rfl) hc3 ?_
        refine tr_exit ?_
        refine q_k_exit ?_
        refine q_kr_exit ?_
        have h := Option.some.inj h
        subst h
        exact q_less [] [] (by kernel_rfl) (hx0 () rfl)

theorem frame_Get_ok (b_0 : List Int) (at_1 : Int) (r : Int × List Int × Int × Int) (h : frame_Get b_0 at_1 = some r) : CallOk P 36 [.v (.one (.slc 9000)), .v (.one (.int .i64 at_1))] [(9000, .rd .u8 b_0)] (.tup [.agg [.int .i64 r.1, .slc 8900], .one (.int .i64 r.2.2.1), .one (.int .i64 r.2.2.2)]) [(8900, .own 5 .u8 r.2.1)] := by
  refine call1 (N := 88) Try.func36 (by kernel_rfl) rfl rfl rfl [(9000, .rd .u8 b_0)] (by kernel_rfl) ?_
  intro _ B w0
  show Tr P B 88 w0 _ _ (RetQ P Try.f36 (R1 _ _ B w0))
  unfold frame_Get at h
  refine tr_seq ?_
  refine tr_reg hT [(0, .key 0)] [.s 0, .s 1, .s 4, .h 0, .h 9000] [sO 0 (.slc 9000), sI 1 .i64 at_1, sO 4 (.ptr 0 0), hB 0 41 [.int .i64 (0 : Int), .nils], hR 9000 .u8 b_0] [] (by kernel_rfl) trivial ?_
  refine q_k ?_
  refine tr_seq ?_
  refine tr_seq ?_
  rcases ite_split h with ⟨hb1, h⟩ | ⟨hb2, h⟩
  · refine tr_reg hT [(2, .dec true)] [.s 0, .s 1, .s 4, .s 15, .h 0, .h 9000] [sO 0 (.slc 9000), sI 1 .i64 at_1, sO 4 (.ptr 0 0), sB 15 true, hB 0 41 [.int .i64 (0 : Int), .nils], hR 9000 .u8 b_0] [(decide (at_1 < (0 : Int))) = true] (by kernel_rfl) (hone hb1) ?_
    refine q_k ?_
    refine tr_cond_t true (by kernel_rfl) rfl ?_
    refine tr_seq ?_
    refine tr_reg hT [] [.s 4, .s 5, .s 6, .h 0] [sO 4 (.ptr 0 0), sI 5 .i64 (0 : Int), sI 6 .i64 (1 : Int), hB 0 41 [.int .i64 (0 : Int), .nils]] [] (by kernel_rfl) trivial ?_
    refine q_k ?_
    refine tr_ret ?_
    refine q_k_ret ?_
    have h := Option.some.inj h
    subst h
    refine q_fit [(8900, .nils)] [sO 4 (.ptr 0 0), sI 5 .i64 (0 : Int), sI 6 .i64 (1 : Int), hB 0 41 [.int .i64 (0 : Int), .slc 8900], hO 8900 5 .u8 []] [(0, .blk 41 [.int .i64 (0 : Int), .slc 8900]), (8900, .own 5 .u8 [])] (by kernel_rfl) (by kernel_rfl) (by kernel_rfl) rfl ⟨.blk (by kernel_rfl) (by kernel_rfl), .nilown, trivial⟩ (by kernel_rfl) ?_
    exact q_ret1 hT (.tup [.agg [.int .i64 (0 : Int), .slc 8900], .one (.int .i64 (0 : Int)), .one (.int .i64 (1 : Int))]) [(8900, .own 5 .u8 [])] (by kernel_rfl) (by kernel_rfl) (by kernel_rfl)
  · refine tr_reg hT [(2, .dec false)] [.s 0, .s 1, .s 4, .s 15, .h 0, .h 9000] [sO 0 (.slc 9000), sI 1 .i64 at_1, sO 4 (.ptr 0 0), sB 15 (decide (at_1 > (↑(List.length b_0) : Int))), hB 0 41 [.int .i64 (0 : Int), .nils], hR 9000 .u8 b_0] [(decide (at_1 < (0 : Int))) = false] (by kernel_rfl) (hone hb2) ?_
    refine q_k ?_
    rcases ite_split h with ⟨hc3, h⟩ | ⟨hc3, h⟩
    · refine tr_cond_t (decide (at_1 > (↑(List.length b_0) : Int))) (by kernel_rfl) hc3 ?_
      refine tr_seq ?_
      refine tr_reg hT [] [.s 4, .s 5, .s 6, .h 0] [sO 4 (.ptr 0 0), sI 5 .i64 (0 : Int), sI 6 .i64 (1 : Int), hB 0 41 [.int .i64 (0 : Int), .nils]] [] (by kernel_rfl) trivial ?_
      refine q_k ?_
      refine tr_ret ?_
      refine q_k_ret ?_
      have h := Option.some.inj h
      subst h
      refine q_fit [(8900, .nils)] [sO 4 (.ptr 0 0), sI 5 .i64 (0 : Int), sI 6 .i64 (1 : Int), hB 0 41 [.int .i64 (0 : Int), .slc 8900], hO 8900 5 .u8 []] [(0, .blk 41 [.int .i64 (0 : Int), .slc 8900]), (8900, .own 5 .u8 [])] (by kernel_rfl) (by kernel_rfl) (by kernel_rfl) rfl ⟨.blk (by kernel_rfl) (by kernel_rfl), .nilown, trivial⟩ (by kernel_rfl) ?_
      exact q_ret1 hT (.tup [.agg [.int .i64 (0 : Int), .slc 8900], .one (.int .i64 (0 : Int)), .one (.int .i64 (1 : Int))]) [(8900, .own 5 .u8 [])] (by kernel_rfl) (by kernel_rfl) (by kernel_rfl)
    · refine tr_cond_f (decide (at_1 > (↑(List.length b_0) : Int))) (by kernel_rfl) hc3 ?_
      refine tr_skip ?_
      refine q_k ?_
      refine tr_seq ?_
      refine tr_seq ?_
      rcases ite_split h with ⟨hb4, h⟩ | ⟨hb5, h⟩
      · refine tr_reg hT [(5, .dec true)] [.s 0, .s 1, .s 4, .s 30, .h 0, .h 9000] [sO 0 (.slc 9000), sI 1 .i64 at_1, sO 4 (.ptr 0 0), sB 30 true, hB 0 41 [.int .i64 (0 : Int), .nils], hR 9000 .u8 b_0] [(decide ((IntKind.i64.wrap ((↑(List.length b_0) : Int) - at_1)) < (7 : Int))) = true] (by kernel_rfl) (hone hb4) ?_
        refine q_k ?_
        refine tr_cond_t true (by kernel_rfl) rfl ?_
        refine tr_seq ?_
        refine tr_reg hT [] [.s 4, .s 5, .s 6, .h 0] [sO 4 (.ptr 0 0), sI 5 .i64 (0 : Int), sI 6 .i64 (3 : Int), hB 0 41 [.int .i64 (0 : Int), .nils]] [] (by kernel_rfl) trivial ?_
        refine q_k ?_
        refine tr_ret ?_
        refine q_k_ret ?_
        have h := Option.some.inj h
        subst h
        refine q_fit [(8900, .nils)] [sO 4 (.ptr 0 0), sI 5 .i64 (0 : Int), sI 6 .i64 (3 : Int), hB 0 41 [.int .i64 (0 : Int), .slc 8900], hO 8900 5 .u8 []] [(0, .blk 41 [.int .i64 (0 : Int), .slc 8900]), (8900, .own 5 .u8 [])] (by kernel_rfl) (by kernel_rfl) (by kernel_rfl) rfl ⟨.blk (by kernel_rfl) (by kernel_rfl), .nilown, trivial⟩ (by kernel_rfl) ?_
        exact q_ret1 hT (.tup [.agg [.int .i64 (0 : Int), .slc 8900], .one (.int .i64 (0 : Int)), .one (.int .i64 (3 : Int))]) [(8900, .own 5 .u8 [])] (by kernel_rfl) (by kernel_rfl) (by kernel_rfl)
      · obtain ⟨hn6, h⟩ := ite_some h
        obtain ⟨b7, e8, h⟩ := bind_some h
        refine tr_reg hT [(5, .dec false), (11, .call [] (.v (.one (.bool b7))) [])] [.s 0, .s 1, .s 4, .s 30, .h 0, .h 9000] [sO 0 (.slc 9000), sI 1 .i64 at_1, sO 4 (.ptr 0 0), sB 30 (!b7), hB 0 41 [.int .i64 (0 : Int), .nils], hR 9000 .u8 b_0] [(decide ((IntKind.i64.wrap ((↑(List.length b_0) : Int) - at_1)) < (7 : Int))) = false, 0 ≤ at_1 ∧ at_1 < ↑(List.length b_0), at_1 < ↑(List.length b_0), CallOk P 56 [.v (.one (.int .i64 (IntKind.i64.wrap (b_0.getD at_1.toNat 0))))] [] (.v (.one (.bool b7))) []] (by kernel_rfl) (hcons hb5 (hcons hn6 (hcons hn6.2 (hone (frame_known_ok (IntKind.i64.wrap (b_0.getD at_1.toNat 0)) b7 e8))))) ?_
        refine q_k ?_
        rcases ite_split h with ⟨hc9, h⟩ | ⟨hc9, h⟩
        · refine tr_cond_t (!b7) (by kernel_rfl) hc9 ?_
          refine tr_seq ?_
          refine tr_reg hT [] [.s 4, .s 5, .s 6, .h 0] [sO 4 (.ptr 0 0), sI 5 .i64 (0 : Int), sI 6 .i64 (3 : Int), hB 0 41 [.int .i64 (0 : Int), .nils]] [] (by kernel_rfl) trivial ?_
          refine q_k ?_
          refine tr_ret ?_
          refine q_k_ret ?_
          have h := Option.some.inj h
          subst h
          refine q_fit [(8900, .nils)] [sO 4 (.ptr 0 0), sI 5 .i64 (0 : Int), sI 6 .i64 (3 : Int), hB 0 41 [.int .i64 (0 : Int), .slc 8900], hO 8900 5 .u8 []] [(0, .blk 41 [.int .i64 (0 : Int), .slc 8900]), (8900, .own 5 .u8 [])] (by kernel_rfl) (by kernel_rfl) (by kernel_rfl) rfl ⟨.blk (by kernel_rfl) (by kernel_rfl), .nilown, trivial⟩ (by kernel_rfl) ?_
          exact q_ret1 hT (.tup [.agg [.int .i64 (0 : Int), .slc 8900], .one (.int .i64 (0 : Int)), .one (.int .i64 (3 : Int))]) [(8900, .own 5 .u8 [])] (by kernel_rfl) (by kernel_rfl) (by kernel_rfl)
        · refine tr_cond_f (!b7) (by kernel_rfl) hc9 ?_
          refine tr_skip ?_
          refine q_k ?_
          refine tr_seq ?_
          obtain ⟨hn10, h⟩ := ite_some h
          obtain ⟨hn11, h⟩ := ite_some h
          refine tr_regd hT hM [] [.s 0, .s 1, .s 4, .s 7, .h 0, .h 9000] [sO 0 (.slc 9000), sI 1 .i64 at_1, sO 4 (.ptr 0 0), sI 7 .i64 (bor .i64 (shl .i64 (IntKind.i64.wrap (b_0.getD (IntKind.i64.wrap (at_1 + (1 : Int))).toNat 0)) (8 : Int)) (IntKind.i64.wrap (b_0.getD (IntKind.i64.wrap (at_1 + (2 : Int))).toNat 0))), hB 0 41 [.int .i64 (0 : Int), .nils], hR 9000 .u8 b_0] [0 ≤ (IntKind.i64.wrap (at_1 + (1 : Int))) ∧ (IntKind.i64.wrap (at_1 + (1 : Int))) < ↑(List.length b_0), (IntKind.i64.wrap (at_1 + (1 : Int))) < ↑(List.length b_0), 0 ≤ (8 : Int), 0 ≤ (IntKind.i64.wrap (at_1 + (2 : Int))) ∧ (IntKind.i64.wrap (at_1 + (2 : Int))) < ↑(List.length b_0), (IntKind.i64.wrap (at_1 + (2 : Int))) < ↑(List.length b_0)] (by kernel_rfl) (hcons hn10 (hcons hn10.2 (hcons (by decide) (hcons hn11 (hone hn11.2))))) ?_
          refine q_k ?_
          refine tr_seq ?_
          refine tr_seq ?_
          rcases ite_split h with ⟨hb12, h⟩ | ⟨hb13, h⟩
          · refine tr_reg hT [(2, .dec true)] [.s 0, .s 1, .s 4, .s 7, .s 56, .h 0, .h 9000] [sO 0 (.slc 9000), sI 1 .i64 at_1, sO 4 (.ptr 0 0), sI 7 .i64 (bor .i64 (shl .i64 (IntKind.i64.wrap (b_0.getD (IntKind.i64.wrap (at_1 + (1 : Int))).toNat 0)) (8 : Int)) (IntKind.i64.wrap (b_0.getD (IntKind.i64.wrap (at_1 + (2 : Int))).toNat 0))), sB 56 true, hB 0 41 [.int .i64 (0 : Int), .nils], hR 9000 .u8 b_0] [(decide ((bor .i64 (shl .i64 (IntKind.i64.wrap (b_0.getD (IntKind.i64.wrap (at_1 + (1 : Int))).toNat 0)) (8 : Int)) (IntKind.i64.wrap (b_0.getD (IntKind.i64.wrap (at_1 + (2 : Int))).toNat 0))) > (2000 : Int))) = true] (by kernel_rfl) (hone hb12) ?_
            refine q_k ?_
            refine tr_cond_t true (by kernel_rfl) rfl ?_
            refine tr_seq ?_
            refine tr_reg hT [] [.s 4, .s 5, .s 6, .h 0] [sO 4 (.ptr 0 0), sI 5 .i64 (0 : Int), sI 6 .i64 (3 : Int), hB 0 41 [.int .i64 (0 : Int), .nils]] [] (by kernel_rfl) trivial ?_
            refine q_k ?_
            refine tr_ret ?_
            refine q_k_ret ?_
            have h := Option.some.inj h
            subst h
            refine q_fit [(8900, .nils)] [sO 4 (.ptr 0 0), sI 5 .i64 (0 : Int), sI 6 .i64 (3 : Int), hB 0 41 [.int .i64 (0 : Int), .slc 8900], hO 8900 5 .u8 []] [(0, .blk 41 [.int .i64 (0 : Int), .slc 8900]), (8900, .own 5 .u8 [])] (by kernel_rfl) (by kernel_rfl) (by kernel_rfl) rfl ⟨.blk (by kernel_rfl) (by kernel_rfl), .nilown, trivial⟩ (by kernel_rfl) ?_
            exact q_ret1 hT (.tup [.agg [.int .i64 (0 : Int), .slc 8900], .one (.int .i64 (0 : Int)), .one (.int .i64 (3 : Int))]) [(8900, .own 5 .u8 [])] (by kernel_rfl) (by kernel_rfl) (by kernel_rfl)
          · refine tr_reg hT [(2, .dec false)] [.s 0, .s 1, .s 4, .s 7, .s 56, .h 0, .h 9000] [sO 0 (.slc 9000), sI 1 .i64 at_1, sO 4 (.ptr 0 0), sI 7 .i64 (bor .i64 (shl .i64 (IntKind.i64.wrap (b_0.getD (IntKind.i64.wrap (at_1 + (1 : Int))).toNat 0)) (8 : Int)) (IntKind.i64.wrap (b_0.getD (IntKind.i64.wrap (at_1 + (2 : Int))).toNat 0))), sB 56 (decide ((bor .i64 (shl .i64 (IntKind.i64.wrap (b_0.getD (IntKind.i64.wrap (at_1 + (1 : Int))).toNat 0)) (8 : Int)) (IntKind.i64.wrap (b_0.getD (IntKind.i64.wrap (at_1 + (2 : Int))).toNat 0))) > (IntKind.i64.wrap ((IntKind.i64.wrap ((↑(List.length b_0) : Int) - at_1)) - (7 : Int))))), hB 0 41 [.int .i64 (0 : Int), .nils], hR 9000 .u8 b_0] [(decide ((bor .i64 (shl .i64 (IntKind.i64.wrap (b_0.getD (IntKind.i64.wrap (at_1 + (1 : Int))).toNat 0)) (8 : Int)) (IntKind.i64.wrap (b_0.getD (IntKind.i64.wrap (at_1 + (2 : Int))).toNat 0))) > (2000 : Int))) = false] (by kernel_rfl) (hone hb13) ?_
            refine q_k ?_
            rcases ite_split h with ⟨hc14, h⟩ | ⟨hc14, h⟩
            · refine tr_cond_t (decide ((bor .i64 (shl .i64 (IntKind.i64.wrap (b_0.getD (IntKind.i64.wrap (at_1 + (1 : Int))).toNat 0)) (8 : Int)) (IntKind.i64.wrap (b_0.getD (IntKind.i64.wrap (at_1 + (2 : Int))).toNat 0))) > (IntKind.i64.wrap ((IntKind.i64.wrap ((↑(List.length b_0) : Int) - at_1)) - (7 : Int))))) (by kernel_rfl) hc14 ?_
              refine tr_seq ?_
              refine tr_reg hT [] [.s 4, .s 5, .s 6, .h 0] [sO 4 (.ptr 0 0), sI 5 .i64 (0 : Int), sI 6 .i64 (3 : Int), hB 0 41 [.int .i64 (0 : Int), .nils]] [] (by kernel_rfl) trivial ?_
              refine q_k ?_
              refine tr_ret ?_
              refine q_k_ret ?_
              have h := Option.some.inj h
              subst h
              refine q_fit [(8900, .nils)] [sO 4 (.ptr 0 0), sI 5 .i64 (0 : Int), sI 6 .i64 (3 : Int), hB 0 41 [.int .i64 (0 : Int), .slc 8900], hO 8900 5 .u8 []] [(0, .blk 41 [.int .i64 (0 : Int), .slc 8900]), (8900, .own 5 .u8 [])] (by kernel_rfl) (by kernel_rfl) (by kernel_rfl) rfl ⟨.blk (by kernel_rfl) (by kernel_rfl), .nilown, trivial⟩ (by kernel_rfl) ?_
              exact q_ret1 hT (.tup [.agg [.int .i64 (0 : Int), .slc 8900], .one (.int .i64 (0 : Int)), .one (.int .i64 (3 : Int))]) [(8900, .own 5 .u8 [])] (by kernel_rfl) (by kernel_rfl) (by kernel_rfl)
            · refine tr_cond_f (decide ((bor .i64 (shl .i64 (IntKind.i64.wrap (b_0.getD (IntKind.i64.wrap (at_1 + (1 : Int))).toNat 0)) (8 : Int)) (IntKind.i64.wrap (b_0.getD (IntKind.i64.wrap (at_1 + (2 : Int))).toNat 0))) > (IntKind.i64.wrap ((IntKind.i64.wrap ((↑(List.length b_0) : Int) - at_1)) - (7 : Int))))) (by kernel_rfl) hc14 ?_
              refine tr_skip ?_
              refine q_k ?_
              refine tr_seq ?_
              refine tr_reg hT [] [.s 0, .s 1, .s 4, .s 5, .h 0, .h 9000] [sO 0 (.slc 9000), sI 1 .i64 at_1, sO 4 (.ptr 0 0), sI 5 .i64 (IntKind.i64.wrap ((IntKind.i64.wrap (at_1 + (7 : Int))) + (bor .i64 (shl .i64 (IntKind.i64.wrap (b_0.getD (IntKind.i64.wrap (at_1 + (1 : Int))).toNat 0)) (8 : Int)) (IntKind.i64.wrap (b_0.getD (IntKind.i64.wrap (at_1 + (2 : Int))).toNat 0))))), hB 0 41 [.int .i64 (0 : Int), .nils], hR 9000 .u8 b_0] [] (by kernel_rfl) trivial ?_
              refine q_k ?_
              refine tr_seq ?_
              obtain ⟨hn15, h⟩ := ite_some h
              obtain ⟨hn16, h⟩ := ite_some h
              obtain ⟨a17, e18, h⟩ := bind_some h
              refine tr_regd hT hM [(9, .key 1), (10, .call [1] (.v (.one (.slc 2))) [(2, .own 5 .u8 a17)])] [.s 0, .s 1, .s 4, .s 5, .h 0, .h 2, .h 9000] [sO 0 (.slc 9000), sI 1 .i64 at_1, sO 4 (.ptr 0 0), sI 5 .i64 (IntKind.i64.wrap ((IntKind.i64.wrap (at_1 + (7 : Int))) + (bor .i64 (shl .i64 (IntKind.i64.wrap (b_0.getD (IntKind.i64.wrap (at_1 + (1 : Int))).toNat 0)) (8 : Int)) (IntKind.i64.wrap (b_0.getD (IntKind.i64.wrap (at_1 + (2 : Int))).toNat 0))))), hB 0 41 [.int .i64 (IntKind.i64.wrap (b_0.getD at_1.toNat 0)), .slc 2], hO 2 5 .u8 a17, hR 9000 .u8 b_0] [0 ≤ at_1 ∧ at_1 < ↑(List.length b_0), at_1 < ↑(List.length b_0), 0 ≤ (IntKind.i64.wrap (at_1 + (7 : Int))) ∧ (IntKind.i64.wrap (at_1 + (7 : Int))) ≤ (IntKind.i64.wrap ((IntKind.i64.wrap (at_1 + (7 : Int))) + (bor .i64 (shl .i64 (IntKind.i64.wrap (b_0.getD (IntKind.i64.wrap (at_1 + (1 : Int))).toNat 0)) (8 : Int)) (IntKind.i64.wrap (b_0.getD (IntKind.i64.wrap (at_1 + (2 : Int))).toNat 0))))) ∧ (IntKind.i64.wrap ((IntKind.i64.wrap (at_1 + (7 : Int))) + (bor .i64 (shl .i64 (IntKind.i64.wrap (b_0.getD (IntKind.i64.wrap (at_1 + (1 : Int))).toNat 0)) (8 : Int)) (IntKind.i64.wrap (b_0.getD (IntKind.i64.wrap (at_1 + (2 : Int))).toNat 0))))) ≤ (↑(List.length b_0) : Int), CallOk P 58 [.v (.one (.slc 1))] [(1, .rd .u8 ((b_0.take ((IntKind.i64.wrap ((IntKind.i64.wrap (at_1 + (7 : Int))) + (bor .i64 (shl .i64 (IntKind.i64.wrap (b_0.getD (IntKind.i64.wrap (at_1 + (1 : Int))).toNat 0)) (8 : Int)) (IntKind.i64.wrap (b_0.getD (IntKind.i64.wrap (at_1 + (2 : Int))).toNat 0))))).toNat)).drop (IntKind.i64.wrap (at_1 + (7 : Int))).toNat))] (.v (.one (.slc 2))) [(2, .own 5 .u8 a17)]] (by kernel_rfl) (hcons hn15 (hcons hn15.2 (hcons hn16 (hone ((slices_Clone_byte_byte_ok ((b_0.take ((IntKind.i64.wrap ((IntKind.i64.wrap (at_1 + (7 : Int))) + (bor .i64 (shl .i64 (IntKind.i64.wrap (b_0.getD (IntKind.i64.wrap (at_1 + (1 : Int))).toNat 0)) (8 : Int)) (IntKind.i64.wrap (b_0.getD (IntKind.i64.wrap (at_1 + (2 : Int))).toNat 0))))).toNat)).drop (IntKind.i64.wrap (at_1 + (7 : Int))).toNat) a17 e18).tr [(9000, .slc 1), (8900, .slc 2)] rfl (by kernel_rfl) ⟨.rd (by kernel_rfl), trivial⟩ (by kernel_rfl) (by kernel_rfl) rfl rfl))))) ?_
              refine q_k ?_
              refine tr_seq ?_
              refine tr_seq ?_
              obtain ⟨a19, e20, h⟩ := bind_some h
              obtain ⟨hn21, h⟩ := ite_some h
              obtain ⟨b22, e23, h⟩ := bind_some h
              refine tr_regd hT hM [(4, .call [2] (.v (.one (.slc 3))) [(3, .own 5 .u8 a19)]), (8, .key 4), (9, .call [3, 4] (.v (.one (.bool b22))) [])] [.s 4, .s 5, .s 84, .h 0, .h 2] [sO 4 (.ptr 0 0), sI 5 .i64 (IntKind.i64.wrap ((IntKind.i64.wrap (at_1 + (7 : Int))) + (bor .i64 (shl .i64 (IntKind.i64.wrap (b_0.getD (IntKind.i64.wrap (at_1 + (1 : Int))).toNat 0)) (8 : Int)) (IntKind.i64.wrap (b_0.getD (IntKind.i64.wrap (at_1 + (2 : Int))).toNat 0))))), sB 84 (!b22), hB 0 41 [.int .i64 (IntKind.i64.wrap (b_0.getD at_1.toNat 0)), .slc 2], hO 2 5 .u8 a17] [CallOk P 57 [.v (.one (.int .i64 (IntKind.i64.wrap (b_0.getD at_1.toNat 0)))), .v (.one (.slc 2))] [(2, .own 5 .u8 a17)] (.v (.one (.slc 3))) [(3, .own 5 .u8 a19)], 0 ≤ at_1 ∧ at_1 ≤ (IntKind.i64.wrap ((IntKind.i64.wrap (at_1 + (7 : Int))) + (bor .i64 (shl .i64 (IntKind.i64.wrap (b_0.getD (IntKind.i64.wrap (at_1 + (1 : Int))).toNat 0)) (8 : Int)) (IntKind.i64.wrap (b_0.getD (IntKind.i64.wrap (at_1 + (2 : Int))).toNat 0))))) ∧ (IntKind.i64.wrap ((IntKind.i64.wrap (at_1 + (7 : Int))) + (bor .i64 (shl .i64 (IntKind.i64.wrap (b_0.getD (IntKind.i64.wrap (at_1 + (1 : Int))).toNat 0)) (8 : Int)) (IntKind.i64.wrap (b_0.getD (IntKind.i64.wrap (at_1 + (2 : Int))).toNat 0))))) ≤ (↑(List.length b_0) : Int), CallOk P 59 [.v (.one (.slc 3)), .v (.one (.slc 4))] [(3, .own 5 .u8 a19), (4, .rd .u8 ((b_0.take ((IntKind.i64.wrap ((IntKind.i64.wrap (at_1 + (7 : Int))) + (bor .i64 (shl .i64 (IntKind.i64.wrap (b_0.getD (IntKind.i64.wrap (at_1 + (1 : Int))).toNat 0)) (8 : Int)) (IntKind.i64.wrap (b_0.getD (IntKind.i64.wrap (at_1 + (2 : Int))).toNat 0))))).toNat)).drop at_1.toNat))] (.v (.one (.bool b22))) []] (by kernel_rfl) (hcons ((frame_sealed_ok (IntKind.i64.wrap (b_0.getD at_1.toNat 0)) a17 a19 e20).tr [(9000, .slc 2), (8900, .slc 3)] rfl (by kernel_rfl) ⟨.ownrd (e := 5) (by kernel_rfl), trivial⟩ (by kernel_rfl) (by kernel_rfl) rfl rfl) (hcons hn21 (hone ((slices_Equal_byte_byte_ok a19 ((b_0.take ((IntKind.i64.wrap ((IntKind.i64.wrap (at_1 + (7 : Int))) + (bor .i64 (shl .i64 (IntKind.i64.wrap (b_0.getD (IntKind.i64.wrap (at_1 + (1 : Int))).toNat 0)) (8 : Int)) (IntKind.i64.wrap (b_0.getD (IntKind.i64.wrap (at_1 + (2 : Int))).toNat 0))))).toNat)).drop at_1.toNat) b22 e23).tr [(9000, .slc 3), (9001, .slc 4)] rfl (by kernel_rfl) ⟨.ownrd (e := 5) (by kernel_rfl), .rd (by kernel_rfl), trivial⟩ (by kernel_rfl) (by kernel_rfl) rfl rfl)))) ?_
              refine q_k ?_
              rcases ite_split h with ⟨hc24, h⟩ | ⟨hc24, h⟩
              · refine tr_cond_t (!b22) (by kernel_rfl) hc24 ?_
                refine tr_seq ?_
                refine tr_reg hT [] [.s 4, .s 5, .s 6, .h 0] [sO 4 (.ptr 0 0), sI 5 .i64 (0 : Int), sI 6 .i64 (6 : Int), hB 0 41 [.int .i64 (0 : Int), .nils]] [] (by kernel_rfl) trivial ?_
                refine q_k ?_
                refine tr_ret ?_
                refine q_k_ret ?_
                have h := Option.some.inj h
                subst h
                refine q_fit [(8900, .nils)] [sO 4 (.ptr 0 0), sI 5 .i64 (0 : Int), sI 6 .i64 (6 : Int), hB 0 41 [.int .i64 (0 : Int), .slc 8900], hO 8900 5 .u8 []] [(0, .blk 41 [.int .i64 (0 : Int), .slc 8900]), (8900, .own 5 .u8 [])] (by kernel_rfl) (by kernel_rfl) (by kernel_rfl) rfl ⟨.blk (by kernel_rfl) (by kernel_rfl), .nilown, trivial⟩ (by kernel_rfl) ?_
                exact q_ret1 hT (.tup [.agg [.int .i64 (0 : Int), .slc 8900], .one (.int .i64 (0 : Int)), .one (.int .i64 (6 : Int))]) [(8900, .own 5 .u8 [])] (by kernel_rfl) (by kernel_rfl) (by kernel_rfl)
              · refine tr_cond_f (!b22) (by kernel_rfl) hc24 ?_
                refine tr_skip ?_
                refine q_k ?_
                refine tr_seq ?_
                refine tr_reg hT [] [.s 4, .s 5, .s 6, .h 0, .h 2] [sO 4 (.ptr 0 0), sI 5 .i64 (IntKind.i64.wrap ((IntKind.i64.wrap (at_1 + (7 : Int))) + (bor .i64 (shl .i64 (IntKind.i64.wrap (b_0.getD (IntKind.i64.wrap (at_1 + (1 : Int))).toNat 0)) (8 : Int)) (IntKind.i64.wrap (b_0.getD (IntKind.i64.wrap (at_1 + (2 : Int))).toNat 0))))), sI 6 .i64 (0 : Int), hB 0 41 [.int .i64 (IntKind.i64.wrap (b_0.getD at_1.toNat 0)), .slc 2], hO 2 5 .u8 a17] [] (by kernel_rfl) trivial ?_
                refine q_k ?_
                refine tr_ret ?_
                have h := Option.some.inj h
                subst h
                refine q_fit [(8900, .slc 2)] [sO 4 (.ptr 0 0), sI 5 .i64 (IntKind.i64.wrap ((IntKind.i64.wrap (at_1 + (7 : Int))) + (bor .i64 (shl .i64 (IntKind.i64.wrap (b_0.getD (IntKind.i64.wrap (at_1 + (1 : Int))).toNat 0)) (8 : Int)) (IntKind.i64.wrap (b_0.getD (IntKind.i64.wrap (at_1 + (2 : Int))).toNat 0))))), sI 6 .i64 (0 : Int), hB 0 41 [.int .i64 (IntKind.i64.wrap (b_0.getD at_1.toNat 0)), .slc 8900], hO 8900 5 .u8 a17] [(0, .blk 41 [.int .i64 (IntKind.i64.wrap (b_0.getD at_1.toNat 0)), .slc 8900]), (8900, .own 5 .u8 a17)] (by kernel_rfl) (by kernel_rfl) (by kernel_rfl) rfl ⟨.blk (by kernel_rfl) (by kernel_rfl), .own (by kernel_rfl), trivial⟩ (by kernel_rfl) ?_
                exact q_ret1 hT (.tup [.agg [.int .i64 (IntKind.i64.wrap (b_0.getD at_1.toNat 0)), .slc 8900], .one (.int .i64 (IntKind.i64.wrap ((IntKind.i64.wrap (at_1 + (7 : Int))) + (bor .i64 (shl .i64 (IntKind.i64.wrap (b_0.getD (IntKind.i64.wrap (at_1 + (1 : Int))).toNat 0)) (8 : Int)) (IntKind.i64.wrap (b_0.getD (IntKind.i64.wrap (at_1 + (2 : Int))).toNat 0)))))), .one (.int .i64 (0 : Int))]) [(8900, .own 5 .u8 a17)] (by kernel_rfl) (by kernel_rfl) (by kernel_rfl)

theorem ref14_in_ok (n_0 : Int) (lo_1 : Int) (hi_2 : Int) (r : Bool) (h : ref14_in n_0 lo_1 hi_2 = some r) {pre : List (Nat × Ent)} : CallOk P 60 [.v (.one (.int .i64 n_0)), .v (.one (.int .i64 lo_1)), .v (.one (.int .i64 hi_2))] pre (.v (.one (.bool r))) [] := by
  refine call0 (N := 15) Try.func60 (by kernel_rfl) rfl rfl rfl pre ?_
  intro _ w
  show Tr P (Ge w) 15 _ _ _ (RetQ P Try.f60 (R0 _ w))
  unfold ref14_in at h
  refine tr_seq ?_
  refine tr_reg hT [] [.s 0, .s 1, .s 2] [sI 0 .i64 n_0, sI 1 .i64 lo_1, sI 2 .i64 hi_2] [] (by kernel_rfl) trivial ?_
  refine q_k ?_
  refine tr_seq ?_
  rcases ite_split h with ⟨hb1, h⟩ | ⟨hb2, h⟩
  · refine tr_reg hT [(3, .dec true)] [.s 6] [sB 6 (decide (n_0 ≤ hi_2))] [(decide (n_0 ≥ lo_1)) = true] (by kernel_rfl) (hone hb1) ?_
    refine q_k ?_
    refine tr_ret ?_
    have h := Option.some.inj h
    subst h
    exact q_ret0 hT (.v (.one (.bool (decide (n_0 ≤ hi_2))))) rfl (by kernel_rfl)
  · refine tr_reg hT [(3, .dec false)] [.s 6] [sB 6 false] [(decide (n_0 ≥ lo_1)) = false] (by kernel_rfl) (hone hb2) ?_
    refine q_k ?_
    refine tr_ret ?_
    have h := Option.some.inj h
    subst h
    exact q_ret0 hT (.v (.one (.bool false))) rfl (by kernel_rfl)

theorem ref14_Get_ok (b_0 : List Int) (at_1 : Int) (r : Int × List Int × Int × Int) (h : ref14_Get b_0 at_1 = some r) : CallOk P 37 [.v (.one (.slc 9000)), .v (.one (.int .i64 at_1))] [(9000, .rd .u8 b_0)] (.tup [.agg [.int .i64 r.1, .slc 8900], .one (.int .i64 r.2.2.1), .one (.int .i64 r.2.2.2)]) [(8900, .own 5 .u8 r.2.1)] := by
  refine call1 (N := 90) Try.func37 (by kernel_rfl) rfl rfl rfl [(9000, .rd .u8 b_0)] (by kernel_rfl) ?_
  intro _ B w0
  show Tr P B 90 w0 _ _ (RetQ P Try.f37 (R1 _ _ B w0))
  unfold ref14_Get at h
  refine tr_seq ?_
  refine tr_reg hT [(0, .key 0)] [.s 0, .s 1, .s 4, .h 0, .h 9000] [sO 0 (.slc 9000), sI 1 .i64 at_1, sO 4 (.ptr 0 0), hB 0 41 [.int .i64 (0 : Int), .nils], hR 9000 .u8 b_0] [] (by kernel_rfl) trivial ?_
  refine q_k ?_
  refine tr_seq ?_
  refine tr_seq ?_
  obtain ⟨b1, e2, h⟩ := bind_some h
  refine tr_reg hT [(3, .call [] (.v (.one (.bool b1))) [])] [.s 0, .s 1, .s 4, .s 13, .h 0, .h 9000] [sO 0 (.slc 9000), sI 1 .i64 at_1, sO 4 (.ptr 0 0), sB 13 (!b1), hB 0 41 [.int .i64 (0 : Int), .nils], hR 9000 .u8 b_0] [CallOk P 60 [.v (.one (.int .i64 at_1)), .v (.one (.int .i64 (0 : Int))), .v (.one (.int .i64 (↑(List.length b_0) : Int)))] [] (.v (.one (.bool b1))) []] (by kernel_rfl) (hone (ref14_in_ok at_1 (0 : Int) (↑(List.length b_0) : Int) b1 e2)) ?_
  refine q_k ?_
  rcases ite_split h with ⟨hc3, h⟩ | ⟨hc3, h⟩
  · refine tr_cond_t (!b1) (by kernel_rfl) hc3 ?_
    refine tr_seq ?_
    refine tr_reg hT [] [.s 4, .s 5, .s 6, .h 0] [sO 4 (.ptr 0 0), sI 5 .i64 (0 : Int), sI 6 .i64 (1 : Int), hB 0 41 [.int .i64 (0 : Int), .nils]] [] (by kernel_rfl) trivial ?_
    refine q_k ?_
    refine tr_ret ?_
    refine q_k_ret ?_
    have h := Option.some.inj h
    subst h
    refine q_fit [(8900, .nils)] [sO 4 (.ptr 0 0), sI 5 .i64 (0 : Int), sI 6 .i64 (1 : Int), hB 0 41 [.int .i64 (0 : Int), .slc 8900], hO 8900 5 .u8 []] [(0, .blk 41 [.int .i64 (0 : Int), .slc 8900]), (8900, .own 5 .u8 [])] (by kernel_rfl) (by kernel_rfl) (by kernel_rfl) rfl ⟨.blk (by kernel_rfl) (by kernel_rfl), .nilown, trivial⟩ (by kernel_rfl) ?_
    exact q_ret1 hT (.tup [.agg [.int .i64 (0 : Int), .slc 8900], .one (.int .i64 (0 : Int)), .one (.int .i64 (1 : Int))]) [(8900, .own 5 .u8 [])] (by kernel_rfl) (by kernel_rfl) (by kernel_rfl)
  · refine tr_cond_f (!b1) (by kernel_rfl) hc3 ?_
    refine tr_skip ?_
    refine q_k ?_
    refine tr_seq ?_
    refine tr_seq ?_
    refine tr_reg hT [] [.s 0, .s 1, .s 4, .s 19, .h 0, .h 9000] [sO 0 (.slc 9000), sI 1 .i64 at_1, sO 4 (.ptr 0 0), sB 19 (decide ((IntKind.i64.wrap ((↑(List.length b_0) : Int) - at_1)) < (7 : Int))), hB 0 41 [.int .i64 (0 : Int), .nils], hR 9000 .u8 b_0] [] (by kernel_rfl) trivial ?_
    refine q_k ?_
    rcases ite_split h with ⟨hc4, h⟩ | ⟨hc4, h⟩
    · refine tr_cond_t (decide ((IntKind.i64.wrap ((↑(List.length b_0) : Int) - at_1)) < (7 : Int))) (by kernel_rfl) hc4 ?_
      refine tr_seq ?_
      refine tr_reg hT [] [.s 4, .s 5, .s 6, .h 0] [sO 4 (.ptr 0 0), sI 5 .i64 (0 : Int), sI 6 .i64 (3 : Int), hB 0 41 [.int .i64 (0 : Int), .nils]] [] (by kernel_rfl) trivial ?_
      refine q_k ?_
      refine tr_ret ?_
      refine q_k_ret ?_
      have h := Option.some.inj h
      subst h
      refine q_fit [(8900, .nils)] [sO 4 (.ptr 0 0), sI 5 .i64 (0 : Int), sI 6 .i64 (3 : Int), hB 0 41 [.int .i64 (0 : Int), .slc 8900], hO 8900 5 .u8 []] [(0, .blk 41 [.int .i64 (0 : Int), .slc 8900]), (8900, .own 5 .u8 [])] (by kernel_rfl) (by kernel_rfl) (by kernel_rfl) rfl ⟨.blk (by kernel_rfl) (by kernel_rfl), .nilown, trivial⟩ (by kernel_rfl) ?_
      exact q_ret1 hT (.tup [.agg [.int .i64 (0 : Int), .slc 8900], .one (.int .i64 (0 : Int)), .one (.int .i64 (3 : Int))]) [(8900, .own 5 .u8 [])] (by kernel_rfl) (by kernel_rfl) (by kernel_rfl)
    · refine tr_cond_f (decide ((IntKind.i64.wrap ((↑(List.length b_0) : Int) - at_1)) < (7 : Int))) (by kernel_rfl) hc4 ?_
      refine tr_skip ?_
      refine q_k ?_
      refine tr_seq ?_
      obtain ⟨hn5, h⟩ := ite_some h
      refine tr_reg hT [(6, .key 1)] [.s 0, .s 1, .s 4, .s 7, .h 0, .h 1, .h 9000] [sO 0 (.slc 9000), sI 1 .i64 at_1, sO 4 (.ptr 0 0), sO 7 (.ptr 1 0), hB 0 41 [.int .i64 (0 : Int), .nils], hB 1 41 [.int .i64 (IntKind.i64.wrap (b_0.getD at_1.toNat 0)), .nils], hR 9000 .u8 b_0] [0 ≤ at_1 ∧ at_1 < ↑(List.length b_0), at_1 < ↑(List.length b_0)] (by kernel_rfl) (hcons hn5 (hone hn5.2)) ?_
      refine q_k ?_
      refine tr_seq ?_
      obtain ⟨hn6, h⟩ := ite_some h
      obtain ⟨hn7, h⟩ := ite_some h
      refine tr_regd hT hM [] [.s 0, .s 1, .s 4, .s 7, .s 8, .h 0, .h 1, .h 9000] [sO 0 (.slc 9000), sI 1 .i64 at_1, sO 4 (.ptr 0 0), sO 7 (.ptr 1 0), sI 8 .i64 (bor .i64 (shl .i64 (IntKind.i64.wrap (b_0.getD (IntKind.i64.wrap (at_1 + (1 : Int))).toNat 0)) (8 : Int)) (IntKind.i64.wrap (b_0.getD (IntKind.i64.wrap (at_1 + (2 : Int))).toNat 0))), hB 0 41 [.int .i64 (0 : Int), .nils], hB 1 41 [.int .i64 (IntKind.i64.wrap (b_0.getD at_1.toNat 0)), .nils], hR 9000 .u8 b_0] [0 ≤ (IntKind.i64.wrap (at_1 + (1 : Int))) ∧ (IntKind.i64.wrap (at_1 + (1 : Int))) < ↑(List.length b_0), (IntKind.i64.wrap (at_1 + (1 : Int))) < ↑(List.length b_0), 0 ≤ (8 : Int), 0 ≤ (IntKind.i64.wrap (at_1 + (2 : Int))) ∧ (IntKind.i64.wrap (at_1 + (2 : Int))) < ↑(List.length b_0), (IntKind.i64.wrap (at_1 + (2 : Int))) < ↑(List.length b_0)] (by kernel_rfl) (hcons hn6 (hcons hn6.2 (hcons (by decide) (hcons hn7 (hone hn7.2))))) ?_
      refine q_k ?_
      refine tr_seq ?_
      refine tr_seq ?_
      rcases ite_split h with ⟨hb8, h⟩ | ⟨hb23, h⟩
      · rcases ite_split h with ⟨hb9, h⟩ | ⟨hb10, h⟩
        · refine tr_reg hT [(3, .dec true), (8, .dec true)] [.s 0, .s 1, .s 4, .s 7, .s 8, .s 61, .h 0, .h 1, .h 9000] [sO 0 (.slc 9000), sI 1 .i64 at_1, sO 4 (.ptr 0 0), sO 7 (.ptr 1 0), sI 8 .i64 (bor .i64 (shl .i64 (IntKind.i64.wrap (b_0.getD (IntKind.i64.wrap (at_1 + (1 : Int))).toNat 0)) (8 : Int)) (IntKind.i64.wrap (b_0.getD (IntKind.i64.wrap (at_1 + (2 : Int))).toNat 0))), sB 61 true, hB 0 41 [.int .i64 (0 : Int), .nils], hB 1 41 [.int .i64 (IntKind.i64.wrap (b_0.getD at_1.toNat 0)), .nils], hR 9000 .u8 b_0] [((IntKind.i64.wrap (b_0.getD at_1.toNat 0)) != (1 : Int)) = true, ((IntKind.i64.wrap (b_0.getD at_1.toNat 0)) != (2 : Int)) = true] (by kernel_rfl) (hcons hb8 (hone hb9)) ?_
          refine q_k ?_
          refine tr_cond_t true (by kernel_rfl) rfl ?_
          refine tr_seq ?_
          refine tr_reg hT [] [.s 4, .s 5, .s 6, .h 0] [sO 4 (.ptr 0 0), sI 5 .i64 (0 : Int), sI 6 .i64 (3 : Int), hB 0 41 [.int .i64 (0 : Int), .nils]] [] (by kernel_rfl) trivial ?_
          refine q_k ?_
          refine tr_ret ?_
          refine q_k_ret ?_
          have h := Option.some.inj h
          subst h
          refine q_fit [(8900, .nils)] [sO 4 (.ptr 0 0), sI 5 .i64 (0 : Int), sI 6 .i64 (3 : Int), hB 0 41 [.int .i64 (0 : Int), .slc 8900], hO 8900 5 .u8 []] [(0, .blk 41 [.int .i64 (0 : Int), .slc 8900]), (8900, .own 5 .u8 [])] (by kernel_rfl) (by kernel_rfl) (by kernel_rfl) rfl ⟨.blk (by kernel_rfl) (by kernel_rfl), .nilown, trivial⟩ (by kernel_rfl) ?_
          exact q_ret1 hT (.tup [.agg [.int .i64 (0 : Int), .slc 8900], .one (.int .i64 (0 : Int)), .one (.int .i64 (3 : Int))]) [(8900, .own 5 .u8 [])] (by kernel_rfl) (by kernel_rfl) (by kernel_rfl)
        · rcases ite_split h with ⟨hb11, h⟩ | ⟨hb12, h⟩
          · refine tr_reg hT [(3, .dec true), (8, .dec false), (12, .dec true)] [.s 0, .s 1, .s 4, .s 7, .s 8, .s 61, .h 0, .h 1, .h 9000] [sO 0 (.slc 9000), sI 1 .i64 at_1, sO 4 (.ptr 0 0), sO 7 (.ptr 1 0), sI 8 .i64 (bor .i64 (shl .i64 (IntKind.i64.wrap (b_0.getD (IntKind.i64.wrap (at_1 + (1 : Int))).toNat 0)) (8 : Int)) (IntKind.i64.wrap (b_0.getD (IntKind.i64.wrap (at_1 + (2 : Int))).toNat 0))), sB 61 true, hB 0 41 [.int .i64 (0 : Int), .nils], hB 1 41 [.int .i64 (IntKind.i64.wrap (b_0.getD at_1.toNat 0)), .nils], hR 9000 .u8 b_0] [((IntKind.i64.wrap (b_0.getD at_1.toNat 0)) != (1 : Int)) = true, ((IntKind.i64.wrap (b_0.getD at_1.toNat 0)) != (2 : Int)) = false, (decide ((bor .i64 (shl .i64 (IntKind.i64.wrap (b_0.getD (IntKind.i64.wrap (at_1 + (1 : Int))).toNat 0)) (8 : Int)) (IntKind.i64.wrap (b_0.getD (IntKind.i64.wrap (at_1 + (2 : Int))).toNat 0))) > (2000 : Int))) = true] (by kernel_rfl) (hcons hb8 (hcons hb10 (hone hb11))) ?_
            refine q_k ?_
            refine tr_cond_t true (by kernel_rfl) rfl ?_
            refine tr_seq ?_
            refine tr_reg hT [] [.s 4, .s 5, .s 6, .h 0] [sO 4 (.ptr 0 0), sI 5 .i64 (0 : Int), sI 6 .i64 (3 : Int), hB 0 41 [.int .i64 (0 : Int), .nils]] [] (by kernel_rfl) trivial ?_
            refine q_k ?_
            refine tr_ret ?_
            refine q_k_ret ?_
            have h := Option.some.inj h
            subst h
            refine q_fit [(8900, .nils)] [sO 4 (.ptr 0 0), sI 5 .i64 (0 : Int), sI 6 .i64 (3 : Int), hB 0 41 [.int .i64 (0 : Int), .slc 8900], hO 8900 5 .u8 []] [(0, .blk 41 [.int .i64 (0 : Int), .slc 8900]), (8900, .own 5 .u8 [])] (by kernel_rfl) (by kernel_rfl) (by kernel_rfl) rfl ⟨.blk (by kernel_rfl) (by kernel_rfl), .nilown, trivial⟩ (by kernel_rfl) ?_
            exact q_ret1 hT (.tup [.agg [.int .i64 (0 : Int), .slc 8900], .one (.int .i64 (0 : Int)), .one (.int .i64 (3 : Int))]) [(8900, .own 5 .u8 [])] (by kernel_rfl) (by kernel_rfl) (by kernel_rfl)
          · refine tr_reg hT [(3, .dec true), (8, .dec false), (12, .dec false)] [.s 0, .s 1, .s 4, .s 7, .s 8, .s 61, .h 0, .h 1, .h 9000] [sO 0 (.slc 9000), sI 1 .i64 at_1, sO 4 (.ptr 0 0), sO 7 (.ptr 1 0), sI 8 .i64 (bor .i64 (shl .i64 (IntKind.i64.wrap (b_0.getD (IntKind.i64.wrap (at_1 + (1 : Int))).toNat 0)) (8 : Int)) (IntKind.i64.wrap (b_0.getD (IntKind.i64.wrap (at_1 + (2 : Int))).toNat 0))), sB 61 (decide ((IntKind.i64.wrap ((IntKind.i64.wrap ((↑(List.length b_0) : Int) - at_1)) - (7 : Int))) < (bor .i64 (shl .i64 (IntKind.i64.wrap (b_0.getD (IntKind.i64.wrap (at_1 + (1 : Int))).toNat 0)) (8 : Int)) (IntKind.i64.wrap (b_0.getD (IntKind.i64.wrap (at_1 + (2 : Int))).toNat 0))))), hB 0 41 [.int .i64 (0 : Int), .nils], hB 1 41 [.int .i64 (IntKind.i64.wrap (b_0.getD at_1.toNat 0)), .nils], hR 9000 .u8 b_0] [((IntKind.i64.wrap (b_0.getD at_1.toNat 0)) != (1 : Int)) = true, ((IntKind.i64.wrap (b_0.getD at_1.toNat 0)) != (2 : Int)) = false, (decide ((bor .i64 (shl .i64 (IntKind.i64.wrap (b_0.getD (IntKind.i64.wrap (at_1 + (1 : Int))).toNat 0)) (8 : Int)) (IntKind.i64.wrap (b_0.getD (IntKind.i64.wrap (at_1 + (2 : Int))).toNat 0))) > (2000 : Int))) = false] (by kernel_rfl) (hcons hb8 (hcons hb10 (hone hb12))) ?_
            refine q_k ?_
            rcases ite_split h with ⟨hc13, h⟩ | ⟨hc13, h⟩
            · refine tr_cond_t (decide ((IntKind.i64.wrap ((IntKind.i64.wrap ((↑(List.length b_0) : Int) - at_1)) - (7 : Int))) < (bor .i64 (shl .i64 (IntKind.i64.wrap (b_0.getD (IntKind.i64.wrap (at_1 + (1 : Int))).toNat 0)) (8 : Int)) (IntKind.i64.wrap (b_0.getD (IntKind.i64.wrap (at_1 + (2 : Int))).toNat 0))))) (by kernel_rfl) hc13 ?_
              refine tr_seq ?_
              refine tr_reg hT [] [.s 4, .s 5, .s 6, .h 0] [sO 4 (.ptr 0 0), sI 5 .i64 (0 : Int), sI 6 .i64 (3 : Int), hB 0 41 [.int .i64 (0 : Int), .nils]] [] (by kernel_rfl) trivial ?_
              refine q_k ?_
              refine tr_ret ?_
              refine q_k_ret ?_
              have h := Option.some.inj h
              subst h
              refine q_fit [(8900, .nils)] [sO 4 (.ptr 0 0), sI 5 .i64 (0 : Int), sI 6 .i64 (3 : Int), hB 0 41 [.int .i64 (0 : Int), .slc 8900], hO 8900 5 .u8 []] [(0, .blk 41 [.int .i64 (0 : Int), .slc 8900]), (8900, .own 5 .u8 [])] (by kernel_rfl) (by kernel_rfl) (by kernel_rfl) rfl ⟨.blk (by kernel_rfl) (by kernel_rfl), .nilown, trivial⟩ (by kernel_rfl) ?_
              exact q_ret1 hT (.tup [.agg [.int .i64 (0 : Int), .slc 8900], .one (.int .i64 (0 : Int)), .one (.int .i64 (3 : Int))]) [(8900, .own 5 .u8 [])] (by kernel_rfl) (by kernel_rfl) (by kernel_rfl)
            · refine tr_cond_f (decide ((IntKind.i64.wrap ((IntKind.i64.wrap ((↑(List.length b_0) : Int) - at_1)) - (7 : Int))) < (bor .i64 (shl .i64 (IntKind.i64.wrap (b_0.getD (IntKind.i64.wrap (at_1 + (1 : Int))).toNat 0)) (8 : Int)) (IntKind.i64.wrap (b_0.getD (IntKind.i64.wrap (at_1 + (2 : Int))).toNat 0))))) (by kernel_rfl) hc13 ?_
              refine tr_skip ?_
              refine q_k ?_
              refine tr_seq ?_
              obtain ⟨hn14, h⟩ := ite_some h
              obtain ⟨a15, e16, h⟩ := bind_some h
              refine tr_reg hT [(7, .key 2), (8, .call [2] (.v (.one (.slc 3))) [(3, .own 5 .u8 a15)])] [.s 0, .s 1, .s 4, .s 7, .s 8, .h 0, .h 1, .h 3, .h 9000] [sO 0 (.slc 9000), sI 1 .i64 at_1, sO 4 (.ptr 0 0), sO 7 (.ptr 1 0), sI 8 .i64 (bor .i64 (shl .i64 (IntKind.i64.wrap (b_0.getD (IntKind.i64.wrap (at_1 + (1 : Int))).toNat 0)) (8 : Int)) (IntKind.i64.wrap (b_0.getD (IntKind.i64.wrap (at_1 + (2 : Int))).toNat 0))), hB 0 41 [.int .i64 (0 : Int), .nils], hB 1 41 [.int .i64 (IntKind.i64.wrap (b_0.getD at_1.toNat 0)), .slc 3], hO 3 5 .u8 a15, hR 9000 .u8 b_0] [0 ≤ (IntKind.i64.wrap (at_1 + (7 : Int))) ∧ (IntKind.i64.wrap (at_1 + (7 : Int))) ≤ (IntKind.i64.wrap ((IntKind.i64.wrap (at_1 + (7 : Int))) + (bor .i64 (shl .i64 (IntKind.i64.wrap (b_0.getD (IntKind.i64.wrap (at_1 + (1 : Int))).toNat 0)) (8 : Int)) (IntKind.i64.wrap (b_0.getD (IntKind.i64.wrap (at_1 + (2 : Int))).toNat 0))))) ∧ (IntKind.i64.wrap ((IntKind.i64.wrap (at_1 + (7 : Int))) + (bor .i64 (shl .i64 (IntKind.i64.wrap (b_0.getD (IntKind.i64.wrap (at_1 + (1 : Int))).toNat 0)) (8 : Int)) (IntKind.i64.wrap (b_0.getD (IntKind.i64.wrap (at_1 + (2 : Int))).toNat 0))))) ≤ (↑(List.length b_0) : Int), CallOk P 23 [.v (.one (.slc 2))] [(2, .rd .u8 ((b_0.take ((IntKind.i64.wrap ((IntKind.i64.wrap (at_1 + (7 : Int))) + (bor .i64 (shl .i64 (IntKind.i64.wrap (b_0.getD (IntKind.i64.wrap (at_1 + (1 : Int))).toNat 0)) (8 : Int)) (IntKind.i64.wrap (b_0.getD (IntKind.i64.wrap (at_1 + (2 : Int))).toNat 0))))).toNat)).drop (IntKind.i64.wrap (at_1 + (7 : Int))).toNat))] (.v (.one (.slc 3))) [(3, .own 5 .u8 a15)]] (by kernel_rfl) (hcons hn14 (hone ((keep_Twin_ok ((b_0.take ((IntKind.i64.wrap ((IntKind.i64.wrap (at_1 + (7 : Int))) + (bor .i64 (shl .i64 (IntKind.i64.wrap (b_0.getD (IntKind.i64.wrap (at_1 + (1 : Int))).toNat 0)) (8 : Int)) (IntKind.i64.wrap (b_0.getD (IntKind.i64.wrap (at_1 + (2 : Int))).toNat 0))))).toNat)).drop (IntKind.i64.wrap (at_1 + (7 : Int))).toNat) a15 e16).tr [(9000, .slc 2), (8900, .slc 3)] rfl (by kernel_rfl) ⟨.rd (by kernel_rfl), trivial⟩ (by kernel_rfl) (by kernel_rfl) rfl rfl))) ?_
              refine q_k ?_
              refine tr_seq ?_
              refine tr_seq ?_
              obtain ⟨a17, e18, h⟩ := bind_some h
              obtain ⟨hn19, h⟩ := ite_some h
              obtain ⟨b20, e21, h⟩ := bind_some h
              refine tr_regd hT hM [(1, .call [3] (.v (.one (.slc 4))) [(4, .own 5 .u8 a17)]), (8, .key 5), (9, .call [4, 5] (.v (.one (.bool b20))) [])] [.s 1, .s 4, .s 7, .s 8, .s 83, .h 0, .h 1, .h 3] [sI 1 .i64 at_1, sO 4 (.ptr 0 0), sO 7 (.ptr 1 0), sI 8 .i64 (bor .i64 (shl .i64 (IntKind.i64.wrap (b_0.getD (IntKind.i64.wrap (at_1 + (1 : Int))).toNat 0)) (8 : Int)) (IntKind.i64.wrap (b_0.getD (IntKind.i64.wrap (at_1 + (2 : Int))).toNat 0))), sB 83 (!b20), hB 0 41 [.int .i64 (0 : Int), .nils], hB 1 41 [.int .i64 (IntKind.i64.wrap (b_0.getD at_1.toNat 0)), .slc 3], hO 3 5 .u8 a15] [CallOk P 34 [.v (.agg [.int .i64 (IntKind.i64.wrap (b_0.getD at_1.toNat 0)), .slc 3])] [(3, .own 5 .u8 a15)] (.v (.one (.slc 4))) [(4, .own 5 .u8 a17)], 0 ≤ at_1 ∧ at_1 ≤ (IntKind.i64.wrap ((IntKind.i64.wrap (at_1 + (7 : Int))) + (bor .i64 (shl .i64 (IntKind.i64.wrap (b_0.getD (IntKind.i64.wrap (at_1 + (1 : Int))).toNat 0)) (8 : Int)) (IntKind.i64.wrap (b_0.getD (IntKind.i64.wrap (at_1 + (2 : Int))).toNat 0))))) ∧ (IntKind.i64.wrap ((IntKind.i64.wrap (at_1 + (7 : Int))) + (bor .i64 (shl .i64 (IntKind.i64.wrap (b_0.getD (IntKind.i64.wrap (at_1 + (1 : Int))).toNat 0)) (8 : Int)) (IntKind.i64.wrap (b_0.getD (IntKind.i64.wrap (at_1 + (2 : Int))).toNat 0))))) ≤ (↑(List.length b_0) : Int), CallOk P 26 [.v (.one (.slc 4)), .v (.one (.slc 5))] [(4, .own 5 .u8 a17), (5, .rd .u8 ((b_0.take ((IntKind.i64.wrap ((IntKind.i64.wrap (at_1 + (7 : Int))) + (bor .i64 (shl .i64 (IntKind.i64.wrap (b_0.getD (IntKind.i64.wrap (at_1 + (1 : Int))).toNat 0)) (8 : Int)) (IntKind.i64.wrap (b_0.getD (IntKind.i64.wrap (at_1 + (2 : Int))).toNat 0))))).toNat)).drop at_1.toNat))] (.v (.one (.bool b20))) []] (by kernel_rfl) (hcons ((ref14_Frame_ok (IntKind.i64.wrap (b_0.getD at_1.toNat 0)) a15 a17 e18).tr [(9000, .slc 3), (8900, .slc 4)] rfl (by kernel_rfl) ⟨.ownrd (e := 5) (by kernel_rfl), trivial⟩ (by kernel_rfl) (by kernel_rfl) rfl rfl) (hcons hn19 (hone ((keep_Bytes_ok a17 ((b_0.take ((IntKind.i64.wrap ((IntKind.i64.wrap (at_1 + (7 : Int))) + (bor .i64 (shl .i64 (IntKind.i64.wrap (b_0.getD (IntKind.i64.wrap (at_1 + (1 : Int))).toNat 0)) (8 : Int)) (IntKind.i64.wrap (b_0.getD (IntKind.i64.wrap (at_1 + (2 : Int))).toNat 0))))).toNat)).drop at_1.toNat) b20 e21).tr [(9000, .slc 4), (9001, .slc 5)] rfl (by kernel_rfl) ⟨.ownrd (e := 5) (by kernel_rfl), .rd (by kernel_rfl), trivial⟩ (by kernel_rfl) (by kernel_rfl) rfl rfl)))) ?_
              refine q_k ?_
              rcases ite_split h with ⟨hc22, h⟩ | ⟨hc22, h⟩
              · refine tr_cond_t (!b20) (by kernel_rfl) hc22 ?_
                refine tr_seq ?_
                refine tr_reg hT [] [.s 4, .s 5, .s 6, .h 0] [sO 4 (.ptr 0 0), sI 5 .i64 (0 : Int), sI 6 .i64 (6 : Int), hB 0 41 [.int .i64 (0 : Int), .nils]] [] (by kernel_rfl) trivial ?_
                refine q_k ?_
                refine tr_ret ?_
                refine q_k_ret ?_
                have h := Option.some.inj h
                subst h
                refine q_fit [(8900, .nils)] [sO 4 (.ptr 0 0), sI 5 .i64 (0 : Int), sI 6 .i64 (6 : Int), hB 0 41 [.int .i64 (0 : Int), .slc 8900], hO 8900 5 .u8 []] [(0, .blk 41 [.int .i64 (0 : Int), .slc 8900]), (8900, .own 5 .u8 [])] (by kernel_rfl) (by kernel_rfl) (by kernel_rfl) rfl ⟨.blk (by kernel_rfl) (by kernel_rfl), .nilown, trivial⟩ (by kernel_rfl) ?_
                exact q_ret1 hT (.tup [.agg [.int .i64 (0 : Int), .slc 8900], .one (.int .i64 (0 : Int)), .one (.int .i64 (6 : Int))]) [(8900, .own 5 .u8 [])] (by kernel_rfl) (by kernel_rfl) (by kernel_rfl)
              · refine tr_cond_f (!b20) (by kernel_rfl) hc22 ?_
                refine tr_skip ?_
                refine q_k ?_
                refine tr_seq ?_
                refine tr_reg hT [] [.s 4, .s 5, .s 6, .h 0, .h 3] [sO 4 (.ptr 0 0), sI 5 .i64 (IntKind.i64.wrap ((IntKind.i64.wrap (at_1 + (7 : Int))) + (bor .i64 (shl .i64 (IntKind.i64.wrap (b_0.getD (IntKind.i64.wrap (at_1 + (1 : Int))).toNat 0)) (8 : Int)) (IntKind.i64.wrap (b_0.getD (IntKind.i64.wrap (at_1 + (2 : Int))).toNat 0))))), sI 6 .i64 (0 : Int), hB 0 41 [.int .i64 (IntKind.i64.wrap (b_0.getD at_1.toNat 0)), .slc 3], hO 3 5 .u8 a15] [] (by kernel_rfl) trivial ?_
                refine q_k ?_
                refine tr_ret ?_
                have h := Option.some.inj h
                subst h
                refine q_fit [(8900, .slc 3)] [sO 4 (.ptr 0 0), sI 5 .i64 (IntKind.i64.wrap ((IntKind.i64.wrap (at_1 + (7 : Int))) + (bor .i64 (shl .i64 (IntKind.i64.wrap (b_0.getD (IntKind.i64.wrap (at_1 + (1 : Int))).toNat 0)) (8 : Int)) (IntKind.i64.wrap (b_0.getD (IntKind.i64.wrap (at_1 + (2 : Int))).toNat 0))))), sI 6 .i64 (0 : Int), hB 0 41 [.int .i64 (IntKind.i64.wrap (b_0.getD at_1.toNat 0)), .slc 8900], hO 8900 5 .u8 a15] [(0, .blk 41 [.int .i64 (IntKind.i64.wrap (b_0.getD at_1.toNat 0)), .slc 8900]), (8900, .own 5 .u8 a15)] (by kernel_rfl) (by kernel_rfl) (by kernel_rfl) rfl ⟨.blk (by kernel_rfl) (by kernel_rfl), .own (by kernel_rfl), trivial⟩ (by kernel_rfl) ?_
                exact q_ret1 hT (.tup [.agg [.int .i64 (IntKind.i64.wrap (b_0.getD at_1.toNat 0)), .slc 8900], .one (.int .i64 (IntKind.i64.wrap ((IntKind.i64.wrap (at_1 + (7 : Int))) + (bor .i64 (shl .i64 (IntKind.i64.wrap (b_0.getD (IntKind.i64.wrap (at_1 + (1 : Int))).toNat 0)) (8 : Int)) (IntKind.i64.wrap (b_0.getD (IntKind.i64.wrap (at_1 + (2 : Int))).toNat 0)))))), .one (.int .i64 (0 : Int))]) [(8900, .own 5 .u8 a15)] (by kernel_rfl) (by kernel_rfl) (by kernel_rfl)
      · rcases ite_split h with ⟨hb24, h⟩ | ⟨hb25, h⟩
        · refine tr_reg hT [(3, .dec false), (12, .dec true)] [.s 0, .s 1, .s 4, .s 7, .s 8, .s 61, .h 0, .h 1, .h 9000] [sO 0 (.slc 9000), sI 1 .i64 at_1, sO 4 (.ptr 0 0), sO 7 (.ptr 1 0), sI 8 .i64 (bor .i64 (shl .i64 (IntKind.i64.wrap (b_0.getD (IntKind.i64.wrap (at_1 + (1 : Int))).toNat 0)) (8 : Int)) (IntKind.i64.wrap (b_0.getD (IntKind.i64.wrap (at_1 + (2 : Int))).toNat 0))), sB 61 true, hB 0 41 [.int .i64 (0 : Int), .nils], hB 1 41 [.int .i64 (IntKind.i64.wrap (b_0.getD at_1.toNat 0)), .nils], hR 9000 .u8 b_0] [((IntKind.i64.wrap (b_0.getD at_1.toNat 0)) != (1 : Int)) = false, (decide ((bor .i64 (shl .i64 (IntKind.i64.wrap (b_0.getD (IntKind.i64.wrap (at_1 + (1 : Int))).toNat 0)) (8 : Int)) (IntKind.i64.wrap (b_0.getD (IntKind.i64.wrap (at_1 + (2 : Int))).toNat 0))) > (2000 : Int))) = true] (by kernel_rfl) (hcons hb23 (hone hb24)) ?_
          refine q_k ?_
          refine tr_cond_t true (by kernel_rfl) rfl ?_
          refine tr_seq ?_
          refine tr_reg hT [] [.s 4, .s 5, .s 6, .h 0] [sO 4 (.ptr 0 0), sI 5 .i64 (0 : Int), sI 6 .i64 (3 : Int), hB 0 41 [.int .i64 (0 : Int), .nils]] [] (by kernel_rfl) trivial ?_
          refine q_k ?_
          refine tr_ret ?_
          refine q_k_ret ?_
          have h := Option.some.inj h
          subst h
          refine q_fit [(8900, .nils)] [sO 4 (.ptr 0 0), sI 5 .i64 (0 : Int), sI 6 .i64 (3 : Int), hB 0 41 [.int .i64 (0 : Int), .slc 8900], hO 8900 5 .u8 []] [(0, .blk 41 [.int .i64 (0 : Int), .slc 8900]), (8900, .own 5 .u8 [])] (by kernel_rfl) (by kernel_rfl) (by kernel_rfl) rfl ⟨.blk (by kernel_rfl) (by kernel_rfl), .nilown, trivial⟩ (by kernel_rfl) ?_
          exact q_ret1 hT (.tup [.agg [.int .i64 (0 : Int), .slc 8900], .one (.int .i64 (0 : Int)), .one (.int .i64 (3 : Int))]) [(8900, .own 5 .u8 [])] (by kernel_rfl) (by kernel_rfl) (by kernel_rfl)
        · refine tr_reg hT [(3, .dec false), (12, .dec false)] [.s 0, .s 1, .s 4, .s 7, .s 8, .s 61, .h 0, .h 1, .h 9000] [sO 0 (.slc 9000), sI 1 .i64 at_1, sO 4 (.ptr 0 0), sO 7 (.ptr 1 0), sI 8 .i64 (bor .i64 (shl .i64 (IntKind.i64.wrap (b_0.getD (IntKind.i64.wrap (at_1 + (1 : Int))).toNat 0)) (8 : Int)) (IntKind.i64.wrap (b_0.getD (IntKind.i64.wrap (at_1 + (2 : Int))).toNat 0))), sB 61 (decide ((IntKind.i64.wrap ((IntKind.i64.wrap ((↑(List.length b_0) : Int) - at_1)) - (7 : Int))) < (bor .i64 (shl .i64 (IntKind.i64.wrap (b_0.getD (IntKind.i64.wrap (at_1 + (1 : Int))).toNat 0)) (8 : Int)) (IntKind.i64.wrap (b_0.getD (IntKind.i64.wrap (at_1 + (2 : Int))).toNat 0))))), hB 0 41 [.int .i64 (0 : Int), .nils], hB 1 41 [.int .i64 (IntKind.i64.wrap (b_0.getD at_1.toNat 0)), .nils], hR 9000 .u8 b_0] [((IntKind.i64.wrap (b_0.getD at_1.toNat 0)) != (1 : Int)) = false, (decide ((bor .i64 (shl .i64 (IntKind.i64.wrap (b_0.getD (IntKind.i64.wrap (at_1 + (1 : Int))).toNat 0)) (8 : Int)) (IntKind.i64.wrap (b_0.getD (IntKind.i64.wrap (at_1 + (2 : Int))).toNat 0))) > (2000 : Int))) = false] (by kernel_rfl) (hcons hb23 (hone hb25)) ?_
          refine q_k ?_
          rcases ite_split h with ⟨hc26, h⟩ | ⟨hc26, h⟩
          · refine tr_cond_t (decide ((IntKind.i64.wrap ((IntKind.i64.wrap ((↑(List.length b_0) : Int) - at_1)) - (7 : Int))) < (bor .i64 (shl .i64 (IntKind.i64.wrap (b_0.getD (IntKind.i64.wrap (at_1 + (1 : Int))).toNat 0)) (8 : Int)) (IntKind.i64.wrap (b_0.getD (IntKind.i64.wrap (at_1 + (2 : Int))).toNat 0))))) (by kernel_rfl) hc26 ?_
            refine tr_seq ?_
            refine tr_reg hT [] [.s 4, .s 5, .s 6, .h 0] [sO 4 (.ptr 0 0), sI 5 .i64 (0 : Int), sI 6 .i64 (3 : Int), hB 0 41 [.int .i64 (0 : Int), .nils]] [] (by kernel_rfl) trivial ?_
            refine q_k ?_
            refine tr_ret ?_
            refine q_k_ret ?_
            have h := Option.some.inj h
            subst h
            refine q_fit [(8900, .nils)] [sO 4 (.ptr 0 0), sI 5 .i64 (0 : Int), sI 6 .i64 (3 : Int), hB 0 41 [.int .i64 (0 : Int), .slc 8900], hO 8900 5 .u8 []] [(0, .blk 41 [.int .i64 (0 : Int), .slc 8900]), (8900, .own 5 .u8 [])] (by kernel_rfl) (by kernel_rfl) (by kernel_rfl) rfl ⟨.blk (by kernel_rfl) (by kernel_rfl), .nilown, trivial⟩ (by kernel_rfl) ?_
            exact q_ret1 hT (.tup [.agg [.int .i64 (0 : Int), .slc 8900], .one (.int .i64 (0 : Int)), .one (.int .i64 (3 : Int))]) [(8900, .own 5 .u8 [])] (by kernel_rfl) (by kernel_rfl) (by kernel_rfl)
          · refine tr_cond_f (decide ((IntKind.i64.wrap ((IntKind.i64.wrap ((↑(List.length b_0) : Int) - at_1)) - (7 : Int))) < (bor .i64 (shl .i64 (IntKind.i64.wrap (b_0.getD (IntKind.i64.wrap (at_1 + (1 : Int))).toNat 0)) (8 : Int)) (IntKind.i64.wrap (b_0.getD (IntKind.i64.wrap (at_1 + (2 : Int))).toNat 0))))) (by kernel_rfl) hc26 ?_
            refine tr_skip ?_
            refine q_k ?_
            refine tr_seq ?_
            obtain ⟨hn27, h⟩ := ite_some h
            obtain ⟨a28, e29, h⟩ := bind_some h
            refine tr_reg hT [(7, .key 6), (8, .call [6] (.v (.one (.slc 7))) [(7, .own 5 .u8 a28)])] [.s 0, .s 1, .s 4, .s 7, .s 8, .h 0, .h 1, .h 7, .h 9000] [sO 0 (.slc 9000), sI 1 .i64 at_1, sO 4 (.ptr 0 0), sO 7 (.ptr 1 0), sI 8 .i64 (bor .i64 (shl .i64 (IntKind.i64.wrap (b_0.getD (IntKind.i64.wrap (at_1 + (1 : Int))).toNat 0)) (8 : Int)) (IntKind.i64.wrap (b_0.getD (IntKind.i64.wrap (at_1 + (2 : Int))).toNat 0))), hB 0 41 [.int .i64 (0 : Int), .nils], hB 1 41 [.int .i64 (IntKind.i64.wrap (b_0.getD at_1.toNat 0)), .slc 7], hO 7 5 .u8 a28, hR 9000 .u8 b_0] [0 ≤ (IntKind.i64.wrap (at_1 + (7 : Int))) ∧ (IntKind.i64.wrap (at_1 + (7 : Int))) ≤ (IntKind.i64.wrap ((IntKind.i64.wrap (at_1 + (7 : Int))) + (bor .i64 (shl .i64 (IntKind.i64.wrap (b_0.getD (IntKind.i64.wrap (at_1 + (1 : Int))).toNat 0)) (8 : Int)) (IntKind.i64.wrap (b_0.getD (IntKind.i64.wrap (at_1 + (2 : Int))).toNat 0))))) ∧ (IntKind.i64.wrap ((IntKind.i64.wrap (at_1 + (7 : Int))) + (bor .i64 (shl .i64 (IntKind.i64.wrap (b_0.getD (IntKind.i64.wrap (at_1 + (1 : Int))).toNat 0)) (8 : Int)) (IntKind.i64.wrap (b_0.getD (IntKind.i64.wrap (at_1 + (2 : Int))).toNat 0))))) ≤ (↑(List.length b_0) : Int), CallOk P 23 [.v (.one (.slc 6))] [(6, .rd .u8 ((b_0.take ((IntKind.i64.wrap ((IntKind.i64.wrap (at_1 + (7 : Int))) + (bor .i64 (shl .i64 (IntKind.i64.wrap (b_0.getD (IntKind.i64.wrap (at_1 + (1 : Int))).toNat 0)) (8 : Int)) (IntKind.i64.wrap (b_0.getD (IntKind.i64.wrap (at_1 + (2 : Int))).toNat 0))))).toNat)).drop (IntKind.i64.wrap (at_1 + (7 : Int))).toNat))] (.v (.one (.slc 7))) [(7, .own 5 .u8 a28)]] (by kernel_rfl) (hcons hn27 (hone ((keep_Twin_ok ((b_0.take ((IntKind.i64.wrap ((IntKind.i64.wrap (at_1 + (7 : Int))) + (bor .i64 (shl .i64 (IntKind.i64.wrap (b_0.getD (IntKind.i64.wrap (at_1 + (1 : Int))).toNat 0)) (8 : Int)) (IntKind.i64.wrap (b_0.getD (IntKind.i64.wrap (at_1 + (2 : Int))).toNat 0))))).toNat)).drop (IntKind.i64.wrap (at_1 + (7 : Int))).toNat) a28 e29).tr [(9000, .slc 6), (8900, .slc 7)] rfl (by kernel_rfl) ⟨.rd (by kernel_rfl), trivial⟩ (by kernel_rfl) (by kernel_rfl) rfl rfl))) ?_
            refine q_k ?_
            refine tr_seq ?_
            refine tr_seq ?_
            obtain ⟨a30, e31, h⟩ := bind_some h
            obtain ⟨hn32, h⟩ := ite_some h
            obtain ⟨b33, e34, h⟩ := bind_some h
            refine tr_regd hT hM [(1, .call [7] (.v (.one (.slc 8))) [(8, .own 5 .u8 a30)]), (8, .key 9), (9, .call [8, 9] (.v (.one (.bool b33))) [])] [.s 1, .s 4, .s 7, .s 8, .s 83, .h 0, .h 1, .h 7] [sI 1 .i64 at_1, sO 4 (.ptr 0 0), sO 7 (.ptr 1 0), sI 8 .i64 (bor .i64 (shl .i64 (IntKind.i64.wrap (b_0.getD (IntKind.i64.wrap (at_1 + (1 : Int))).toNat 0)) (8 : Int)) (IntKind.i64.wrap (b_0.getD (IntKind.i64.wrap (at_1 + (2 : Int))).toNat 0))), sB 83 (!b33), hB 0 41 [.int .i64 (0 : Int), .nils], hB 1 41 [.int .i64 (IntKind.i64.wrap (b_0.getD at_1.toNat 0)), .slc 7], hO 7 5 .u8 a28] [CallOk P 34 [.v (.agg [.int .i64 (IntKind.i64.wrap (b_0.getD at_1.toNat 0)), .slc 7])] [(7, .own 5 .u8 a28)] (.v (.one (.slc 8))) [(8, .own 5 .u8 a30)], 0 ≤ at_1 ∧ at_1 ≤ (IntKind.i64.wrap ((IntKind.i64.wrap (at_1 + (7 : Int))) + (bor .i64 (shl .i64 (IntKind.i64.wrap (b_0.getD (IntKind.i64.wrap (at_1 + (1 : Int))).toNat 0)) (8 : Int)) (IntKind.i64.wrap (b_0.getD (IntKind.i64.wrap (at_1 + (2 : Int))).toNat 0))))) ∧ (IntKind.i64.wrap ((IntKind.i64.wrap (at_1 + (7 : Int))) + (bor .i64 (shl .i64 (IntKind.i64.wrap (b_0.getD (IntKind.i64.wrap (at_1 + (1 : Int))).toNat 0)) (8 : Int)) (IntKind.i64.wrap (b_0.getD (IntKind.i64.wrap (at_1 + (2 : Int))).toNat 0))))) ≤ (↑(List.length b_0) : Int), CallOk P 26 [.v (.one (.slc 8)), .v (.one (.slc 9))] [(8, .own 5 .u8 a30), (9, .rd .u8 ((b_0.take ((IntKind.i64.wrap ((IntKind.i64.wrap (at_1 + (7 : Int))) + (bor .i64 (shl .i64 (IntKind.i64.wrap (b_0.getD (IntKind.i64.wrap (at_1 + (1 : Int))).toNat 0)) (8 : Int)) (IntKind.i64.wrap (b_0.getD (IntKind.i64.wrap (at_1 + (2 : Int))).toNat 0))))).toNat)).drop at_1.toNat))] (.v (.one (.bool b33))) []] (by kernel_rfl) (hcons ((ref14_Frame_ok (IntKind.i64.wrap (b_0.getD at_1.toNat 0)) a28 a30 e31).tr [(9000, .slc 7), (8900, .slc 8)] rfl (by kernel_rfl) ⟨.ownrd (e := 5) (by kernel_rfl), trivial⟩ (by kernel_rfl) (by kernel_rfl) rfl rfl) (hcons hn32 (hone ((keep_Bytes_ok a30 ((b_0.take ((IntKind.i64.wrap ((IntKind.i64.wrap (at_1 + (7 : Int))) + (bor .i64 (shl .i64 (IntKind.i64.wrap (b_0.getD (IntKind.i64.wrap (at_1 + (1 : Int))).toNat 0)) (8 : Int)) (IntKind.i64.wrap (b_0.getD (IntKind.i64.wrap (at_1 + (2 : Int))).toNat 0))))).toNat)).drop at_1.toNat) b33 e34).tr [(9000, .slc 8), (9001, .slc 9)] rfl (by kernel_rfl) ⟨.ownrd (e := 5) (by kernel_rfl), .rd (by kernel_rfl), trivial⟩ (by kernel_rfl) (by kernel_rfl) rfl rfl)))) ?_
            refine q_k ?_
            rcases ite_split h with ⟨hc35, h⟩ | ⟨hc35, h⟩
            · refine tr_cond_t (!b33) (by kernel_rfl) hc35 ?_
              refine tr_seq ?_
              refine tr_reg hT [] [.s 4, .s 5, .s 6, .h 0] [sO 4 (.ptr 0 0), sI 5 .i64 (0 : Int), sI 6 .i64 (6 : Int), hB 0 41 [.int .i64 (0 : Int), .nils]] [] (by kernel_rfl) trivial ?_
              refine q_k ?_
              refine tr_ret ?_
              refine q_k_ret ?_
              have h := Option.some.inj h
              subst h
              refine q_fit [(8900, .nils)] [sO 4 (.ptr 0 0), sI 5 .i64 (0 : Int), sI 6 .i64 (6 : Int), hB 0 41 [.int .i64 (0 : Int), .slc 8900], hO 8900 5 .u8 []] [(0, .blk 41 [.int .i64 (0 : Int), .slc 8900]), (8900, .own 5 .u8 [])] (by kernel_rfl) (by kernel_rfl) (by kernel_rfl) rfl ⟨.blk (by kernel_rfl) (by kernel_rfl), .nilown, trivial⟩ (by kernel_rfl) ?_
              exact q_ret1 hT (.tup [.agg [.int .i64 (0 : Int), .slc 8900], .one (.int .i64 (0 : Int)), .one (.int .i64 (6 : Int))]) [(8900, .own 5 .u8 [])] (by kernel_rfl) (by kernel_rfl) (by kernel_rfl)
            · refine tr_cond_f (!b33) (by kernel_rfl) hc35 ?_
              refine tr_skip ?_
              refine q_k ?_
              refine tr_seq ?_
              refine tr_reg hT [] [.s 4, .s 5, .s 6, .h 0, .h 7] [sO 4 (.ptr 0 0), sI 5 .i64 (IntKind.i64.wrap ((IntKind.i64.wrap (at_1 + (7 : Int))) + (bor .i64 (shl .i64 (IntKind.i64.wrap (b_0.getD (IntKind.i64.wrap (at_1 + (1 : Int))).toNat 0)) (8 : Int)) (IntKind.i64.wrap (b_0.getD (IntKind.i64.wrap (at_1 + (2 : Int))).toNat 0))))), sI 6 .i64 (0 : Int), hB 0 41 [.int .i64 (IntKind.i64.wrap (b_0.getD at_1.toNat 0)), .slc 7], hO 7 5 .u8 a28] [] (by kernel_rfl) trivial ?_
              refine q_k ?_
              refine tr_ret ?_
              have h := Option.some.inj h
              subst h
              refine q_fit [(8900, .slc 7)] [sO 4 (.ptr 0 0), sI 5 .i64 (IntKind.i64.wrap ((IntKind.i64.wrap (at_1 + (7 : Int))) + (bor .i64 (shl .i64 (IntKind.i64.wrap (b_0.getD (IntKind.i64.wrap (at_1 + (1 : Int))).toNat 0)) (8 : Int)) (IntKind.i64.wrap (b_0.getD (IntKind.i64.wrap (at_1 + (2 : Int))).toNat 0))))), sI 6 .i64 (0 : Int), hB 0 41 [.int .i64 (IntKind.i64.wrap (b_0.getD at_1.toNat 0)), .slc 8900], hO 8900 5 .u8 a28] [(0, .blk 41 [.int .i64 (IntKind.i64.wrap (b_0.getD at_1.toNat 0)), .slc 8900]), (8900, .own 5 .u8 a28)] (by kernel_rfl) (by kernel_rfl) (by kernel_rfl) rfl ⟨.blk (by kernel_rfl) (by kernel_rfl), .own (by kernel_rfl), trivial⟩ (by kernel_rfl) ?_
              exact q_ret1 hT (.tup [.agg [.int .i64 (IntKind.i64.wrap (b_0.getD at_1.toNat 0)), .slc 8900], .one (.int .i64 (IntKind.i64.wrap ((IntKind.i64.wrap (at_1 + (7 : Int))) + (bor .i64 (shl .i64 (IntKind.i64.wrap (b_0.getD (IntKind.i64.wrap (at_1 + (1 : Int))).toNat 0)) (8 : Int)) (IntKind.i64.wrap (b_0.getD (IntKind.i64.wrap (at_1 + (2 : Int))).toNat 0)))))), .one (.int .i64 (0 : Int))]) [(8900, .own 5 .u8 a28)] (by kernel_rfl) (by kernel_rfl) (by kernel_rfl)

theorem keep_Recs_ok (a_0 : List (Int × List Int)) (b_1 : List (Int × List Int)) (r : Bool) (h : keep_Recs a_0 b_1 = some r) : CallOk P 38 [.v (.one (.slc 9000)), .v (.one (.slc 9001))] [(9000, .rows (.rc a_0)), (9001, .rows (.rc b_1))] (.v (.one (.bool r))) [] := by
  refine call1 (N := 42) Try.func38 (by kernel_rfl) rfl rfl rfl [(9000, .rows (.rc a_0)), (9001, .rows (.rc b_1))] (by kernel_rfl) ?_
  intro _ B w0
  show Tr P B 42 w0 _ _ (RetQ P Try.f38 (R1 _ _ B w0))
  unfold keep_Recs at h
  refine tr_seq ?_
  refine tr_reg hT [] [.s 0, .s 1, .h 9000, .h 9001] [sO 0 (.slc 9000), sO 1 (.slc 9001), hW 9000 (.rc a_0), hW 9001 (.rc b_1)] [] (by kernel_rfl) trivial ?_
  refine q_k ?_
  refine tr_seq ?_
  refine tr_seq ?_
  refine tr_reg hT [] [.s 0, .s 1, .s 10, .h 9000, .h 9001] [sO 0 (.slc 9000), sO 1 (.slc 9001), sB 10 ((↑(List.length a_0) : Int) != (↑(List.length b_1) : Int)), hW 9000 (.rc a_0), hW 9001 (.rc b_1)] [] (by kernel_rfl) trivial ?_
  refine q_k ?_
  rcases ite_split h with ⟨hc1, h⟩ | ⟨hc1, h⟩
  · refine tr_cond_t ((↑(List.length a_0) : Int) != (↑(List.length b_1) : Int)) (by kernel_rfl) hc1 ?_
    refine tr_seq ?_
    refine tr_reg hT [] [.s 4] [sB 4 false] [] (by kernel_rfl) trivial ?_
    refine q_k ?_
    refine tr_ret ?_
    refine q_k_ret ?_
    have h := Option.some.inj h
    subst h
    refine q_less [.s 4] [sB 4 false] (by kernel_rfl) ?_
    exact q_ret1 hT (.v (.one (.bool false))) [] (by kernel_rfl) (by kernel_rfl) (by kernel_rfl)
  · refine tr_cond_f ((↑(List.length a_0) : Int) != (↑(List.length b_1) : Int)) (by kernel_rfl) hc1 ?_
    refine tr_skip ?_
    refine q_k ?_
    refine tr_seq ?_
    refine tr_seq ?_
    refine tr_reg hT [] [.s 0, .s 1, .s 5, .h 9000, .h 9001] [sO 0 (.slc 9000), sO 1 (.slc 9001), sI 5 .i64 (0 : Int), hW 9000 (.rc a_0), hW 9001 (.rc b_1)] [] (by kernel_rfl) trivial ?_
    refine q_k ?_
    refine tr_block ?_
    obtain ⟨rr0, e11, h⟩ := bind_some h
    refine tr_fit [] [sO 0 (.slc 9000), sO 1 (.slc 9001), sI 5 .i64 (0 : Int), hW 9000 (.rc a_0), hW 9001 (.rc b_1)] [(9000, .rows (.rc a_0)), (9001, .rows (.rc b_1))] (by kernel_rfl) (by kernel_rfl) (by kernel_rfl) rfl ⟨.rows (by kernel_rfl), .rows (by kernel_rfl), trivial⟩ (by kernel_rfl) ?_
    refine tr_loop_ret (id := 0) (α := Int) (β := Unit) (ρ := Bool) (fun z => [sO 0 (.slc 9000), sO 1 (.slc 9001), sI 5 .i64 z, hW 9000 (.rc a_0), hW 9001 (.rc b_1)]) (fun z => []) (fun v σ => resS T (Gw.look σ) Try.f38.results.toList = some (.v (.one (.bool v))) ∧ Gw.hasAll σ [] = some (Gw.preSS [])) (fun k z => keep_Recs_l0 a_0 b_1 k z) rr0 (fun _ => rfl) (((↑(List.length a_0) : Int) - (0 : Int)).toNat + 1) (0 : Int) e11 ?_ ?_ ?_
    · intro z hz
      subst hz
      rcases z with _
      replace h : (some true) = _ := h
      refine q_b_this ?_
      refine q_k ?_
      refine tr_seq ?_
      refine tr_reg hT [] [.s 4] [sB 4 true] [] (by kernel_rfl) trivial ?_
      refine q_k ?_
      refine tr_ret ?_
      have h := Option.some.inj h
      subst h
      refine q_less [.s 4] [sB 4 true] (by kernel_rfl) ?_
      exact q_ret1 hT (.v (.one (.bool true))) [] (by kernel_rfl) (by kernel_rfl) (by kernel_rfl)
    · intro v σ hz hv
      subst hz
      have h := Option.some.inj h
      subst h
      refine q_b_ret ?_
      refine q_k_ret ?_
      exact q_ret1 hT _ _ hv.1 hv.2 (by kernel_rfl)
    · clear h e11
      intro k ih0 hx0 hr0 i2 h
      replace h : (if (decide (i2 < (↑(List.length a_0) : Int))) = true then if 0 ≤ i2 ∧ i2 < ↑(List.length a_0) then if 0 ≤ i2 ∧ i2 < ↑(List.length b_1) then if ((a_0.getD i2.toNat (0, [])).1 != (b_1.getD i2.toNat (0, [])).1) = true then some (.inr false) else (keep_Bytes ((a_0.getD i2.toNat (0, [])).2) ((b_1.getD i2.toNat (0, [])).2)).bind (fun b8 => if (!b8) = true then some (.inr false) else keep_Recs_l0 a_0 b_1 k (IntKind.i64.wrap (i2 + (1 : Int)))) else none else none else some (.inl ())) = _ := h
      refine tr_seq ?_
      refine tr_seq ?_
      refine tr_reg hT [] [.s 0, .s 1, .s 5, .s 14, .h 9000, .h 9001] [sO 0 (.slc 9000), sO 1 (.slc 9001), sI 5 .i64 i2, sB 14 (decide (i2 < (↑(List.length a_0) : Int))), hW 9000 (.rc a_0), hW 9001 (.rc b_1)] [] (by kernel_rfl) trivial ?_
      refine q_k ?_
      rcases ite_split h with ⟨hc3, h⟩ | ⟨hc3, h⟩
      · refine tr_cond_t (decide (i2 < (↑(List.length a_0) : Int))) (by kernel_rfl) hc3 ?_
        refine tr_skip ?_
        refine q_k ?_
        refine tr_seq ?_
        refine tr_block ?_
        refine tr_seq ?_
        obtain ⟨hn4, h⟩ := ite_some h
        obtain ⟨hn5, h⟩ := ite_some h
        rcases ite_split h with ⟨hb6, h⟩ | ⟨hb7, h⟩
        · refine tr_regd hT hM [(11, .dec true)] [.s 0, .s 1, .s 5, .s 41, .h 9000, .h 9001] [sO 0 (.slc 9000), sO 1 (.slc 9001), sI 5 .i64 i2, sB 41 true, hW 9000 (.rc a_0), hW 9001 (.rc b_1)] [0 ≤ i2 ∧ i2 < ↑(List.length a_0), 0 ≤ i2 ∧ i2 < ↑(List.length a_0), i2 < ↑(List.length a_0), 0 ≤ i2 ∧ i2 < ↑(List.length b_1), 0 ≤ i2 ∧ i2 < ↑(List.length b_1), i2 < ↑(List.length b_1), ((a_0.getD i2.toNat (0, [])).1 != (b_1.getD i2.toNat (0, [])).1) = true] (by kernel_rfl) (hcons hn4 (hcons hn4 (hcons hn4.2 (hcons hn5 (hcons hn5 (hcons hn5.2 (hone hb6))))))) ?_
          refine q_k ?_
          refine tr_cond_t true (by kernel_rfl) rfl ?_
          refine tr_seq ?_
          refine tr_reg hT [] [.s 4] [sB 4 false] [] (by kernel_rfl) trivial ?_
          refine q_k ?_
          refine tr_ret ?_
          refine q_b_ret ?_
          refine q_k_ret ?_
          refine q_kr_ret ?_
          have h := Option.some.inj h
          subst h
          exact q_less [.s 4] [sB 4 false] (by kernel_rfl) (hr0 false _ rfl ⟨by kernel_rfl, by kernel_rfl⟩)
        · obtain ⟨b8, e9, h⟩ := bind_some h
          refine tr_regd hT hM [(11, .dec false), (16, .key 0), (21, .key 1), (22, .call [0, 1] (.v (.one (.bool b8))) [])] [.s 0, .s 1, .s 5, .s 41, .h 9000, .h 9001] [sO 0 (.slc 9000), sO 1 (.slc 9001), sI 5 .i64 i2, sB 41 (!b8), hW 9000 (.rc a_0), hW 9001 (.rc b_1)] [0 ≤ i2 ∧ i2 < ↑(List.length a_0), 0 ≤ i2 ∧ i2 < ↑(List.length a_0), i2 < ↑(List.length a_0), 0 ≤ i2 ∧ i2 < ↑(List.length b_1), 0 ≤ i2 ∧ i2 < ↑(List.length b_1), i2 < ↑(List.length b_1), ((a_0.getD i2.toNat (0, [])).1 != (b_1.getD i2.toNat (0, [])).1) = false, 0 ≤ i2 ∧ i2 < ↑(List.length a_0), 0 ≤ i2 ∧ i2 < ↑(List.length a_0), i2 < ↑(List.length a_0), 0 ≤ i2 ∧ i2 < ↑(List.length b_1), 0 ≤ i2 ∧ i2 < ↑(List.length b_1), i2 < ↑(List.length b_1), CallOk P 26 [.v (.one (.slc 0)), .v (.one (.slc 1))] [(0, .rd .u8 ((a_0.getD i2.toNat (0, [])).2)), (1, .rd .u8 ((b_1.getD i2.toNat (0, [])).2))] (.v (.one (.bool b8))) []] (by kernel_rfl) (hcons hn4 (hcons hn4 (hcons hn4.2 (hcons hn5 (hcons hn5 (hcons hn5.2 (hcons hb7 (hcons hn4 (hcons hn4 (hcons hn4.2 (hcons hn5 (hcons hn5 (hcons hn5.2 (hone ((keep_Bytes_ok ((a_0.getD i2.toNat (0, [])).2) ((b_1.getD i2.toNat (0, [])).2) b8 e9).tr [(9000, .slc 0), (9001, .slc 1)] rfl (by kernel_rfl) ⟨.rd (by kernel_rfl), .rd (by kernel_rfl), trivial⟩ (by kernel_rfl) (by kernel_rfl) rfl rfl))))))))))))))) ?_
          refine q_k ?_
          rcases ite_split h with ⟨hc10, h⟩ | ⟨hc10, h⟩
          · refine tr_cond_t (!b8) (by kernel_rfl) hc10 ?_
            refine tr_seq ?_
            refine tr_reg hT [] [.s 4] [sB 4 false] [] (by kernel_rfl) trivial ?_
            refine q_k ?_
            refine tr_ret ?_
            refine q_b_ret ?_
            refine q_k_ret ?_
            refine q_kr_ret ?_
            have h := Option.some.inj h
            subst h
            exact q_less [.s 4] [sB 4 false] (by kernel_rfl) (hr0 false _ rfl ⟨by kernel_rfl, by kernel_rfl⟩)
          · refine tr_cond_f (!b8) (by kernel_rfl) hc10 ?_
            refine tr_skip ?_
            refine q_b 1 ?_
            refine q_k ?_
            refine tr_reg hT [] [.s 0, .s 1, .s 5, .h 9000, .h 9001] [sO 0 (.slc 9000), sO 1 (.slc 9001), sI 5 .i64 (IntKind.i64.wrap (i2 + (1 : Int))), hW 9000 (.rc a_0), hW 9001 (.rc b_1)] [] (by kernel_rfl) trivial ?_
            refine q_kr ?_
            exact trR_less [.s 0, .s 1, .s 5, .h 9000, .h 9001] [sO 0 (.slc 9000), sO 1 (.slc 9001), sI 5 .i64 (IntKind.i64.wrap (i2 + (1 : Int))), hW 9000 (.rc a_0), hW 9001 (.rc b_1)] (by kernel_rfl) (ih0 (IntKind.i64.wrap (i2 + (1 : Int))) h)
      · refine tr_cond_f (decide (i2 < (↑(List.length a_0) : Int))) (by kernel_rfl) hc3 ?_
        refine tr_exit ?_
        refine q_k_exit ?_
        refine q_kr_exit ?_
        have h := Option.some.inj h
        subst h
        exact q_less [] [] (by kernel_rfl) (hx0 () rfl)

theorem frame_Split_ok (b_0 : List Int) (r : List (Int × List Int) × Int) (h : frame_Split b_0 = some r) : CallOk P 39 [.v (.one (.slc 9000))] [(9000, .rd .u8 b_0)] (.tup [.one (.slc 8900), .one (.int .i64 r.2)]) [(8900, .frows 41 5 (0 : Int) (.rc r.1))] := by
  refine call1 (N := 25) Try.func39 (by kernel_rfl) rfl rfl rfl [(9000, .rd .u8 b_0)] (by kernel_rfl) ?_
  intro _ B w0
  show Tr P B 25 w0 _ _ (RetQ P Try.f39 (R1 _ _ B w0))
  unfold frame_Split at h
  refine tr_seq ?_
  refine tr_reg hT [] [.s 0, .h 9000] [sO 0 (.slc 9000), hR 9000 .u8 b_0] [] (by kernel_rfl) trivial ?_
  refine q_k ?_
  refine tr_seq ?_
  refine tr_reg hT [] [.s 0, .s 4, .h 9000] [sO 0 (.slc 9000), sO 4 (.nils), hR 9000 .u8 b_0] [] (by kernel_rfl) trivial ?_
  refine q_k ?_
  refine tr_seq ?_
  refine tr_reg hT [] [.s 0, .s 4, .s 5, .h 9000] [sO 0 (.slc 9000), sO 4 (.nils), sI 5 .i64 (0 : Int), hR 9000 .u8 b_0] [] (by kernel_rfl) trivial ?_
  refine q_k ?_
  refine tr_block ?_
  obtain ⟨rr0, e11, h⟩ := bind_some h
  refine tr_fit [(0, .nils)] [sO 0 (.slc 9000), sO 4 (.slc 0), sI 5 .i64 (0 : Int), hE 0 41 5 (0 : Int) (.rc []), hR 9000 .u8 b_0] [(0, .frows 41 5 (0 : Int) (.rc [])), (9000, .rd .u8 b_0)] (by kernel_rfl) (by kernel_rfl) (by kernel_rfl) rfl ⟨.nilfrows rfl, .rd (by kernel_rfl), trivial⟩ (by kernel_rfl) ?_
  refine tr_loop_ret (id := 0) (α := List (Int × List Int) × Int) (β := Unit) (ρ := List (Int × List Int) × Int) (fun z => [sO 0 (.slc 9000), sO 4 (.slc 0), sI 5 .i64 z.2, hE 0 41 5 (0 : Int) (.rc z.1), hR 9000 .u8 b_0]) (fun z => []) (fun v σ => resS T (Gw.look σ) Try.f39.results.toList = some (.tup [.one (.slc 8900), .one (.int .i64 v.2)]) ∧ Gw.hasAll σ [(8900, .frows 41 5 (0 : Int) (.rc v.1))] = some (Gw.preSS [(8900, .frows 41 5 (0 : Int) (.rc v.1))])) (fun k z => frame_Split_l0 b_0 k z.1 z.2) rr0 (fun _ => rfl) (List.length b_0 + 1) ([], (0 : Int)) e11 ?_ ?_ ?_
  · intro z hz
    subst hz
    rcases z with _
    replace h : (none) = _ := h
    exact absurd h (by simp)
  · intro v σ hz hv
    subst hz
    have h := Option.some.inj h
    subst h
    refine q_b_ret ?_
    exact q_ret1 hT _ _ hv.1 hv.2 (by kernel_rfl)
  · clear h e11
    intro k ih0 hx0 hr0 z h
    rcases z with ⟨l1, at2⟩
    replace h : ((frame_Get b_0 at2).bind (fun (r3, a4, r5, r6) => if (r6 != (0 : Int)) = true then some (.inr (l1, at2)) else if List.length (l1 ++ [(r3, a4)]) ≤ maxR then frame_Split_l0 b_0 k (l1 ++ [(r3, a4)]) r5 else none)) = _ := h
    refine tr_block ?_
    refine tr_seq ?_
    obtain ⟨⟨r3, a4, r5, r6⟩, e7, h⟩ := bind_some h
    refine tr_reg hT [(2, .call [9000] (.tup [.agg [.int .i64 r3, .slc 1], .one (.int .i64 r5), .one (.int .i64 r6)]) [(1, .own 5 .u8 a4)]), (7, .key 2)] [.s 0, .s 4, .s 5, .s 6, .s 7, .s 8, .h 0, .h 1, .h 2, .h 9000] [sO 0 (.slc 9000), sO 4 (.slc 0), sI 5 .i64 at2, sO 6 (.ptr 2 0), sI 7 .i64 r5, sI 8 .i64 r6, hE 0 41 5 (0 : Int) (.rc l1), hO 1 5 .u8 a4, hB 2 41 [.int .i64 r3, .slc 1], hR 9000 .u8 b_0] [CallOk P 36 [.v (.one (.slc 9000)), .v (.one (.int .i64 at2))] [(9000, .rd .u8 b_0)] (.tup [.agg [.int .i64 r3, .slc 1], .one (.int .i64 r5), .one (.int .i64 r6)]) [(1, .own 5 .u8 a4)]] (by kernel_rfl) (hone ((frame_Get_ok b_0 at2 (r3, a4, r5, r6) e7).tr [(9000, .slc 9000), (8900, .slc 1)] rfl (by kernel_rfl) ⟨.rd (by kernel_rfl), trivial⟩ (by kernel_rfl) (by kernel_rfl) rfl rfl)) ?_
    refine q_k ?_
    refine tr_seq ?_
    refine tr_seq ?_
    refine tr_reg hT [] [.s 0, .s 4, .s 5, .s 6, .s 7, .s 17, .h 0, .h 1, .h 2, .h 9000] [sO 0 (.slc 9000), sO 4 (.slc 0), sI 5 .i64 at2, sO 6 (.ptr 2 0), sI 7 .i64 r5, sB 17 (r6 != (0 : Int)), hE 0 41 5 (0 : Int) (.rc l1), hO 1 5 .u8 a4, hB 2 41 [.int .i64 r3, .slc 1], hR 9000 .u8 b_0] [] (by kernel_rfl) trivial ?_
    refine q_k ?_
    rcases ite_split h with ⟨hc9, h⟩ | ⟨hc9, h⟩
    · refine tr_cond_t (r6 != (0 : Int)) (by kernel_rfl) hc9 ?_
      refine tr_seq ?_
      refine tr_reg hT [] [.s 2, .s 3, .h 0] [sO 2 (.slc 0), sI 3 .i64 at2, hE 0 41 5 (0 : Int) (.rc l1)] [] (by kernel_rfl) trivial ?_
      refine q_k ?_
      refine tr_ret ?_
      refine q_k_ret ?_
      refine q_b_ret ?_
      refine q_kr_ret ?_
      have h := Option.some.inj h
      subst h
      exact q_fit [(8900, .slc 0)] [sO 2 (.slc 8900), sI 3 .i64 at2, hE 8900 41 5 (0 : Int) (.rc l1)] [(8900, .frows 41 5 (0 : Int) (.rc l1))] (by kernel_rfl) (by kernel_rfl) (by kernel_rfl) rfl ⟨.frows (by kernel_rfl), trivial⟩ (by kernel_rfl) (hr0 (l1, at2) _ rfl ⟨by kernel_rfl, by kernel_rfl⟩)
    · refine tr_cond_f (r6 != (0 : Int)) (by kernel_rfl) hc9 ?_
      refine tr_skip ?_
      refine q_k ?_
      obtain ⟨hn10, h⟩ := ite_some h
      refine tr_reg hT [(2, .dk 3 5), (3, .key 4)] [.s 0, .s 4, .s 5, .h 4, .h 9000] [sO 0 (.slc 9000), sO 4 (.slc 4), sI 5 .i64 r5, hE 4 41 5 (0 : Int) (.rc (l1 ++ [(r3, a4)])), hR 9000 .u8 b_0] [List.length (l1 ++ [(r3, a4)]) ≤ maxR] (by kernel_rfl) (hone hn10) ?_
      refine q_b 1 ?_
      refine q_kr ?_
      exact trR_fit [(0, .slc 4)] [sO 0 (.slc 9000), sO 4 (.slc 0), sI 5 .i64 r5, hE 0 41 5 (0 : Int) (.rc (l1 ++ [(r3, a4)])), hR 9000 .u8 b_0] [(0, .frows 41 5 (0 : Int) (.rc (l1 ++ [(r3, a4)]))), (9000, .rd .u8 b_0)] (by kernel_rfl) (by kernel_rfl) (by kernel_rfl) rfl ⟨.frows (by kernel_rfl), .rd (by kernel_rfl), trivial⟩ (by kernel_rfl) (ih0 ((l1 ++ [(r3, a4)]), r5) h)

theorem ref14_Split_ok (b_0 : List Int) (r : List (Int × List Int) × Int) (h : ref14_Split b_0 = some r) : CallOk P 40 [.v (.one (.slc 9000))] [(9000, .rd .u8 b_0)] (.tup [.one (.slc 8900), .one (.int .i64 r.2)]) [(8900, .orows 41 (.rc r.1))] := by
  refine call1 (N := 25) Try.func40 (by kernel_rfl) rfl rfl rfl [(9000, .rd .u8 b_0)] (by kernel_rfl) ?_
  intro _ B w0
  show Tr P B 25 w0 _ _ (RetQ P Try.f40 (R1 _ _ B w0))
  unfold ref14_Split at h
  refine tr_seq ?_
  refine tr_reg hT [] [.s 0, .h 9000] [sO 0 (.slc 9000), hR 9000 .u8 b_0] [] (by kernel_rfl) trivial ?_
  refine q_k ?_
  refine tr_seq ?_
  refine tr_reg hT [] [.s 0, .s 4, .h 9000] [sO 0 (.slc 9000), sO 4 (.nils), hR 9000 .u8 b_0] [] (by kernel_rfl) trivial ?_
  refine q_k ?_
  refine tr_seq ?_
  refine tr_reg hT [] [.s 0, .s 4, .s 5, .h 9000] [sO 0 (.slc 9000), sO 4 (.nils), sI 5 .i64 (0 : Int), hR 9000 .u8 b_0] [] (by kernel_rfl) trivial ?_
  refine q_k ?_
  refine tr_block ?_
  obtain ⟨rr0, e11, h⟩ := bind_some h
  refine tr_fit [(0, .nils)] [sO 0 (.slc 9000), sO 4 (.slc 0), sI 5 .i64 (0 : Int), hV 0 41 (.rc []), hR 9000 .u8 b_0] [(0, .orows 41 (.rc [])), (9000, .rd .u8 b_0)] (by kernel_rfl) (by kernel_rfl) (by kernel_rfl) rfl ⟨.nilorows rfl, .rd (by kernel_rfl), trivial⟩ (by kernel_rfl) ?_
  refine tr_loop_ret (id := 0) (α := List (Int × List Int) × Int) (β := Unit) (ρ := List (Int × List Int) × Int) (fun z => [sO 0 (.slc 9000), sO 4 (.slc 0), sI 5 .i64 z.2, hV 0 41 (.rc z.1), hR 9000 .u8 b_0]) (fun z => []) (fun v σ => resS T (Gw.look σ) Try.f40.results.toList = some (.tup [.one (.slc 8900), .one (.int .i64 v.2)]) ∧ Gw.hasAll σ [(8900, .orows 41 (.rc v.1))] = some (Gw.preSS [(8900, .orows 41 (.rc v.1))])) (fun k z => ref14_Split_l0 b_0 k z.1 z.2) rr0 (fun _ => rfl) (List.length b_0 + 1) ([], (0 : Int)) e11 ?_ ?_ ?_
  · intro z hz
    subst hz
    rcases z with _
    replace h : (none) = _ := h
    exact absurd h (by simp)
  · intro v σ hz hv
    subst hz
    have h := Option.some.inj h
    subst h
    refine q_b_ret ?_
    exact q_ret1 hT _ _ hv.1 hv.2 (by kernel_rfl)
  · clear h e11
    intro k ih0 hx0 hr0 z h
    rcases z with ⟨out1, at2⟩
    replace h : ((ref14_Get b_0 at2).bind (fun (r3, a4, r5, r6) => if (r6 != (0 : Int)) = true then some (.inr (out1, at2)) else if List.length (out1 ++ [(r3, a4)]) ≤ maxR then ref14_Split_l0 b_0 k (out1 ++ [(r3, a4)]) r5 else none)) = _ := h
    refine tr_block ?_
    refine tr_seq ?_
    obtain ⟨⟨r3, a4, r5, r6⟩, e7, h⟩ := bind_some h
    refine tr_reg hT [(2, .call [9000] (.tup [.agg [.int .i64 r3, .slc 1], .one (.int .i64 r5), .one (.int .i64 r6)]) [(1, .own 5 .u8 a4)]), (7, .key 2)] [.s 0, .s 4, .s 5, .s 6, .s 7, .s 8, .h 0, .h 1, .h 2, .h 9000] [sO 0 (.slc 9000), sO 4 (.slc 0), sI 5 .i64 at2, sO 6 (.ptr 2 0), sI 7 .i64 r5, sI 8 .i64 r6, hV 0 41 (.rc out1), hO 1 5 .u8 a4, hB 2 41 [.int .i64 r3, .slc 1], hR 9000 .u8 b_0] [CallOk P 37 [.v (.one (.slc 9000)), .v (.one (.int .i64 at2))] [(9000, .rd .u8 b_0)] (.tup [.agg [.int .i64 r3, .slc 1], .one (.int .i64 r5), .one (.int .i64 r6)]) [(1, .own 5 .u8 a4)]] (by kernel_rfl) (hone ((ref14_Get_ok b_0 at2 (r3, a4, r5, r6) e7).tr [(9000, .slc 9000), (8900, .slc 1)] rfl (by kernel_rfl) ⟨.rd (by kernel_rfl), trivial⟩ (by kernel_rfl) (by kernel_rfl) rfl rfl)) ?_
    refine q_k ?_
    refine tr_seq ?_
    refine tr_seq ?_
    refine tr_reg hT [] [.s 0, .s 4, .s 5, .s 6, .s 7, .s 17, .h 0, .h 1, .h 2, .h 9000] [sO 0 (.slc 9000), sO 4 (.slc 0), sI 5 .i64 at2, sO 6 (.ptr 2 0), sI 7 .i64 r5, sB 17 (r6 != (0 : Int)), hV 0 41 (.rc out1), hO 1 5 .u8 a4, hB 2 41 [.int .i64 r3, .slc 1], hR 9000 .u8 b_0] [] (by kernel_rfl) trivial ?_
    refine q_k ?_
    rcases ite_split h with ⟨hc9, h⟩ | ⟨hc9, h⟩
    · refine tr_cond_t (r6 != (0 : Int)) (by kernel_rfl) hc9 ?_
      refine tr_seq ?_
      refine tr_reg hT [] [.s 2, .s 3, .h 0] [sO 2 (.slc 0), sI 3 .i64 at2, hV 0 41 (.rc out1)] [] (by kernel_rfl) trivial ?_
      refine q_k ?_
      refine tr_ret ?_
      refine q_k_ret ?_
      refine q_b_ret ?_
      refine q_kr_ret ?_
      have h := Option.some.inj h
      subst h
      exact q_fit [(8900, .slc 0)] [sO 2 (.slc 8900), sI 3 .i64 at2, hV 8900 41 (.rc out1)] [(8900, .orows 41 (.rc out1))] (by kernel_rfl) (by kernel_rfl) (by kernel_rfl) rfl ⟨.orows (by kernel_rfl), trivial⟩ (by kernel_rfl) (hr0 (out1, at2) _ rfl ⟨by kernel_rfl, by kernel_rfl⟩)
    · refine tr_cond_f (r6 != (0 : Int)) (by kernel_rfl) hc9 ?_
      refine tr_skip ?_
      refine q_k ?_
      obtain ⟨hn10, h⟩ := ite_some h
      refine tr_reg hT [(2, .key 3), (3, .key 4)] [.s 0, .s 4, .s 5, .h 4, .h 9000] [sO 0 (.slc 9000), sO 4 (.slc 4), sI 5 .i64 r5, hV 4 41 (.rc (out1 ++ [(r3, a4)])), hR 9000 .u8 b_0] [List.length (out1 ++ [(r3, a4)]) ≤ maxR] (by kernel_rfl) (hone hn10) ?_
      refine q_b 1 ?_
      refine q_kr ?_
      exact trR_fit [(0, .slc 4)] [sO 0 (.slc 9000), sO 4 (.slc 0), sI 5 .i64 r5, hV 0 41 (.rc (out1 ++ [(r3, a4)])), hR 9000 .u8 b_0] [(0, .orows 41 (.rc (out1 ++ [(r3, a4)]))), (9000, .rd .u8 b_0)] (by kernel_rfl) (by kernel_rfl) (by kernel_rfl) rfl ⟨.orows (by kernel_rfl), .rd (by kernel_rfl), trivial⟩ (by kernel_rfl) (ih0 ((out1 ++ [(r3, a4)]), r5) h)

theorem law15_wakes_ok (r : Bool) (h : law15_wakes = some r) {pre : List (Nat × Ent)} : CallOk P 41 [] pre (.v (.one (.bool r))) [] := by
  refine call0 (N := 56) Try.func41 (by kernel_rfl) rfl rfl rfl pre ?_
  intro _ w
  show Tr P (Ge w) 56 _ _ _ (RetQ P Try.f41 (R0 _ w))
  unfold law15_wakes at h
  refine tr_seq ?_
  refine tr_reg hT [] [] [] [] (by kernel_rfl) trivial ?_
  refine q_k ?_
  refine tr_seq ?_
  obtain ⟨⟨a1, r2⟩, e3, h⟩ := bind_some h
  refine tr_reg hT [(0, .key 0), (1, .key 1), (3, .call [1] (.tup [.one (.slc 2), .one (.int .i64 r2)]) [(2, .own 5 .u8 a1)])] [.s 1, .s 2, .h 2] [sO 1 (.slc 2), sI 2 .i64 r2, hO 2 5 .u8 a1] [0 < List.length [(120 : Int), (121 : Int)], CallOk P 32 [.v (.one (.nils)), .v (.agg [.int .i64 (2 : Int), .slc 1])] [(1, .rd .u8 [(120 : Int), (121 : Int)])] (.tup [.one (.slc 2), .one (.int .i64 r2)]) [(2, .own 5 .u8 a1)]] (by kernel_rfl) (hcons (by decide) (hone ((frame_Put_ok [] (2 : Int) [(120 : Int), (121 : Int)] (a1, r2) e3).tr [(9000, .nils), (9001, .slc 1), (8900, .slc 2)] rfl (by kernel_rfl) ⟨.nilrd, .rd (by kernel_rfl), trivial⟩ (by kernel_rfl) (by kernel_rfl) rfl rfl))) ?_
  refine q_k ?_
  refine tr_seq ?_
  obtain ⟨⟨r5, a6, r7, r8⟩, e9, h⟩ := bind_some h
  refine tr_reg hT [(1, .call [2] (.tup [.agg [.int .i64 r5, .slc 3], .one (.int .i64 r7), .one (.int .i64 r8)]) [(3, .own 5 .u8 a6)]), (6, .key 4)] [.s 1, .s 2, .s 3, .s 4, .s 5, .h 2, .h 3, .h 4] [sO 1 (.slc 2), sI 2 .i64 r2, sO 3 (.ptr 4 0), sI 4 .i64 r7, sI 5 .i64 r8, hO 2 5 .u8 a1, hO 3 5 .u8 a6, hB 4 41 [.int .i64 r5, .slc 3]] [CallOk P 36 [.v (.one (.slc 2)), .v (.one (.int .i64 (0 : Int)))] [(2, .own 5 .u8 a1)] (.tup [.agg [.int .i64 r5, .slc 3], .one (.int .i64 r7), .one (.int .i64 r8)]) [(3, .own 5 .u8 a6)]] (by kernel_rfl) (hone ((frame_Get_ok a1 (0 : Int) (r5, a6, r7, r8) e9).tr [(9000, .slc 2), (8900, .slc 3)] rfl (by kernel_rfl) ⟨.ownrd (e := 5) (by kernel_rfl), trivial⟩ (by kernel_rfl) (by kernel_rfl) rfl rfl)) ?_
  refine q_k ?_
  refine tr_seq ?_
  obtain ⟨⟨a11, r12⟩, e13, h⟩ := bind_some h
  refine tr_reg hT [(0, .key 5), (1, .call [5] (.tup [.one (.slc 6), .one (.int .i64 r12)]) [(6, .frows 41 5 (0 : Int) (.rc a11))])] [.s 1, .s 2, .s 3, .s 4, .s 5, .s 7, .h 2, .h 3, .h 4] [sO 1 (.slc 2), sI 2 .i64 r2, sO 3 (.ptr 4 0), sI 4 .i64 r7, sI 5 .i64 r8, sI 7 .i64 r12, hO 2 5 .u8 a1, hO 3 5 .u8 a6, hB 4 41 [.int .i64 r5, .slc 3]] [(20 : Int) = (20 : Int), 0 ≤ (20 : Int) ∧ (20 : Int) ≤ (↑maxN : Int), CallOk P 39 [.v (.one (.slc 5))] [(5, .own 5 .u8 (List.replicate 20 (0 : Int)))] (.tup [.one (.slc 6), .one (.int .i64 r12)]) [(6, .frows 41 5 (0 : Int) (.rc a11))]] (by kernel_rfl) (hcons rfl (hcons (by decide) (hone ((frame_Split_ok (List.replicate 20 (0 : Int)) (a11, r12) e13).tr [(9000, .slc 5), (8900, .slc 6)] rfl (by kernel_rfl) ⟨.ownrd (e := 5) (by kernel_rfl), trivial⟩ (by kernel_rfl) (by kernel_rfl) rfl rfl)))) ?_
  refine q_k ?_
  refine tr_seq ?_
  rcases ite_split h with ⟨hb15, h⟩ | ⟨hb26, h⟩
  · rcases ite_split h with ⟨hb16, h⟩ | ⟨hb25, h⟩
    · rcases ite_split h with ⟨hb17, h⟩ | ⟨hb24, h⟩
      · rcases ite_split h with ⟨hb18, h⟩ | ⟨hb23, h⟩
        · rcases ite_split h with ⟨hb19, h⟩ | ⟨hb22, h⟩
          · rcases ite_split h with ⟨hb20, h⟩ | ⟨hb21, h⟩
            · refine tr_reg hT [(2, .dec true), (6, .dec true), (11, .dec true), (15, .dec true), (20, .dec true), (26, .dec true)] [.s 0] [sB 0 (r12 == (0 : Int))] [(r2 == (0 : Int)) = true, (r8 == (0 : Int)) = true, ((↑(List.length a1) : Int) == (9 : Int)) = true, (r7 == (9 : Int)) = true, (r5 == (2 : Int)) = true, ((strOfNums a6).data.toList == (ByteArray.mk #[120, 121]).data.toList) = true] (by kernel_rfl) (hcons hb15 (hcons hb16 (hcons hb17 (hcons hb18 (hcons hb19 (hone hb20)))))) ?_
              refine q_k ?_
              refine tr_ret ?_
              have h := Option.some.inj h
              subst h
              exact q_ret0 hT (.v (.one (.bool (r12 == (0 : Int))))) rfl (by kernel_rfl)
            · refine tr_reg hT [(2, .dec true), (6, .dec true), (11, .dec true), (15, .dec true), (20, .dec true), (26, .dec false)] [.s 0] [sB 0 false] [(r2 == (0 : Int)) = true, (r8 == (0 : Int)) = true, ((↑(List.length a1) : Int) == (9 : Int)) = true, (r7 == (9 : Int)) = true, (r5 == (2 : Int)) = true, ((strOfNums a6).data.toList == (ByteArray.mk #[120, 121]).data.toList) = false] (by kernel_rfl) (hcons hb15 (hcons hb16 (hcons hb17 (hcons hb18 (hcons hb19 (hone hb21)))))) ?_
              refine q_k ?_
              refine tr_ret ?_
              have h := Option.some.inj h
              subst h
              exact q_ret0 hT (.v (.one (.bool false))) rfl (by kernel_rfl)
          · refine tr_reg hT [(2, .dec true), (6, .dec true), (11, .dec true), (15, .dec true), (20, .dec false)] [.s 0] [sB 0 false] [(r2 == (0 : Int)) = true, (r8 == (0 : Int)) = true, ((↑(List.length a1) : Int) == (9 : Int)) = true, (r7 == (9 : Int)) = true, (r5 == (2 : Int)) = false] (by kernel_rfl) (hcons hb15 (hcons hb16 (hcons hb17 (hcons hb18 (hone hb22))))) ?_
            refine q_k ?_
            refine tr_ret ?_
            have h := Option.some.inj h
            subst h
            exact q_ret0 hT (.v (.one (.bool false))) rfl (by kernel_rfl)
        · refine tr_reg hT [(2, .dec true), (6, .dec true), (11, .dec true), (15, .dec false)] [.s 0] [sB 0 false] [(r2 == (0 : Int)) = true, (r8 == (0 : Int)) = true, ((↑(List.length a1) : Int) == (9 : Int)) = true, (r7 == (9 : Int)) = false] (by kernel_rfl) (hcons hb15 (hcons hb16 (hcons hb17 (hone hb23)))) ?_
          refine q_k ?_
          refine tr_ret ?_
          have h := Option.some.inj h
          subst h
          exact q_ret0 hT (.v (.one (.bool false))) rfl (by kernel_rfl)
      · refine tr_reg hT [(2, .dec true), (6, .dec true), (11, .dec false)] [.s 0] [sB 0 false] [(r2 == (0 : Int)) = true, (r8 == (0 : Int)) = true, ((↑(List.length a1) : Int) == (9 : Int)) = false] (by kernel_rfl) (hcons hb15 (hcons hb16 (hone hb24))) ?_
        refine q_k ?_
        refine tr_ret ?_
        have h := Option.some.inj h
        subst h
        exact q_ret0 hT (.v (.one (.bool false))) rfl (by kernel_rfl)
    · refine tr_reg hT [(2, .dec true), (6, .dec false)] [.s 0] [sB 0 false] [(r2 == (0 : Int)) = true, (r8 == (0 : Int)) = false] (by kernel_rfl) (hcons hb15 (hone hb25)) ?_
      refine q_k ?_
      refine tr_ret ?_
      have h := Option.some.inj h
      subst h
      exact q_ret0 hT (.v (.one (.bool false))) rfl (by kernel_rfl)
  · refine tr_reg hT [(2, .dec false)] [.s 0] [sB 0 false] [(r2 == (0 : Int)) = false] (by kernel_rfl) (hone hb26) ?_
    refine q_k ?_
    refine tr_ret ?_
    have h := Option.some.inj h
    subst h
    exact q_ret0 hT (.v (.one (.bool false))) rfl (by kernel_rfl)

end Go.Proofs.Sa
