/- Walks, printed by a program of this session (gowalk.py): each Go function comes to its plain function's answer. -/
import Derived.Test.YtdolipgngaljcaaSaA
import Derived.Test.YtdolipgngaljcaaSaD
import Derived.Test.YtdolipgngaljcaaGwI
namespace Go.Proofs.Sa
open Go Go.Gw D
set_option linter.unusedVariables false
set_option maxRecDepth 20000

theorem slices_Grow_byte_byte_ok (n_0 : Int) (r : List Int) (h : slices_Grow_byte_byte n_0 = some r) : CallOk P 66 [.v (.one (.nils)), .v (.one (.int .i64 n_0))] [] (.v (.one (.slc 8900))) [(8900, .own 5 .u8 r)] := by
  refine call1 (N := 27) Try.func66 (by kernel_rfl) rfl rfl rfl [] (by kernel_rfl) ?_
  intro _ B w0
  show Tr P B 27 w0 _ _ (RetQ P Try.f66 (R1 _ _ B w0))
  unfold slices_Grow_byte_byte at h
  refine tr_seq ?_
  refine tr_reg hT [] [.s 0, .s 1] [sO 0 (.nils), sI 1 .i64 n_0] [] (by kernel_rfl) trivial ?_
  refine q_k ?_
  refine tr_seq ?_
  refine tr_seq ?_
  refine tr_reg hT [] [.s 0, .s 1, .s 6] [sO 0 (.nils), sI 1 .i64 n_0, sB 6 (decide (n_0 < (0 : Int)))] [] (by kernel_rfl) trivial ?_
  refine q_k ?_
  obtain ⟨rj0, e7, h⟩ := bind_some h
  refine tr_join (σ1 := [sO 0 (.nils), sI 1 .i64 n_0]) ?_ ?_
  · rcases rj0 with _
    replace h : ((show Option (List Int) from if (decide ((IntKind.i64.wrap (n_0 - (0 : Int))) > (0 : Int))) = true then if 0 < (IntKind.i64.wrap (n_0 - (0 : Int))) ∧ (IntKind.i64.wrap (n_0 - (0 : Int))) ≤ (↑maxN : Int) then if 0 ≤ (0 : Int) ∧ (0 : Int) ≤ (↑(List.length (List.replicate (IntKind.i64.wrap (n_0 - (0 : Int))).toNat (0 : Int))) : Int) then some ((List.replicate (IntKind.i64.wrap (n_0 - (0 : Int))).toNat (0 : Int)).take (0)) else none else none else some []).bind (fun s2 => some s2)) = _ := h
    refine q_k ?_
    refine tr_seq ?_
    refine tr_seq ?_
    refine tr_reg hT [] [.s 0, .s 1] [sO 0 (.nils), sI 1 .i64 (IntKind.i64.wrap (n_0 - (0 : Int)))] [] (by kernel_rfl) trivial ?_
    refine q_k ?_
    refine tr_seq ?_
    refine tr_reg hT [] [.s 0, .s 1, .s 16] [sO 0 (.nils), sI 1 .i64 (IntKind.i64.wrap (n_0 - (0 : Int))), sB 16 (decide ((IntKind.i64.wrap (n_0 - (0 : Int))) > (0 : Int)))] [] (by kernel_rfl) trivial ?_
    refine q_k ?_
    obtain ⟨s2, e6, h⟩ := bind_some h
    refine tr_join (σ1 := [sO 0 (.slc 80), hO 80 5 .u8 s2]) ?_ ?_
    · skip
      replace h : (some s2) = _ := h
      refine q_k ?_
      refine tr_seq ?_
      refine tr_reg hT [] [.s 4, .h 80] [sO 4 (.slc 80), hO 80 5 .u8 s2] [] (by kernel_rfl) trivial ?_
      refine q_k ?_
      refine tr_ret ?_
      have h := Option.some.inj h
      subst h
      refine q_fit [(8900, .slc 80)] [sO 4 (.slc 8900), hO 8900 5 .u8 s2] [(8900, .own 5 .u8 s2)] (by kernel_rfl) (by kernel_rfl) (by kernel_rfl) rfl ⟨.own (by kernel_rfl), trivial⟩ (by kernel_rfl) ?_
      exact q_ret1 hT (.v (.one (.slc 8900))) [(8900, .own 5 .u8 s2)] (by kernel_rfl) (by kernel_rfl) (by kernel_rfl)
    · intro hj1
      clear h
      have h := e6
      clear e6
      rcases ite_split h with ⟨hc3, h⟩ | ⟨hc3, h⟩
      · refine tr_cond_t (decide ((IntKind.i64.wrap (n_0 - (0 : Int))) > (0 : Int))) (by kernel_rfl) hc3 ?_
        obtain ⟨hn4, h⟩ := ite_some h
        obtain ⟨hn5, h⟩ := ite_some h
        refine tr_reg hT [(5, .key 81), (8, .key 82)] [.s 0, .h 82] [sO 0 (.slc 82), hO 82 5 .u8 ((List.replicate (IntKind.i64.wrap (n_0 - (0 : Int))).toNat (0 : Int)).take (0))] [(0 : Int) = 0 ∧ (0 : Int) = 0, 0 < (IntKind.i64.wrap (n_0 - (0 : Int))) ∧ (IntKind.i64.wrap (n_0 - (0 : Int))) ≤ (↑maxN : Int), 0 ≤ (0 : Int) ∧ (0 : Int) ≤ (↑(List.length (List.replicate (IntKind.i64.wrap (n_0 - (0 : Int))).toNat (0 : Int))) : Int)] (by kernel_rfl) (hcons (by decide) (hcons hn4 (hone hn5))) ?_
        have h := Option.some.inj h
        subst h
        exact q_fit [(80, .slc 82)] [sO 0 (.slc 80), hO 80 5 .u8 ((List.replicate (IntKind.i64.wrap (n_0 - (0 : Int))).toNat (0 : Int)).take (0))] [(80, .own 5 .u8 ((List.replicate (IntKind.i64.wrap (n_0 - (0 : Int))).toNat (0 : Int)).take (0)))] (by kernel_rfl) (by kernel_rfl) (by kernel_rfl) rfl ⟨.own (by kernel_rfl), trivial⟩ (by kernel_rfl) hj1
      · refine tr_cond_f (decide ((IntKind.i64.wrap (n_0 - (0 : Int))) > (0 : Int))) (by kernel_rfl) hc3 ?_
        refine tr_skip ?_
        have h := Option.some.inj h
        subst h
        exact q_fit [(80, .nils)] [sO 0 (.slc 80), hO 80 5 .u8 []] [(80, .own 5 .u8 [])] (by kernel_rfl) (by kernel_rfl) (by kernel_rfl) rfl ⟨.nilown, trivial⟩ (by kernel_rfl) hj1
  · intro hj0
    clear h
    have h := e7
    clear e7
    rcases ite_split h with ⟨hc1, h⟩ | ⟨hc1, h⟩
    · refine tr_cond_t (decide (n_0 < (0 : Int))) (by kernel_rfl) hc1 ?_
      cases h
    · refine tr_cond_f (decide (n_0 < (0 : Int))) (by kernel_rfl) hc1 ?_
      refine tr_skip ?_
      have h := Option.some.inj h
      subst h
      exact q_less [.s 0, .s 1] [sO 0 (.nils), sI 1 .i64 n_0] (by kernel_rfl) hj0

theorem slices_Concat_byte_byte_ok (slices_0 : List (List Int)) (r : List Int) (h : slices_Concat_byte_byte slices_0 = some r) : CallOk P 51 [.v (.one (.slc 9000))] [(9000, .rows (.bs .u8 slices_0))] (.v (.one (.slc 8900))) [(8900, .own 5 .u8 r)] := by
  refine call1 (N := 36) Try.func51 (by kernel_rfl) rfl rfl rfl [(9000, .rows (.bs .u8 slices_0))] (by kernel_rfl) ?_
  intro _ B w0
  show Tr P B 36 w0 _ _ (RetQ P Try.f51 (R1 _ _ B w0))
  unfold slices_Concat_byte_byte at h
  refine tr_seq ?_
  refine tr_reg hT [] [.s 0, .h 9000] [sO 0 (.slc 9000), hW 9000 (.bs .u8 slices_0)] [] (by kernel_rfl) trivial ?_
  refine q_k ?_
  refine tr_seq ?_
  refine tr_reg hT [] [.s 0, .s 3, .h 9000] [sO 0 (.slc 9000), sI 3 .i64 (0 : Int), hW 9000 (.bs .u8 slices_0)] [] (by kernel_rfl) trivial ?_
  refine q_k ?_
  refine tr_seq ?_
  refine tr_seq ?_
  refine tr_reg hT [] [.s 0, .s 3, .s 9, .s 10, .s 11, .h 9000] [sO 0 (.slc 9000), sI 3 .i64 (0 : Int), sO 9 (.slc 9000), sI 10 .i64 (↑(List.length slices_0) : Int), sI 11 .i64 (0 : Int), hW 9000 (.bs .u8 slices_0)] [] (by kernel_rfl) trivial ?_
  refine q_k ?_
  refine tr_block ?_
  obtain ⟨size3, e7, h⟩ := bind_some h
  refine tr_fit [] [sO 0 (.slc 9000), sI 3 .i64 (0 : Int), sO 9 (.slc 9000), sI 10 .i64 (↑(List.length slices_0) : Int), sI 11 .i64 (0 : Int), hW 9000 (.bs .u8 slices_0)] [(9000, .rows (.bs .u8 slices_0))] (by kernel_rfl) (by kernel_rfl) (by kernel_rfl) rfl ⟨.rows (by kernel_rfl), trivial⟩ (by kernel_rfl) ?_
  refine tr_loop_fuel (id := 0) (α := Int × Int) (β := Int) (fun z => [sO 0 (.slc 9000), sI 3 .i64 z.1, sO 9 (.slc 9000), sI 10 .i64 (↑(List.length slices_0) : Int), sI 11 .i64 z.2, hW 9000 (.bs .u8 slices_0)]) (fun z => [sO 0 (.slc 9000), sI 3 .i64 z, hW 9000 (.bs .u8 slices_0)]) (fun k z => slices_Concat_byte_byte_l0 slices_0 k z.1 z.2) size3 (fun _ => rfl) (((↑(List.length slices_0) : Int) - (0 : Int)).toNat + 1) ((0 : Int), (0 : Int)) e7 ?_ ?_
  · skip
    replace h : ((slices_Grow_byte_byte size3).bind (fun a8 => (slices_Concat_byte_byte_l1 slices_0 (((↑(List.length slices_0) : Int) - (0 : Int)).toNat + 1) a8 (0 : Int)).bind (fun newslice12 => some newslice12))) = _ := h
    refine q_b_this ?_
    refine q_k ?_
    refine tr_seq ?_
    obtain ⟨a8, e9, h⟩ := bind_some h
    refine tr_reg hT [(1, .call [] (.v (.one (.slc 1))) [(1, .own 5 .u8 a8)])] [.s 0, .s 6, .h 1, .h 9000] [sO 0 (.slc 9000), sO 6 (.slc 1), hO 1 5 .u8 a8, hW 9000 (.bs .u8 slices_0)] [CallOk P 66 [.v (.one (.nils)), .v (.one (.int .i64 size3))] [] (.v (.one (.slc 1))) [(1, .own 5 .u8 a8)]] (by kernel_rfl) (hone ((slices_Grow_byte_byte_ok size3 a8 e9).tr [(8900, .slc 1)] rfl (by kernel_rfl) trivial (by kernel_rfl) (by kernel_rfl) rfl rfl)) ?_
    refine q_k ?_
    refine tr_seq ?_
    refine tr_seq ?_
    refine tr_reg hT [] [.s 6, .s 25, .s 26, .s 27, .h 1, .h 9000] [sO 6 (.slc 1), sO 25 (.slc 9000), sI 26 .i64 (↑(List.length slices_0) : Int), sI 27 .i64 (0 : Int), hO 1 5 .u8 a8, hW 9000 (.bs .u8 slices_0)] [] (by kernel_rfl) trivial ?_
    refine q_k ?_
    refine tr_block ?_
    obtain ⟨newslice12, e16, h⟩ := bind_some h
    refine tr_fit [(2, .slc 1)] [sO 6 (.slc 2), sO 25 (.slc 9000), sI 26 .i64 (↑(List.length slices_0) : Int), sI 27 .i64 (0 : Int), hO 2 5 .u8 a8, hW 9000 (.bs .u8 slices_0)] [(2, .own 5 .u8 a8), (9000, .rows (.bs .u8 slices_0))] (by kernel_rfl) (by kernel_rfl) (by kernel_rfl) rfl ⟨.own (by kernel_rfl), .rows (by kernel_rfl), trivial⟩ (by kernel_rfl) ?_
    refine tr_loop_fuel (id := 2) (α := List Int × Int) (β := List Int) (fun z => [sO 6 (.slc 2), sO 25 (.slc 9000), sI 26 .i64 (↑(List.length slices_0) : Int), sI 27 .i64 z.2, hO 2 5 .u8 z.1, hW 9000 (.bs .u8 slices_0)]) (fun z => [sO 6 (.slc 3), hO 3 5 .u8 z]) (fun k z => slices_Concat_byte_byte_l1 slices_0 k z.1 z.2) newslice12 (fun _ => rfl) (((↑(List.length slices_0) : Int) - (0 : Int)).toNat + 1) (a8, (0 : Int)) e16 ?_ ?_
    · skip
      replace h : (some newslice12) = _ := h
      refine q_b_this ?_
      refine q_k ?_
      refine tr_seq ?_
      refine tr_reg hT [] [.s 2, .h 3] [sO 2 (.slc 3), hO 3 5 .u8 newslice12] [] (by kernel_rfl) trivial ?_
      refine q_k ?_
      refine tr_ret ?_
      have h := Option.some.inj h
      subst h
      refine q_fit [(8900, .slc 3)] [sO 2 (.slc 8900), hO 8900 5 .u8 newslice12] [(8900, .own 5 .u8 newslice12)] (by kernel_rfl) (by kernel_rfl) (by kernel_rfl) rfl ⟨.own (by kernel_rfl), trivial⟩ (by kernel_rfl) ?_
      exact q_ret1 hT (.v (.one (.slc 8900))) [(8900, .own 5 .u8 newslice12)] (by kernel_rfl) (by kernel_rfl) (by kernel_rfl)
    · clear h e16
      intro k ih1 hx1 z h
      obtain ⟨newslice10, x11⟩ := z
      replace h : (if (decide (x11 < (↑(List.length slices_0) : Int))) = true then if 0 ≤ x11 ∧ x11 < ↑(List.length slices_0) then if List.length (newslice10 ++ (slices_0.getD x11.toNat [])) ≤ maxN then slices_Concat_byte_byte_l1 slices_0 k (newslice10 ++ (slices_0.getD x11.toNat [])) (IntKind.i64.wrap (x11 + (1 : Int))) else none else none else some newslice10) = _ := h
      refine tr_seq ?_
      refine tr_reg hT [] [.s 6, .s 25, .s 26, .s 27, .s 28, .h 2, .h 9000] [sO 6 (.slc 2), sO 25 (.slc 9000), sI 26 .i64 (↑(List.length slices_0) : Int), sI 27 .i64 x11, sB 28 (decide (x11 < (↑(List.length slices_0) : Int))), hO 2 5 .u8 newslice10, hW 9000 (.bs .u8 slices_0)] [] (by kernel_rfl) trivial ?_
      refine q_k ?_
      refine tr_seq ?_
      rcases ite_split h with ⟨hc13, h⟩ | ⟨hc13, h⟩
      · refine tr_cond_t (decide (x11 < (↑(List.length slices_0) : Int))) (by kernel_rfl) hc13 ?_
        refine tr_skip ?_
        refine q_k ?_
        refine tr_seq ?_
        refine tr_block ?_
        refine tr_seq ?_
        obtain ⟨hn14, h⟩ := ite_some h
        refine tr_reg hT [(1, .key 4)] [.s 6, .s 8, .s 25, .s 26, .s 27, .h 2, .h 4, .h 9000] [sO 6 (.slc 2), sO 8 (.slc 4), sO 25 (.slc 9000), sI 26 .i64 (↑(List.length slices_0) : Int), sI 27 .i64 x11, hO 2 5 .u8 newslice10, hR 4 .u8 (slices_0.getD x11.toNat []), hW 9000 (.bs .u8 slices_0)] [0 ≤ x11 ∧ x11 < ↑(List.length slices_0), x11 < ↑(List.length slices_0)] (by kernel_rfl) (hcons hn14 (hone hn14.2)) ?_
        refine q_k ?_
        obtain ⟨hn15, h⟩ := ite_some h
        refine tr_reg hT [(2, .key 5)] [.s 6, .s 25, .s 26, .s 27, .h 5, .h 9000] [sO 6 (.slc 5), sO 25 (.slc 9000), sI 26 .i64 (↑(List.length slices_0) : Int), sI 27 .i64 x11, hO 5 5 .u8 (newslice10 ++ (slices_0.getD x11.toNat [])), hW 9000 (.bs .u8 slices_0)] [List.length (newslice10 ++ (slices_0.getD x11.toNat [])) ≤ maxN] (by kernel_rfl) (hone hn15) ?_
        refine q_b 3 ?_
        refine q_k ?_
        refine tr_reg hT [] [.s 6, .s 25, .s 26, .s 27, .h 5, .h 9000] [sO 6 (.slc 5), sO 25 (.slc 9000), sI 26 .i64 (↑(List.length slices_0) : Int), sI 27 .i64 (IntKind.i64.wrap (x11 + (1 : Int))), hO 5 5 .u8 (newslice10 ++ (slices_0.getD x11.toNat [])), hW 9000 (.bs .u8 slices_0)] [] (by kernel_rfl) trivial ?_
        refine q_kr ?_
        exact trR_fit [(2, .slc 5)] [sO 6 (.slc 2), sO 25 (.slc 9000), sI 26 .i64 (↑(List.length slices_0) : Int), sI 27 .i64 (IntKind.i64.wrap (x11 + (1 : Int))), hO 2 5 .u8 (newslice10 ++ (slices_0.getD x11.toNat [])), hW 9000 (.bs .u8 slices_0)] [(2, .own 5 .u8 (newslice10 ++ (slices_0.getD x11.toNat []))), (9000, .rows (.bs .u8 slices_0))] (by kernel_rfl) (by kernel_rfl) (by kernel_rfl) rfl ⟨.own (by kernel_rfl), .rows (by kernel_rfl), trivial⟩ (by kernel_rfl) (ih1 ((newslice10 ++ (slices_0.getD x11.toNat [])), (IntKind.i64.wrap (x11 + (1 : Int)))) h)
      · refine tr_cond_f (decide (x11 < (↑(List.length slices_0) : Int))) (by kernel_rfl) hc13 ?_
        refine tr_exit ?_
        refine q_k_exit ?_
        refine q_kr_exit ?_
        have h := Option.some.inj h
        subst h
        exact q_fit [(3, .slc 2)] [sO 6 (.slc 3), hO 3 5 .u8 newslice10] [(3, .own 5 .u8 newslice10)] (by kernel_rfl) (by kernel_rfl) (by kernel_rfl) rfl ⟨.own (by kernel_rfl), trivial⟩ (by kernel_rfl) hx1
  · clear h e7
    intro k ih0 hx0 z h
    obtain ⟨size1, x2⟩ := z
    replace h : (if (decide (x2 < (↑(List.length slices_0) : Int))) = true then if 0 ≤ x2 ∧ x2 < ↑(List.length slices_0) then if (decide ((IntKind.i64.wrap (size1 + (↑(List.length (slices_0.getD x2.toNat [])) : Int))) < (0 : Int))) = true then none else slices_Concat_byte_byte_l0 slices_0 k (IntKind.i64.wrap (size1 + (↑(List.length (slices_0.getD x2.toNat [])) : Int))) (IntKind.i64.wrap (x2 + (1 : Int))) else none else some size1) = _ := h
    refine tr_seq ?_
    refine tr_reg hT [] [.s 0, .s 3, .s 9, .s 10, .s 11, .s 12, .h 9000] [sO 0 (.slc 9000), sI 3 .i64 size1, sO 9 (.slc 9000), sI 10 .i64 (↑(List.length slices_0) : Int), sI 11 .i64 x2, sB 12 (decide (x2 < (↑(List.length slices_0) : Int))), hW 9000 (.bs .u8 slices_0)] [] (by kernel_rfl) trivial ?_
    refine q_k ?_
    refine tr_seq ?_
    rcases ite_split h with ⟨hc4, h⟩ | ⟨hc4, h⟩
    · refine tr_cond_t (decide (x2 < (↑(List.length slices_0) : Int))) (by kernel_rfl) hc4 ?_
      refine tr_skip ?_
      refine q_k ?_
      refine tr_seq ?_
      refine tr_block ?_
      refine tr_seq ?_
      obtain ⟨hn5, h⟩ := ite_some h
      refine tr_reg hT [(1, .key 0)] [.s 0, .s 3, .s 5, .s 9, .s 10, .s 11, .h 0, .h 9000] [sO 0 (.slc 9000), sI 3 .i64 size1, sO 5 (.slc 0), sO 9 (.slc 9000), sI 10 .i64 (↑(List.length slices_0) : Int), sI 11 .i64 x2, hR 0 .u8 (slices_0.getD x2.toNat []), hW 9000 (.bs .u8 slices_0)] [0 ≤ x2 ∧ x2 < ↑(List.length slices_0), x2 < ↑(List.length slices_0)] (by kernel_rfl) (hcons hn5 (hone hn5.2)) ?_
      refine q_k ?_
      refine tr_seq ?_
      refine tr_reg hT [] [.s 0, .s 3, .s 9, .s 10, .s 11, .h 9000] [sO 0 (.slc 9000), sI 3 .i64 (IntKind.i64.wrap (size1 + (↑(List.length (slices_0.getD x2.toNat [])) : Int))), sO 9 (.slc 9000), sI 10 .i64 (↑(List.length slices_0) : Int), sI 11 .i64 x2, hW 9000 (.bs .u8 slices_0)] [] (by kernel_rfl) trivial ?_
      refine q_k ?_
      refine tr_seq ?_
      refine tr_reg hT [] [.s 0, .s 3, .s 9, .s 10, .s 11, .s 20, .h 9000] [sO 0 (.slc 9000), sI 3 .i64 (IntKind.i64.wrap (size1 + (↑(List.length (slices_0.getD x2.toNat [])) : Int))), sO 9 (.slc 9000), sI 10 .i64 (↑(List.length slices_0) : Int), sI 11 .i64 x2, sB 20 (decide ((IntKind.i64.wrap (size1 + (↑(List.length (slices_0.getD x2.toNat [])) : Int))) < (0 : Int))), hW 9000 (.bs .u8 slices_0)] [] (by kernel_rfl) trivial ?_
      refine q_k ?_
      rcases ite_split h with ⟨hc6, h⟩ | ⟨hc6, h⟩
      · refine tr_cond_t (decide ((IntKind.i64.wrap (size1 + (↑(List.length (slices_0.getD x2.toNat [])) : Int))) < (0 : Int))) (by kernel_rfl) hc6 ?_
        cases h
      · refine tr_cond_f (decide ((IntKind.i64.wrap (size1 + (↑(List.length (slices_0.getD x2.toNat [])) : Int))) < (0 : Int))) (by kernel_rfl) hc6 ?_
        refine tr_skip ?_
        refine q_b 1 ?_
        refine q_k ?_
        refine tr_reg hT [] [.s 0, .s 3, .s 9, .s 10, .s 11, .h 9000] [sO 0 (.slc 9000), sI 3 .i64 (IntKind.i64.wrap (size1 + (↑(List.length (slices_0.getD x2.toNat [])) : Int))), sO 9 (.slc 9000), sI 10 .i64 (↑(List.length slices_0) : Int), sI 11 .i64 (IntKind.i64.wrap (x2 + (1 : Int))), hW 9000 (.bs .u8 slices_0)] [] (by kernel_rfl) trivial ?_
        refine q_kr ?_
        exact trR_less [.s 0, .s 3, .s 9, .s 10, .s 11, .h 9000] [sO 0 (.slc 9000), sI 3 .i64 (IntKind.i64.wrap (size1 + (↑(List.length (slices_0.getD x2.toNat [])) : Int))), sO 9 (.slc 9000), sI 10 .i64 (↑(List.length slices_0) : Int), sI 11 .i64 (IntKind.i64.wrap (x2 + (1 : Int))), hW 9000 (.bs .u8 slices_0)] (by kernel_rfl) (ih0 ((IntKind.i64.wrap (size1 + (↑(List.length (slices_0.getD x2.toNat [])) : Int))), (IntKind.i64.wrap (x2 + (1 : Int)))) h)
    · refine tr_cond_f (decide (x2 < (↑(List.length slices_0) : Int))) (by kernel_rfl) hc4 ?_
      refine tr_exit ?_
      refine q_k_exit ?_
      refine q_kr_exit ?_
      have h := Option.some.inj h
      subst h
      exact q_less [.s 0, .s 3, .h 9000] [sO 0 (.slc 9000), sI 3 .i64 size1, hW 9000 (.bs .u8 slices_0)] (by kernel_rfl) hx0

theorem slices_Clone_byte_byte_n_ok (r : List Int) (h : slices_Clone_byte_byte_n = some r) : CallOk P 58 [.v (.one (.nils))] [] (.v (.one (.slc 8900))) [(8900, .own 5 .u8 r)] := by
  refine call1 (N := 8) Try.func58 (by kernel_rfl) rfl rfl rfl [] (by kernel_rfl) ?_
  intro _ B w0
  show Tr P B 8 w0 _ _ (RetQ P Try.f58 (R1 _ _ B w0))
  unfold slices_Clone_byte_byte_n at h
  refine tr_seq ?_
  refine tr_reg hT [] [.s 0] [sO 0 (.nils)] [] (by kernel_rfl) trivial ?_
  refine q_k ?_
  refine tr_seq ?_
  refine tr_seq ?_
  refine tr_reg hT [] [.s 0, .s 4] [sO 0 (.nils), sB 4 true] [] (by kernel_rfl) trivial ?_
  refine q_k ?_
  refine tr_cond_t true (by kernel_rfl) rfl ?_
  refine tr_seq ?_
  refine tr_reg hT [] [.s 2] [sO 2 (.nils)] [] (by kernel_rfl) trivial ?_
  refine q_k ?_
  refine tr_ret ?_
  refine q_k_ret ?_
  have h := Option.some.inj h
  subst h
  refine q_fit [(8900, .nils)] [sO 2 (.slc 8900), hO 8900 5 .u8 []] [(8900, .own 5 .u8 [])] (by kernel_rfl) (by kernel_rfl) (by kernel_rfl) rfl ⟨.nilown, trivial⟩ (by kernel_rfl) ?_
  exact q_ret1 hT (.v (.one (.slc 8900))) [(8900, .own 5 .u8 [])] (by kernel_rfl) (by kernel_rfl) (by kernel_rfl)

theorem slices_Clone_byte_byte_x_ok (s_0 : List Int) (r : List Int) (h : slices_Clone_byte_byte_x s_0 = some r) : CallOk P 58 [.v (.one (.slc 9000))] [(9000, .rdx .u8 s_0)] (.v (.one (.slc 8900))) [(8900, .own 5 .u8 r)] := by
  refine call1 (N := 8) Try.func58 (by kernel_rfl) rfl rfl rfl [(9000, .rdx .u8 s_0)] (by kernel_rfl) ?_
  intro _ B w0
  show Tr P B 8 w0 _ _ (RetQ P Try.f58 (R1 _ _ B w0))
  unfold slices_Clone_byte_byte_x at h
  refine tr_seq ?_
  refine tr_reg hT [] [.s 0, .h 9000] [sO 0 (.slc 9000), hX 9000 .u8 s_0] [] (by kernel_rfl) trivial ?_
  refine q_k ?_
  refine tr_seq ?_
  refine tr_seq ?_
  refine tr_reg hT [] [.s 0, .s 4, .h 9000] [sO 0 (.slc 9000), sB 4 false, hX 9000 .u8 s_0] [] (by kernel_rfl) trivial ?_
  refine q_k ?_
  refine tr_cond_f false (by kernel_rfl) rfl ?_
  refine tr_skip ?_
  refine q_k ?_
  refine tr_seq ?_
  obtain ⟨hn1, h⟩ := ite_some h
  refine tr_reg hT [(0, .key 0), (2, .key 1)] [.s 2, .h 1] [sO 2 (.slc 1), hO 1 5 .u8 ([] ++ s_0)] [List.length ([] ++ s_0) ≤ maxN] (by kernel_rfl) (hone hn1) ?_
  refine q_k ?_
  refine tr_ret ?_
  have h := Option.some.inj h
  subst h
  refine q_fit [(8900, .slc 1)] [sO 2 (.slc 8900), hO 8900 5 .u8 ([] ++ s_0)] [(8900, .own 5 .u8 ([] ++ s_0))] (by kernel_rfl) (by kernel_rfl) (by kernel_rfl) rfl ⟨.own (by kernel_rfl), trivial⟩ (by kernel_rfl) ?_
  exact q_ret1 hT (.v (.one (.slc 8900))) [(8900, .own 5 .u8 ([] ++ s_0))] (by kernel_rfl) (by kernel_rfl) (by kernel_rfl)

theorem slices_Clone_byte_byte_ok (s r : List Int) (h : slices_Clone_byte_byte s = some r) : CallOk P 58 [.v (.one (.slc 9000))] [(9000, .rd .u8 s)] (.v (.one (.slc 8900))) [(8900, .own 5 .u8 r)] :=
  nil_or (fun e => by subst e; exact slices_Clone_byte_byte_n_ok r (by rw [← h]; kernel_rfl)) (slices_Clone_byte_byte_x_ok s r h) (by rfl)

theorem wide_number_ok (b_0 : List Int) (x_1 : Int) (r : List Int) (h : wide_number b_0 x_1 = some r) : CallOk P 65 [.v (.one (.slc 9000)), .v (.one (.int .u64 x_1))] [(9000, .own 5 .u8 b_0)] (.v (.one (.slc 8900))) [(8900, .own 5 .u8 r), (9000, .dead)] := by
  refine call1 (N := 19) Try.func65 (by kernel_rfl) rfl rfl rfl [(9000, .own 5 .u8 b_0)] (by kernel_rfl) ?_
  intro _ B w0
  show Tr P B 19 w0 _ _ (RetQ P Try.f65 (R1 _ _ B w0))
  unfold wide_number at h
  refine tr_seq ?_
  refine tr_reg hT [] [.s 0, .s 1, .h 9000] [sO 0 (.slc 9000), sI 1 .u64 x_1, hO 9000 5 .u8 b_0] [] (by kernel_rfl) trivial ?_
  refine q_k ?_
  refine tr_seq ?_
  refine tr_seq ?_
  refine tr_reg hT [] [.s 0, .s 1, .s 5, .h 9000] [sO 0 (.slc 9000), sI 1 .u64 x_1, sI 5 .i64 (7 : Int), hO 9000 5 .u8 b_0] [] (by kernel_rfl) trivial ?_
  refine q_k ?_
  refine tr_block ?_
  obtain ⟨b3, e7, h⟩ := bind_some h
  refine tr_fit [(0, .slc 9000)] [sO 0 (.slc 0), sI 1 .u64 x_1, sI 5 .i64 (7 : Int), hO 0 5 .u8 b_0] [(0, .own 5 .u8 b_0)] (by kernel_rfl) (by kernel_rfl) (by kernel_rfl) rfl ⟨.own (by kernel_rfl), trivial⟩ (by kernel_rfl) ?_
  refine tr_loop_fuel (id := 0) (α := List Int × Int) (β := List Int) (fun z => [sO 0 (.slc 0), sI 1 .u64 x_1, sI 5 .i64 z.2, hO 0 5 .u8 z.1]) (fun z => [sO 0 (.slc 1), hO 1 5 .u8 z]) (fun k z => wide_number_l0 x_1 k z.1 z.2) b3 (fun _ => rfl) (((7 : Int) - (0 : Int) + 1).toNat + 1) (b_0, (7 : Int)) e7 ?_ ?_
  · skip
    replace h : (some b3) = _ := h
    refine q_b_this ?_
    refine q_k ?_
    refine tr_seq ?_
    refine tr_reg hT [] [.s 4, .h 1] [sO 4 (.slc 1), hO 1 5 .u8 b3] [] (by kernel_rfl) trivial ?_
    refine q_k ?_
    refine tr_ret ?_
    have h := Option.some.inj h
    subst h
    refine q_fit [(8900, .slc 1)] [sO 4 (.slc 8900), hO 8900 5 .u8 b3, hD 9000] [(8900, .own 5 .u8 b3), (9000, .dead)] (by kernel_rfl) (by kernel_rfl) (by kernel_rfl) rfl ⟨.own (by kernel_rfl), .dead, trivial⟩ (by kernel_rfl) ?_
    exact q_ret1 hT (.v (.one (.slc 8900))) [(8900, .own 5 .u8 b3), (9000, .dead)] (by kernel_rfl) (by kernel_rfl) (by kernel_rfl)
  · clear h e7
    intro k ih0 hx0 z h
    obtain ⟨b1, k2⟩ := z
    replace h : (if (decide (k2 ≥ (0 : Int))) = true then if 0 ≤ (IntKind.i64.wrap ((8 : Int) * k2)) then if List.length (b1 ++ [(IntKind.u8.wrap (shr .u64 x_1 (IntKind.i64.wrap ((8 : Int) * k2))))]) ≤ maxN then wide_number_l0 x_1 k (b1 ++ [(IntKind.u8.wrap (shr .u64 x_1 (IntKind.i64.wrap ((8 : Int) * k2))))]) (IntKind.i64.wrap (k2 - (1 : Int))) else none else none else some b1) = _ := h
    refine tr_seq ?_
    refine tr_seq ?_
    refine tr_reg hT [] [.s 0, .s 1, .s 5, .s 7, .h 0] [sO 0 (.slc 0), sI 1 .u64 x_1, sI 5 .i64 k2, sB 7 (decide (k2 ≥ (0 : Int))), hO 0 5 .u8 b1] [] (by kernel_rfl) trivial ?_
    refine q_k ?_
    rcases ite_split h with ⟨hc4, h⟩ | ⟨hc4, h⟩
    · refine tr_cond_t (decide (k2 ≥ (0 : Int))) (by kernel_rfl) hc4 ?_
      refine tr_skip ?_
      refine q_k ?_
      refine tr_seq ?_
      refine tr_block ?_
      obtain ⟨hn5, h⟩ := ite_some h
      obtain ⟨hn6, h⟩ := ite_some h
      refine tr_reg hT [(6, .key 2), (7, .key 3)] [.s 0, .s 1, .s 5, .h 3] [sO 0 (.slc 3), sI 1 .u64 x_1, sI 5 .i64 k2, hO 3 5 .u8 (b1 ++ [(IntKind.u8.wrap (shr .u64 x_1 (IntKind.i64.wrap ((8 : Int) * k2))))])] [0 ≤ (IntKind.i64.wrap ((8 : Int) * k2)), List.length (b1 ++ [(IntKind.u8.wrap (shr .u64 x_1 (IntKind.i64.wrap ((8 : Int) * k2))))]) ≤ maxN] (by kernel_rfl) (hcons hn5 (hone hn6)) ?_
      refine q_b 1 ?_
      refine q_k ?_
      refine tr_reg hT [] [.s 0, .s 1, .s 5, .h 3] [sO 0 (.slc 3), sI 1 .u64 x_1, sI 5 .i64 (IntKind.i64.wrap (k2 - (1 : Int))), hO 3 5 .u8 (b1 ++ [(IntKind.u8.wrap (shr .u64 x_1 (IntKind.i64.wrap ((8 : Int) * k2))))])] [] (by kernel_rfl) trivial ?_
      refine q_kr ?_
      exact trR_fit [(0, .slc 3)] [sO 0 (.slc 0), sI 1 .u64 x_1, sI 5 .i64 (IntKind.i64.wrap (k2 - (1 : Int))), hO 0 5 .u8 (b1 ++ [(IntKind.u8.wrap (shr .u64 x_1 (IntKind.i64.wrap ((8 : Int) * k2))))])] [(0, .own 5 .u8 (b1 ++ [(IntKind.u8.wrap (shr .u64 x_1 (IntKind.i64.wrap ((8 : Int) * k2))))]))] (by kernel_rfl) (by kernel_rfl) (by kernel_rfl) rfl ⟨.own (by kernel_rfl), trivial⟩ (by kernel_rfl) (ih0 ((b1 ++ [(IntKind.u8.wrap (shr .u64 x_1 (IntKind.i64.wrap ((8 : Int) * k2))))]), (IntKind.i64.wrap (k2 - (1 : Int)))) h)
    · refine tr_cond_f (decide (k2 ≥ (0 : Int))) (by kernel_rfl) hc4 ?_
      refine tr_exit ?_
      refine q_k_exit ?_
      refine q_kr_exit ?_
      have h := Option.some.inj h
      subst h
      exact q_fit [(1, .slc 0)] [sO 0 (.slc 1), hO 1 5 .u8 b1] [(1, .own 5 .u8 b1)] (by kernel_rfl) (by kernel_rfl) (by kernel_rfl) rfl ⟨.own (by kernel_rfl), trivial⟩ (by kernel_rfl) hx0

theorem wide_padded_ok (b_0 : List Int) (r : List Int) (h : wide_padded b_0 = some r) : CallOk P 50 [.v (.one (.slc 9000))] [(9000, .rd .u8 b_0)] (.v (.one (.slc 8900))) [(8900, .own 5 .u8 r)] := by
  refine call1 (N := 26) Try.func50 (by kernel_rfl) rfl rfl rfl [(9000, .rd .u8 b_0)] (by kernel_rfl) ?_
  intro _ B w0
  show Tr P B 26 w0 _ _ (RetQ P Try.f50 (R1 _ _ B w0))
  unfold wide_padded at h
  refine tr_seq ?_
  refine tr_reg hT [] [.s 0, .h 9000] [sO 0 (.slc 9000), hR 9000 .u8 b_0] [] (by kernel_rfl) trivial ?_
  refine q_k ?_
  refine tr_seq ?_
  refine tr_reg hT [] [.s 0, .s 3, .h 9000] [sO 0 (.slc 9000), sI 3 .u64 (IntKind.u64.wrap (↑(List.length b_0) : Int)), hR 9000 .u8 b_0] [] (by kernel_rfl) trivial ?_
  refine q_k ?_
  refine tr_seq ?_
  obtain ⟨a1, e2, h⟩ := bind_some h
  obtain ⟨hn3, h⟩ := ite_some h
  refine tr_reg hT [(1, .call [9000] (.v (.one (.slc 0))) [(0, .own 5 .u8 a1)]), (2, .key 1), (3, .key 2)] [.s 3, .s 4, .h 2] [sI 3 .u64 (IntKind.u64.wrap (↑(List.length b_0) : Int)), sO 4 (.slc 2), hO 2 5 .u8 (a1 ++ [(128 : Int)])] [CallOk P 58 [.v (.one (.slc 9000))] [(9000, .rd .u8 b_0)] (.v (.one (.slc 0))) [(0, .own 5 .u8 a1)], List.length (a1 ++ [(128 : Int)]) ≤ maxN] (by kernel_rfl) (hcons ((slices_Clone_byte_byte_ok b_0 a1 e2).tr [(9000, .slc 9000), (8900, .slc 0)] rfl (by kernel_rfl) ⟨.rd (by kernel_rfl), trivial⟩ (by kernel_rfl) (by kernel_rfl) rfl rfl) (hone hn3)) ?_
  refine q_k ?_
  refine tr_seq ?_
  refine tr_block ?_
  obtain ⟨out5, e8, h⟩ := bind_some h
  refine tr_fit [(3, .slc 2)] [sI 3 .u64 (IntKind.u64.wrap (↑(List.length b_0) : Int)), sO 4 (.slc 3), hO 3 5 .u8 (a1 ++ [(128 : Int)])] [(3, .own 5 .u8 (a1 ++ [(128 : Int)]))] (by kernel_rfl) (by kernel_rfl) (by kernel_rfl) rfl ⟨.own (by kernel_rfl), trivial⟩ (by kernel_rfl) ?_
  refine tr_loop_fuel (id := 0) (α := List Int) (β := List Int) (fun z => [sI 3 .u64 (IntKind.u64.wrap (↑(List.length b_0) : Int)), sO 4 (.slc 3), hO 3 5 .u8 z]) (fun z => [sI 3 .u64 (IntKind.u64.wrap (↑(List.length b_0) : Int)), sO 4 (.slc 4), hO 4 5 .u8 z]) (fun k z => wide_padded_l0 b_0 k z) out5 (fun _ => rfl) (130) (a1 ++ [(128 : Int)]) e8 ?_ ?_
  · skip
    replace h : ((wide_number out5 (shr .u64 (IntKind.u64.wrap (↑(List.length b_0) : Int)) (61 : Int))).bind (fun a9 => (wide_number a9 (shl .u64 (IntKind.u64.wrap (↑(List.length b_0) : Int)) (3 : Int))).bind (fun a11 => some a11))) = _ := h
    refine q_b_this ?_
    refine q_k ?_
    refine tr_seq ?_
    obtain ⟨a9, e10, h⟩ := bind_some h
    obtain ⟨a11, e12, h⟩ := bind_some h
    refine tr_reg hT [(3, .call [4] (.v (.one (.slc 7))) [(7, .own 5 .u8 a9), (4, .dead)]), (6, .call [7] (.v (.one (.slc 8))) [(8, .own 5 .u8 a11), (7, .dead)])] [.s 2, .h 8] [sO 2 (.slc 8), hO 8 5 .u8 a11] [0 ≤ (61 : Int), CallOk P 65 [.v (.one (.slc 4)), .v (.one (.int .u64 (shr .u64 (IntKind.u64.wrap (↑(List.length b_0) : Int)) (61 : Int))))] [(4, .own 5 .u8 out5)] (.v (.one (.slc 7))) [(7, .own 5 .u8 a9), (4, .dead)], 0 ≤ (3 : Int), CallOk P 65 [.v (.one (.slc 7)), .v (.one (.int .u64 (shl .u64 (IntKind.u64.wrap (↑(List.length b_0) : Int)) (3 : Int))))] [(7, .own 5 .u8 a9)] (.v (.one (.slc 8))) [(8, .own 5 .u8 a11), (7, .dead)]] (by kernel_rfl) (hcons (by decide) (hcons ((wide_number_ok out5 (shr .u64 (IntKind.u64.wrap (↑(List.length b_0) : Int)) (61 : Int)) a9 e10).tr [(9000, .slc 4), (8900, .slc 7)] rfl (by kernel_rfl) ⟨.own (by kernel_rfl), trivial⟩ (by kernel_rfl) (by kernel_rfl) rfl rfl) (hcons (by decide) (hone ((wide_number_ok a9 (shl .u64 (IntKind.u64.wrap (↑(List.length b_0) : Int)) (3 : Int)) a11 e12).tr [(9000, .slc 7), (8900, .slc 8)] rfl (by kernel_rfl) ⟨.own (by kernel_rfl), trivial⟩ (by kernel_rfl) (by kernel_rfl) rfl rfl))))) ?_
    refine q_k ?_
    refine tr_ret ?_
    have h := Option.some.inj h
    subst h
    refine q_fit [(8900, .slc 8)] [sO 2 (.slc 8900), hO 8900 5 .u8 a11] [(8900, .own 5 .u8 a11)] (by kernel_rfl) (by kernel_rfl) (by kernel_rfl) rfl ⟨.own (by kernel_rfl), trivial⟩ (by kernel_rfl) ?_
    exact q_ret1 hT (.v (.one (.slc 8900))) [(8900, .own 5 .u8 a11)] (by kernel_rfl) (by kernel_rfl) (by kernel_rfl)
  · clear h e8
    intro k ih0 hx0 out4 h
    replace h : (if (((↑(List.length out4) : Int).tmod (128 : Int)) != (112 : Int)) = true then if List.length (out4 ++ [(0 : Int)]) ≤ maxN then wide_padded_l0 b_0 k (out4 ++ [(0 : Int)]) else none else some out4) = _ := h
    refine tr_seq ?_
    refine tr_seq ?_
    refine tr_reg hT [] [.s 3, .s 4, .s 15, .h 3] [sI 3 .u64 (IntKind.u64.wrap (↑(List.length b_0) : Int)), sO 4 (.slc 3), sB 15 (((↑(List.length out4) : Int).tmod (128 : Int)) != (112 : Int)), hO 3 5 .u8 out4] [(128 : Int) ≠ 0] (by kernel_rfl) (hone (by decide)) ?_
    refine q_k ?_
    rcases ite_split h with ⟨hc6, h⟩ | ⟨hc6, h⟩
    · refine tr_cond_t (((↑(List.length out4) : Int).tmod (128 : Int)) != (112 : Int)) (by kernel_rfl) hc6 ?_
      refine tr_skip ?_
      refine q_k ?_
      refine tr_block ?_
      obtain ⟨hn7, h⟩ := ite_some h
      refine tr_reg hT [(1, .key 5), (2, .key 6)] [.s 3, .s 4, .h 6] [sI 3 .u64 (IntKind.u64.wrap (↑(List.length b_0) : Int)), sO 4 (.slc 6), hO 6 5 .u8 (out4 ++ [(0 : Int)])] [List.length (out4 ++ [(0 : Int)]) ≤ maxN] (by kernel_rfl) (hone hn7) ?_
      refine q_b 1 ?_
      refine q_kr ?_
      exact trR_fit [(3, .slc 6)] [sI 3 .u64 (IntKind.u64.wrap (↑(List.length b_0) : Int)), sO 4 (.slc 3), hO 3 5 .u8 (out4 ++ [(0 : Int)])] [(3, .own 5 .u8 (out4 ++ [(0 : Int)]))] (by kernel_rfl) (by kernel_rfl) (by kernel_rfl) rfl ⟨.own (by kernel_rfl), trivial⟩ (by kernel_rfl) (ih0 (out4 ++ [(0 : Int)]) h)
    · refine tr_cond_f (((↑(List.length out4) : Int).tmod (128 : Int)) != (112 : Int)) (by kernel_rfl) hc6 ?_
      refine tr_exit ?_
      refine q_k_exit ?_
      refine q_kr_exit ?_
      have h := Option.some.inj h
      subst h
      exact q_fit [(4, .slc 3)] [sI 3 .u64 (IntKind.u64.wrap (↑(List.length b_0) : Int)), sO 4 (.slc 4), hO 4 5 .u8 out4] [(4, .own 5 .u8 out4)] (by kernel_rfl) (by kernel_rfl) (by kernel_rfl) rfl ⟨.own (by kernel_rfl), trivial⟩ (by kernel_rfl) hx0

theorem wide_rounds_ok (r : List Int) (h : wide_rounds = some r) : CallOk P 67 [] [] (.v (.one (.slc 8900))) [(8900, .own 72 .u64 r)] := by
  refine call1 (N := 2) Try.func67 (by kernel_rfl) rfl rfl rfl [] (by kernel_rfl) ?_
  intro _ B w0
  show Tr P B 2 w0 _ _ (RetQ P Try.f67 (R1 _ _ B w0))
  unfold wide_rounds at h
  refine tr_seq ?_
  refine tr_reg hT [] [] [] [] (by kernel_rfl) trivial ?_
  refine q_k ?_
  refine tr_seq ?_
  refine tr_reg hT [(0, .key 0)] [.s 0, .h 0] [sO 0 (.slc 0), hO 0 72 .u64 [(4794697086780616226 : Int), (8158064640168781261 : Int), (13096744586834688815 : Int), (16840607885511220156 : Int), (4131703408338449720 : Int), (6480981068601479193 : Int), (10538285296894168987 : Int), (12329834152419229976 : Int), (15566598209576043074 : Int), (1334009975649890238 : Int), (2608012711638119052 : Int), (6128411473006802146 : Int), (8268148722764581231 : Int), (9286055187155687089 : Int), (11230858885718282805 : Int), (13951009754708518548 : Int), (16472876342353939154 : Int), (17275323862435702243 : Int), (1135362057144423861 : Int), (2597628984639134821 : Int), (3308224258029322869 : Int), (5365058923640841347 : Int), (6679025012923562964 : Int), (8573033837759648693 : Int), (10970295158949994411 : Int), (12119686244451234320 : Int), (12683024718118986047 : Int), (13788192230050041572 : Int), (14330467153632333762 : Int), (15395433587784984357 : Int), (489312712824947311 : Int), (1452737877330783856 : Int), (2861767655752347644 : Int), (3322285676063803686 : Int), (5560940570517711597 : Int), (5996557281743188959 : Int), (7280758554555802590 : Int), (8532644243296465576 : Int), (9350256976987008742 : Int), (10552545826968843579 : Int), (11727347734174303076 : Int), (12113106623233404929 : Int), (14000437183269869457 : Int), (14369950271660146224 : Int), (15101387698204529176 : Int), (15463397548674623760 : Int), (17586052441742319658 : Int), (1182934255886127544 : Int), (1847814050463011016 : Int), (2177327727835720531 : Int), (2830643537854262169 : Int), (3796741975233480872 : Int), (4115178125766777443 : Int), (5681478168544905931 : Int), (6601373596472566643 : Int), (7507060721942968483 : Int), (8399075790359081724 : Int), (8693463985226723168 : Int), (9568029438360202098 : Int), (10144078919501101548 : Int), (10430055236837252648 : Int), (11840083180663258601 : Int), (13761210420658862357 : Int), (14299343276471374635 : Int), (14566680578165727644 : Int), (15097957966210449927 : Int), (16922976911328602910 : Int), (17689382322260857208 : Int), (500013540394364858 : Int), (748580250866718886 : Int), (1242879168328830382 : Int), (1977374033974150939 : Int), (2944078676154940804 : Int), (3659926193048069267 : Int), (4368137639120453308 : Int), (4836135668995329356 : Int), (5532061633213252278 : Int), (6448918945643986474 : Int), (6902733635092675308 : Int), (7801388544844847127 : Int)]] [] (by kernel_rfl) trivial ?_
  refine q_k ?_
  refine tr_ret ?_
  have h := Option.some.inj h
  subst h
  refine q_fit [(8900, .slc 0)] [sO 0 (.slc 8900), hO 8900 72 .u64 [(4794697086780616226 : Int), (8158064640168781261 : Int), (13096744586834688815 : Int), (16840607885511220156 : Int), (4131703408338449720 : Int), (6480981068601479193 : Int), (10538285296894168987 : Int), (12329834152419229976 : Int), (15566598209576043074 : Int), (1334009975649890238 : Int), (2608012711638119052 : Int), (6128411473006802146 : Int), (8268148722764581231 : Int), (9286055187155687089 : Int), (11230858885718282805 : Int), (13951009754708518548 : Int), (16472876342353939154 : Int), (17275323862435702243 : Int), (1135362057144423861 : Int), (2597628984639134821 : Int), (3308224258029322869 : Int), (5365058923640841347 : Int), (6679025012923562964 : Int), (8573033837759648693 : Int), (10970295158949994411 : Int), (12119686244451234320 : Int), (12683024718118986047 : Int), (13788192230050041572 : Int), (14330467153632333762 : Int), (15395433587784984357 : Int), (489312712824947311 : Int), (1452737877330783856 : Int), (2861767655752347644 : Int), (3322285676063803686 : Int), (5560940570517711597 : Int), (5996557281743188959 : Int), (7280758554555802590 : Int), (8532644243296465576 : Int), (9350256976987008742 : Int), (10552545826968843579 : Int), (11727347734174303076 : Int), (12113106623233404929 : Int), (14000437183269869457 : Int), (14369950271660146224 : Int), (15101387698204529176 : Int), (15463397548674623760 : Int), (17586052441742319658 : Int), (1182934255886127544 : Int), (1847814050463011016 : Int), (2177327727835720531 : Int), (2830643537854262169 : Int), (3796741975233480872 : Int), (4115178125766777443 : Int), (5681478168544905931 : Int), (6601373596472566643 : Int), (7507060721942968483 : Int), (8399075790359081724 : Int), (8693463985226723168 : Int), (9568029438360202098 : Int), (10144078919501101548 : Int), (10430055236837252648 : Int), (11840083180663258601 : Int), (13761210420658862357 : Int), (14299343276471374635 : Int), (14566680578165727644 : Int), (15097957966210449927 : Int), (16922976911328602910 : Int), (17689382322260857208 : Int), (500013540394364858 : Int), (748580250866718886 : Int), (1242879168328830382 : Int), (1977374033974150939 : Int), (2944078676154940804 : Int), (3659926193048069267 : Int), (4368137639120453308 : Int), (4836135668995329356 : Int), (5532061633213252278 : Int), (6448918945643986474 : Int), (6902733635092675308 : Int), (7801388544844847127 : Int)]] [(8900, .own 72 .u64 [(4794697086780616226 : Int), (8158064640168781261 : Int), (13096744586834688815 : Int), (16840607885511220156 : Int), (4131703408338449720 : Int), (6480981068601479193 : Int), (10538285296894168987 : Int), (12329834152419229976 : Int), (15566598209576043074 : Int), (1334009975649890238 : Int), (2608012711638119052 : Int), (6128411473006802146 : Int), (8268148722764581231 : Int), (9286055187155687089 : Int), (11230858885718282805 : Int), (13951009754708518548 : Int), (16472876342353939154 : Int), (17275323862435702243 : Int), (1135362057144423861 : Int), (2597628984639134821 : Int), (3308224258029322869 : Int), (5365058923640841347 : Int), (6679025012923562964 : Int), (8573033837759648693 : Int), (10970295158949994411 : Int), (12119686244451234320 : Int), (12683024718118986047 : Int), (13788192230050041572 : Int), (14330467153632333762 : Int), (15395433587784984357 : Int), (489312712824947311 : Int), (1452737877330783856 : Int), (2861767655752347644 : Int), (3322285676063803686 : Int), (5560940570517711597 : Int), (5996557281743188959 : Int), (7280758554555802590 : Int), (8532644243296465576 : Int), (9350256976987008742 : Int), (10552545826968843579 : Int), (11727347734174303076 : Int), (12113106623233404929 : Int), (14000437183269869457 : Int), (14369950271660146224 : Int), (15101387698204529176 : Int), (15463397548674623760 : Int), (17586052441742319658 : Int), (1182934255886127544 : Int), (1847814050463011016 : Int), (2177327727835720531 : Int), (2830643537854262169 : Int), (3796741975233480872 : Int), (4115178125766777443 : Int), (5681478168544905931 : Int), (6601373596472566643 : Int), (7507060721942968483 : Int), (8399075790359081724 : Int), (8693463985226723168 : Int), (9568029438360202098 : Int), (10144078919501101548 : Int), (10430055236837252648 : Int), (11840083180663258601 : Int), (13761210420658862357 : Int), (14299343276471374635 : Int), (14566680578165727644 : Int), (15097957966210449927 : Int), (16922976911328602910 : Int), (17689382322260857208 : Int), (500013540394364858 : Int), (748580250866718886 : Int), (1242879168328830382 : Int), (1977374033974150939 : Int), (2944078676154940804 : Int), (3659926193048069267 : Int), (4368137639120453308 : Int), (4836135668995329356 : Int), (5532061633213252278 : Int), (6448918945643986474 : Int), (6902733635092675308 : Int), (7801388544844847127 : Int)])] (by kernel_rfl) (by kernel_rfl) (by kernel_rfl) rfl ⟨.own (by kernel_rfl), trivial⟩ (by kernel_rfl) ?_
  exact q_ret1 hT (.v (.one (.slc 8900))) [(8900, .own 72 .u64 [(4794697086780616226 : Int), (8158064640168781261 : Int), (13096744586834688815 : Int), (16840607885511220156 : Int), (4131703408338449720 : Int), (6480981068601479193 : Int), (10538285296894168987 : Int), (12329834152419229976 : Int), (15566598209576043074 : Int), (1334009975649890238 : Int), (2608012711638119052 : Int), (6128411473006802146 : Int), (8268148722764581231 : Int), (9286055187155687089 : Int), (11230858885718282805 : Int), (13951009754708518548 : Int), (16472876342353939154 : Int), (17275323862435702243 : Int), (1135362057144423861 : Int), (2597628984639134821 : Int), (3308224258029322869 : Int), (5365058923640841347 : Int), (6679025012923562964 : Int), (8573033837759648693 : Int), (10970295158949994411 : Int), (12119686244451234320 : Int), (12683024718118986047 : Int), (13788192230050041572 : Int), (14330467153632333762 : Int), (15395433587784984357 : Int), (489312712824947311 : Int), (1452737877330783856 : Int), (2861767655752347644 : Int), (3322285676063803686 : Int), (5560940570517711597 : Int), (5996557281743188959 : Int), (7280758554555802590 : Int), (8532644243296465576 : Int), (9350256976987008742 : Int), (10552545826968843579 : Int), (11727347734174303076 : Int), (12113106623233404929 : Int), (14000437183269869457 : Int), (14369950271660146224 : Int), (15101387698204529176 : Int), (15463397548674623760 : Int), (17586052441742319658 : Int), (1182934255886127544 : Int), (1847814050463011016 : Int), (2177327727835720531 : Int), (2830643537854262169 : Int), (3796741975233480872 : Int), (4115178125766777443 : Int), (5681478168544905931 : Int), (6601373596472566643 : Int), (7507060721942968483 : Int), (8399075790359081724 : Int), (8693463985226723168 : Int), (9568029438360202098 : Int), (10144078919501101548 : Int), (10430055236837252648 : Int), (11840083180663258601 : Int), (13761210420658862357 : Int), (14299343276471374635 : Int), (14566680578165727644 : Int), (15097957966210449927 : Int), (16922976911328602910 : Int), (17689382322260857208 : Int), (500013540394364858 : Int), (748580250866718886 : Int), (1242879168328830382 : Int), (1977374033974150939 : Int), (2944078676154940804 : Int), (3659926193048069267 : Int), (4368137639120453308 : Int), (4836135668995329356 : Int), (5532061633213252278 : Int), (6448918945643986474 : Int), (6902733635092675308 : Int), (7801388544844847127 : Int)])] (by kernel_rfl) (by kernel_rfl) (by kernel_rfl)

theorem wide_high_ok (b_0 : List Int) (r : Int) (h : wide_high b_0 = some r) : CallOk P 73 [.v (.one (.slc 9000))] [(9000, .rd .u8 b_0)] (.v (.one (.int .u64 r))) [] := by
  refine call1 (N := 19) Try.func73 (by kernel_rfl) rfl rfl rfl [(9000, .rd .u8 b_0)] (by kernel_rfl) ?_
  intro _ B w0
  show Tr P B 19 w0 _ _ (RetQ P Try.f73 (R1 _ _ B w0))
  unfold wide_high at h
  refine tr_seq ?_
  refine tr_reg hT [] [.s 0, .h 9000] [sO 0 (.slc 9000), hR 9000 .u8 b_0] [] (by kernel_rfl) trivial ?_
  refine q_k ?_
  refine tr_seq ?_
  refine tr_reg hT [] [.s 0, .s 3, .h 9000] [sO 0 (.slc 9000), sI 3 .u64 (0 : Int), hR 9000 .u8 b_0] [] (by kernel_rfl) trivial ?_
  refine q_k ?_
  refine tr_seq ?_
  refine tr_seq ?_
  refine tr_reg hT [] [.s 3, .s 6, .s 7, .s 8, .h 9000] [sI 3 .u64 (0 : Int), sO 6 (.slc 9000), sI 7 .i64 (↑(List.length b_0) : Int), sI 8 .i64 (0 : Int), hR 9000 .u8 b_0] [] (by kernel_rfl) trivial ?_
  refine q_k ?_
  refine tr_block ?_
  obtain ⟨x3, e6, h⟩ := bind_some h
  refine tr_fit [] [sI 3 .u64 (0 : Int), sO 6 (.slc 9000), sI 7 .i64 (↑(List.length b_0) : Int), sI 8 .i64 (0 : Int), hR 9000 .u8 b_0] [(9000, .rd .u8 b_0)] (by kernel_rfl) (by kernel_rfl) (by kernel_rfl) rfl ⟨.rd (by kernel_rfl), trivial⟩ (by kernel_rfl) ?_
  refine tr_loop_fuel (id := 0) (α := Int × Int) (β := Int) (fun z => [sI 3 .u64 z.1, sO 6 (.slc 9000), sI 7 .i64 (↑(List.length b_0) : Int), sI 8 .i64 z.2, hR 9000 .u8 b_0]) (fun z => [sI 3 .u64 z]) (fun k z => wide_high_l0 b_0 k z.1 z.2) x3 (fun _ => rfl) (((↑(List.length b_0) : Int) - (0 : Int)).toNat + 1) ((0 : Int), (0 : Int)) e6 ?_ ?_
  · skip
    replace h : (some x3) = _ := h
    refine q_b_this ?_
    refine q_k ?_
    refine tr_seq ?_
    refine tr_reg hT [] [.s 2] [sI 2 .u64 x3] [] (by kernel_rfl) trivial ?_
    refine q_k ?_
    refine tr_ret ?_
    have h := Option.some.inj h
    subst h
    refine q_less [.s 2] [sI 2 .u64 x3] (by kernel_rfl) ?_
    exact q_ret1 hT (.v (.one (.int .u64 x3))) [] (by kernel_rfl) (by kernel_rfl) (by kernel_rfl)
  · clear h e6
    intro k ih0 hx0 z h
    obtain ⟨x1, x2⟩ := z
    replace h : (if (decide (x2 < (↑(List.length b_0) : Int))) = true then if 0 ≤ x2 ∧ x2 < ↑(List.length b_0) then wide_high_l0 b_0 k (bor .u64 (shl .u64 x1 (8 : Int)) (IntKind.u64.wrap (b_0.getD x2.toNat 0))) (IntKind.i64.wrap (x2 + (1 : Int))) else none else some x1) = _ := h
    refine tr_seq ?_
    refine tr_reg hT [] [.s 3, .s 6, .s 7, .s 8, .s 9, .h 9000] [sI 3 .u64 x1, sO 6 (.slc 9000), sI 7 .i64 (↑(List.length b_0) : Int), sI 8 .i64 x2, sB 9 (decide (x2 < (↑(List.length b_0) : Int))), hR 9000 .u8 b_0] [] (by kernel_rfl) trivial ?_
    refine q_k ?_
    refine tr_seq ?_
    rcases ite_split h with ⟨hc4, h⟩ | ⟨hc4, h⟩
    · refine tr_cond_t (decide (x2 < (↑(List.length b_0) : Int))) (by kernel_rfl) hc4 ?_
      refine tr_skip ?_
      refine q_k ?_
      refine tr_seq ?_
      refine tr_block ?_
      refine tr_seq ?_
      obtain ⟨hn5, h⟩ := ite_some h
      refine tr_reg hT [] [.s 3, .s 5, .s 6, .s 7, .s 8, .h 9000] [sI 3 .u64 x1, sI 5 .u8 (b_0.getD x2.toNat 0), sO 6 (.slc 9000), sI 7 .i64 (↑(List.length b_0) : Int), sI 8 .i64 x2, hR 9000 .u8 b_0] [0 ≤ x2 ∧ x2 < ↑(List.length b_0), x2 < ↑(List.length b_0)] (by kernel_rfl) (hcons hn5 (hone hn5.2)) ?_
      refine q_k ?_
      refine tr_reg hT [] [.s 3, .s 6, .s 7, .s 8, .h 9000] [sI 3 .u64 (bor .u64 (shl .u64 x1 (8 : Int)) (IntKind.u64.wrap (b_0.getD x2.toNat 0))), sO 6 (.slc 9000), sI 7 .i64 (↑(List.length b_0) : Int), sI 8 .i64 x2, hR 9000 .u8 b_0] [0 ≤ (8 : Int)] (by kernel_rfl) (hone (by decide)) ?_
      refine q_b 1 ?_
      refine q_k ?_
      refine tr_reg hT [] [.s 3, .s 6, .s 7, .s 8, .h 9000] [sI 3 .u64 (bor .u64 (shl .u64 x1 (8 : Int)) (IntKind.u64.wrap (b_0.getD x2.toNat 0))), sO 6 (.slc 9000), sI 7 .i64 (↑(List.length b_0) : Int), sI 8 .i64 (IntKind.i64.wrap (x2 + (1 : Int))), hR 9000 .u8 b_0] [] (by kernel_rfl) trivial ?_
      refine q_kr ?_
      exact trR_less [.s 3, .s 6, .s 7, .s 8, .h 9000] [sI 3 .u64 (bor .u64 (shl .u64 x1 (8 : Int)) (IntKind.u64.wrap (b_0.getD x2.toNat 0))), sO 6 (.slc 9000), sI 7 .i64 (↑(List.length b_0) : Int), sI 8 .i64 (IntKind.i64.wrap (x2 + (1 : Int))), hR 9000 .u8 b_0] (by kernel_rfl) (ih0 ((bor .u64 (shl .u64 x1 (8 : Int)) (IntKind.u64.wrap (b_0.getD x2.toNat 0))), (IntKind.i64.wrap (x2 + (1 : Int)))) h)
    · refine tr_cond_f (decide (x2 < (↑(List.length b_0) : Int))) (by kernel_rfl) hc4 ?_
      refine tr_exit ?_
      refine q_k_exit ?_
      refine q_kr_exit ?_
      have h := Option.some.inj h
      subst h
      exact q_less [.s 3] [sI 3 .u64 x1] (by kernel_rfl) hx0

theorem math_bits_RotateLeft64_ok (x_0 : Int) (k_1 : Int) (r : Int) (h : math_bits_RotateLeft64 x_0 k_1 = some r) {pre : List (Nat × Ent)} : CallOk P 69 [.v (.one (.int .u64 x_0)), .v (.one (.int .i64 k_1))] pre (.v (.one (.int .u64 r))) [] := by
  refine call0 (N := 17) Try.func69 (by kernel_rfl) rfl rfl rfl pre ?_
  intro _ w
  show Tr P (Ge w) 17 _ _ _ (RetQ P Try.f69 (R0 _ w))
  unfold math_bits_RotateLeft64 at h
  refine tr_seq ?_
  refine tr_reg hT [] [.s 0, .s 1] [sI 0 .u64 x_0, sI 1 .i64 k_1] [] (by kernel_rfl) trivial ?_
  refine q_k ?_
  refine tr_seq ?_
  refine tr_reg hT [] [.s 0, .s 5] [sI 0 .u64 x_0, sI 5 .u64 (band .u64 (IntKind.u64.wrap k_1) (63 : Int))] [] (by kernel_rfl) trivial ?_
  refine q_k ?_
  refine tr_seq ?_
  obtain ⟨hn1, h⟩ := ite_some h
  obtain ⟨hn2, h⟩ := ite_some h
  refine tr_reg hT [] [.s 4] [sI 4 .u64 (bor .u64 (shl .u64 x_0 (band .u64 (IntKind.u64.wrap k_1) (63 : Int))) (shr .u64 x_0 (IntKind.u64.wrap ((64 : Int) - (band .u64 (IntKind.u64.wrap k_1) (63 : Int))))))] [0 ≤ (band .u64 (IntKind.u64.wrap k_1) (63 : Int)), 0 ≤ (IntKind.u64.wrap ((64 : Int) - (band .u64 (IntKind.u64.wrap k_1) (63 : Int))))] (by kernel_rfl) (hcons hn1 (hone hn2)) ?_
  refine q_k ?_
  refine tr_ret ?_
  have h := Option.some.inj h
  subst h
  exact q_ret0 hT (.v (.one (.int .u64 (bor .u64 (shl .u64 x_0 (band .u64 (IntKind.u64.wrap k_1) (63 : Int))) (shr .u64 x_0 (IntKind.u64.wrap ((64 : Int) - (band .u64 (IntKind.u64.wrap k_1) (63 : Int))))))))) rfl (by kernel_rfl)

theorem wide_spread_ok (p_0 : List Int) (r : List Int) (h : wide_spread p_0 = some r) : CallOk P 68 [.v (.one (.slc 9000))] [(9000, .rd .u8 p_0)] (.v (.agg [.arr .u64 80 r])) [] := by
  refine call1 (N := 65) Try.func68 (by kernel_rfl) rfl rfl rfl [(9000, .rd .u8 p_0)] (by kernel_rfl) ?_
  intro _ B w0
  show Tr P B 65 w0 _ _ (RetQ P Try.f68 (R1 _ _ B w0))
  unfold wide_spread at h
  refine tr_seq ?_
  refine tr_reg hT [(0, .key 0)] [.s 0, .s 2, .h 0, .h 9000] [sO 0 (.slc 9000), sO 2 (.ptr 0 0), hB 0 76 [.arr .u64 80 (List.replicate 80 0)], hR 9000 .u8 p_0] [] (by kernel_rfl) trivial ?_
  refine q_k ?_
  refine tr_seq ?_
  refine tr_reg hT [(0, .key 1)] [.s 0, .s 2, .s 3, .h 0, .h 1, .h 9000] [sO 0 (.slc 9000), sO 2 (.ptr 0 0), sO 3 (.ptr 1 0), hB 0 76 [.arr .u64 80 (List.replicate 80 0)], hB 1 76 [.arr .u64 80 (List.replicate 80 0)], hR 9000 .u8 p_0] [] (by kernel_rfl) trivial ?_
  refine q_k ?_
  refine tr_seq ?_
  refine tr_seq ?_
  refine tr_reg hT [] [.s 0, .s 2, .s 3, .s 9, .h 0, .h 1, .h 9000] [sO 0 (.slc 9000), sO 2 (.ptr 0 0), sO 3 (.ptr 1 0), sI 9 .i64 (0 : Int), hB 0 76 [.arr .u64 80 (List.replicate 80 0)], hB 1 76 [.arr .u64 80 (List.replicate 80 0)], hR 9000 .u8 p_0] [] (by kernel_rfl) trivial ?_
  refine q_k ?_
  refine tr_block ?_
  obtain ⟨m3, e23, h⟩ := bind_some h
  refine tr_fit [] [sO 0 (.slc 9000), sO 2 (.ptr 0 0), sO 3 (.ptr 1 0), sI 9 .i64 (0 : Int), hB 0 76 [.arr .u64 80 (List.replicate 80 0)], hB 1 76 [.arr .u64 80 (List.replicate 80 0)], hR 9000 .u8 p_0] [(0, .blk 76 [.arr .u64 80 (List.replicate 80 0)]), (1, .blk 76 [.arr .u64 80 (List.replicate 80 0)]), (9000, .rd .u8 p_0)] (by kernel_rfl) (by kernel_rfl) (by kernel_rfl) rfl ⟨.blk (by kernel_rfl) (by kernel_rfl), .blk (by kernel_rfl) (by kernel_rfl), .rd (by kernel_rfl), trivial⟩ (by kernel_rfl) ?_
  refine tr_loop_fuel (id := 0) (α := List Int × Int) (β := List Int) (fun z => [sO 0 (.slc 9000), sO 2 (.ptr 0 0), sO 3 (.ptr 1 0), sI 9 .i64 z.2, hB 0 76 [.arr .u64 80 (List.replicate 80 0)], hB 1 76 [.arr .u64 80 z.1], hR 9000 .u8 p_0]) (fun z => [sO 2 (.ptr 0 0), sO 3 (.ptr 1 0), hB 0 76 [.arr .u64 80 (List.replicate 80 0)], hB 1 76 [.arr .u64 80 z]]) (fun k z => wide_spread_l0 p_0 k z.1 z.2) m3 (fun _ => rfl) (((80 : Int) - (0 : Int)).toNat + 1) ((List.replicate 80 0), (0 : Int)) e23 ?_ ?_
  · skip
    replace h : (some m3) = _ := h
    refine q_b_this ?_
    refine q_k ?_
    refine tr_seq ?_
    refine tr_reg hT [] [.s 2, .h 0] [sO 2 (.ptr 0 0), hB 0 76 [.arr .u64 80 m3]] [] (by kernel_rfl) trivial ?_
    refine q_k ?_
    refine tr_ret ?_
    have h := Option.some.inj h
    subst h
    refine q_less [.s 2, .h 0] [sO 2 (.ptr 0 0), hB 0 76 [.arr .u64 80 m3]] (by kernel_rfl) ?_
    exact q_ret1 hT (.v (.agg [.arr .u64 80 m3])) [] (by kernel_rfl) (by kernel_rfl) (by kernel_rfl)
  · clear h e23
    intro k ih0 hx0 z h
    obtain ⟨m1, x2⟩ := z
    replace h : (if (decide (x2 < (80 : Int))) = true then if (decide (x2 < (16 : Int))) = true then if 0 ≤ (IntKind.i64.wrap ((8 : Int) * x2)) ∧ (IntKind.i64.wrap ((8 : Int) * x2)) ≤ (IntKind.i64.wrap ((IntKind.i64.wrap ((8 : Int) * x2)) + (8 : Int))) ∧ (IntKind.i64.wrap ((IntKind.i64.wrap ((8 : Int) * x2)) + (8 : Int))) ≤ (↑(List.length p_0) : Int) then (wide_high ((p_0.take ((IntKind.i64.wrap ((IntKind.i64.wrap ((8 : Int) * x2)) + (8 : Int))).toNat)).drop (IntKind.i64.wrap ((8 : Int) * x2)).toNat)).bind (fun r7 => if 0 ≤ x2 ∧ x2 < ((80 : Nat) : Int) then wide_spread_l0 p_0 k (m1.set x2.toNat r7) (IntKind.i64.wrap (x2 + (1 : Int))) else none) else none else if 0 ≤ (IntKind.i64.wrap (x2 - (15 : Int))) ∧ (IntKind.i64.wrap (x2 - (15 : Int))) < ((80 : Nat) : Int) then if 0 ≤ (IntKind.i64.wrap (x2 - (2 : Int))) ∧ (IntKind.i64.wrap (x2 - (2 : Int))) < ((80 : Nat) : Int) then (math_bits_RotateLeft64 (m1.getD (IntKind.i64.wrap (x2 - (15 : Int))).toNat 0) (-1 : Int)).bind (fun r12 => (math_bits_RotateLeft64 (m1.getD (IntKind.i64.wrap (x2 - (15 : Int))).toNat 0) (-8 : Int)).bind (fun r14 => (math_bits_RotateLeft64 (m1.getD (IntKind.i64.wrap (x2 - (2 : Int))).toNat 0) (-19 : Int)).bind (fun r16 => (math_bits_RotateLeft64 (m1.getD (IntKind.i64.wrap (x2 - (2 : Int))).toNat 0) (-61 : Int)).bind (fun r18 => if 0 ≤ (IntKind.i64.wrap (x2 - (16 : Int))) ∧ (IntKind.i64.wrap (x2 - (16 : Int))) < ((80 : Nat) : Int) then if 0 ≤ (IntKind.i64.wrap (x2 - (7 : Int))) ∧ (IntKind.i64.wrap (x2 - (7 : Int))) < ((80 : Nat) : Int) then if 0 ≤ x2 ∧ x2 < ((80 : Nat) : Int) then wide_spread_l0 p_0 k (m1.set x2.toNat (IntKind.u64.wrap ((IntKind.u64.wrap ((IntKind.u64.wrap ((m1.getD (IntKind.i64.wrap (x2 - (16 : Int))).toNat 0) + (bxor .u64 (bxor .u64 r12 r14) (shr .u64 (m1.getD (IntKind.i64.wrap (x2 - (15 : Int))).toNat 0) (7 : Int))))) + (m1.getD (IntKind.i64.wrap (x2 - (7 : Int))).toNat 0))) + (bxor .u64 (bxor .u64 r16 r18) (shr .u64 (m1.getD (IntKind.i64.wrap (x2 - (2 : Int))).toNat 0) (6 : Int)))))) (IntKind.i64.wrap (x2 + (1 : Int))) else none else none else none)))) else none else none else some m1) = _ := h
    refine tr_seq ?_
    refine tr_reg hT [] [.s 0, .s 2, .s 3, .s 9, .s 10, .h 0, .h 1, .h 9000] [sO 0 (.slc 9000), sO 2 (.ptr 0 0), sO 3 (.ptr 1 0), sI 9 .i64 x2, sB 10 (decide (x2 < (80 : Int))), hB 0 76 [.arr .u64 80 (List.replicate 80 0)], hB 1 76 [.arr .u64 80 m1], hR 9000 .u8 p_0] [] (by kernel_rfl) trivial ?_
    refine q_k ?_
    refine tr_seq ?_
    rcases ite_split h with ⟨hc4, h⟩ | ⟨hc4, h⟩
    · refine tr_cond_t (decide (x2 < (80 : Int))) (by kernel_rfl) hc4 ?_
      refine tr_skip ?_
      refine q_k ?_
      refine tr_seq ?_
      refine tr_block ?_
      refine tr_seq ?_
      refine tr_reg hT [] [.s 0, .s 2, .s 3, .s 4, .s 9, .h 0, .h 1, .h 9000] [sO 0 (.slc 9000), sO 2 (.ptr 0 0), sO 3 (.ptr 1 0), sI 4 .i64 x2, sI 9 .i64 x2, hB 0 76 [.arr .u64 80 (List.replicate 80 0)], hB 1 76 [.arr .u64 80 m1], hR 9000 .u8 p_0] [] (by kernel_rfl) trivial ?_
      refine q_k ?_
      refine tr_seq ?_
      refine tr_seq ?_
      refine tr_reg hT [] [.s 0, .s 2, .s 3, .s 4, .s 9, .s 13, .h 0, .h 1, .h 9000] [sO 0 (.slc 9000), sO 2 (.ptr 0 0), sO 3 (.ptr 1 0), sI 4 .i64 x2, sI 9 .i64 x2, sB 13 (decide (x2 < (16 : Int))), hB 0 76 [.arr .u64 80 (List.replicate 80 0)], hB 1 76 [.arr .u64 80 m1], hR 9000 .u8 p_0] [] (by kernel_rfl) trivial ?_
      refine q_k ?_
      rcases ite_split h with ⟨hc5, h⟩ | ⟨hc5, h⟩
      · refine tr_cond_t (decide (x2 < (16 : Int))) (by kernel_rfl) hc5 ?_
        refine tr_seq ?_
        obtain ⟨hn6, h⟩ := ite_some h
        obtain ⟨r7, e8, h⟩ := bind_some h
        obtain ⟨hn9, h⟩ := ite_some h
        refine tr_reg hT [(7, .key 2), (8, .call [2] (.v (.one (.int .u64 r7))) [])] [.s 0, .s 2, .s 3, .s 9, .h 0, .h 1, .h 9000] [sO 0 (.slc 9000), sO 2 (.ptr 0 0), sO 3 (.ptr 1 0), sI 9 .i64 x2, hB 0 76 [.arr .u64 80 (List.replicate 80 0)], hB 1 76 [.arr .u64 80 (m1.set x2.toNat r7)], hR 9000 .u8 p_0] [0 ≤ (IntKind.i64.wrap ((8 : Int) * x2)) ∧ (IntKind.i64.wrap ((8 : Int) * x2)) ≤ (IntKind.i64.wrap ((IntKind.i64.wrap ((8 : Int) * x2)) + (8 : Int))) ∧ (IntKind.i64.wrap ((IntKind.i64.wrap ((8 : Int) * x2)) + (8 : Int))) ≤ (↑(List.length p_0) : Int), CallOk P 73 [.v (.one (.slc 2))] [(2, .rd .u8 ((p_0.take ((IntKind.i64.wrap ((IntKind.i64.wrap ((8 : Int) * x2)) + (8 : Int))).toNat)).drop (IntKind.i64.wrap ((8 : Int) * x2)).toNat))] (.v (.one (.int .u64 r7))) [], 0 ≤ x2 ∧ x2 < ((80 : Nat) : Int)] (by kernel_rfl) (hcons hn6 (hcons ((wide_high_ok ((p_0.take ((IntKind.i64.wrap ((IntKind.i64.wrap ((8 : Int) * x2)) + (8 : Int))).toNat)).drop (IntKind.i64.wrap ((8 : Int) * x2)).toNat) r7 e8).tr [(9000, .slc 2)] rfl (by kernel_rfl) ⟨.rd (by kernel_rfl), trivial⟩ (by kernel_rfl) (by kernel_rfl) rfl rfl) (hone hn9))) ?_
        refine q_k ?_
        refine tr_exit ?_
        refine q_k_exit ?_
        refine q_b_this ?_
        refine q_k ?_
        refine tr_reg hT [] [.s 0, .s 2, .s 3, .s 9, .h 0, .h 1, .h 9000] [sO 0 (.slc 9000), sO 2 (.ptr 0 0), sO 3 (.ptr 1 0), sI 9 .i64 (IntKind.i64.wrap (x2 + (1 : Int))), hB 0 76 [.arr .u64 80 (List.replicate 80 0)], hB 1 76 [.arr .u64 80 (m1.set x2.toNat r7)], hR 9000 .u8 p_0] [] (by kernel_rfl) trivial ?_
        refine q_kr ?_
        exact trR_less [.s 0, .s 2, .s 3, .s 9, .h 0, .h 1, .h 9000] [sO 0 (.slc 9000), sO 2 (.ptr 0 0), sO 3 (.ptr 1 0), sI 9 .i64 (IntKind.i64.wrap (x2 + (1 : Int))), hB 0 76 [.arr .u64 80 (List.replicate 80 0)], hB 1 76 [.arr .u64 80 (m1.set x2.toNat r7)], hR 9000 .u8 p_0] (by kernel_rfl) (ih0 ((m1.set x2.toNat r7), (IntKind.i64.wrap (x2 + (1 : Int)))) h)
      · refine tr_cond_f (decide (x2 < (16 : Int))) (by kernel_rfl) hc5 ?_
        refine tr_skip ?_
        refine q_k ?_
        refine tr_seq ?_
        obtain ⟨hn10, h⟩ := ite_some h
        obtain ⟨hn11, h⟩ := ite_some h
        refine tr_regd hT hM [] [.s 0, .s 2, .s 3, .s 4, .s 5, .s 6, .s 9, .h 0, .h 1, .h 9000] [sO 0 (.slc 9000), sO 2 (.ptr 0 0), sO 3 (.ptr 1 0), sI 4 .i64 x2, sI 5 .u64 (m1.getD (IntKind.i64.wrap (x2 - (15 : Int))).toNat 0), sI 6 .u64 (m1.getD (IntKind.i64.wrap (x2 - (2 : Int))).toNat 0), sI 9 .i64 x2, hB 0 76 [.arr .u64 80 (List.replicate 80 0)], hB 1 76 [.arr .u64 80 m1], hR 9000 .u8 p_0] [0 ≤ (IntKind.i64.wrap (x2 - (15 : Int))) ∧ (IntKind.i64.wrap (x2 - (15 : Int))) < ((80 : Nat) : Int), 0 ≤ (IntKind.i64.wrap (x2 - (2 : Int))) ∧ (IntKind.i64.wrap (x2 - (2 : Int))) < ((80 : Nat) : Int)] (by kernel_rfl) (hcons hn10 (hone hn11)) ?_
        refine q_k ?_
        refine tr_seq ?_
        obtain ⟨r12, e13, h⟩ := bind_some h
        obtain ⟨r14, e15, h⟩ := bind_some h
        refine tr_reg hT [(1, .call [] (.v (.one (.int .u64 r12))) []), (3, .call [] (.v (.one (.int .u64 r14))) [])] [.s 0, .s 2, .s 3, .s 4, .s 6, .s 7, .s 9, .h 0, .h 1, .h 9000] [sO 0 (.slc 9000), sO 2 (.ptr 0 0), sO 3 (.ptr 1 0), sI 4 .i64 x2, sI 6 .u64 (m1.getD (IntKind.i64.wrap (x2 - (2 : Int))).toNat 0), sI 7 .u64 (bxor .u64 (bxor .u64 r12 r14) (shr .u64 (m1.getD (IntKind.i64.wrap (x2 - (15 : Int))).toNat 0) (7 : Int))), sI 9 .i64 x2, hB 0 76 [.arr .u64 80 (List.replicate 80 0)], hB 1 76 [.arr .u64 80 m1], hR 9000 .u8 p_0] [CallOk P 69 [.v (.one (.int .u64 (m1.getD (IntKind.i64.wrap (x2 - (15 : Int))).toNat 0))), .v (.one (.int .i64 (-1 : Int)))] [] (.v (.one (.int .u64 r12))) [], CallOk P 69 [.v (.one (.int .u64 (m1.getD (IntKind.i64.wrap (x2 - (15 : Int))).toNat 0))), .v (.one (.int .i64 (-8 : Int)))] [] (.v (.one (.int .u64 r14))) [], 0 ≤ (7 : Int)] (by kernel_rfl) (hcons (math_bits_RotateLeft64_ok (m1.getD (IntKind.i64.wrap (x2 - (15 : Int))).toNat 0) (-1 : Int) r12 e13) (hcons (math_bits_RotateLeft64_ok (m1.getD (IntKind.i64.wrap (x2 - (15 : Int))).toNat 0) (-8 : Int) r14 e15) (hone (by decide)))) ?_
        refine q_k ?_
        refine tr_seq ?_
        obtain ⟨r16, e17, h⟩ := bind_some h
        obtain ⟨r18, e19, h⟩ := bind_some h
        refine tr_reg hT [(1, .call [] (.v (.one (.int .u64 r16))) []), (3, .call [] (.v (.one (.int .u64 r18))) [])] [.s 0, .s 2, .s 3, .s 4, .s 7, .s 8, .s 9, .h 0, .h 1, .h 9000] [sO 0 (.slc 9000), sO 2 (.ptr 0 0), sO 3 (.ptr 1 0), sI 4 .i64 x2, sI 7 .u64 (bxor .u64 (bxor .u64 r12 r14) (shr .u64 (m1.getD (IntKind.i64.wrap (x2 - (15 : Int))).toNat 0) (7 : Int))), sI 8 .u64 (bxor .u64 (bxor .u64 r16 r18) (shr .u64 (m1.getD (IntKind.i64.wrap (x2 - (2 : Int))).toNat 0) (6 : Int))), sI 9 .i64 x2, hB 0 76 [.arr .u64 80 (List.replicate 80 0)], hB 1 76 [.arr .u64 80 m1], hR 9000 .u8 p_0] [CallOk P 69 [.v (.one (.int .u64 (m1.getD (IntKind.i64.wrap (x2 - (2 : Int))).toNat 0))), .v (.one (.int .i64 (-19 : Int)))] [] (.v (.one (.int .u64 r16))) [], CallOk P 69 [.v (.one (.int .u64 (m1.getD (IntKind.i64.wrap (x2 - (2 : Int))).toNat 0))), .v (.one (.int .i64 (-61 : Int)))] [] (.v (.one (.int .u64 r18))) [], 0 ≤ (6 : Int)] (by kernel_rfl) (hcons (math_bits_RotateLeft64_ok (m1.getD (IntKind.i64.wrap (x2 - (2 : Int))).toNat 0) (-19 : Int) r16 e17) (hcons (math_bits_RotateLeft64_ok (m1.getD (IntKind.i64.wrap (x2 - (2 : Int))).toNat 0) (-61 : Int) r18 e19) (hone (by decide)))) ?_
        refine q_k ?_
        obtain ⟨hn20, h⟩ := ite_some h
        obtain ⟨hn21, h⟩ := ite_some h
        obtain ⟨hn22, h⟩ := ite_some h
        refine tr_regd hT hM [] [.s 0, .s 2, .s 3, .s 9, .h 0, .h 1, .h 9000] [sO 0 (.slc 9000), sO 2 (.ptr 0 0), sO 3 (.ptr 1 0), sI 9 .i64 x2, hB 0 76 [.arr .u64 80 (List.replicate 80 0)], hB 1 76 [.arr .u64 80 (m1.set x2.toNat (IntKind.u64.wrap ((IntKind.u64.wrap ((IntKind.u64.wrap ((m1.getD (IntKind.i64.wrap (x2 - (16 : Int))).toNat 0) + (bxor .u64 (bxor .u64 r12 r14) (shr .u64 (m1.getD (IntKind.i64.wrap (x2 - (15 : Int))).toNat 0) (7 : Int))))) + (m1.getD (IntKind.i64.wrap (x2 - (7 : Int))).toNat 0))) + (bxor .u64 (bxor .u64 r16 r18) (shr .u64 (m1.getD (IntKind.i64.wrap (x2 - (2 : Int))).toNat 0) (6 : Int))))))], hR 9000 .u8 p_0] [0 ≤ (IntKind.i64.wrap (x2 - (16 : Int))) ∧ (IntKind.i64.wrap (x2 - (16 : Int))) < ((80 : Nat) : Int), 0 ≤ (IntKind.i64.wrap (x2 - (7 : Int))) ∧ (IntKind.i64.wrap (x2 - (7 : Int))) < ((80 : Nat) : Int), 0 ≤ x2 ∧ x2 < ((80 : Nat) : Int)] (by kernel_rfl) (hcons hn20 (hcons hn21 (hone hn22))) ?_
        refine q_b 1 ?_
        refine q_k ?_
        refine tr_reg hT [] [.s 0, .s 2, .s 3, .s 9, .h 0, .h 1, .h 9000] [sO 0 (.slc 9000), sO 2 (.ptr 0 0), sO 3 (.ptr 1 0), sI 9 .i64 (IntKind.i64.wrap (x2 + (1 : Int))), hB 0 76 [.arr .u64 80 (List.replicate 80 0)], hB 1 76 [.arr .u64 80 (m1.set x2.toNat (IntKind.u64.wrap ((IntKind.u64.wrap ((IntKind.u64.wrap ((m1.getD (IntKind.i64.wrap (x2 - (16 : Int))).toNat 0) + (bxor .u64 (bxor .u64 r12 r14) (shr .u64 (m1.getD (IntKind.i64.wrap (x2 - (15 : Int))).toNat 0) (7 : Int))))) + (m1.getD (IntKind.i64.wrap (x2 - (7 : Int))).toNat 0))) + (bxor .u64 (bxor .u64 r16 r18) (shr .u64 (m1.getD (IntKind.i64.wrap (x2 - (2 : Int))).toNat 0) (6 : Int))))))], hR 9000 .u8 p_0] [] (by kernel_rfl) trivial ?_
        refine q_kr ?_
        exact trR_less [.s 0, .s 2, .s 3, .s 9, .h 0, .h 1, .h 9000] [sO 0 (.slc 9000), sO 2 (.ptr 0 0), sO 3 (.ptr 1 0), sI 9 .i64 (IntKind.i64.wrap (x2 + (1 : Int))), hB 0 76 [.arr .u64 80 (List.replicate 80 0)], hB 1 76 [.arr .u64 80 (m1.set x2.toNat (IntKind.u64.wrap ((IntKind.u64.wrap ((IntKind.u64.wrap ((m1.getD (IntKind.i64.wrap (x2 - (16 : Int))).toNat 0) + (bxor .u64 (bxor .u64 r12 r14) (shr .u64 (m1.getD (IntKind.i64.wrap (x2 - (15 : Int))).toNat 0) (7 : Int))))) + (m1.getD (IntKind.i64.wrap (x2 - (7 : Int))).toNat 0))) + (bxor .u64 (bxor .u64 r16 r18) (shr .u64 (m1.getD (IntKind.i64.wrap (x2 - (2 : Int))).toNat 0) (6 : Int))))))], hR 9000 .u8 p_0] (by kernel_rfl) (ih0 ((m1.set x2.toNat (IntKind.u64.wrap ((IntKind.u64.wrap ((IntKind.u64.wrap ((m1.getD (IntKind.i64.wrap (x2 - (16 : Int))).toNat 0) + (bxor .u64 (bxor .u64 r12 r14) (shr .u64 (m1.getD (IntKind.i64.wrap (x2 - (15 : Int))).toNat 0) (7 : Int))))) + (m1.getD (IntKind.i64.wrap (x2 - (7 : Int))).toNat 0))) + (bxor .u64 (bxor .u64 r16 r18) (shr .u64 (m1.getD (IntKind.i64.wrap (x2 - (2 : Int))).toNat 0) (6 : Int)))))), (IntKind.i64.wrap (x2 + (1 : Int)))) h)
    · refine tr_cond_f (decide (x2 < (80 : Int))) (by kernel_rfl) hc4 ?_
      refine tr_exit ?_
      refine q_k_exit ?_
      refine q_kr_exit ?_
      have h := Option.some.inj h
      subst h
      exact q_less [.s 2, .s 3, .h 0, .h 1] [sO 2 (.ptr 0 0), sO 3 (.ptr 1 0), hB 0 76 [.arr .u64 80 (List.replicate 80 0)], hB 1 76 [.arr .u64 80 m1]] (by kernel_rfl) hx0

theorem wide_take_ok (h_0 : List Int) (p_1 : List Int) (r : List Int) (h : wide_take h_0 p_1 = some r) : CallOk P 52 [.v (.agg [.arr .u64 8 h_0]), .v (.one (.slc 9000))] [(9000, .rd .u8 p_1)] (.v (.agg [.arr .u64 8 r])) [] := by
  refine call1 (N := 115) Try.func52 (by kernel_rfl) rfl rfl rfl [(9000, .rd .u8 p_1)] (by kernel_rfl) ?_
  intro _ B w0
  show Tr P B 115 w0 _ _ (RetQ P Try.f52 (R1 _ _ B w0))
  unfold wide_take at h
  refine tr_seq ?_
  refine tr_reg hT [(0, .key 0), (1, .key 1)] [.s 1, .s 2, .s 4, .h 0, .h 1, .h 9000] [sO 1 (.slc 9000), sO 2 (.ptr 0 0), sO 4 (.ptr 1 0), hB 0 73 [.arr .u64 8 h_0], hB 1 73 [.arr .u64 8 (List.replicate 8 0)], hR 9000 .u8 p_1] [] (by kernel_rfl) trivial ?_
  refine q_k ?_
  refine tr_seq ?_
  obtain ⟨a1, e2, h⟩ := bind_some h
  refine tr_regd hT hM [(1, .call [] (.v (.one (.slc 2))) [(2, .own 72 .u64 a1)]), (2, .key 3)] [.s 1, .s 2, .s 4, .s 5, .s 6, .h 0, .h 1, .h 2, .h 3, .h 9000] [sO 1 (.slc 9000), sO 2 (.ptr 0 0), sO 4 (.ptr 1 0), sO 5 (.ptr 3 0), sO 6 (.slc 2), hB 0 73 [.arr .u64 8 h_0], hB 1 73 [.arr .u64 8 (List.replicate 8 0)], hO 2 72 .u64 a1, hB 3 73 [.arr .u64 8 h_0], hR 9000 .u8 p_1] [CallOk P 67 [] [] (.v (.one (.slc 2))) [(2, .own 72 .u64 a1)]] (by kernel_rfl) (hone ((wide_rounds_ok  a1 e2).tr [(8900, .slc 2)] rfl (by kernel_rfl) trivial (by kernel_rfl) (by kernel_rfl) rfl rfl)) ?_
  refine q_k ?_
  refine tr_seq ?_
  refine tr_seq ?_
  obtain ⟨a3, e4, h⟩ := bind_some h
  refine tr_reg hT [(1, .call [9000] (.v (.agg [.arr .u64 80 a3])) [])] [.s 2, .s 4, .s 5, .s 6, .s 19, .s 20, .h 0, .h 1, .h 2, .h 3] [sO 2 (.ptr 0 0), sO 4 (.ptr 1 0), sO 5 (.ptr 3 0), sO 6 (.slc 2), sG 19 [.arr .u64 80 a3], sI 20 .i64 (0 : Int), hB 0 73 [.arr .u64 8 h_0], hB 1 73 [.arr .u64 8 (List.replicate 8 0)], hO 2 72 .u64 a1, hB 3 73 [.arr .u64 8 h_0]] [CallOk P 68 [.v (.one (.slc 9000))] [(9000, .rd .u8 p_1)] (.v (.agg [.arr .u64 80 a3])) []] (by kernel_rfl) (hone ((wide_spread_ok p_1 a3 e4).tr [(9000, .slc 9000)] rfl (by kernel_rfl) ⟨.rd (by kernel_rfl), trivial⟩ (by kernel_rfl) (by kernel_rfl) rfl rfl)) ?_
  refine q_k ?_
  refine tr_block ?_
  obtain ⟨m7, e23, h⟩ := bind_some h
  refine tr_fit [] [sO 2 (.ptr 0 0), sO 4 (.ptr 1 0), sO 5 (.ptr 3 0), sO 6 (.slc 2), sG 19 [.arr .u64 80 a3], sI 20 .i64 (0 : Int), hB 0 73 [.arr .u64 8 h_0], hB 1 73 [.arr .u64 8 (List.replicate 8 0)], hO 2 72 .u64 a1, hB 3 73 [.arr .u64 8 h_0]] [(0, .blk 73 [.arr .u64 8 h_0]), (1, .blk 73 [.arr .u64 8 (List.replicate 8 0)]), (2, .own 72 .u64 a1), (3, .blk 73 [.arr .u64 8 h_0])] (by kernel_rfl) (by kernel_rfl) (by kernel_rfl) rfl ⟨.blk (by kernel_rfl) (by kernel_rfl), .blk (by kernel_rfl) (by kernel_rfl), .own (by kernel_rfl), .blk (by kernel_rfl) (by kernel_rfl), trivial⟩ (by kernel_rfl) ?_
  refine tr_loop_fuel (id := 0) (α := List Int × Int) (β := List Int) (fun z => [sO 2 (.ptr 0 0), sO 4 (.ptr 1 0), sO 5 (.ptr 3 0), sO 6 (.slc 2), sG 19 [.arr .u64 80 a3], sI 20 .i64 z.2, hB 0 73 [.arr .u64 8 h_0], hB 1 73 [.arr .u64 8 (List.replicate 8 0)], hO 2 72 .u64 a1, hB 3 73 [.arr .u64 8 z.1]]) (fun z => [sO 2 (.ptr 0 0), sO 4 (.ptr 1 0), sO 5 (.ptr 3 0), hB 0 73 [.arr .u64 8 h_0], hB 1 73 [.arr .u64 8 (List.replicate 8 0)], hB 3 73 [.arr .u64 8 z]]) (fun k z => wide_take_l0 h_0 a1 a3 k z.1 z.2) m7 (fun _ => rfl) (((80 : Int) - (0 : Int)).toNat + 1) (h_0, (0 : Int)) e23 ?_ ?_
  · skip
    replace h : ((wide_take_l1 m7 (((8 : Int) - (0 : Int)).toNat + 1) h_0 (0 : Int)).bind (fun m26 => some m26)) = _ := h
    refine q_b_this ?_
    refine q_k ?_
    refine tr_seq ?_
    refine tr_seq ?_
    refine tr_reg hT [] [.s 2, .s 4, .s 5, .s 102, .h 0, .h 1, .h 3] [sO 2 (.ptr 0 0), sO 4 (.ptr 1 0), sO 5 (.ptr 3 0), sI 102 .i64 (0 : Int), hB 0 73 [.arr .u64 8 h_0], hB 1 73 [.arr .u64 8 (List.replicate 8 0)], hB 3 73 [.arr .u64 8 m7]] [] (by kernel_rfl) trivial ?_
    refine q_k ?_
    refine tr_block ?_
    obtain ⟨m26, e31, h⟩ := bind_some h
    refine tr_fit [] [sO 2 (.ptr 0 0), sO 4 (.ptr 1 0), sO 5 (.ptr 3 0), sI 102 .i64 (0 : Int), hB 0 73 [.arr .u64 8 h_0], hB 1 73 [.arr .u64 8 (List.replicate 8 0)], hB 3 73 [.arr .u64 8 m7]] [(0, .blk 73 [.arr .u64 8 h_0]), (1, .blk 73 [.arr .u64 8 (List.replicate 8 0)]), (3, .blk 73 [.arr .u64 8 m7])] (by kernel_rfl) (by kernel_rfl) (by kernel_rfl) rfl ⟨.blk (by kernel_rfl) (by kernel_rfl), .blk (by kernel_rfl) (by kernel_rfl), .blk (by kernel_rfl) (by kernel_rfl), trivial⟩ (by kernel_rfl) ?_
    refine tr_loop_fuel (id := 2) (α := List Int × Int) (β := List Int) (fun z => [sO 2 (.ptr 0 0), sO 4 (.ptr 1 0), sO 5 (.ptr 3 0), sI 102 .i64 z.2, hB 0 73 [.arr .u64 8 z.1], hB 1 73 [.arr .u64 8 (List.replicate 8 0)], hB 3 73 [.arr .u64 8 m7]]) (fun z => [sO 2 (.ptr 0 0), sO 4 (.ptr 1 0), hB 0 73 [.arr .u64 8 z], hB 1 73 [.arr .u64 8 (List.replicate 8 0)]]) (fun k z => wide_take_l1 m7 k z.1 z.2) m26 (fun _ => rfl) (((8 : Int) - (0 : Int)).toNat + 1) (h_0, (0 : Int)) e31 ?_ ?_
    · skip
      replace h : (some m26) = _ := h
      refine q_b_this ?_
      refine q_k ?_
      refine tr_seq ?_
      refine tr_reg hT [] [.s 4, .h 1] [sO 4 (.ptr 1 0), hB 1 73 [.arr .u64 8 m26]] [] (by kernel_rfl) trivial ?_
      refine q_k ?_
      refine tr_ret ?_
      have h := Option.some.inj h
      subst h
      refine q_less [.s 4, .h 1] [sO 4 (.ptr 1 0), hB 1 73 [.arr .u64 8 m26]] (by kernel_rfl) ?_
      exact q_ret1 hT (.v (.agg [.arr .u64 8 m26])) [] (by kernel_rfl) (by kernel_rfl) (by kernel_rfl)
    · clear h e31
      intro k ih1 hx1 z h
      obtain ⟨m24, x25⟩ := z
      replace h : (if (decide (x25 < (8 : Int))) = true then if 0 ≤ x25 ∧ x25 < ((8 : Nat) : Int) then if 0 ≤ x25 ∧ x25 < ((8 : Nat) : Int) then if 0 ≤ x25 ∧ x25 < ((8 : Nat) : Int) then wide_take_l1 m7 k (m24.set x25.toNat (IntKind.u64.wrap ((m24.getD x25.toNat 0) + (m7.getD x25.toNat 0)))) (IntKind.i64.wrap (x25 + (1 : Int))) else none else none else none else some m24) = _ := h
      refine tr_seq ?_
      refine tr_reg hT [] [.s 2, .s 4, .s 5, .s 102, .s 103, .h 0, .h 1, .h 3] [sO 2 (.ptr 0 0), sO 4 (.ptr 1 0), sO 5 (.ptr 3 0), sI 102 .i64 x25, sB 103 (decide (x25 < (8 : Int))), hB 0 73 [.arr .u64 8 m24], hB 1 73 [.arr .u64 8 (List.replicate 8 0)], hB 3 73 [.arr .u64 8 m7]] [] (by kernel_rfl) trivial ?_
      refine q_k ?_
      refine tr_seq ?_
      rcases ite_split h with ⟨hc27, h⟩ | ⟨hc27, h⟩
      · refine tr_cond_t (decide (x25 < (8 : Int))) (by kernel_rfl) hc27 ?_
        refine tr_skip ?_
        refine q_k ?_
        refine tr_seq ?_
        refine tr_block ?_
        refine tr_seq ?_
        refine tr_reg hT [] [.s 2, .s 4, .s 5, .s 15, .s 102, .h 0, .h 1, .h 3] [sO 2 (.ptr 0 0), sO 4 (.ptr 1 0), sO 5 (.ptr 3 0), sI 15 .i64 x25, sI 102 .i64 x25, hB 0 73 [.arr .u64 8 m24], hB 1 73 [.arr .u64 8 (List.replicate 8 0)], hB 3 73 [.arr .u64 8 m7]] [] (by kernel_rfl) trivial ?_
        refine q_k ?_
        obtain ⟨hn28, h⟩ := ite_some h
        obtain ⟨hn29, h⟩ := ite_some h
        obtain ⟨hn30, h⟩ := ite_some h
        refine tr_regd hT hM [] [.s 2, .s 4, .s 5, .s 102, .h 0, .h 1, .h 3] [sO 2 (.ptr 0 0), sO 4 (.ptr 1 0), sO 5 (.ptr 3 0), sI 102 .i64 x25, hB 0 73 [.arr .u64 8 (m24.set x25.toNat (IntKind.u64.wrap ((m24.getD x25.toNat 0) + (m7.getD x25.toNat 0))))], hB 1 73 [.arr .u64 8 (List.replicate 8 0)], hB 3 73 [.arr .u64 8 m7]] [0 ≤ x25 ∧ x25 < ((8 : Nat) : Int), 0 ≤ x25 ∧ x25 < ((8 : Nat) : Int), 0 ≤ x25 ∧ x25 < ((8 : Nat) : Int)] (by kernel_rfl) (hcons hn28 (hcons hn29 (hone hn30))) ?_
        refine q_b 3 ?_
        refine q_k ?_
        refine tr_reg hT [] [.s 2, .s 4, .s 5, .s 102, .h 0, .h 1, .h 3] [sO 2 (.ptr 0 0), sO 4 (.ptr 1 0), sO 5 (.ptr 3 0), sI 102 .i64 (IntKind.i64.wrap (x25 + (1 : Int))), hB 0 73 [.arr .u64 8 (m24.set x25.toNat (IntKind.u64.wrap ((m24.getD x25.toNat 0) + (m7.getD x25.toNat 0))))], hB 1 73 [.arr .u64 8 (List.replicate 8 0)], hB 3 73 [.arr .u64 8 m7]] [] (by kernel_rfl) trivial ?_
        refine q_kr ?_
        exact trR_less [.s 2, .s 4, .s 5, .s 102, .h 0, .h 1, .h 3] [sO 2 (.ptr 0 0), sO 4 (.ptr 1 0), sO 5 (.ptr 3 0), sI 102 .i64 (IntKind.i64.wrap (x25 + (1 : Int))), hB 0 73 [.arr .u64 8 (m24.set x25.toNat (IntKind.u64.wrap ((m24.getD x25.toNat 0) + (m7.getD x25.toNat 0))))], hB 1 73 [.arr .u64 8 (List.replicate 8 0)], hB 3 73 [.arr .u64 8 m7]] (by kernel_rfl) (ih1 ((m24.set x25.toNat (IntKind.u64.wrap ((m24.getD x25.toNat 0) + (m7.getD x25.toNat 0)))), (IntKind.i64.wrap (x25 + (1 : Int)))) h)
      · refine tr_cond_f (decide (x25 < (8 : Int))) (by kernel_rfl) hc27 ?_
        refine tr_exit ?_
        refine q_k_exit ?_
        refine q_kr_exit ?_
        have h := Option.some.inj h
        subst h
        exact q_less [.s 2, .s 4, .h 0, .h 1] [sO 2 (.ptr 0 0), sO 4 (.ptr 1 0), hB 0 73 [.arr .u64 8 m24], hB 1 73 [.arr .u64 8 (List.replicate 8 0)]] (by kernel_rfl) hx1
  · clear h e23
    intro k ih0 hx0 z h
    obtain ⟨m5, x6⟩ := z
    replace h : (if (decide (x6 < (80 : Int))) = true then if 0 ≤ x6 ∧ x6 < ((80 : Nat) : Int) then (math_bits_RotateLeft64 (m5.getD 4 0) (-14 : Int)).bind (fun r10 => (math_bits_RotateLeft64 (m5.getD 4 0) (-18 : Int)).bind (fun r12 => (math_bits_RotateLeft64 (m5.getD 4 0) (-41 : Int)).bind (fun r14 => if 0 ≤ x6 ∧ x6 < ↑(List.length a1) then (math_bits_RotateLeft64 (m5.getD 0 0) (-28 : Int)).bind (fun r17 => (math_bits_RotateLeft64 (m5.getD 0 0) (-34 : Int)).bind (fun r19 => (math_bits_RotateLeft64 (m5.getD 0 0) (-39 : Int)).bind (fun r21 => wide_take_l0 h_0 a1 a3 k [(IntKind.u64.wrap ((IntKind.u64.wrap ((IntKind.u64.wrap ((IntKind.u64.wrap ((IntKind.u64.wrap ((m5.getD 7 0) + (bxor .u64 (bxor .u64 r10 r12) r14))) + (bxor .u64 (band .u64 (m5.getD 4 0) (m5.getD 5 0)) (band .u64 (bxor .u64 (if IntKind.u64.signed then -1 else IntKind.u64.max) (m5.getD 4 0)) (m5.getD 6 0))))) + (a1.getD x6.toNat 0))) + (a3.getD x6.toNat 0))) + (IntKind.u64.wrap ((bxor .u64 (bxor .u64 r17 r19) r21) + (bxor .u64 (bxor .u64 (band .u64 (m5.getD 0 0) (m5.getD 1 0)) (band .u64 (m5.getD 0 0) (m5.getD 2 0))) (band .u64 (m5.getD 1 0) (m5.getD 2 0))))))), (m5.getD 0 0), (m5.getD 1 0), (m5.getD 2 0), (IntKind.u64.wrap ((m5.getD 3 0) + (IntKind.u64.wrap ((IntKind.u64.wrap ((IntKind.u64.wrap ((IntKind.u64.wrap ((m5.getD 7 0) + (bxor .u64 (bxor .u64 r10 r12) r14))) + (bxor .u64 (band .u64 (m5.getD 4 0) (m5.getD 5 0)) (band .u64 (bxor .u64 (if IntKind.u64.signed then -1 else IntKind.u64.max) (m5.getD 4 0)) (m5.getD 6 0))))) + (a1.getD x6.toNat 0))) + (a3.getD x6.toNat 0))))), (m5.getD 4 0), (m5.getD 5 0), (m5.getD 6 0)] (IntKind.i64.wrap (x6 + (1 : Int)))))) else none))) else none else some m5) = _ := h
    refine tr_seq ?_
    refine tr_reg hT [] [.s 2, .s 4, .s 5, .s 6, .s 19, .s 20, .s 21, .h 0, .h 1, .h 2, .h 3] [sO 2 (.ptr 0 0), sO 4 (.ptr 1 0), sO 5 (.ptr 3 0), sO 6 (.slc 2), sG 19 [.arr .u64 80 a3], sI 20 .i64 x6, sB 21 (decide (x6 < (80 : Int))), hB 0 73 [.arr .u64 8 h_0], hB 1 73 [.arr .u64 8 (List.replicate 8 0)], hO 2 72 .u64 a1, hB 3 73 [.arr .u64 8 m5]] [] (by kernel_rfl) trivial ?_
    refine q_k ?_
    refine tr_seq ?_
    rcases ite_split h with ⟨hc8, h⟩ | ⟨hc8, h⟩
    · refine tr_cond_t (decide (x6 < (80 : Int))) (by kernel_rfl) hc8 ?_
      refine tr_skip ?_
      refine q_k ?_
      refine tr_seq ?_
      refine tr_block ?_
      refine tr_seq ?_
      obtain ⟨hn9, h⟩ := ite_some h
      refine tr_reg hT [] [.s 2, .s 4, .s 5, .s 6, .s 7, .s 8, .s 19, .s 20, .h 0, .h 1, .h 2, .h 3] [sO 2 (.ptr 0 0), sO 4 (.ptr 1 0), sO 5 (.ptr 3 0), sO 6 (.slc 2), sI 7 .i64 x6, sI 8 .u64 (a3.getD x6.toNat 0), sG 19 [.arr .u64 80 a3], sI 20 .i64 x6, hB 0 73 [.arr .u64 8 h_0], hB 1 73 [.arr .u64 8 (List.replicate 8 0)], hO 2 72 .u64 a1, hB 3 73 [.arr .u64 8 m5]] [0 ≤ x6 ∧ x6 < ((80 : Nat) : Int)] (by kernel_rfl) (hone hn9) ?_
      refine q_k ?_
      refine tr_seq ?_
      refine tr_regd hT hM [] [.s 2, .s 4, .s 5, .s 6, .s 7, .s 8, .s 9, .s 10, .s 19, .s 20, .h 0, .h 1, .h 2, .h 3] [sO 2 (.ptr 0 0), sO 4 (.ptr 1 0), sO 5 (.ptr 3 0), sO 6 (.slc 2), sI 7 .i64 x6, sI 8 .u64 (a3.getD x6.toNat 0), sI 9 .u64 (m5.getD 4 0), sI 10 .u64 (m5.getD 0 0), sG 19 [.arr .u64 80 a3], sI 20 .i64 x6, hB 0 73 [.arr .u64 8 h_0], hB 1 73 [.arr .u64 8 (List.replicate 8 0)], hO 2 72 .u64 a1, hB 3 73 [.arr .u64 8 m5]] [0 ≤ (4 : Int) ∧ (4 : Int) < ((8 : Nat) : Int), 0 ≤ (0 : Int) ∧ (0 : Int) < ((8 : Nat) : Int)] (by kernel_rfl) (hcons (by decide) (hone (by decide))) ?_
      refine q_k ?_
      refine tr_seq ?_
      obtain ⟨r10, e11, h⟩ := bind_some h
      obtain ⟨r12, e13, h⟩ := bind_some h
      obtain ⟨r14, e15, h⟩ := bind_some h
      refine tr_reg hT [(1, .call [] (.v (.one (.int .u64 r10))) []), (3, .call [] (.v (.one (.int .u64 r12))) []), (6, .call [] (.v (.one (.int .u64 r14))) [])] [.s 2, .s 4, .s 5, .s 6, .s 7, .s 8, .s 9, .s 10, .s 11, .s 19, .s 20, .h 0, .h 1, .h 2, .h 3] [sO 2 (.ptr 0 0), sO 4 (.ptr 1 0), sO 5 (.ptr 3 0), sO 6 (.slc 2), sI 7 .i64 x6, sI 8 .u64 (a3.getD x6.toNat 0), sI 9 .u64 (m5.getD 4 0), sI 10 .u64 (m5.getD 0 0), sI 11 .u64 (bxor .u64 (bxor .u64 r10 r12) r14), sG 19 [.arr .u64 80 a3], sI 20 .i64 x6, hB 0 73 [.arr .u64 8 h_0], hB 1 73 [.arr .u64 8 (List.replicate 8 0)], hO 2 72 .u64 a1, hB 3 73 [.arr .u64 8 m5]] [CallOk P 69 [.v (.one (.int .u64 (m5.getD 4 0))), .v (.one (.int .i64 (-14 : Int)))] [] (.v (.one (.int .u64 r10))) [], CallOk P 69 [.v (.one (.int .u64 (m5.getD 4 0))), .v (.one (.int .i64 (-18 : Int)))] [] (.v (.one (.int .u64 r12))) [], CallOk P 69 [.v (.one (.int .u64 (m5.getD 4 0))), .v (.one (.int .i64 (-41 : Int)))] [] (.v (.one (.int .u64 r14))) []] (by kernel_rfl) (hcons (math_bits_RotateLeft64_ok (m5.getD 4 0) (-14 : Int) r10 e11) (hcons (math_bits_RotateLeft64_ok (m5.getD 4 0) (-18 : Int) r12 e13) (hone (math_bits_RotateLeft64_ok (m5.getD 4 0) (-41 : Int) r14 e15)))) ?_
      refine q_k ?_
      refine tr_seq ?_
      obtain ⟨hn16, h⟩ := ite_some h
      refine tr_regd hT hM [] [.s 2, .s 4, .s 5, .s 6, .s 9, .s 10, .s 12, .s 19, .s 20, .h 0, .h 1, .h 2, .h 3] [sO 2 (.ptr 0 0), sO 4 (.ptr 1 0), sO 5 (.ptr 3 0), sO 6 (.slc 2), sI 9 .u64 (m5.getD 4 0), sI 10 .u64 (m5.getD 0 0), sI 12 .u64 (IntKind.u64.wrap ((IntKind.u64.wrap ((IntKind.u64.wrap ((IntKind.u64.wrap ((m5.getD 7 0) + (bxor .u64 (bxor .u64 r10 r12) r14))) + (bxor .u64 (band .u64 (m5.getD 4 0) (m5.getD 5 0)) (band .u64 (bxor .u64 (if IntKind.u64.signed then -1 else IntKind.u64.max) (m5.getD 4 0)) (m5.getD 6 0))))) + (a1.getD x6.toNat 0))) + (a3.getD x6.toNat 0))), sG 19 [.arr .u64 80 a3], sI 20 .i64 x6, hB 0 73 [.arr .u64 8 h_0], hB 1 73 [.arr .u64 8 (List.replicate 8 0)], hO 2 72 .u64 a1, hB 3 73 [.arr .u64 8 m5]] [0 ≤ (7 : Int) ∧ (7 : Int) < ((8 : Nat) : Int), 0 ≤ (5 : Int) ∧ (5 : Int) < ((8 : Nat) : Int), 0 ≤ (6 : Int) ∧ (6 : Int) < ((8 : Nat) : Int), 0 ≤ x6 ∧ x6 < ↑(List.length a1), x6 < ↑(List.length a1)] (by kernel_rfl) (hcons (by decide) (hcons (by decide) (hcons (by decide) (hcons hn16 (hone hn16.2))))) ?_
      refine q_k ?_
      refine tr_seq ?_
      obtain ⟨r17, e18, h⟩ := bind_some h
      obtain ⟨r19, e20, h⟩ := bind_some h
      obtain ⟨r21, e22, h⟩ := bind_some h
      refine tr_reg hT [(1, .call [] (.v (.one (.int .u64 r17))) []), (3, .call [] (.v (.one (.int .u64 r19))) []), (6, .call [] (.v (.one (.int .u64 r21))) [])] [.s 2, .s 4, .s 5, .s 6, .s 9, .s 10, .s 12, .s 13, .s 19, .s 20, .h 0, .h 1, .h 2, .h 3] [sO 2 (.ptr 0 0), sO 4 (.ptr 1 0), sO 5 (.ptr 3 0), sO 6 (.slc 2), sI 9 .u64 (m5.getD 4 0), sI 10 .u64 (m5.getD 0 0), sI 12 .u64 (IntKind.u64.wrap ((IntKind.u64.wrap ((IntKind.u64.wrap ((IntKind.u64.wrap ((m5.getD 7 0) + (bxor .u64 (bxor .u64 r10 r12) r14))) + (bxor .u64 (band .u64 (m5.getD 4 0) (m5.getD 5 0)) (band .u64 (bxor .u64 (if IntKind.u64.signed then -1 else IntKind.u64.max) (m5.getD 4 0)) (m5.getD 6 0))))) + (a1.getD x6.toNat 0))) + (a3.getD x6.toNat 0))), sI 13 .u64 (bxor .u64 (bxor .u64 r17 r19) r21), sG 19 [.arr .u64 80 a3], sI 20 .i64 x6, hB 0 73 [.arr .u64 8 h_0], hB 1 73 [.arr .u64 8 (List.replicate 8 0)], hO 2 72 .u64 a1, hB 3 73 [.arr .u64 8 m5]] [CallOk P 69 [.v (.one (.int .u64 (m5.getD 0 0))), .v (.one (.int .i64 (-28 : Int)))] [] (.v (.one (.int .u64 r17))) [], CallOk P 69 [.v (.one (.int .u64 (m5.getD 0 0))), .v (.one (.int .i64 (-34 : Int)))] [] (.v (.one (.int .u64 r19))) [], CallOk P 69 [.v (.one (.int .u64 (m5.getD 0 0))), .v (.one (.int .i64 (-39 : Int)))] [] (.v (.one (.int .u64 r21))) []] (by kernel_rfl) (hcons (math_bits_RotateLeft64_ok (m5.getD 0 0) (-28 : Int) r17 e18) (hcons (math_bits_RotateLeft64_ok (m5.getD 0 0) (-34 : Int) r19 e20) (hone (math_bits_RotateLeft64_ok (m5.getD 0 0) (-39 : Int) r21 e22)))) ?_
      refine q_k ?_
      refine tr_seq ?_
      refine tr_reg hT [] [.s 2, .s 4, .s 5, .s 6, .s 9, .s 10, .s 12, .s 14, .s 19, .s 20, .h 0, .h 1, .h 2, .h 3] [sO 2 (.ptr 0 0), sO 4 (.ptr 1 0), sO 5 (.ptr 3 0), sO 6 (.slc 2), sI 9 .u64 (m5.getD 4 0), sI 10 .u64 (m5.getD 0 0), sI 12 .u64 (IntKind.u64.wrap ((IntKind.u64.wrap ((IntKind.u64.wrap ((IntKind.u64.wrap ((m5.getD 7 0) + (bxor .u64 (bxor .u64 r10 r12) r14))) + (bxor .u64 (band .u64 (m5.getD 4 0) (m5.getD 5 0)) (band .u64 (bxor .u64 (if IntKind.u64.signed then -1 else IntKind.u64.max) (m5.getD 4 0)) (m5.getD 6 0))))) + (a1.getD x6.toNat 0))) + (a3.getD x6.toNat 0))), sI 14 .u64 (IntKind.u64.wrap ((bxor .u64 (bxor .u64 r17 r19) r21) + (bxor .u64 (bxor .u64 (band .u64 (m5.getD 0 0) (m5.getD 1 0)) (band .u64 (m5.getD 0 0) (m5.getD 2 0))) (band .u64 (m5.getD 1 0) (m5.getD 2 0))))), sG 19 [.arr .u64 80 a3], sI 20 .i64 x6, hB 0 73 [.arr .u64 8 h_0], hB 1 73 [.arr .u64 8 (List.replicate 8 0)], hO 2 72 .u64 a1, hB 3 73 [.arr .u64 8 m5]] [0 ≤ (1 : Int) ∧ (1 : Int) < ((8 : Nat) : Int), 0 ≤ (2 : Int) ∧ (2 : Int) < ((8 : Nat) : Int), 0 ≤ (1 : Int) ∧ (1 : Int) < ((8 : Nat) : Int), 0 ≤ (2 : Int) ∧ (2 : Int) < ((8 : Nat) : Int)] (by kernel_rfl) (hcons (by decide) (hcons (by decide) (hcons (by decide) (hone (by decide))))) ?_
      refine q_k ?_
      refine tr_reg hT [] [.s 2, .s 4, .s 5, .s 6, .s 19, .s 20, .h 0, .h 1, .h 2, .h 3] [sO 2 (.ptr 0 0), sO 4 (.ptr 1 0), sO 5 (.ptr 3 0), sO 6 (.slc 2), sG 19 [.arr .u64 80 a3], sI 20 .i64 x6, hB 0 73 [.arr .u64 8 h_0], hB 1 73 [.arr .u64 8 (List.replicate 8 0)], hO 2 72 .u64 a1, hB 3 73 [.arr .u64 8 [(IntKind.u64.wrap ((IntKind.u64.wrap ((IntKind.u64.wrap ((IntKind.u64.wrap ((IntKind.u64.wrap ((m5.getD 7 0) + (bxor .u64 (bxor .u64 r10 r12) r14))) + (bxor .u64 (band .u64 (m5.getD 4 0) (m5.getD 5 0)) (band .u64 (bxor .u64 (if IntKind.u64.signed then -1 else IntKind.u64.max) (m5.getD 4 0)) (m5.getD 6 0))))) + (a1.getD x6.toNat 0))) + (a3.getD x6.toNat 0))) + (IntKind.u64.wrap ((bxor .u64 (bxor .u64 r17 r19) r21) + (bxor .u64 (bxor .u64 (band .u64 (m5.getD 0 0) (m5.getD 1 0)) (band .u64 (m5.getD 0 0) (m5.getD 2 0))) (band .u64 (m5.getD 1 0) (m5.getD 2 0))))))), (m5.getD 0 0), (m5.getD 1 0), (m5.getD 2 0), (IntKind.u64.wrap ((m5.getD 3 0) + (IntKind.u64.wrap ((IntKind.u64.wrap ((IntKind.u64.wrap ((IntKind.u64.wrap ((m5.getD 7 0) + (bxor .u64 (bxor .u64 r10 r12) r14))) + (bxor .u64 (band .u64 (m5.getD 4 0) (m5.getD 5 0)) (band .u64 (bxor .u64 (if IntKind.u64.signed then -1 else IntKind.u64.max) (m5.getD 4 0)) (m5.getD 6 0))))) + (a1.getD x6.toNat 0))) + (a3.getD x6.toNat 0))))), (m5.getD 4 0), (m5.getD 5 0), (m5.getD 6 0)]]] [0 ≤ (1 : Int) ∧ (1 : Int) < ((8 : Nat) : Int), 0 ≤ (2 : Int) ∧ (2 : Int) < ((8 : Nat) : Int), 0 ≤ (3 : Int) ∧ (3 : Int) < ((8 : Nat) : Int), 0 ≤ (5 : Int) ∧ (5 : Int) < ((8 : Nat) : Int), 0 ≤ (6 : Int) ∧ (6 : Int) < ((8 : Nat) : Int)] (by kernel_rfl) (hcons (by decide) (hcons (by decide) (hcons (by decide) (hcons (by decide) (hone (by decide)))))) ?_
      refine q_b 1 ?_
      refine q_k ?_
      refine tr_reg hT [] [.s 2, .s 4, .s 5, .s 6, .s 19, .s 20, .h 0, .h 1, .h 2, .h 3] [sO 2 (.ptr 0 0), sO 4 (.ptr 1 0), sO 5 (.ptr 3 0), sO 6 (.slc 2), sG 19 [.arr .u64 80 a3], sI 20 .i64 (IntKind.i64.wrap (x6 + (1 : Int))), hB 0 73 [.arr .u64 8 h_0], hB 1 73 [.arr .u64 8 (List.replicate 8 0)], hO 2 72 .u64 a1, hB 3 73 [.arr .u64 8 [(IntKind.u64.wrap ((IntKind.u64.wrap ((IntKind.u64.wrap ((IntKind.u64.wrap ((IntKind.u64.wrap ((m5.getD 7 0) + (bxor .u64 (bxor .u64 r10 r12) r14))) + (bxor .u64 (band .u64 (m5.getD 4 0) (m5.getD 5 0)) (band .u64 (bxor .u64 (if IntKind.u64.signed then -1 else IntKind.u64.max) (m5.getD 4 0)) (m5.getD 6 0))))) + (a1.getD x6.toNat 0))) + (a3.getD x6.toNat 0))) + (IntKind.u64.wrap ((bxor .u64 (bxor .u64 r17 r19) r21) + (bxor .u64 (bxor .u64 (band .u64 (m5.getD 0 0) (m5.getD 1 0)) (band .u64 (m5.getD 0 0) (m5.getD 2 0))) (band .u64 (m5.getD 1 0) (m5.getD 2 0))))))), (m5.getD 0 0), (m5.getD 1 0), (m5.getD 2 0), (IntKind.u64.wrap ((m5.getD 3 0) + (IntKind.u64.wrap ((IntKind.u64.wrap ((IntKind.u64.wrap ((IntKind.u64.wrap ((m5.getD 7 0) + (bxor .u64 (bxor .u64 r10 r12) r14))) + (bxor .u64 (band .u64 (m5.getD 4 0) (m5.getD 5 0)) (band .u64 (bxor .u64 (if IntKind.u64.signed then -1 else IntKind.u64.max) (m5.getD 4 0)) (m5.getD 6 0))))) + (a1.getD x6.toNat 0))) + (a3.getD x6.toNat 0))))), (m5.getD 4 0), (m5.getD 5 0), (m5.getD 6 0)]]] [] (by kernel_rfl) trivial ?_
      refine q_kr ?_
      exact trR_less [.s 2, .s 4, .s 5, .s 6, .s 19, .s 20, .h 0, .h 1, .h 2, .h 3] [sO 2 (.ptr 0 0), sO 4 (.ptr 1 0), sO 5 (.ptr 3 0), sO 6 (.slc 2), sG 19 [.arr .u64 80 a3], sI 20 .i64 (IntKind.i64.wrap (x6 + (1 : Int))), hB 0 73 [.arr .u64 8 h_0], hB 1 73 [.arr .u64 8 (List.replicate 8 0)], hO 2 72 .u64 a1, hB 3 73 [.arr .u64 8 [(IntKind.u64.wrap ((IntKind.u64.wrap ((IntKind.u64.wrap ((IntKind.u64.wrap ((IntKind.u64.wrap ((m5.getD 7 0) + (bxor .u64 (bxor .u64 r10 r12) r14))) + (bxor .u64 (band .u64 (m5.getD 4 0) (m5.getD 5 0)) (band .u64 (bxor .u64 (if IntKind.u64.signed then -1 else IntKind.u64.max) (m5.getD 4 0)) (m5.getD 6 0))))) + (a1.getD x6.toNat 0))) + (a3.getD x6.toNat 0))) + (IntKind.u64.wrap ((bxor .u64 (bxor .u64 r17 r19) r21) + (bxor .u64 (bxor .u64 (band .u64 (m5.getD 0 0) (m5.getD 1 0)) (band .u64 (m5.getD 0 0) (m5.getD 2 0))) (band .u64 (m5.getD 1 0) (m5.getD 2 0))))))), (m5.getD 0 0), (m5.getD 1 0), (m5.getD 2 0), (IntKind.u64.wrap ((m5.getD 3 0) + (IntKind.u64.wrap ((IntKind.u64.wrap ((IntKind.u64.wrap ((IntKind.u64.wrap ((m5.getD 7 0) + (bxor .u64 (bxor .u64 r10 r12) r14))) + (bxor .u64 (band .u64 (m5.getD 4 0) (m5.getD 5 0)) (band .u64 (bxor .u64 (if IntKind.u64.signed then -1 else IntKind.u64.max) (m5.getD 4 0)) (m5.getD 6 0))))) + (a1.getD x6.toNat 0))) + (a3.getD x6.toNat 0))))), (m5.getD 4 0), (m5.getD 5 0), (m5.getD 6 0)]]] (by kernel_rfl) (ih0 ([(IntKind.u64.wrap ((IntKind.u64.wrap ((IntKind.u64.wrap ((IntKind.u64.wrap ((IntKind.u64.wrap ((m5.getD 7 0) + (bxor .u64 (bxor .u64 r10 r12) r14))) + (bxor .u64 (band .u64 (m5.getD 4 0) (m5.getD 5 0)) (band .u64 (bxor .u64 (if IntKind.u64.signed then -1 else IntKind.u64.max) (m5.getD 4 0)) (m5.getD 6 0))))) + (a1.getD x6.toNat 0))) + (a3.getD x6.toNat 0))) + (IntKind.u64.wrap ((bxor .u64 (bxor .u64 r17 r19) r21) + (bxor .u64 (bxor .u64 (band .u64 (m5.getD 0 0) (m5.getD 1 0)) (band .u64 (m5.getD 0 0) (m5.getD 2 0))) (band .u64 (m5.getD 1 0) (m5.getD 2 0))))))), (m5.getD 0 0), (m5.getD 1 0), (m5.getD 2 0), (IntKind.u64.wrap ((m5.getD 3 0) + (IntKind.u64.wrap ((IntKind.u64.wrap ((IntKind.u64.wrap ((IntKind.u64.wrap ((m5.getD 7 0) + (bxor .u64 (bxor .u64 r10 r12) r14))) + (bxor .u64 (band .u64 (m5.getD 4 0) (m5.getD 5 0)) (band .u64 (bxor .u64 (if IntKind.u64.signed then -1 else IntKind.u64.max) (m5.getD 4 0)) (m5.getD 6 0))))) + (a1.getD x6.toNat 0))) + (a3.getD x6.toNat 0))))), (m5.getD 4 0), (m5.getD 5 0), (m5.getD 6 0)], (IntKind.i64.wrap (x6 + (1 : Int)))) h)
    · refine tr_cond_f (decide (x6 < (80 : Int))) (by kernel_rfl) hc8 ?_
      refine tr_exit ?_
      refine q_k_exit ?_
      refine q_kr_exit ?_
      have h := Option.some.inj h
      subst h
      exact q_less [.s 2, .s 4, .s 5, .h 0, .h 1, .h 3] [sO 2 (.ptr 0 0), sO 4 (.ptr 1 0), sO 5 (.ptr 3 0), hB 0 73 [.arr .u64 8 h_0], hB 1 73 [.arr .u64 8 (List.replicate 8 0)], hB 3 73 [.arr .u64 8 m5]] (by kernel_rfl) hx0

theorem wide_Sum_ok (parts_0 : List (List Int)) (r : List Int) (h : wide_Sum parts_0 = some r) : CallOk P 29 [.v (.one (.slc 9000))] [(9000, .rows (.bs .u8 parts_0))] (.v (.agg [.arr .u8 64 r])) [] := by
  refine call1 (N := 37) Try.func29 (by kernel_rfl) rfl rfl rfl [(9000, .rows (.bs .u8 parts_0))] (by kernel_rfl) ?_
  intro _ B w0
  show Tr P B 37 w0 _ _ (RetQ P Try.f29 (R1 _ _ B w0))
  unfold wide_Sum at h
  refine tr_seq ?_
  refine tr_reg hT [(0, .key 0)] [.s 0, .s 2, .h 0, .h 9000] [sO 0 (.slc 9000), sO 2 (.ptr 0 0), hB 0 34 [.arr .u8 64 (List.replicate 64 0)], hW 9000 (.bs .u8 parts_0)] [] (by kernel_rfl) trivial ?_
  refine q_k ?_
  refine tr_seq ?_
  refine tr_reg hT [(1, .key 1)] [.s 0, .s 2, .s 3, .h 0, .h 1, .h 9000] [sO 0 (.slc 9000), sO 2 (.ptr 0 0), sO 3 (.ptr 1 0), hB 0 34 [.arr .u8 64 (List.replicate 64 0)], hB 1 73 [.arr .u64 8 [(7640891576956012808 : Int), (13503953896175478587 : Int), (4354685564936845355 : Int), (11912009170470909681 : Int), (5840696475078001361 : Int), (11170449401992604703 : Int), (2270897969802886507 : Int), (6620516959819538809 : Int)]], hW 9000 (.bs .u8 parts_0)] [] (by kernel_rfl) trivial ?_
  refine q_k ?_
  refine tr_seq ?_
  refine tr_seq ?_
  obtain ⟨a1, e2, h⟩ := bind_some h
  obtain ⟨a3, e4, h⟩ := bind_some h
  refine tr_reg hT [(1, .call [9000] (.v (.one (.slc 2))) [(2, .own 5 .u8 a1)]), (2, .call [2] (.v (.one (.slc 3))) [(3, .own 5 .u8 a3)])] [.s 2, .s 3, .s 4, .h 0, .h 1, .h 3] [sO 2 (.ptr 0 0), sO 3 (.ptr 1 0), sO 4 (.slc 3), hB 0 34 [.arr .u8 64 (List.replicate 64 0)], hB 1 73 [.arr .u64 8 [(7640891576956012808 : Int), (13503953896175478587 : Int), (4354685564936845355 : Int), (11912009170470909681 : Int), (5840696475078001361 : Int), (11170449401992604703 : Int), (2270897969802886507 : Int), (6620516959819538809 : Int)]], hO 3 5 .u8 a3] [CallOk P 51 [.v (.one (.slc 9000))] [(9000, .rows (.bs .u8 parts_0))] (.v (.one (.slc 2))) [(2, .own 5 .u8 a1)], CallOk P 50 [.v (.one (.slc 2))] [(2, .own 5 .u8 a1)] (.v (.one (.slc 3))) [(3, .own 5 .u8 a3)]] (by kernel_rfl) (hcons ((slices_Concat_byte_byte_ok parts_0 a1 e2).tr [(9000, .slc 9000), (8900, .slc 2)] rfl (by kernel_rfl) ⟨.rows (by kernel_rfl), trivial⟩ (by kernel_rfl) (by kernel_rfl) rfl rfl) (hone ((wide_padded_ok a1 a3 e4).tr [(9000, .slc 2), (8900, .slc 3)] rfl (by kernel_rfl) ⟨.ownrd (e := 5) (by kernel_rfl), trivial⟩ (by kernel_rfl) (by kernel_rfl) rfl rfl))) ?_
  refine q_k ?_
  refine tr_block ?_
  obtain ⟨m7, e13, h⟩ := bind_some h
  refine tr_fit [(4, .slc 3)] [sO 2 (.ptr 0 0), sO 3 (.ptr 1 0), sO 4 (.slc 4), hB 0 34 [.arr .u8 64 (List.replicate 64 0)], hB 1 73 [.arr .u64 8 [(7640891576956012808 : Int), (13503953896175478587 : Int), (4354685564936845355 : Int), (11912009170470909681 : Int), (5840696475078001361 : Int), (11170449401992604703 : Int), (2270897969802886507 : Int), (6620516959819538809 : Int)]], hR 4 .u8 a3] [(0, .blk 34 [.arr .u8 64 (List.replicate 64 0)]), (1, .blk 73 [.arr .u64 8 [(7640891576956012808 : Int), (13503953896175478587 : Int), (4354685564936845355 : Int), (11912009170470909681 : Int), (5840696475078001361 : Int), (11170449401992604703 : Int), (2270897969802886507 : Int), (6620516959819538809 : Int)]]), (4, .rd .u8 a3)] (by kernel_rfl) (by kernel_rfl) (by kernel_rfl) rfl ⟨.blk (by kernel_rfl) (by kernel_rfl), .blk (by kernel_rfl) (by kernel_rfl), .ownrd (e := 5) (by kernel_rfl), trivial⟩ (by kernel_rfl) ?_
  refine tr_loop_fuel (id := 0) (α := List Int × List Int) (β := List Int) (fun z => [sO 2 (.ptr 0 0), sO 3 (.ptr 1 0), sO 4 (.slc 4), hB 0 34 [.arr .u8 64 (List.replicate 64 0)], hB 1 73 [.arr .u64 8 z.1], hR 4 .u8 z.2]) (fun z => [sO 2 (.ptr 0 0), sO 3 (.ptr 1 0), hB 0 34 [.arr .u8 64 (List.replicate 64 0)], hB 1 73 [.arr .u64 8 z]]) (fun k z => wide_Sum_l0 k z.1 z.2) m7 (fun _ => rfl) (List.length a3 + 1) ([(7640891576956012808 : Int), (13503953896175478587 : Int), (4354685564936845355 : Int), (11912009170470909681 : Int), (5840696475078001361 : Int), (11170449401992604703 : Int), (2270897969802886507 : Int), (6620516959819538809 : Int)], a3) e13 ?_ ?_
  · skip
    replace h : ((wide_Sum_l1 m7 (((64 : Int) - (0 : Int)).toNat + 1) (List.replicate 64 0) (0 : Int)).bind (fun m16 => some m16)) = _ := h
    refine q_b_this ?_
    refine q_k ?_
    refine tr_seq ?_
    refine tr_reg hT [(0, .key 7)] [.s 2, .s 3, .s 5, .h 0, .h 1, .h 7] [sO 2 (.ptr 0 0), sO 3 (.ptr 1 0), sO 5 (.ptr 7 0), hB 0 34 [.arr .u8 64 (List.replicate 64 0)], hB 1 73 [.arr .u64 8 m7], hB 7 34 [.arr .u8 64 (List.replicate 64 0)]] [] (by kernel_rfl) trivial ?_
    refine q_k ?_
    refine tr_seq ?_
    refine tr_seq ?_
    refine tr_reg hT [] [.s 2, .s 3, .s 5, .s 20, .h 0, .h 1, .h 7] [sO 2 (.ptr 0 0), sO 3 (.ptr 1 0), sO 5 (.ptr 7 0), sI 20 .i64 (0 : Int), hB 0 34 [.arr .u8 64 (List.replicate 64 0)], hB 1 73 [.arr .u64 8 m7], hB 7 34 [.arr .u8 64 (List.replicate 64 0)]] [] (by kernel_rfl) trivial ?_
    refine q_k ?_
    refine tr_block ?_
    obtain ⟨m16, e21, h⟩ := bind_some h
    refine tr_fit [] [sO 2 (.ptr 0 0), sO 3 (.ptr 1 0), sO 5 (.ptr 7 0), sI 20 .i64 (0 : Int), hB 0 34 [.arr .u8 64 (List.replicate 64 0)], hB 1 73 [.arr .u64 8 m7], hB 7 34 [.arr .u8 64 (List.replicate 64 0)]] [(0, .blk 34 [.arr .u8 64 (List.replicate 64 0)]), (1, .blk 73 [.arr .u64 8 m7]), (7, .blk 34 [.arr .u8 64 (List.replicate 64 0)])] (by kernel_rfl) (by kernel_rfl) (by kernel_rfl) rfl ⟨.blk (by kernel_rfl) (by kernel_rfl), .blk (by kernel_rfl) (by kernel_rfl), .blk (by kernel_rfl) (by kernel_rfl), trivial⟩ (by kernel_rfl) ?_
    refine tr_loop_fuel (id := 2) (α := List Int × Int) (β := List Int) (fun z => [sO 2 (.ptr 0 0), sO 3 (.ptr 1 0), sO 5 (.ptr 7 0), sI 20 .i64 z.2, hB 0 34 [.arr .u8 64 (List.replicate 64 0)], hB 1 73 [.arr .u64 8 m7], hB 7 34 [.arr .u8 64 z.1]]) (fun z => [sO 2 (.ptr 0 0), sO 5 (.ptr 7 0), hB 0 34 [.arr .u8 64 (List.replicate 64 0)], hB 7 34 [.arr .u8 64 z]]) (fun k z => wide_Sum_l1 m7 k z.1 z.2) m16 (fun _ => rfl) (((64 : Int) - (0 : Int)).toNat + 1) ((List.replicate 64 0), (0 : Int)) e21 ?_ ?_
    · skip
      replace h : (some m16) = _ := h
      refine q_b_this ?_
      refine q_k ?_
      refine tr_seq ?_
      refine tr_reg hT [] [.s 2, .h 0] [sO 2 (.ptr 0 0), hB 0 34 [.arr .u8 64 m16]] [] (by kernel_rfl) trivial ?_
      refine q_k ?_
      refine tr_ret ?_
      have h := Option.some.inj h
      subst h
      refine q_less [.s 2, .h 0] [sO 2 (.ptr 0 0), hB 0 34 [.arr .u8 64 m16]] (by kernel_rfl) ?_
      exact q_ret1 hT (.v (.agg [.arr .u8 64 m16])) [] (by kernel_rfl) (by kernel_rfl) (by kernel_rfl)
    · clear h e21
      intro k ih1 hx1 z h
      obtain ⟨m14, x15⟩ := z
      replace h : (if (decide (x15 < (64 : Int))) = true then if 0 ≤ (IntKind.i64.wrap (x15.tdiv (8 : Int))) ∧ (IntKind.i64.wrap (x15.tdiv (8 : Int))) < ((8 : Nat) : Int) then if 0 ≤ (IntKind.i64.wrap ((56 : Int) - (IntKind.i64.wrap ((8 : Int) * (x15.tmod (8 : Int)))))) then if 0 ≤ x15 ∧ x15 < ((64 : Nat) : Int) then wide_Sum_l1 m7 k (m14.set x15.toNat (IntKind.u8.wrap (shr .u64 (m7.getD (IntKind.i64.wrap (x15.tdiv (8 : Int))).toNat 0) (IntKind.i64.wrap ((56 : Int) - (IntKind.i64.wrap ((8 : Int) * (x15.tmod (8 : Int))))))))) (IntKind.i64.wrap (x15 + (1 : Int))) else none else none else none else some m14) = _ := h
      refine tr_seq ?_
      refine tr_reg hT [] [.s 2, .s 3, .s 5, .s 20, .s 21, .h 0, .h 1, .h 7] [sO 2 (.ptr 0 0), sO 3 (.ptr 1 0), sO 5 (.ptr 7 0), sI 20 .i64 x15, sB 21 (decide (x15 < (64 : Int))), hB 0 34 [.arr .u8 64 (List.replicate 64 0)], hB 1 73 [.arr .u64 8 m7], hB 7 34 [.arr .u8 64 m14]] [] (by kernel_rfl) trivial ?_
      refine q_k ?_
      refine tr_seq ?_
      rcases ite_split h with ⟨hc17, h⟩ | ⟨hc17, h⟩
      · refine tr_cond_t (decide (x15 < (64 : Int))) (by kernel_rfl) hc17 ?_
        refine tr_skip ?_
        refine q_k ?_
        refine tr_seq ?_
        refine tr_block ?_
        refine tr_seq ?_
        refine tr_reg hT [] [.s 2, .s 3, .s 5, .s 6, .s 20, .h 0, .h 1, .h 7] [sO 2 (.ptr 0 0), sO 3 (.ptr 1 0), sO 5 (.ptr 7 0), sI 6 .i64 x15, sI 20 .i64 x15, hB 0 34 [.arr .u8 64 (List.replicate 64 0)], hB 1 73 [.arr .u64 8 m7], hB 7 34 [.arr .u8 64 m14]] [] (by kernel_rfl) trivial ?_
        refine q_k ?_
        obtain ⟨hn18, h⟩ := ite_some h
        obtain ⟨hn19, h⟩ := ite_some h
        obtain ⟨hn20, h⟩ := ite_some h
        refine tr_reg hT [] [.s 2, .s 3, .s 5, .s 20, .h 0, .h 1, .h 7] [sO 2 (.ptr 0 0), sO 3 (.ptr 1 0), sO 5 (.ptr 7 0), sI 20 .i64 x15, hB 0 34 [.arr .u8 64 (List.replicate 64 0)], hB 1 73 [.arr .u64 8 m7], hB 7 34 [.arr .u8 64 (m14.set x15.toNat (IntKind.u8.wrap (shr .u64 (m7.getD (IntKind.i64.wrap (x15.tdiv (8 : Int))).toNat 0) (IntKind.i64.wrap ((56 : Int) - (IntKind.i64.wrap ((8 : Int) * (x15.tmod (8 : Int)))))))))]] [(8 : Int) ≠ 0, 0 ≤ (IntKind.i64.wrap (x15.tdiv (8 : Int))) ∧ (IntKind.i64.wrap (x15.tdiv (8 : Int))) < ((8 : Nat) : Int), (8 : Int) ≠ 0, 0 ≤ (IntKind.i64.wrap ((56 : Int) - (IntKind.i64.wrap ((8 : Int) * (x15.tmod (8 : Int)))))), 0 ≤ x15 ∧ x15 < ((64 : Nat) : Int)] (by kernel_rfl) (hcons (by decide) (hcons hn18 (hcons (by decide) (hcons hn19 (hone hn20))))) ?_
        refine q_b 3 ?_
        refine q_k ?_
        refine tr_reg hT [] [.s 2, .s 3, .s 5, .s 20, .h 0, .h 1, .h 7] [sO 2 (.ptr 0 0), sO 3 (.ptr 1 0), sO 5 (.ptr 7 0), sI 20 .i64 (IntKind.i64.wrap (x15 + (1 : Int))), hB 0 34 [.arr .u8 64 (List.replicate 64 0)], hB 1 73 [.arr .u64 8 m7], hB 7 34 [.arr .u8 64 (m14.set x15.toNat (IntKind.u8.wrap (shr .u64 (m7.getD (IntKind.i64.wrap (x15.tdiv (8 : Int))).toNat 0) (IntKind.i64.wrap ((56 : Int) - (IntKind.i64.wrap ((8 : Int) * (x15.tmod (8 : Int)))))))))]] [] (by kernel_rfl) trivial ?_
        refine q_kr ?_
        exact trR_less [.s 2, .s 3, .s 5, .s 20, .h 0, .h 1, .h 7] [sO 2 (.ptr 0 0), sO 3 (.ptr 1 0), sO 5 (.ptr 7 0), sI 20 .i64 (IntKind.i64.wrap (x15 + (1 : Int))), hB 0 34 [.arr .u8 64 (List.replicate 64 0)], hB 1 73 [.arr .u64 8 m7], hB 7 34 [.arr .u8 64 (m14.set x15.toNat (IntKind.u8.wrap (shr .u64 (m7.getD (IntKind.i64.wrap (x15.tdiv (8 : Int))).toNat 0) (IntKind.i64.wrap ((56 : Int) - (IntKind.i64.wrap ((8 : Int) * (x15.tmod (8 : Int)))))))))]] (by kernel_rfl) (ih1 ((m14.set x15.toNat (IntKind.u8.wrap (shr .u64 (m7.getD (IntKind.i64.wrap (x15.tdiv (8 : Int))).toNat 0) (IntKind.i64.wrap ((56 : Int) - (IntKind.i64.wrap ((8 : Int) * (x15.tmod (8 : Int))))))))), (IntKind.i64.wrap (x15 + (1 : Int)))) h)
      · refine tr_cond_f (decide (x15 < (64 : Int))) (by kernel_rfl) hc17 ?_
        refine tr_exit ?_
        refine q_k_exit ?_
        refine q_kr_exit ?_
        have h := Option.some.inj h
        subst h
        exact q_less [.s 2, .s 5, .h 0, .h 7] [sO 2 (.ptr 0 0), sO 5 (.ptr 7 0), hB 0 34 [.arr .u8 64 (List.replicate 64 0)], hB 7 34 [.arr .u8 64 m14]] (by kernel_rfl) hx1
  · clear h e13
    intro k ih0 hx0 z h
    obtain ⟨m5, p6⟩ := z
    replace h : (if (decide ((↑(List.length p6) : Int) > (0 : Int))) = true then if 0 ≤ (0 : Int) ∧ (0 : Int) ≤ (128 : Int) ∧ (128 : Int) ≤ (↑(List.length p6) : Int) then (wide_take m5 ((p6.take (128)).drop 0)).bind (fun a10 => if 0 ≤ (128 : Int) ∧ (128 : Int) ≤ (↑(List.length p6) : Int) ∧ (↑(List.length p6) : Int) ≤ (↑(List.length p6) : Int) then wide_Sum_l0 k a10 ((p6.take (((↑(List.length p6) : Int)).toNat)).drop 128) else none) else none else some m5) = _ := h
    refine tr_seq ?_
    refine tr_seq ?_
    refine tr_reg hT [] [.s 2, .s 3, .s 4, .s 13, .h 0, .h 1, .h 4] [sO 2 (.ptr 0 0), sO 3 (.ptr 1 0), sO 4 (.slc 4), sB 13 (decide ((↑(List.length p6) : Int) > (0 : Int))), hB 0 34 [.arr .u8 64 (List.replicate 64 0)], hB 1 73 [.arr .u64 8 m5], hR 4 .u8 p6] [] (by kernel_rfl) trivial ?_
    refine q_k ?_
    rcases ite_split h with ⟨hc8, h⟩ | ⟨hc8, h⟩
    · refine tr_cond_t (decide ((↑(List.length p6) : Int) > (0 : Int))) (by kernel_rfl) hc8 ?_
      refine tr_skip ?_
      refine q_k ?_
      refine tr_seq ?_
      refine tr_block ?_
      obtain ⟨hn9, h⟩ := ite_some h
      obtain ⟨a10, e11, h⟩ := bind_some h
      refine tr_regd hT hM [(2, .key 5), (3, .call [5] (.v (.agg [.arr .u64 8 a10])) [])] [.s 2, .s 3, .s 4, .h 0, .h 1, .h 4] [sO 2 (.ptr 0 0), sO 3 (.ptr 1 0), sO 4 (.slc 4), hB 0 34 [.arr .u8 64 (List.replicate 64 0)], hB 1 73 [.arr .u64 8 a10], hR 4 .u8 p6] [0 ≤ (0 : Int) ∧ (0 : Int) ≤ (128 : Int) ∧ (128 : Int) ≤ (↑(List.length p6) : Int), CallOk P 52 [.v (.agg [.arr .u64 8 m5]), .v (.one (.slc 5))] [(5, .rd .u8 ((p6.take (128)).drop 0))] (.v (.agg [.arr .u64 8 a10])) []] (by kernel_rfl) (hcons hn9 (hone ((wide_take_ok m5 ((p6.take (128)).drop 0) a10 e11).tr [(9000, .slc 5)] rfl (by kernel_rfl) ⟨.rd (by kernel_rfl), trivial⟩ (by kernel_rfl) (by kernel_rfl) rfl rfl))) ?_
      refine q_b 1 ?_
      refine q_k ?_
      obtain ⟨hn12, h⟩ := ite_some h
      refine tr_reg hT [(1, .key 6)] [.s 2, .s 3, .s 4, .h 0, .h 1, .h 6] [sO 2 (.ptr 0 0), sO 3 (.ptr 1 0), sO 4 (.slc 6), hB 0 34 [.arr .u8 64 (List.replicate 64 0)], hB 1 73 [.arr .u64 8 a10], hR 6 .u8 ((p6.take (((↑(List.length p6) : Int)).toNat)).drop 128)] [0 ≤ (128 : Int) ∧ (128 : Int) ≤ (↑(List.length p6) : Int) ∧ (↑(List.length p6) : Int) ≤ (↑(List.length p6) : Int)] (by kernel_rfl) (hone hn12) ?_
      refine q_kr ?_
      exact trR_fit [(4, .slc 6)] [sO 2 (.ptr 0 0), sO 3 (.ptr 1 0), sO 4 (.slc 4), hB 0 34 [.arr .u8 64 (List.replicate 64 0)], hB 1 73 [.arr .u64 8 a10], hR 4 .u8 ((p6.take (((↑(List.length p6) : Int)).toNat)).drop 128)] [(0, .blk 34 [.arr .u8 64 (List.replicate 64 0)]), (1, .blk 73 [.arr .u64 8 a10]), (4, .rd .u8 ((p6.take (((↑(List.length p6) : Int)).toNat)).drop 128))] (by kernel_rfl) (by kernel_rfl) (by kernel_rfl) rfl ⟨.blk (by kernel_rfl) (by kernel_rfl), .blk (by kernel_rfl) (by kernel_rfl), .rd (by kernel_rfl), trivial⟩ (by kernel_rfl) (ih0 (a10, ((p6.take (((↑(List.length p6) : Int)).toNat)).drop 128)) h)
    · refine tr_cond_f (decide ((↑(List.length p6) : Int) > (0 : Int))) (by kernel_rfl) hc8 ?_
      refine tr_exit ?_
      refine q_k_exit ?_
      refine q_kr_exit ?_
      have h := Option.some.inj h
      subst h
      exact q_less [.s 2, .s 3, .h 0, .h 1] [sO 2 (.ptr 0 0), sO 3 (.ptr 1 0), hB 0 34 [.arr .u8 64 (List.replicate 64 0)], hB 1 73 [.arr .u64 8 m5]] (by kernel_rfl) hx0

theorem ref01_k512_ok (r : List Int) (h : ref01_k512 = some r) {pre : List (Nat × Ent)} : CallOk P 53 [] pre (.v (.agg [.arr .u64 80 r])) [] := by
  refine call0 (N := 2) Try.func53 (by kernel_rfl) rfl rfl rfl pre ?_
  intro _ w
  show Tr P (Ge w) 2 _ _ _ (RetQ P Try.f53 (R0 _ w))
  unfold ref01_k512 at h
  refine tr_seq ?_
  refine tr_reg hT [(0, .key 0)] [.s 0, .h 0] [sO 0 (.ptr 0 0), hB 0 76 [.arr .u64 80 (List.replicate 80 0)]] [] (by kernel_rfl) trivial ?_
  refine q_k ?_
  refine tr_seq ?_
  refine tr_reg hT [] [.s 0, .h 0] [sO 0 (.ptr 0 0), hB 0 76 [.arr .u64 80 [(4794697086780616226 : Int), (8158064640168781261 : Int), (13096744586834688815 : Int), (16840607885511220156 : Int), (4131703408338449720 : Int), (6480981068601479193 : Int), (10538285296894168987 : Int), (12329834152419229976 : Int), (15566598209576043074 : Int), (1334009975649890238 : Int), (2608012711638119052 : Int), (6128411473006802146 : Int), (8268148722764581231 : Int), (9286055187155687089 : Int), (11230858885718282805 : Int), (13951009754708518548 : Int), (16472876342353939154 : Int), (17275323862435702243 : Int), (1135362057144423861 : Int), (2597628984639134821 : Int), (3308224258029322869 : Int), (5365058923640841347 : Int), (6679025012923562964 : Int), (8573033837759648693 : Int), (10970295158949994411 : Int), (12119686244451234320 : Int), (12683024718118986047 : Int), (13788192230050041572 : Int), (14330467153632333762 : Int), (15395433587784984357 : Int), (489312712824947311 : Int), (1452737877330783856 : Int), (2861767655752347644 : Int), (3322285676063803686 : Int), (5560940570517711597 : Int), (5996557281743188959 : Int), (7280758554555802590 : Int), (8532644243296465576 : Int), (9350256976987008742 : Int), (10552545826968843579 : Int), (11727347734174303076 : Int), (12113106623233404929 : Int), (14000437183269869457 : Int), (14369950271660146224 : Int), (15101387698204529176 : Int), (15463397548674623760 : Int), (17586052441742319658 : Int), (1182934255886127544 : Int), (1847814050463011016 : Int), (2177327727835720531 : Int), (2830643537854262169 : Int), (3796741975233480872 : Int), (4115178125766777443 : Int), (5681478168544905931 : Int), (6601373596472566643 : Int), (7507060721942968483 : Int), (8399075790359081724 : Int), (8693463985226723168 : Int), (9568029438360202098 : Int), (10144078919501101548 : Int), (10430055236837252648 : Int), (11840083180663258601 : Int), (13761210420658862357 : Int), (14299343276471374635 : Int), (14566680578165727644 : Int), (15097957966210449927 : Int), (16922976911328602910 : Int), (17689382322260857208 : Int), (500013540394364858 : Int), (748580250866718886 : Int), (1242879168328830382 : Int), (1977374033974150939 : Int), (2944078676154940804 : Int), (3659926193048069267 : Int), (4368137639120453308 : Int), (4836135668995329356 : Int), (5532061633213252278 : Int), (6448918945643986474 : Int), (6902733635092675308 : Int), (7801388544844847127 : Int)]]] [] (by kernel_rfl) trivial ?_
  refine q_k ?_
  refine tr_ret ?_
  have h := Option.some.inj h
  subst h
  exact q_ret0 hT (.v (.agg [.arr .u64 80 [(4794697086780616226 : Int), (8158064640168781261 : Int), (13096744586834688815 : Int), (16840607885511220156 : Int), (4131703408338449720 : Int), (6480981068601479193 : Int), (10538285296894168987 : Int), (12329834152419229976 : Int), (15566598209576043074 : Int), (1334009975649890238 : Int), (2608012711638119052 : Int), (6128411473006802146 : Int), (8268148722764581231 : Int), (9286055187155687089 : Int), (11230858885718282805 : Int), (13951009754708518548 : Int), (16472876342353939154 : Int), (17275323862435702243 : Int), (1135362057144423861 : Int), (2597628984639134821 : Int), (3308224258029322869 : Int), (5365058923640841347 : Int), (6679025012923562964 : Int), (8573033837759648693 : Int), (10970295158949994411 : Int), (12119686244451234320 : Int), (12683024718118986047 : Int), (13788192230050041572 : Int), (14330467153632333762 : Int), (15395433587784984357 : Int), (489312712824947311 : Int), (1452737877330783856 : Int), (2861767655752347644 : Int), (3322285676063803686 : Int), (5560940570517711597 : Int), (5996557281743188959 : Int), (7280758554555802590 : Int), (8532644243296465576 : Int), (9350256976987008742 : Int), (10552545826968843579 : Int), (11727347734174303076 : Int), (12113106623233404929 : Int), (14000437183269869457 : Int), (14369950271660146224 : Int), (15101387698204529176 : Int), (15463397548674623760 : Int), (17586052441742319658 : Int), (1182934255886127544 : Int), (1847814050463011016 : Int), (2177327727835720531 : Int), (2830643537854262169 : Int), (3796741975233480872 : Int), (4115178125766777443 : Int), (5681478168544905931 : Int), (6601373596472566643 : Int), (7507060721942968483 : Int), (8399075790359081724 : Int), (8693463985226723168 : Int), (9568029438360202098 : Int), (10144078919501101548 : Int), (10430055236837252648 : Int), (11840083180663258601 : Int), (13761210420658862357 : Int), (14299343276471374635 : Int), (14566680578165727644 : Int), (15097957966210449927 : Int), (16922976911328602910 : Int), (17689382322260857208 : Int), (500013540394364858 : Int), (748580250866718886 : Int), (1242879168328830382 : Int), (1977374033974150939 : Int), (2944078676154940804 : Int), (3659926193048069267 : Int), (4368137639120453308 : Int), (4836135668995329356 : Int), (5532061633213252278 : Int), (6448918945643986474 : Int), (6902733635092675308 : Int), (7801388544844847127 : Int)]])) rfl (by kernel_rfl)

end Go.Proofs.Sa
