/- Walks, printed by a program of this session (gowalk.py): each Go function comes to its plain function's answer. -/
import Derived.Test.YtdolipgngaljcaaSaA
import Derived.Test.YtdolipgngaljcaaSaD
import Derived.Test.YtdolipgngaljcaaGwI
namespace Go.Proofs.Sa
open Go Go.Gw D
set_option linter.unusedVariables false
set_option maxRecDepth 20000

theorem slices_Grow_byte_byte_ok (n_0 : Int) (r : List Int) (h : slices_Grow_byte_byte n_0 = some r) : CallOk P 66 [.v (.one (.nils)), .v (.one (.int .i64 n_0))] [] (.v (.one (.slc 8900))) [(8900, .own 5 .u8 r)] := by
  refine call1 (N := 27) Try.func66 (by kernel_rfl) rfl rfl rfl [] (by kernel_rfl) ?_
  intro _ B w0
  show Tr P B 27 w0 _ _ (RetQ P Try.f66 (R1 _ _ B w0))
  unfold slices_Grow_byte_byte at h
  refine tr_seq ?_
  refine tr_reg hT [] [.s 0, .s 1] [sO 0 (.nils), sI 1 .i64 n_0] [] (by kernel_rfl) trivial ?_
  refine q_k ?_
  refine tr_seq ?_
  refine tr_seq ?_
  refine tr_reg hT [] [.s 0, .s 1, .s 6] [sO 0 (.nils), sI 1 .i64 n_0, sB 6 (decide (n_0 < (0 : Int)))] [] (by kernel_rfl) trivial ?_
  refine q_k ?_
  obtain ⟨rj0, e7, h⟩ := bind_some h
  refine tr_join (σ1 := [sO 0 (.nils), sI 1 .i64 n_0]) ?_ ?_
  · rcases rj0 with _
    replace h : ((show Option (List Int) from if (decide ((IntKind.i64.wrap (n_0 - (0 : Int))) > (0 : Int))) = true then if 0 < (IntKind.i64.wrap (n_0 - (0 : Int))) ∧ (IntKind.i64.wrap (n_0 - (0 : Int))) ≤ (↑maxN : Int) then if 0 ≤ (0 : Int) ∧ (0 : Int) ≤ (↑(List.length (List.replicate (IntKind.i64.wrap (n_0 - (0 : Int))).toNat (0 : Int))) : Int) then some ((List.replicate (IntKind.i64.wrap (n_0 - (0 : Int))).toNat (0 : Int)).take (0)) else none else none else some []).bind (fun s2 => some s2)) = _ := h
    refine q_k ?_
    refine tr_seq ?_
    refine tr_seq ?_
    refine tr_reg hT [] [.s 0, .s 1] [sO 0 (.nils), sI 1 .i64 (IntKind.i64.wrap (n_0 - (0 : Int)))] [] (by kernel_rfl) trivial ?_
    refine q_k ?_
    refine tr_seq ?_
    refine tr_reg hT [] [.s 0, .s 1, .s 16] [sO 0 (.nils), sI 1 .i64 (IntKind.i64.wrap (n_0 - (0 : Int))), sB 16 (decide ((IntKind.i64.wrap (n_0 - (0 : Int))) > (0 : Int)))] [] (by kernel_rfl) trivial ?_
    refine q_k ?_
    obtain ⟨s2, e6, h⟩ := bind_some h
    refine tr_join (σ1 := [sO 0 (.slc 80), hO 80 5 .u8 s2]) ?_ ?_
    · skip
      replace h : (some s2) = _ := h
      refine q_k ?_
      refine tr_seq ?_
      refine tr_reg hT [] [.s 4, .h 80] [sO 4 (.slc 80), hO 80 5 .u8 s2] [] (by kernel_rfl) trivial ?_
      refine q_k ?_
      refine tr_ret ?_
      have h := Option.some.inj h
      subst h
      refine q_fit [(8900, .slc 80)] [sO 4 (.slc 8900), hO 8900 5 .u8 s2] [(8900, .own 5 .u8 s2)] (by kernel_rfl) (by kernel_rfl) (by kernel_rfl) rfl ⟨.own (by kernel_rfl), trivial⟩ (by kernel_rfl) ?_
      exact q_ret1 hT (.v (.one (.slc 8900))) [(8900, .own 5 .u8 s2)] (by kernel_rfl) (by kernel_rfl) (by kernel_rfl)
    · intro hj1
      clear h
      have h := e6
      clear e6
      rcases ite_split h with ⟨hc3, h⟩ | ⟨hc3, h⟩
      · refine tr_cond_t (decide ((IntKind.i64.wrap (n_0 - (0 : Int))) > (0 : Int))) (by kernel_rfl) hc3 ?_
        obtain ⟨hn4, h⟩ := ite_some h
        obtain ⟨hn5, h⟩ := ite_some h
        refine tr_reg hT [(5, .key 81), (8, .key 82)] [.s 0, .h 82] [sO 0 (.slc 82), hO 82 5 .u8 ((List.replicate (IntKind.i64.wrap (n_0 - (0 : Int))).toNat (0 : Int)).take (0))] [(0 : Int) = 0 ∧ (0 : Int) = 0, 0 < (IntKind.i64.wrap (n_0 - (0 : Int))) ∧ (IntKind.i64.wrap (n_0 - (0 : Int))) ≤ (↑maxN : Int), 0 ≤ (0 : Int) ∧ (0 : Int) ≤ (↑(List.length (List.replicate (IntKind.i64.wrap (n_0 - (0 : Int))).toNat (0 : Int))) : Int)] (by kernel_rfl) (hcons (by decide) (hcons hn4 (hone hn5))) ?_
        have h := Option.some.inj h
        subst h
        exact q_fit [(80, .slc 82)] [sO 0 (.slc 80), hO 80 5 .u8 ((List.replicate (IntKind.i64.wrap (n_0 - (0 : Int))).toNat (0 : Int)).take (0))] [(80, .own 5 .u8 ((List.replicate (IntKind.i64.wrap (n_0 - (0 : Int))).toNat (0 : Int)).take (0)))] (by kernel_rfl) (by kernel_rfl) (by kernel_rfl) rfl ⟨.own (by kernel_rfl), trivial⟩ (by kernel_rfl) hj1
      · refine tr_cond_f (decide ((IntKind.i64.wrap (n_0 - (0 : Int))) > (0 : Int))) (by kernel_rfl) hc3 ?_
        refine tr_skip ?_
        have h := Option.some.inj h
        subst h
        exact q_fit [(80, .nils)] [sO 0 (.slc 80), hO 80 5 .u8 []] [(80, .own 5 .u8 [])] (by kernel_rfl) (by kernel_rfl) (by kernel_rfl) rfl ⟨.nilown, trivial⟩ (by kernel_rfl) hj1
  · intro hj0
    clear h
    have h := e7
    clear e7
    rcases ite_split h with ⟨hc1, h⟩ | ⟨hc1, h⟩
    · refine tr_cond_t (decide (n_0 < (0 : Int))) (by kernel_rfl) hc1 ?_
      cases h
    · refine tr_cond_f (decide (n_0 < (0 : Int))) (by kernel_rfl) hc1 ?_
      refine tr_skip ?_
      have h := Option.some.inj h
      subst h
      exact q_less [.s 0, .s 1] [sO 0 (.nils), sI 1 .i64 n_0] (by kernel_rfl) hj0

theorem slices_Concat_byte_byte_ok (slices_0 : List (List Int)) (r : List Int) (h : slices_Concat_byte_byte slices_0 = some r) : CallOk P 51 [.v (.one (.slc 9000))] [(9000, .rows (.bs .u8 slices_0))] (.v (.one (.slc 8900))) [(8900, .own 5 .u8 r)] := by
  refine call1 (N := 36) Try.func51 (by kernel_rfl) rfl rfl rfl [(9000, .rows (.bs .u8 slices_0))] (by kernel_rfl) ?_
  intro _ B w0
  show Tr P B 36 w0 _ _ (RetQ P Try.f51 (R1 _ _ B w0))
  unfold slices_Concat_byte_byte at h
  refine tr_seq ?_
  refine tr_reg hT [] [.s 0, .h 9000] [sO 0 (.slc 9000), hW 9000 (.bs .u8 slices_0)] [] (by kernel_rfl) trivial ?_
  refine q_k ?_
  refine tr_seq ?_
  refine tr_reg hT [] [.s 0, .s 3, .h 9000] [sO 0 (.slc 9000), sI 3 .i64 (0 : Int), hW 9000 (.bs .u8 slices_0)] [] (by kernel_rfl) trivial ?_
  refine q_k ?_
  refine tr_seq ?_
  refine tr_seq ?_
  refine tr_reg hT [] [.s 0, .s 3, .s 9, .s 10, .s 11, .h 9000] [sO 0 (.slc 9000), sI 3 .i64 (0 : Int), sO 9 (.slc 9000), sI 10 .i64 (↑(List.length slices_0) : Int), sI 11 .i64 (0 : Int), hW 9000 (.bs .u8 slices_0)] [] (by kernel_rfl) trivial ?_
  refine q_k ?_
  refine tr_block ?_
  obtain ⟨size3, e7, h⟩ := bind_some h
  refine tr_fit [] [sO 0 (.slc 9000), sI 3 .i64 (0 : Int), sO 9 (.slc 9000), sI 10 .i64 (↑(List.length slices_0) : Int), sI 11 .i64 (0 : Int), hW 9000 (.bs .u8 slices_0)] [(9000, .rows (.bs .u8 slices_0))] (by kernel_rfl) (by kernel_rfl) (by kernel_rfl) rfl ⟨.rows (by kernel_rfl), trivial⟩ (by kernel_rfl) ?_
  refine tr_loop_fuel (id := 0) (α := Int × Int) (β := Int) (fun z => [sO 0 (.slc 9000), sI 3 .i64 z.1, sO 9 (.slc 9000), sI 10 .i64 (↑(List.length slices_0) : Int), sI 11 .i64 z.2, hW 9000 (.bs .u8 slices_0)]) (fun z => [sO 0 (.slc 9000), sI 3 .i64 z, hW 9000 (.bs .u8 slices_0)]) (fun k z => slices_Concat_byte_byte_l0 slices_0 k z.1 z.2) size3 (fun _ => rfl) (((↑(List.length slices_0) : Int) - (0 : Int)).toNat + 1) ((0 : Int), (0 : Int)) e7 ?_ ?_
  · skip
    replace h : ((slices_Grow_byte_byte size3).bind (fun a8 => (slices_Concat_byte_byte_l1 slices_0 (((↑(List.length slices_0) : Int) - (0 : Int)).toNat + 1) a8 (0 : Int)).bind (fun newslice12 => some newslice12))) = _ := h
    refine q_b_this ?_
    refine q_k ?_
    refine tr_seq ?_
    obtain ⟨a8, e9, h⟩ := bind_some h
    refine tr_reg hT [(1, .call [] (.v (.one (.slc 1))) [(1, .own 5 .u8 a8)])] [.s 0, .s 6, .h 1, .h 9000] [sO 0 (.slc 9000), sO 6 (.slc 1), hO 1 5 .u8 a8, hW 9000 (.bs .u8 slices_0)] [CallOk P 66 [.v (.one (.nils)), .v (.one (.int .i64 size3))] [] (.v (.one (.slc 1))) [(1, .own 5 .u8 a8)]] (by kernel_rfl) (hone ((slices_Grow_byte_byte_ok size3 a8 e9).tr [(8900, .slc 1)] rfl (by kernel_rfl) trivial (by kernel_rfl) (by kernel_rfl) rfl rfl)) ?_
    refine q_k ?_
    refine tr_seq ?_
    refine tr_seq ?_
    refine tr_reg hT [] [.s 6, .s 25, .s 26, .s 27, .h 1, .h 9000] [sO 6 (.slc 1), sO 25 (.slc 9000), sI 26 .i64 (↑(List.length slices_0) : Int), sI 27 .i64 (0 : Int), hO 1 5 .u8 a8, hW 9000 (.bs .u8 slices_0)] [] (by kernel_rfl) trivial ?_
    refine q_k ?_
    refine tr_block ?_
    obtain ⟨newslice12, e16, h⟩ := bind_some h
    refine tr_fit [(2, .slc 1)] [sO 6 (.slc 2), sO 25 (.slc 9000), sI 26 .i64 (↑(List.length slices_0) : Int), sI 27 .i64 (0 : Int), hO 2 5 .u8 a8, hW 9000 (.bs .u8 slices_0)] [(2, .own 5 .u8 a8), (9000, .rows (.bs .u8 slices_0))] (by kernel_rfl) (by kernel_rfl) (by kernel_rfl) rfl ⟨.own (by kernel_rfl), .rows (by kernel_rfl), trivial⟩ (by kernel_rfl) ?_
    refine tr_loop_fuel (id := 2) (α := List Int × Int) (β := List Int) (fun z => [sO 6 (.slc 2), sO 25 (.slc 9000), sI 26 .i64 (↑(List.length slices_0) : Int), sI 27 .i64 z.2, hO 2 5 .u8 z.1, hW 9000 (.bs .u8 slices_0)]) (fun z => [sO 6 (.slc 3), hO 3 5 .u8 z]) (fun k z => slices_Concat_byte_byte_l1 slices_0 k z.1 z.2) newslice12 (fun _ => rfl) (((↑(List.length slices_0) : Int) - (0 : Int)).toNat + 1) (a8, (0 : Int)) e16 ?_ ?_
    · skip
      replace h : (some newslice12) = _ := h
      refine q_b_this ?_
      refine q_k ?_
      refine tr_seq ?_
      refine tr_reg hT [] [.s 2, .h 3] [sO 2 (.slc 3), hO 3 5 .u8 newslice12] [] (by kernel_rfl) trivial ?_
      refine q_k ?_
      refine tr_ret ?_
      have h := Option.some.inj h
      subst h
      refine q_fit [(8900, .slc 3)] [sO 2 (.slc 8900), hO 8900 5 .u8 newslice12] [(8900, .own 5 .u8 newslice12)] (by kernel_rfl) (by kernel_rfl) (by kernel_rfl) rfl ⟨.own (by kernel_rfl), trivial⟩ (by kernel_rfl) ?_
      exact q_ret1 hT (.v (.one (.slc 8900))) [(8900, .own 5 .u8 newslice12)] (by kernel_rfl) (by kernel_rfl) (by kernel_rfl)
    · clear h e16
      intro k ih1 hx1 z h
      obtain ⟨newslice10, x11⟩ := z
      replace h : (if (decide (x11 < (↑(List.length slices_0) : Int))) = true then if 0 ≤ x11 ∧ x11 < ↑(List.length slices_0) then if List.length (newslice10 ++ (slices_0.getD x11.toNat [])) ≤ maxN then slices_Concat_byte_byte_l1 slices_0 k (newslice10 ++ (slices_0.getD x11.toNat [])) (IntKind.i64.wrap (x11 + (1 : Int))) else none else none else some newslice10) = _ := h
      refine tr_seq ?_
      refine tr_reg hT [] [.s 6, .s 25, .s 26, .s 27, .s 28, .h 2, .h 9000] [sO 6 (.slc 2), sO 25 (.slc 9000), sI 26 .i64 (↑(List.length slices_0) : Int), sI 27 .i64 x11, sB 28 (decide (x11 < (↑(List.length slices_0) : Int))), hO 2 5 .u8 newslice10, hW 9000 (.bs .u8 slices_0)] [] (by kernel_rfl) trivial ?_
      refine q_k ?_
      refine tr_seq ?_
      rcases ite_split h with ⟨hc13, h⟩ | ⟨hc13, h⟩
      · refine tr_cond_t (decide (x11 < (↑(List.length slices_0) : Int))) (by kernel_rfl) hc13 ?_
        refine tr_skip ?_
        refine q_k ?_
        refine tr_seq ?_
        refine tr_block ?_
        refine tr_seq ?_
        obtain ⟨hn14, h⟩ := ite_some h
        refine tr_reg hT [(1, .key 4)] [.s 6, .s 8, .s 25, .s 26, .s 27, .h 2, .h 4, .h 9000] [sO 6 (.slc 2), sO 8 (.slc 4), sO 25 (.slc 9000), sI 26 .i64 (↑(List.length slices_0) : Int), sI 27 .i64 x11, hO 2 5 .u8 newslice10, hR 4 .u8 (slices_0.getD x11.toNat []), hW 9000 (.bs .u8 slices_0)] [0 ≤ x11 ∧ x11 < ↑(List.length slices_0), x11 < ↑(List.length slices_0)] (by kernel_rfl) (hcons hn14 (hone hn14.2)) ?_
        refine q_k ?_
        obtain ⟨hn15, h⟩ := ite_some h
        refine tr_reg hT [(2, .key 5)] [.s 6, .s 25, .s 26, .s 27, .h 5, .h 9000] [sO 6 (.slc 5), sO 25 (.slc 9000), sI 26 .i64 (↑(List.length slices_0) : Int), sI 27 .i64 x11, hO 5 5 .u8 (newslice10 ++ (slices_0.getD x11.toNat [])), hW 9000 (.bs .u8 slices_0)] [List.length (newslice10 ++ (slices_0.getD x11.toNat [])) ≤ maxN] (by kernel_rfl) (hone hn15) ?_
        refine q_b 3 ?_
        refine q_k ?_
        refine tr_reg hT [] [.s 6, .s 25, .s 26, .s 27, .h 5, .h 9000] [sO 6 (.slc 5), sO 25 (.slc 9000), sI 26 .i64 (↑(List.length slices_0) : Int), sI 27 .i64 (IntKind.i64.wrap (x11 + (1 : Int))), hO 5 5 .u8 (newslice10 ++ (slices_0.getD x11.toNat [])), hW 9000 (.bs .u8 slices_0)] [] (by kernel_rfl) trivial ?_
        refine q_kr ?_
        exact trR_fit [(2, .slc 5)] [sO 6 (.slc 2), sO 25 (.slc 9000), sI 26 .i64 (↑(List.length slices_0) : Int), sI 27 .i64 (IntKind.i64.wrap (x11 + (1 : Int))), hO 2 5 .u8 (newslice10 ++ (slices_0.getD x11.toNat [])), hW 9000 (.bs .u8 slices_0)] [(2, .own 5 .u8 (newslice10 ++ (slices_0.getD x11.toNat []))), (9000, .rows (.bs .u8 slices_0))] (by kernel_rfl) (by kernel_rfl) (by kernel_rfl) rfl ⟨.own (by kernel_rfl), .rows (by kernel_rfl), trivial⟩ (by kernel_rfl) (ih1 ((newslice10 ++ (slices_0.getD x11.toNat [])), (IntKind.i64.wrap (x11 + (1 : Int)))) h)
      · refine tr_cond_f (decide (x11 < (↑(List.length slices_0) : Int))) (by kernel_rfl) hc13 ?_
        refine tr_exit ?_
        refine q_k_exit ?_
        refine q_kr_exit ?_
        have h := Option.some.inj h
        subst h
        exact q_fit [(3, .slc 2)] [sO 6 (.slc 3), hO 3 5 .u8 newslice10] [(3, .own 5 .u8 newslice10)] (by kernel_rfl) (by kernel_rfl) (by kernel_rfl) rfl ⟨.own (by kernel_rfl), trivial⟩ (by kernel_rfl) hx1
  · clear h e7
    intro k ih0 hx0 z h
    obtain ⟨size1, x2⟩ := z
    replace h : (if (decide (x2 < (↑(List.length slices_0) : Int))) = true then if 0 ≤ x2 ∧ x2 < ↑(List.length slices_0) then if (decide ((IntKind.i64.wrap (size1 + (↑(List.length (slices_0.getD x2.toNat [])) : Int))) < (0 : Int))) = true then none else slices_Concat_byte_byte_l0 slices_0 k (IntKind.i64.wrap (size1 + (↑(List.length (slices_0.getD x2.toNat [])) : Int))) (IntKind.i64.wrap (x2 + (1 : Int))) else none else some size1) = _ := h
    refine tr_seq ?_
    refine tr_reg hT [] [.s 0, .s 3, .s 9, .s 10, .s 11, .s 12, .h 9000] [sO 0 (.slc 9000), sI 3 .i64 size1, sO 9 (.slc 9000), sI 10 .i64 (↑(List.length slices_0) : Int), sI 11 .i64 x2, sB 12 (decide (x2 < (↑(List.length slices_0) : Int))), hW 9000 (.bs .u8 slices_0)] [] (by kernel_rfl) trivial ?_
    refine q_k ?_
    refine tr_seq ?_
    rcases ite_split h with ⟨hc4, h⟩ | ⟨hc4, h⟩
    · refine tr_cond_t (decide (x2 < (↑(List.length slices_0) : Int))) (by kernel_rfl) hc4 ?_
      refine tr_skip ?_
      refine q_k ?_
      refine tr_seq ?_
      refine tr_block ?_
      refine tr_seq ?_
      obtain ⟨hn5, h⟩ := ite_some h
      refine tr_reg hT [(1, .key 0)] [.s 0, .s 3, .s 5, .s 9, .s 10, .s 11, .h 0, .h 9000] [sO 0 (.slc 9000), sI 3 .i64 size1, sO 5 (.slc 0), sO 9 (.slc 9000), sI 10 .i64 (↑(List.length slices_0) : Int), sI 11 .i64 x2, hR 0 .u8 (slices_0.getD x2.toNat []), hW 9000 (.bs .u8 slices_0)] [0 ≤ x2 ∧ x2 < ↑(List.length slices_0), x2 < ↑(List.length slices_0)] (by kernel_rfl) (hcons hn5 (hone hn5.2)) ?_
      refine q_k ?_
      refine tr_seq ?_
      refine tr_reg hT [] [.s 0, .s 3, .s 9, .s 10, .s 11, .h 9000] [sO 0 (.slc 9000), sI 3 .i64 (IntKind.i64.wrap (size1 + (↑(List.length (slices_0.getD x2.toNat [])) : Int))), sO 9 (.slc 9000), sI 10 .i64 (↑(List.length slices_0) : Int), sI 11 .i64 x2, hW 9000 (.bs .u8 slices_0)] [] (by kernel_rfl) trivial ?_
      refine q_k ?_
      refine tr_seq ?_
      refine tr_reg hT [] [.s 0, .s 3, .s 9, .s 10, .s 11, .s 20, .h 9000] [sO 0 (.slc 9000), sI 3 .i64 (IntKind.i64.wrap (size1 + (↑(List.length (slices_0.getD x2.toNat [])) : Int))), sO 9 (.slc 9000), sI 10 .i64 (↑(List.length slices_0) : Int), sI 11 .i64 x2, sB 20 (decide ((IntKind.i64.wrap (size1 + (↑(List.length (slices_0.getD x2.toNat [])) : Int))) < (0 : Int))), hW 9000 (.bs .u8 slices_0)] [] (by kernel_rfl) trivial ?_
      refine q_k ?_
      rcases ite_split h with ⟨hc6, h⟩ | ⟨hc6, h⟩
      · refine tr_cond_t (decide ((IntKind.i64.wrap (size1 + (↑(List.length (slices_0.getD x2.toNat [])) : Int))) < (0 : Int))) (by kernel_rfl) hc6 ?_
        cases h
      · refine tr_cond_f (decide ((IntKind.i64.wrap (size1 + (↑(List.length (slices_0.getD x2.toNat [])) : Int))) < (0 : Int))) (by kernel_rfl) hc6 ?_
        refine tr_skip ?_
        refine q_b 1 ?_
        refine q_k ?_
        refine tr_reg hT [] [.s 0, .s 3, .s 9, .s 10, .s 11, .h 9000] [sO 0 (.slc 9000), sI 3 .i64 (IntKind.i64.wrap (size1 + (↑(List.length (slices_0.getD x2.toNat [])) : Int))), sO 9 (.slc 9000), sI 10 .i64 (↑(List.length slices_0) : Int), sI 11 .i64 (IntKind.i64.wrap (x2 + (1 : Int))), hW 9000 (.bs .u8 slices_0)] [] (by kernel_rfl) trivial ?_
        refine q_kr ?_
        exact trR_less [.s 0, .s 3, .s 9, .s 10, .s 11, .h 9000] [sO 0 (.slc 9000), sI 3 .i64 (IntKind.i64.wrap (size1 + (↑(List.length (slices_0.getD x2.toNat [])) : Int))), sO 9 (.slc 9000), sI 10 .i64 (↑(List.length slices_0) : Int), sI 11 .i64 (IntKind.i64.wrap (x2 + (1 : Int))), hW 9000 (.bs .u8 slices_0)] (by kernel_rfl) (ih0 ((IntKind.i64.wrap (size1 + (↑(List.length (slices_0.getD x2.toNat [])) : Int))), (IntKind.i64.wrap (x2 + (1 : Int)))) h)
    · refine tr_cond_f (decide (x2 < (↑(List.length slices_0) : Int))) (by kernel_rfl) hc4 ?_
      refine tr_exit ?_
      refine q_k_exit ?_
      refine q_kr_exit ?_
      have h := Option.some.inj h
      subst h
      exact q_less [.s 0, .s 3, .h 9000] [sO 0 (.slc 9000), sI 3 .i64 size1, hW 9000 (.bs .u8 slices_0)] (by kernel_rfl) hx0

theorem slices_Clone_byte_byte_n_ok (r : List Int) (h : slices_Clone_byte_byte_n = some r) : CallOk P 58 [.v (.one (.nils))] [] (.v (.one (.slc 8900))) [(8900, .own 5 .u8 r)] := by
  refine call1 (N := 8) Try.func58 (by kernel_rfl) rfl rfl rfl [] (by kernel_rfl) ?_
  intro _ B w0
  show Tr P B 8 w0 _ _ (RetQ P Try.f58 (R1 _ _ B w0))
  unfold slices_Clone_byte_byte_n at h
  refine tr_seq ?_
  refine tr_reg hT [] [.s 0] [sO 0 (.nils)] [] (by kernel_rfl) trivial ?_
  refine q_k ?_
  refine tr_seq ?_
  refine tr_seq ?_
  refine tr_reg hT [] [.s 0, .s 4] [sO 0 (.nils), sB 4 true] [] (by kernel_rfl) trivial ?_
  refine q_k ?_
  refine tr_cond_t true (by kernel_rfl) rfl ?_
  refine tr_seq ?_
  refine tr_reg hT [] [.s 2] [sO 2 (.nils)] [] (by kernel_rfl) trivial ?_
  refine q_k ?_
  refine tr_ret ?_
  refine q_k_ret ?_
  have h := Option.some.inj h
  subst h
  refine q_fit [(8900, .nils)] [sO 2 (.slc 8900), hO 8900 5 .u8 []] [(8900, .own 5 .u8 [])] (by kernel_rfl) (by kernel_rfl) (by kernel_rfl) rfl ⟨.nilown, trivial⟩ (by kernel_rfl) ?_
  exact q_ret1 hT (.v (.one (.slc 8900))) [(8900, .own 5 .u8 [])] (by kernel_rfl) (by kernel_rfl) (by kernel_rfl)

theorem slices_Clone_byte_byte_x_ok (s_0 : List Int) (r : List Int) (h : slices_Clone_byte_byte_x s_0 = some r) : CallOk P 58 [.v (.one (.slc 9000))] [(9000, .rdx .u8 s_0)] (.v (.one (.slc 8900))) [(8900, .own 5 .u8 r)] := by
  refine call1 (N := 8) Try.func58 (by kernel_rfl) rfl rfl rfl [(9000, .rdx .u8 s_0)] (by kernel_rfl) ?_
  intro _ B w0
  show Tr P B 8 w0 _ _ (RetQ P Try.f58 (R1 _ _ B w0))
  unfold slices_Clone_byte_byte_x at h
  refine tr_seq ?_
  refine tr_reg hT [] [.s 0, .h 9000] [sO 0 (.slc 9000), hX 9000 .u8 s_0] [] (by kernel_rfl) trivial ?_
  refine q_k ?_
  refine tr_seq ?_
  refine tr_seq ?_
  refine tr_reg hT [] [.s 0, .s 4, .h 9000] [sO 0 (.slc 9000), sB 4 false, hX 9000 .u8 s_0] [] (by kernel_rfl) trivial ?_
  refine q_k ?_
  refine tr_cond_f false (by kernel_rfl) rfl ?_
  refine tr_skip ?_
  refine q_k ?_
  refine tr_seq ?_
  obtain ⟨hn1, h⟩ := ite_some h
  refine tr_reg hT [(0, .key 0), (2, .key 1)] [.s 2, .h 1] [sO 2 (.slc 1), hO 1 5 .u8 ([] ++ s_0)] [List.length ([] ++ s_0) ≤ maxN] (by kernel_rfl) (hone hn1) ?_
  refine q_k ?_
  refine tr_ret ?_
  have h := Option.some.inj h
  subst h
  refine q_fit [(8900, .slc 1)] [sO 2 (.slc 8900), hO 8900 5 .u8 ([] ++ s_0)] [(8900, .own 5 .u8 ([] ++ s_0))] (by kernel_rfl) (by kernel_rfl) (by kernel_rfl) rfl ⟨.own (by kernel_rfl), trivial⟩ (by kernel_rfl) ?_
  exact q_ret1 hT (.v (.one (.slc 8900))) [(8900, .own 5 .u8 ([] ++ s_0))] (by kernel_rfl) (by kernel_rfl) (by kernel_rfl)

theorem slices_Clone_byte_byte_ok (s r : List Int) (h : slices_Clone_byte_byte s = some r) : CallOk P 58 [.v (.one (.slc 9000))] [(9000, .rd .u8 s)] (.v (.one (.slc 8900))) [(8900, .own 5 .u8 r)] :=
  nil_or (fun e => by subst e; exact slices_Clone_byte_byte_n_ok r (by rw [← h]; kernel_rfl)) (slices_Clone_byte_byte_x_ok s r h) (by rfl)

end Go.Proofs.Sa
