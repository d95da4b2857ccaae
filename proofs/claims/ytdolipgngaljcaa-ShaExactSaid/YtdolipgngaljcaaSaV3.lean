/- Walks, printed by a program of this session (gowalk.py): each Go function comes to its plain function's answer. -/
import Derived.Test.YtdolipgngaljcaaSaA
import Derived.Test.YtdolipgngaljcaaSaD
import Derived.Test.YtdolipgngaljcaaGwI
import Derived.Test.YtdolipgngaljcaaSaV0
import Derived.Test.YtdolipgngaljcaaSaV1
namespace Go.Proofs.Sa
open Go Go.Gw D
set_option linter.unusedVariables false
set_option maxRecDepth 20000

theorem ref14_in_ok (n_0 : Int) (lo_1 : Int) (hi_2 : Int) (r : Bool) (h : ref14_in n_0 lo_1 hi_2 = some r) {pre : List (Nat × Ent)} : CallOk P 60 [.v (.one (.int .i64 n_0)), .v (.one (.int .i64 lo_1)), .v (.one (.int .i64 hi_2))] pre (.v (.one (.bool r))) [] := by
  refine call0 (N := 15) Try.func60 (by kernel_rfl) rfl rfl rfl pre ?_
  intro _ w
  show Tr P (Ge w) 15 _ _ _ (RetQ P Try.f60 (R0 _ w))
  unfold ref14_in at h
  refine tr_seq ?_
  refine tr_reg hT [] [.s 0, .s 1, .s 2] [sI 0 .i64 n_0, sI 1 .i64 lo_1, sI 2 .i64 hi_2] [] (by kernel_rfl) trivial ?_
  refine q_k ?_
  refine tr_seq ?_
  rcases ite_split h with ⟨hb1, h⟩ | ⟨hb2, h⟩
  · refine tr_reg hT [(3, .dec true)] [.s 6] [sB 6 (decide (n_0 ≤ hi_2))] [(decide (n_0 ≥ lo_1)) = true] (by kernel_rfl) (hone hb1) ?_
    refine q_k ?_
    refine tr_ret ?_
    have h := Option.some.inj h
    subst h
    exact q_ret0 hT (.v (.one (.bool (decide (n_0 ≤ hi_2))))) rfl (by kernel_rfl)
  · refine tr_reg hT [(3, .dec false)] [.s 6] [sB 6 false] [(decide (n_0 ≥ lo_1)) = false] (by kernel_rfl) (hone hb2) ?_
    refine q_k ?_
    refine tr_ret ?_
    have h := Option.some.inj h
    subst h
    exact q_ret0 hT (.v (.one (.bool false))) rfl (by kernel_rfl)

theorem keep_Recs_ok (a_0 : List (Int × List Int)) (b_1 : List (Int × List Int)) (r : Bool) (h : keep_Recs a_0 b_1 = some r) : CallOk P 38 [.v (.one (.slc 9000)), .v (.one (.slc 9001))] [(9000, .rows (.rc a_0)), (9001, .rows (.rc b_1))] (.v (.one (.bool r))) [] := by
  refine call1 (N := 42) Try.func38 (by kernel_rfl) rfl rfl rfl [(9000, .rows (.rc a_0)), (9001, .rows (.rc b_1))] (by kernel_rfl) ?_
  intro _ B w0
  show Tr P B 42 w0 _ _ (RetQ P Try.f38 (R1 _ _ B w0))
  unfold keep_Recs at h
  refine tr_seq ?_
  refine tr_reg hT [] [.s 0, .s 1, .h 9000, .h 9001] [sO 0 (.slc 9000), sO 1 (.slc 9001), hW 9000 (.rc a_0), hW 9001 (.rc b_1)] [] (by kernel_rfl) trivial ?_
  refine q_k ?_
  refine tr_seq ?_
  refine tr_seq ?_
  refine tr_reg hT [] [.s 0, .s 1, .s 10, .h 9000, .h 9001] [sO 0 (.slc 9000), sO 1 (.slc 9001), sB 10 ((↑(List.length a_0) : Int) != (↑(List.length b_1) : Int)), hW 9000 (.rc a_0), hW 9001 (.rc b_1)] [] (by kernel_rfl) trivial ?_
  refine q_k ?_
  rcases ite_split h with ⟨hc1, h⟩ | ⟨hc1, h⟩
  · refine tr_cond_t ((↑(List.length a_0) : Int) != (↑(List.length b_1) : Int)) (by kernel_rfl) hc1 ?_
    refine tr_seq ?_
    refine tr_reg hT [] [.s 4] [sB 4 false] [] (by kernel_rfl) trivial ?_
    refine q_k ?_
    refine tr_ret ?_
    refine q_k_ret ?_
    have h := Option.some.inj h
    subst h
    refine q_less [.s 4] [sB 4 false] (by kernel_rfl) ?_
    exact q_ret1 hT (.v (.one (.bool false))) [] (by kernel_rfl) (by kernel_rfl) (by kernel_rfl)
  · refine tr_cond_f ((↑(List.length a_0) : Int) != (↑(List.length b_1) : Int)) (by kernel_rfl) hc1 ?_
    refine tr_skip ?_
    refine q_k ?_
    refine tr_seq ?_
    refine tr_seq ?_
    refine tr_reg hT [] [.s 0, .s 1, .s 5, .h 9000, .h 9001] [sO 0 (.slc 9000), sO 1 (.slc 9001), sI 5 .i64 (0 : Int), hW 9000 (.rc a_0), hW 9001 (.rc b_1)] [] (by kernel_rfl) trivial ?_
    refine q_k ?_
    refine tr_block ?_
    obtain ⟨rr0, e11, h⟩ := bind_some h
    refine tr_fit [] [sO 0 (.slc 9000), sO 1 (.slc 9001), sI 5 .i64 (0 : Int), hW 9000 (.rc a_0), hW 9001 (.rc b_1)] [(9000, .rows (.rc a_0)), (9001, .rows (.rc b_1))] (by kernel_rfl) (by kernel_rfl) (by kernel_rfl) rfl ⟨.rows (by kernel_rfl), .rows (by kernel_rfl), trivial⟩ (by kernel_rfl) ?_
    refine tr_loop_ret (id := 0) (α := Int) (β := Unit) (ρ := Bool) (fun z => [sO 0 (.slc 9000), sO 1 (.slc 9001), sI 5 .i64 z, hW 9000 (.rc a_0), hW 9001 (.rc b_1)]) (fun z => []) (fun v σ => resS T (Gw.look σ) Try.f38.results.toList = some (.v (.one (.bool v))) ∧ Gw.hasAll σ [] = some (Gw.preSS [])) (fun k z => keep_Recs_l0 a_0 b_1 k z) rr0 (fun _ => rfl) (((↑(List.length a_0) : Int) - (0 : Int)).toNat + 1) (0 : Int) e11 ?_ ?_ ?_
    · intro z hz
      subst hz
      rcases z with _
      replace h : (some true) = _ := h
      refine q_b_this ?_
      refine q_k ?_
      refine tr_seq ?_
      refine tr_reg hT [] [.s 4] [sB 4 true] [] (by kernel_rfl) trivial ?_
      refine q_k ?_
      refine tr_ret ?_
      have h := Option.some.inj h
      subst h
      refine q_less [.s 4] [sB 4 true] (by kernel_rfl) ?_
      exact q_ret1 hT (.v (.one (.bool true))) [] (by kernel_rfl) (by kernel_rfl) (by kernel_rfl)
    · intro v σ hz hv
      subst hz
      have h := Option.some.inj h
      subst h
      refine q_b_ret ?_
      refine q_k_ret ?_
      exact q_ret1 hT _ _ hv.1 hv.2 (by kernel_rfl)
    · clear h e11
      intro k ih0 hx0 hr0 i2 h
      replace h : (if (decide (i2 < (↑(List.length a_0) : Int))) = true then if 0 ≤ i2 ∧ i2 < ↑(List.length a_0) then if 0 ≤ i2 ∧ i2 < ↑(List.length b_1) then if ((a_0.getD i2.toNat (0, [])).1 != (b_1.getD i2.toNat (0, [])).1) = true then some (.inr false) else (keep_Bytes ((a_0.getD i2.toNat (0, [])).2) ((b_1.getD i2.toNat (0, [])).2)).bind (fun b8 => if (!b8) = true then some (.inr false) else keep_Recs_l0 a_0 b_1 k (IntKind.i64.wrap (i2 + (1 : Int)))) else none else none else some (.inl ())) = _ := h
      refine tr_seq ?_
      refine tr_seq ?_
      refine tr_reg hT [] [.s 0, .s 1, .s 5, .s 14, .h 9000, .h 9001] [sO 0 (.slc 9000), sO 1 (.slc 9001), sI 5 .i64 i2, sB 14 (decide (i2 < (↑(List.length a_0) : Int))), hW 9000 (.rc a_0), hW 9001 (.rc b_1)] [] (by kernel_rfl) trivial ?_
      refine q_k ?_
      rcases ite_split h with ⟨hc3, h⟩ | ⟨hc3, h⟩
      · refine tr_cond_t (decide (i2 < (↑(List.length a_0) : Int))) (by kernel_rfl) hc3 ?_
        refine tr_skip ?_
        refine q_k ?_
        refine tr_seq ?_
        refine tr_block ?_
        refine tr_seq ?_
        obtain ⟨hn4, h⟩ := ite_some h
        obtain ⟨hn5, h⟩ := ite_some h
        rcases ite_split h with ⟨hb6, h⟩ | ⟨hb7, h⟩
        · refine tr_regd hT hM [(11, .dec true)] [.s 0, .s 1, .s 5, .s 41, .h 9000, .h 9001] [sO 0 (.slc 9000), sO 1 (.slc 9001), sI 5 .i64 i2, sB 41 true, hW 9000 (.rc a_0), hW 9001 (.rc b_1)] [0 ≤ i2 ∧ i2 < ↑(List.length a_0), 0 ≤ i2 ∧ i2 < ↑(List.length a_0), i2 < ↑(List.length a_0), 0 ≤ i2 ∧ i2 < ↑(List.length b_1), 0 ≤ i2 ∧ i2 < ↑(List.length b_1), i2 < ↑(List.length b_1), ((a_0.getD i2.toNat (0, [])).1 != (b_1.getD i2.toNat (0, [])).1) = true] (by kernel_rfl) (hcons hn4 (hcons hn4 (hcons hn4.2 (hcons hn5 (hcons hn5 (hcons hn5.2 (hone hb6))))))) ?_
          refine q_k ?_
          refine tr_cond_t true (by kernel_rfl) rfl ?_
          refine tr_seq ?_
          refine tr_reg hT [] [.s 4] [sB 4 false] [] (by kernel_rfl) trivial ?_
          refine q_k ?_
          refine tr_ret ?_
          refine q_b_ret ?_
          refine q_k_ret ?_
          refine q_kr_ret ?_
          have h := Option.some.inj h
          subst h
          exact q_less [.s 4] [sB 4 false] (by kernel_rfl) (hr0 false _ rfl ⟨by kernel_rfl, by kernel_rfl⟩)
        · obtain ⟨b8, e9, h⟩ := bind_some h
          refine tr_regd hT hM [(11, .dec false), (16, .key 0), (21, .key 1), (22, .call [0, 1] (.v (.one (.bool b8))) [])] [.s 0, .s 1, .s 5, .s 41, .h 9000, .h 9001] [sO 0 (.slc 9000), sO 1 (.slc 9001), sI 5 .i64 i2, sB 41 (!b8), hW 9000 (.rc a_0), hW 9001 (.rc b_1)] [0 ≤ i2 ∧ i2 < ↑(List.length a_0), 0 ≤ i2 ∧ i2 < ↑(List.length a_0), i2 < ↑(List.length a_0), 0 ≤ i2 ∧ i2 < ↑(List.length b_1), 0 ≤ i2 ∧ i2 < ↑(List.length b_1), i2 < ↑(List.length b_1), ((a_0.getD i2.toNat (0, [])).1 != (b_1.getD i2.toNat (0, [])).1) = false, 0 ≤ i2 ∧ i2 < ↑(List.length a_0), 0 ≤ i2 ∧ i2 < ↑(List.length a_0), i2 < ↑(List.length a_0), 0 ≤ i2 ∧ i2 < ↑(List.length b_1), 0 ≤ i2 ∧ i2 < ↑(List.length b_1), i2 < ↑(List.length b_1), CallOk P 26 [.v (.one (.slc 0)), .v (.one (.slc 1))] [(0, .rd .u8 ((a_0.getD i2.toNat (0, [])).2)), (1, .rd .u8 ((b_1.getD i2.toNat (0, [])).2))] (.v (.one (.bool b8))) []] (by kernel_rfl) (hcons hn4 (hcons hn4 (hcons hn4.2 (hcons hn5 (hcons hn5 (hcons hn5.2 (hcons hb7 (hcons hn4 (hcons hn4 (hcons hn4.2 (hcons hn5 (hcons hn5 (hcons hn5.2 (hone ((keep_Bytes_ok ((a_0.getD i2.toNat (0, [])).2) ((b_1.getD i2.toNat (0, [])).2) b8 e9).tr [(9000, .slc 0), (9001, .slc 1)] rfl (by kernel_rfl) ⟨.rd (by kernel_rfl), .rd (by kernel_rfl), trivial⟩ (by kernel_rfl) (by kernel_rfl) rfl rfl))))))))))))))) ?_
          refine q_k ?_
          rcases ite_split h with ⟨hc10, h⟩ | ⟨hc10, h⟩
          · refine tr_cond_t (!b8) (by kernel_rfl) hc10 ?_
            refine tr_seq ?_
            refine tr_reg hT [] [.s 4] [sB 4 false] [] (by kernel_rfl) trivial ?_
            refine q_k ?_
            refine tr_ret ?_
            refine q_b_ret ?_
            refine q_k_ret ?_
            refine q_kr_ret ?_
            have h := Option.some.inj h
            subst h
            exact q_less [.s 4] [sB 4 false] (by kernel_rfl) (hr0 false _ rfl ⟨by kernel_rfl, by kernel_rfl⟩)
          · refine tr_cond_f (!b8) (by kernel_rfl) hc10 ?_
            refine tr_skip ?_
            refine q_b 1 ?_
            refine q_k ?_
            refine tr_reg hT [] [.s 0, .s 1, .s 5, .h 9000, .h 9001] [sO 0 (.slc 9000), sO 1 (.slc 9001), sI 5 .i64 (IntKind.i64.wrap (i2 + (1 : Int))), hW 9000 (.rc a_0), hW 9001 (.rc b_1)] [] (by kernel_rfl) trivial ?_
            refine q_kr ?_
            exact trR_less [.s 0, .s 1, .s 5, .h 9000, .h 9001] [sO 0 (.slc 9000), sO 1 (.slc 9001), sI 5 .i64 (IntKind.i64.wrap (i2 + (1 : Int))), hW 9000 (.rc a_0), hW 9001 (.rc b_1)] (by kernel_rfl) (ih0 (IntKind.i64.wrap (i2 + (1 : Int))) h)
      · refine tr_cond_f (decide (i2 < (↑(List.length a_0) : Int))) (by kernel_rfl) hc3 ?_
        refine tr_exit ?_
        refine q_k_exit ?_
        refine q_kr_exit ?_
        have h := Option.some.inj h
        subst h
        exact q_less [] [] (by kernel_rfl) (hx0 () rfl)

theorem sha_first_ok (r : List Int) (h : sha_first = some r) {pre : List (Nat × Ent)} : CallOk P 63 [] pre (.v (.agg [.arr .u32 8 r])) [] := by
  refine call0 (N := 2) Try.func63 (by kernel_rfl) rfl rfl rfl pre ?_
  intro _ w
  show Tr P (Ge w) 2 _ _ _ (RetQ P Try.f63 (R0 _ w))
  unfold sha_first at h
  refine tr_seq ?_
  refine tr_reg hT [(0, .key 0)] [.s 0, .h 0] [sO 0 (.ptr 0 0), hB 0 87 [.arr .u32 8 (List.replicate 8 0)]] [] (by kernel_rfl) trivial ?_
  refine q_k ?_
  refine tr_seq ?_
  refine tr_reg hT [] [.s 0, .h 0] [sO 0 (.ptr 0 0), hB 0 87 [.arr .u32 8 [(1779033703 : Int), (3144134277 : Int), (1013904242 : Int), (2773480762 : Int), (1359893119 : Int), (2600822924 : Int), (528734635 : Int), (1541459225 : Int)]]] [] (by kernel_rfl) trivial ?_
  refine q_k ?_
  refine tr_ret ?_
  have h := Option.some.inj h
  subst h
  exact q_ret0 hT (.v (.agg [.arr .u32 8 [(1779033703 : Int), (3144134277 : Int), (1013904242 : Int), (2773480762 : Int), (1359893119 : Int), (2600822924 : Int), (528734635 : Int), (1541459225 : Int)]])) rfl (by kernel_rfl)

theorem sha_New_ok (r : List Int × Int) (h : sha_New = some r) : CallOk P 45 [] [] (.v (.one (.ptr 8900 0))) [(8900, .blk 90 [.arr .u32 8 r.1, .nils, .int .i64 r.2])] := by
  refine call1 (N := 4) Try.func45 (by kernel_rfl) rfl rfl rfl [] (by kernel_rfl) ?_
  intro _ B w0
  show Tr P B 4 w0 _ _ (RetQ P Try.f45 (R1 _ _ B w0))
  unfold sha_New at h
  refine tr_seq ?_
  refine tr_reg hT [] [] [] [] (by kernel_rfl) trivial ?_
  refine q_k ?_
  refine tr_seq ?_
  obtain ⟨a1, e2, h⟩ := bind_some h
  refine tr_reg hT [(0, .call [] (.v (.agg [.arr .u32 8 a1])) []), (2, .key 0)] [.s 0, .h 0] [sO 0 (.ptr 0 0), hB 0 90 [.arr .u32 8 a1, .nils, .int .i64 (0 : Int)]] [CallOk P 63 [] [] (.v (.agg [.arr .u32 8 a1])) []] (by kernel_rfl) (hone (sha_first_ok  a1 e2)) ?_
  refine q_k ?_
  refine tr_ret ?_
  have h := Option.some.inj h
  subst h
  refine q_fit [(8900, .slc 0)] [sO 0 (.ptr 8900 0), hB 8900 90 [.arr .u32 8 a1, .nils, .int .i64 (0 : Int)]] [(8900, .blk 90 [.arr .u32 8 a1, .nils, .int .i64 (0 : Int)])] (by kernel_rfl) (by kernel_rfl) (by kernel_rfl) rfl ⟨.blk (by kernel_rfl) (by kernel_rfl), trivial⟩ (by kernel_rfl) ?_
  exact q_ret1 hT (.v (.one (.ptr 8900 0))) [(8900, .blk 90 [.arr .u32 8 a1, .nils, .int .i64 (0 : Int)])] (by kernel_rfl) (by kernel_rfl) (by kernel_rfl)

theorem sha_rounds_ok (r : List Int) (h : sha_rounds = some r) : CallOk P 71 [] [] (.v (.one (.slc 8900))) [(8900, .own 24 .u32 r)] := by
  refine call1 (N := 2) Try.func71 (by kernel_rfl) rfl rfl rfl [] (by kernel_rfl) ?_
  intro _ B w0
  show Tr P B 2 w0 _ _ (RetQ P Try.f71 (R1 _ _ B w0))
  unfold sha_rounds at h
  refine tr_seq ?_
  refine tr_reg hT [] [] [] [] (by kernel_rfl) trivial ?_
  refine q_k ?_
  refine tr_seq ?_
  refine tr_reg hT [(0, .key 0)] [.s 0, .h 0] [sO 0 (.slc 0), hO 0 24 .u32 [(1116352408 : Int), (1899447441 : Int), (3049323471 : Int), (3921009573 : Int), (961987163 : Int), (1508970993 : Int), (2453635748 : Int), (2870763221 : Int), (3624381080 : Int), (310598401 : Int), (607225278 : Int), (1426881987 : Int), (1925078388 : Int), (2162078206 : Int), (2614888103 : Int), (3248222580 : Int), (3835390401 : Int), (4022224774 : Int), (264347078 : Int), (604807628 : Int), (770255983 : Int), (1249150122 : Int), (1555081692 : Int), (1996064986 : Int), (2554220882 : Int), (2821834349 : Int), (2952996808 : Int), (3210313671 : Int), (3336571891 : Int), (3584528711 : Int), (113926993 : Int), (338241895 : Int), (666307205 : Int), (773529912 : Int), (1294757372 : Int), (1396182291 : Int), (1695183700 : Int), (1986661051 : Int), (2177026350 : Int), (2456956037 : Int), (2730485921 : Int), (2820302411 : Int), (3259730800 : Int), (3345764771 : Int), (3516065817 : Int), (3600352804 : Int), (4094571909 : Int), (275423344 : Int), (430227734 : Int), (506948616 : Int), (659060556 : Int), (883997877 : Int), (958139571 : Int), (1322822218 : Int), (1537002063 : Int), (1747873779 : Int), (1955562222 : Int), (2024104815 : Int), (2227730452 : Int), (2361852424 : Int), (2428436474 : Int), (2756734187 : Int), (3204031479 : Int), (3329325298 : Int)]] [] (by kernel_rfl) trivial ?_
  refine q_k ?_
  refine tr_ret ?_
  have h := Option.some.inj h
  subst h
  refine q_fit [(8900, .slc 0)] [sO 0 (.slc 8900), hO 8900 24 .u32 [(1116352408 : Int), (1899447441 : Int), (3049323471 : Int), (3921009573 : Int), (961987163 : Int), (1508970993 : Int), (2453635748 : Int), (2870763221 : Int), (3624381080 : Int), (310598401 : Int), (607225278 : Int), (1426881987 : Int), (1925078388 : Int), (2162078206 : Int), (2614888103 : Int), (3248222580 : Int), (3835390401 : Int), (4022224774 : Int), (264347078 : Int), (604807628 : Int), (770255983 : Int), (1249150122 : Int), (1555081692 : Int), (1996064986 : Int), (2554220882 : Int), (2821834349 : Int), (2952996808 : Int), (3210313671 : Int), (3336571891 : Int), (3584528711 : Int), (113926993 : Int), (338241895 : Int), (666307205 : Int), (773529912 : Int), (1294757372 : Int), (1396182291 : Int), (1695183700 : Int), (1986661051 : Int), (2177026350 : Int), (2456956037 : Int), (2730485921 : Int), (2820302411 : Int), (3259730800 : Int), (3345764771 : Int), (3516065817 : Int), (3600352804 : Int), (4094571909 : Int), (275423344 : Int), (430227734 : Int), (506948616 : Int), (659060556 : Int), (883997877 : Int), (958139571 : Int), (1322822218 : Int), (1537002063 : Int), (1747873779 : Int), (1955562222 : Int), (2024104815 : Int), (2227730452 : Int), (2361852424 : Int), (2428436474 : Int), (2756734187 : Int), (3204031479 : Int), (3329325298 : Int)]] [(8900, .own 24 .u32 [(1116352408 : Int), (1899447441 : Int), (3049323471 : Int), (3921009573 : Int), (961987163 : Int), (1508970993 : Int), (2453635748 : Int), (2870763221 : Int), (3624381080 : Int), (310598401 : Int), (607225278 : Int), (1426881987 : Int), (1925078388 : Int), (2162078206 : Int), (2614888103 : Int), (3248222580 : Int), (3835390401 : Int), (4022224774 : Int), (264347078 : Int), (604807628 : Int), (770255983 : Int), (1249150122 : Int), (1555081692 : Int), (1996064986 : Int), (2554220882 : Int), (2821834349 : Int), (2952996808 : Int), (3210313671 : Int), (3336571891 : Int), (3584528711 : Int), (113926993 : Int), (338241895 : Int), (666307205 : Int), (773529912 : Int), (1294757372 : Int), (1396182291 : Int), (1695183700 : Int), (1986661051 : Int), (2177026350 : Int), (2456956037 : Int), (2730485921 : Int), (2820302411 : Int), (3259730800 : Int), (3345764771 : Int), (3516065817 : Int), (3600352804 : Int), (4094571909 : Int), (275423344 : Int), (430227734 : Int), (506948616 : Int), (659060556 : Int), (883997877 : Int), (958139571 : Int), (1322822218 : Int), (1537002063 : Int), (1747873779 : Int), (1955562222 : Int), (2024104815 : Int), (2227730452 : Int), (2361852424 : Int), (2428436474 : Int), (2756734187 : Int), (3204031479 : Int), (3329325298 : Int)])] (by kernel_rfl) (by kernel_rfl) (by kernel_rfl) rfl ⟨.own (by kernel_rfl), trivial⟩ (by kernel_rfl) ?_
  exact q_ret1 hT (.v (.one (.slc 8900))) [(8900, .own 24 .u32 [(1116352408 : Int), (1899447441 : Int), (3049323471 : Int), (3921009573 : Int), (961987163 : Int), (1508970993 : Int), (2453635748 : Int), (2870763221 : Int), (3624381080 : Int), (310598401 : Int), (607225278 : Int), (1426881987 : Int), (1925078388 : Int), (2162078206 : Int), (2614888103 : Int), (3248222580 : Int), (3835390401 : Int), (4022224774 : Int), (264347078 : Int), (604807628 : Int), (770255983 : Int), (1249150122 : Int), (1555081692 : Int), (1996064986 : Int), (2554220882 : Int), (2821834349 : Int), (2952996808 : Int), (3210313671 : Int), (3336571891 : Int), (3584528711 : Int), (113926993 : Int), (338241895 : Int), (666307205 : Int), (773529912 : Int), (1294757372 : Int), (1396182291 : Int), (1695183700 : Int), (1986661051 : Int), (2177026350 : Int), (2456956037 : Int), (2730485921 : Int), (2820302411 : Int), (3259730800 : Int), (3345764771 : Int), (3516065817 : Int), (3600352804 : Int), (4094571909 : Int), (275423344 : Int), (430227734 : Int), (506948616 : Int), (659060556 : Int), (883997877 : Int), (958139571 : Int), (1322822218 : Int), (1537002063 : Int), (1747873779 : Int), (1955562222 : Int), (2024104815 : Int), (2227730452 : Int), (2361852424 : Int), (2428436474 : Int), (2756734187 : Int), (3204031479 : Int), (3329325298 : Int)])] (by kernel_rfl) (by kernel_rfl) (by kernel_rfl)

theorem sha_high_ok (b_0 : List Int) (r : Int) (h : sha_high b_0 = some r) : CallOk P 74 [.v (.one (.slc 9000))] [(9000, .rd .u8 b_0)] (.v (.one (.int .u32 r))) [] := by
  refine call1 (N := 19) Try.func74 (by kernel_rfl) rfl rfl rfl [(9000, .rd .u8 b_0)] (by kernel_rfl) ?_
  intro _ B w0
  show Tr P B 19 w0 _ _ (RetQ P Try.f74 (R1 _ _ B w0))
  unfold sha_high at h
  refine tr_seq ?_
  refine tr_reg hT [] [.s 0, .h 9000] [sO 0 (.slc 9000), hR 9000 .u8 b_0] [] (by kernel_rfl) trivial ?_
  refine q_k ?_
  refine tr_seq ?_
  refine tr_reg hT [] [.s 0, .s 3, .h 9000] [sO 0 (.slc 9000), sI 3 .u32 (0 : Int), hR 9000 .u8 b_0] [] (by kernel_rfl) trivial ?_
  refine q_k ?_
  refine tr_seq ?_
  refine tr_seq ?_
  refine tr_reg hT [] [.s 3, .s 6, .s 7, .s 8, .h 9000] [sI 3 .u32 (0 : Int), sO 6 (.slc 9000), sI 7 .i64 (↑(List.length b_0) : Int), sI 8 .i64 (0 : Int), hR 9000 .u8 b_0] [] (by kernel_rfl) trivial ?_
  refine q_k ?_
  refine tr_block ?_
  obtain ⟨x3, e6, h⟩ := bind_some h
  refine tr_fit [] [sI 3 .u32 (0 : Int), sO 6 (.slc 9000), sI 7 .i64 (↑(List.length b_0) : Int), sI 8 .i64 (0 : Int), hR 9000 .u8 b_0] [(9000, .rd .u8 b_0)] (by kernel_rfl) (by kernel_rfl) (by kernel_rfl) rfl ⟨.rd (by kernel_rfl), trivial⟩ (by kernel_rfl) ?_
  refine tr_loop_fuel (id := 0) (α := Int × Int) (β := Int) (fun z => [sI 3 .u32 z.1, sO 6 (.slc 9000), sI 7 .i64 (↑(List.length b_0) : Int), sI 8 .i64 z.2, hR 9000 .u8 b_0]) (fun z => [sI 3 .u32 z]) (fun k z => sha_high_l0 b_0 k z.1 z.2) x3 (fun _ => rfl) (((↑(List.length b_0) : Int) - (0 : Int)).toNat + 1) ((0 : Int), (0 : Int)) e6 ?_ ?_
  · skip
    replace h : (some x3) = _ := h
    refine q_b_this ?_
    refine q_k ?_
    refine tr_seq ?_
    refine tr_reg hT [] [.s 2] [sI 2 .u32 x3] [] (by kernel_rfl) trivial ?_
    refine q_k ?_
    refine tr_ret ?_
    have h := Option.some.inj h
    subst h
    refine q_less [.s 2] [sI 2 .u32 x3] (by kernel_rfl) ?_
    exact q_ret1 hT (.v (.one (.int .u32 x3))) [] (by kernel_rfl) (by kernel_rfl) (by kernel_rfl)
  · clear h e6
    intro k ih0 hx0 z h
    obtain ⟨x1, x2⟩ := z
    replace h : (if (decide (x2 < (↑(List.length b_0) : Int))) = true then if 0 ≤ x2 ∧ x2 < ↑(List.length b_0) then sha_high_l0 b_0 k (bor .u32 (shl .u32 x1 (8 : Int)) (IntKind.u32.wrap (b_0.getD x2.toNat 0))) (IntKind.i64.wrap (x2 + (1 : Int))) else none else some x1) = _ := h
    refine tr_seq ?_
    refine tr_reg hT [] [.s 3, .s 6, .s 7, .s 8, .s 9, .h 9000] [sI 3 .u32 x1, sO 6 (.slc 9000), sI 7 .i64 (↑(List.length b_0) : Int), sI 8 .i64 x2, sB 9 (decide (x2 < (↑(List.length b_0) : Int))), hR 9000 .u8 b_0] [] (by kernel_rfl) trivial ?_
    refine q_k ?_
    refine tr_seq ?_
    rcases ite_split h with ⟨hc4, h⟩ | ⟨hc4, h⟩
    · refine tr_cond_t (decide (x2 < (↑(List.length b_0) : Int))) (by kernel_rfl) hc4 ?_
      refine tr_skip ?_
      refine q_k ?_
      refine tr_seq ?_
      refine tr_block ?_
      refine tr_seq ?_
      obtain ⟨hn5, h⟩ := ite_some h
      refine tr_reg hT [] [.s 3, .s 5, .s 6, .s 7, .s 8, .h 9000] [sI 3 .u32 x1, sI 5 .u8 (b_0.getD x2.toNat 0), sO 6 (.slc 9000), sI 7 .i64 (↑(List.length b_0) : Int), sI 8 .i64 x2, hR 9000 .u8 b_0] [0 ≤ x2 ∧ x2 < ↑(List.length b_0), x2 < ↑(List.length b_0)] (by kernel_rfl) (hcons hn5 (hone hn5.2)) ?_
      refine q_k ?_
      refine tr_reg hT [] [.s 3, .s 6, .s 7, .s 8, .h 9000] [sI 3 .u32 (bor .u32 (shl .u32 x1 (8 : Int)) (IntKind.u32.wrap (b_0.getD x2.toNat 0))), sO 6 (.slc 9000), sI 7 .i64 (↑(List.length b_0) : Int), sI 8 .i64 x2, hR 9000 .u8 b_0] [0 ≤ (8 : Int)] (by kernel_rfl) (hone (by decide)) ?_
      refine q_b 1 ?_
      refine q_k ?_
      refine tr_reg hT [] [.s 3, .s 6, .s 7, .s 8, .h 9000] [sI 3 .u32 (bor .u32 (shl .u32 x1 (8 : Int)) (IntKind.u32.wrap (b_0.getD x2.toNat 0))), sO 6 (.slc 9000), sI 7 .i64 (↑(List.length b_0) : Int), sI 8 .i64 (IntKind.i64.wrap (x2 + (1 : Int))), hR 9000 .u8 b_0] [] (by kernel_rfl) trivial ?_
      refine q_kr ?_
      exact trR_less [.s 3, .s 6, .s 7, .s 8, .h 9000] [sI 3 .u32 (bor .u32 (shl .u32 x1 (8 : Int)) (IntKind.u32.wrap (b_0.getD x2.toNat 0))), sO 6 (.slc 9000), sI 7 .i64 (↑(List.length b_0) : Int), sI 8 .i64 (IntKind.i64.wrap (x2 + (1 : Int))), hR 9000 .u8 b_0] (by kernel_rfl) (ih0 ((bor .u32 (shl .u32 x1 (8 : Int)) (IntKind.u32.wrap (b_0.getD x2.toNat 0))), (IntKind.i64.wrap (x2 + (1 : Int)))) h)
    · refine tr_cond_f (decide (x2 < (↑(List.length b_0) : Int))) (by kernel_rfl) hc4 ?_
      refine tr_exit ?_
      refine q_k_exit ?_
      refine q_kr_exit ?_
      have h := Option.some.inj h
      subst h
      exact q_less [.s 3] [sI 3 .u32 x1] (by kernel_rfl) hx0

theorem math_bits_RotateLeft32_ok (x_0 : Int) (k_1 : Int) (r : Int) (h : math_bits_RotateLeft32 x_0 k_1 = some r) {pre : List (Nat × Ent)} : CallOk P 70 [.v (.one (.int .u32 x_0)), .v (.one (.int .i64 k_1))] pre (.v (.one (.int .u32 r))) [] := by
  refine call0 (N := 17) Try.func70 (by kernel_rfl) rfl rfl rfl pre ?_
  intro _ w
  show Tr P (Ge w) 17 _ _ _ (RetQ P Try.f70 (R0 _ w))
  unfold math_bits_RotateLeft32 at h
  refine tr_seq ?_
  refine tr_reg hT [] [.s 0, .s 1] [sI 0 .u32 x_0, sI 1 .i64 k_1] [] (by kernel_rfl) trivial ?_
  refine q_k ?_
  refine tr_seq ?_
  refine tr_reg hT [] [.s 0, .s 5] [sI 0 .u32 x_0, sI 5 .u64 (band .u64 (IntKind.u64.wrap k_1) (31 : Int))] [] (by kernel_rfl) trivial ?_
  refine q_k ?_
  refine tr_seq ?_
  obtain ⟨hn1, h⟩ := ite_some h
  obtain ⟨hn2, h⟩ := ite_some h
  refine tr_reg hT [] [.s 4] [sI 4 .u32 (bor .u32 (shl .u32 x_0 (band .u64 (IntKind.u64.wrap k_1) (31 : Int))) (shr .u32 x_0 (IntKind.u64.wrap ((32 : Int) - (band .u64 (IntKind.u64.wrap k_1) (31 : Int))))))] [0 ≤ (band .u64 (IntKind.u64.wrap k_1) (31 : Int)), 0 ≤ (IntKind.u64.wrap ((32 : Int) - (band .u64 (IntKind.u64.wrap k_1) (31 : Int))))] (by kernel_rfl) (hcons hn1 (hone hn2)) ?_
  refine q_k ?_
  refine tr_ret ?_
  have h := Option.some.inj h
  subst h
  exact q_ret0 hT (.v (.one (.int .u32 (bor .u32 (shl .u32 x_0 (band .u64 (IntKind.u64.wrap k_1) (31 : Int))) (shr .u32 x_0 (IntKind.u64.wrap ((32 : Int) - (band .u64 (IntKind.u64.wrap k_1) (31 : Int))))))))) rfl (by kernel_rfl)

theorem sha_spread_ok (p_0 : List Int) (r : List Int) (h : sha_spread p_0 = some r) : CallOk P 72 [.v (.one (.slc 9000))] [(9000, .rd .u8 p_0)] (.v (.agg [.arr .u32 64 r])) [] := by
  refine call1 (N := 65) Try.func72 (by kernel_rfl) rfl rfl rfl [(9000, .rd .u8 p_0)] (by kernel_rfl) ?_
  intro _ B w0
  show Tr P B 65 w0 _ _ (RetQ P Try.f72 (R1 _ _ B w0))
  unfold sha_spread at h
  refine tr_seq ?_
  refine tr_reg hT [(0, .key 0)] [.s 0, .s 2, .h 0, .h 9000] [sO 0 (.slc 9000), sO 2 (.ptr 0 0), hB 0 83 [.arr .u32 64 (List.replicate 64 0)], hR 9000 .u8 p_0] [] (by kernel_rfl) trivial ?_
  refine q_k ?_
  refine tr_seq ?_
  refine tr_reg hT [(0, .key 1)] [.s 0, .s 2, .s 3, .h 0, .h 1, .h 9000] [sO 0 (.slc 9000), sO 2 (.ptr 0 0), sO 3 (.ptr 1 0), hB 0 83 [.arr .u32 64 (List.replicate 64 0)], hB 1 83 [.arr .u32 64 (List.replicate 64 0)], hR 9000 .u8 p_0] [] (by kernel_rfl) trivial ?_
  refine q_k ?_
  refine tr_seq ?_
  refine tr_seq ?_
  refine tr_reg hT [] [.s 0, .s 2, .s 3, .s 9, .h 0, .h 1, .h 9000] [sO 0 (.slc 9000), sO 2 (.ptr 0 0), sO 3 (.ptr 1 0), sI 9 .i64 (0 : Int), hB 0 83 [.arr .u32 64 (List.replicate 64 0)], hB 1 83 [.arr .u32 64 (List.replicate 64 0)], hR 9000 .u8 p_0] [] (by kernel_rfl) trivial ?_
  refine q_k ?_
  refine tr_block ?_
  obtain ⟨m3, e23, h⟩ := bind_some h
  refine tr_fit [] [sO 0 (.slc 9000), sO 2 (.ptr 0 0), sO 3 (.ptr 1 0), sI 9 .i64 (0 : Int), hB 0 83 [.arr .u32 64 (List.replicate 64 0)], hB 1 83 [.arr .u32 64 (List.replicate 64 0)], hR 9000 .u8 p_0] [(0, .blk 83 [.arr .u32 64 (List.replicate 64 0)]), (1, .blk 83 [.arr .u32 64 (List.replicate 64 0)]), (9000, .rd .u8 p_0)] (by kernel_rfl) (by kernel_rfl) (by kernel_rfl) rfl ⟨.blk (by kernel_rfl) (by kernel_rfl), .blk (by kernel_rfl) (by kernel_rfl), .rd (by kernel_rfl), trivial⟩ (by kernel_rfl) ?_
  refine tr_loop_fuel (id := 0) (α := List Int × Int) (β := List Int) (fun z => [sO 0 (.slc 9000), sO 2 (.ptr 0 0), sO 3 (.ptr 1 0), sI 9 .i64 z.2, hB 0 83 [.arr .u32 64 (List.replicate 64 0)], hB 1 83 [.arr .u32 64 z.1], hR 9000 .u8 p_0]) (fun z => [sO 2 (.ptr 0 0), sO 3 (.ptr 1 0), hB 0 83 [.arr .u32 64 (List.replicate 64 0)], hB 1 83 [.arr .u32 64 z]]) (fun k z => sha_spread_l0 p_0 k z.1 z.2) m3 (fun _ => rfl) (((64 : Int) - (0 : Int)).toNat + 1) ((List.replicate 64 0), (0 : Int)) e23 ?_ ?_
  · skip
    replace h : (some m3) = _ := h
    refine q_b_this ?_
    refine q_k ?_
    refine tr_seq ?_
    refine tr_reg hT [] [.s 2, .h 0] [sO 2 (.ptr 0 0), hB 0 83 [.arr .u32 64 m3]] [] (by kernel_rfl) trivial ?_
    refine q_k ?_
    refine tr_ret ?_
    have h := Option.some.inj h
    subst h
    refine q_less [.s 2, .h 0] [sO 2 (.ptr 0 0), hB 0 83 [.arr .u32 64 m3]] (by kernel_rfl) ?_
    exact q_ret1 hT (.v (.agg [.arr .u32 64 m3])) [] (by kernel_rfl) (by kernel_rfl) (by kernel_rfl)
  · clear h e23
    intro k ih0 hx0 z h
    obtain ⟨m1, x2⟩ := z
    replace h : (if (decide (x2 < (64 : Int))) = true then if (decide (x2 < (16 : Int))) = true then if 0 ≤ (IntKind.i64.wrap ((4 : Int) * x2)) ∧ (IntKind.i64.wrap ((4 : Int) * x2)) ≤ (IntKind.i64.wrap ((IntKind.i64.wrap ((4 : Int) * x2)) + (4 : Int))) ∧ (IntKind.i64.wrap ((IntKind.i64.wrap ((4 : Int) * x2)) + (4 : Int))) ≤ (↑(List.length p_0) : Int) then (sha_high ((p_0.take ((IntKind.i64.wrap ((IntKind.i64.wrap ((4 : Int) * x2)) + (4 : Int))).toNat)).drop (IntKind.i64.wrap ((4 : Int) * x2)).toNat)).bind (fun r7 => if 0 ≤ x2 ∧ x2 < ((64 : Nat) : Int) then sha_spread_l0 p_0 k (m1.set x2.toNat r7) (IntKind.i64.wrap (x2 + (1 : Int))) else none) else none else if 0 ≤ (IntKind.i64.wrap (x2 - (15 : Int))) ∧ (IntKind.i64.wrap (x2 - (15 : Int))) < ((64 : Nat) : Int) then if 0 ≤ (IntKind.i64.wrap (x2 - (2 : Int))) ∧ (IntKind.i64.wrap (x2 - (2 : Int))) < ((64 : Nat) : Int) then (math_bits_RotateLeft32 (m1.getD (IntKind.i64.wrap (x2 - (15 : Int))).toNat 0) (-7 : Int)).bind (fun r12 => (math_bits_RotateLeft32 (m1.getD (IntKind.i64.wrap (x2 - (15 : Int))).toNat 0) (-18 : Int)).bind (fun r14 => (math_bits_RotateLeft32 (m1.getD (IntKind.i64.wrap (x2 - (2 : Int))).toNat 0) (-17 : Int)).bind (fun r16 => (math_bits_RotateLeft32 (m1.getD (IntKind.i64.wrap (x2 - (2 : Int))).toNat 0) (-19 : Int)).bind (fun r18 => if 0 ≤ (IntKind.i64.wrap (x2 - (16 : Int))) ∧ (IntKind.i64.wrap (x2 - (16 : Int))) < ((64 : Nat) : Int) then if 0 ≤ (IntKind.i64.wrap (x2 - (7 : Int))) ∧ (IntKind.i64.wrap (x2 - (7 : Int))) < ((64 : Nat) : Int) then if 0 ≤ x2 ∧ x2 < ((64 : Nat) : Int) then sha_spread_l0 p_0 k (m1.set x2.toNat (IntKind.u32.wrap ((IntKind.u32.wrap ((IntKind.u32.wrap ((m1.getD (IntKind.i64.wrap (x2 - (16 : Int))).toNat 0) + (bxor .u32 (bxor .u32 r12 r14) (shr .u32 (m1.getD (IntKind.i64.wrap (x2 - (15 : Int))).toNat 0) (3 : Int))))) + (m1.getD (IntKind.i64.wrap (x2 - (7 : Int))).toNat 0))) + (bxor .u32 (bxor .u32 r16 r18) (shr .u32 (m1.getD (IntKind.i64.wrap (x2 - (2 : Int))).toNat 0) (10 : Int)))))) (IntKind.i64.wrap (x2 + (1 : Int))) else none else none else none)))) else none else none else some m1) = _ := h
    refine tr_seq ?_
    refine tr_reg hT [] [.s 0, .s 2, .s 3, .s 9, .s 10, .h 0, .h 1, .h 9000] [sO 0 (.slc 9000), sO 2 (.ptr 0 0), sO 3 (.ptr 1 0), sI 9 .i64 x2, sB 10 (decide (x2 < (64 : Int))), hB 0 83 [.arr .u32 64 (List.replicate 64 0)], hB 1 83 [.arr .u32 64 m1], hR 9000 .u8 p_0] [] (by kernel_rfl) trivial ?_
    refine q_k ?_
    refine tr_seq ?_
    rcases ite_split h with ⟨hc4, h⟩ | ⟨hc4, h⟩
    · refine tr_cond_t (decide (x2 < (64 : Int))) (by kernel_rfl) hc4 ?_
      refine tr_skip ?_
      refine q_k ?_
      refine tr_seq ?_
      refine tr_block ?_
      refine tr_seq ?_
      refine tr_reg hT [] [.s 0, .s 2, .s 3, .s 4, .s 9, .h 0, .h 1, .h 9000] [sO 0 (.slc 9000), sO 2 (.ptr 0 0), sO 3 (.ptr 1 0), sI 4 .i64 x2, sI 9 .i64 x2, hB 0 83 [.arr .u32 64 (List.replicate 64 0)], hB 1 83 [.arr .u32 64 m1], hR 9000 .u8 p_0] [] (by kernel_rfl) trivial ?_
      refine q_k ?_
      refine tr_seq ?_
      refine tr_seq ?_
      refine tr_reg hT [] [.s 0, .s 2, .s 3, .s 4, .s 9, .s 13, .h 0, .h 1, .h 9000] [sO 0 (.slc 9000), sO 2 (.ptr 0 0), sO 3 (.ptr 1 0), sI 4 .i64 x2, sI 9 .i64 x2, sB 13 (decide (x2 < (16 : Int))), hB 0 83 [.arr .u32 64 (List.replicate 64 0)], hB 1 83 [.arr .u32 64 m1], hR 9000 .u8 p_0] [] (by kernel_rfl) trivial ?_
      refine q_k ?_
      rcases ite_split h with ⟨hc5, h⟩ | ⟨hc5, h⟩
      · refine tr_cond_t (decide (x2 < (16 : Int))) (by kernel_rfl) hc5 ?_
        refine tr_seq ?_
        obtain ⟨hn6, h⟩ := ite_some h
        obtain ⟨r7, e8, h⟩ := bind_some h
        obtain ⟨hn9, h⟩ := ite_some h
        refine tr_reg hT [(7, .key 2), (8, .call [2] (.v (.one (.int .u32 r7))) [])] [.s 0, .s 2, .s 3, .s 9, .h 0, .h 1, .h 9000] [sO 0 (.slc 9000), sO 2 (.ptr 0 0), sO 3 (.ptr 1 0), sI 9 .i64 x2, hB 0 83 [.arr .u32 64 (List.replicate 64 0)], hB 1 83 [.arr .u32 64 (m1.set x2.toNat r7)], hR 9000 .u8 p_0] [0 ≤ (IntKind.i64.wrap ((4 : Int) * x2)) ∧ (IntKind.i64.wrap ((4 : Int) * x2)) ≤ (IntKind.i64.wrap ((IntKind.i64.wrap ((4 : Int) * x2)) + (4 : Int))) ∧ (IntKind.i64.wrap ((IntKind.i64.wrap ((4 : Int) * x2)) + (4 : Int))) ≤ (↑(List.length p_0) : Int), CallOk P 74 [.v (.one (.slc 2))] [(2, .rd .u8 ((p_0.take ((IntKind.i64.wrap ((IntKind.i64.wrap ((4 : Int) * x2)) + (4 : Int))).toNat)).drop (IntKind.i64.wrap ((4 : Int) * x2)).toNat))] (.v (.one (.int .u32 r7))) [], 0 ≤ x2 ∧ x2 < ((64 : Nat) : Int)] (by kernel_rfl) (hcons hn6 (hcons ((sha_high_ok ((p_0.take ((IntKind.i64.wrap ((IntKind.i64.wrap ((4 : Int) * x2)) + (4 : Int))).toNat)).drop (IntKind.i64.wrap ((4 : Int) * x2)).toNat) r7 e8).tr [(9000, .slc 2)] rfl (by kernel_rfl) ⟨.rd (by kernel_rfl), trivial⟩ (by kernel_rfl) (by kernel_rfl) rfl rfl) (hone hn9))) ?_
        refine q_k ?_
        refine tr_exit ?_
        refine q_k_exit ?_
        refine q_b_this ?_
        refine q_k ?_
        refine tr_reg hT [] [.s 0, .s 2, .s 3, .s 9, .h 0, .h 1, .h 9000] [sO 0 (.slc 9000), sO 2 (.ptr 0 0), sO 3 (.ptr 1 0), sI 9 .i64 (IntKind.i64.wrap (x2 + (1 : Int))), hB 0 83 [.arr .u32 64 (List.replicate 64 0)], hB 1 83 [.arr .u32 64 (m1.set x2.toNat r7)], hR 9000 .u8 p_0] [] (by kernel_rfl) trivial ?_
        refine q_kr ?_
        exact trR_less [.s 0, .s 2, .s 3, .s 9, .h 0, .h 1, .h 9000] [sO 0 (.slc 9000), sO 2 (.ptr 0 0), sO 3 (.ptr 1 0), sI 9 .i64 (IntKind.i64.wrap (x2 + (1 : Int))), hB 0 83 [.arr .u32 64 (List.replicate 64 0)], hB 1 83 [.arr .u32 64 (m1.set x2.toNat r7)], hR 9000 .u8 p_0] (by kernel_rfl) (ih0 ((m1.set x2.toNat r7), (IntKind.i64.wrap (x2 + (1 : Int)))) h)
      · refine tr_cond_f (decide (x2 < (16 : Int))) (by kernel_rfl) hc5 ?_
        refine tr_skip ?_
        refine q_k ?_
        refine tr_seq ?_
        obtain ⟨hn10, h⟩ := ite_some h
        obtain ⟨hn11, h⟩ := ite_some h
        refine tr_regd hT hM [] [.s 0, .s 2, .s 3, .s 4, .s 5, .s 6, .s 9, .h 0, .h 1, .h 9000] [sO 0 (.slc 9000), sO 2 (.ptr 0 0), sO 3 (.ptr 1 0), sI 4 .i64 x2, sI 5 .u32 (m1.getD (IntKind.i64.wrap (x2 - (15 : Int))).toNat 0), sI 6 .u32 (m1.getD (IntKind.i64.wrap (x2 - (2 : Int))).toNat 0), sI 9 .i64 x2, hB 0 83 [.arr .u32 64 (List.replicate 64 0)], hB 1 83 [.arr .u32 64 m1], hR 9000 .u8 p_0] [0 ≤ (IntKind.i64.wrap (x2 - (15 : Int))) ∧ (IntKind.i64.wrap (x2 - (15 : Int))) < ((64 : Nat) : Int), 0 ≤ (IntKind.i64.wrap (x2 - (2 : Int))) ∧ (IntKind.i64.wrap (x2 - (2 : Int))) < ((64 : Nat) : Int)] (by kernel_rfl) (hcons hn10 (hone hn11)) ?_
        refine q_k ?_
        refine tr_seq ?_
        obtain ⟨r12, e13, h⟩ := bind_some h
        obtain ⟨r14, e15, h⟩ := bind_some h
        refine tr_reg hT [(1, .call [] (.v (.one (.int .u32 r12))) []), (3, .call [] (.v (.one (.int .u32 r14))) [])] [.s 0, .s 2, .s 3, .s 4, .s 6, .s 7, .s 9, .h 0, .h 1, .h 9000] [sO 0 (.slc 9000), sO 2 (.ptr 0 0), sO 3 (.ptr 1 0), sI 4 .i64 x2, sI 6 .u32 (m1.getD (IntKind.i64.wrap (x2 - (2 : Int))).toNat 0), sI 7 .u32 (bxor .u32 (bxor .u32 r12 r14) (shr .u32 (m1.getD (IntKind.i64.wrap (x2 - (15 : Int))).toNat 0) (3 : Int))), sI 9 .i64 x2, hB 0 83 [.arr .u32 64 (List.replicate 64 0)], hB 1 83 [.arr .u32 64 m1], hR 9000 .u8 p_0] [CallOk P 70 [.v (.one (.int .u32 (m1.getD (IntKind.i64.wrap (x2 - (15 : Int))).toNat 0))), .v (.one (.int .i64 (-7 : Int)))] [] (.v (.one (.int .u32 r12))) [], CallOk P 70 [.v (.one (.int .u32 (m1.getD (IntKind.i64.wrap (x2 - (15 : Int))).toNat 0))), .v (.one (.int .i64 (-18 : Int)))] [] (.v (.one (.int .u32 r14))) [], 0 ≤ (3 : Int)] (by kernel_rfl) (hcons (math_bits_RotateLeft32_ok (m1.getD (IntKind.i64.wrap (x2 - (15 : Int))).toNat 0) (-7 : Int) r12 e13) (hcons (math_bits_RotateLeft32_ok (m1.getD (IntKind.i64.wrap (x2 - (15 : Int))).toNat 0) (-18 : Int) r14 e15) (hone (by decide)))) ?_
        refine q_k ?_
        refine tr_seq ?_
        obtain ⟨r16, e17, h⟩ := bind_some h
        obtain ⟨r18, e19, h⟩ := bind_some h
        refine tr_reg hT [(1, .call [] (.v (.one (.int .u32 r16))) []), (3, .call [] (.v (.one (.int .u32 r18))) [])] [.s 0, .s 2, .s 3, .s 4, .s 7, .s 8, .s 9, .h 0, .h 1, .h 9000] [sO 0 (.slc 9000), sO 2 (.ptr 0 0), sO 3 (.ptr 1 0), sI 4 .i64 x2, sI 7 .u32 (bxor .u32 (bxor .u32 r12 r14) (shr .u32 (m1.getD (IntKind.i64.wrap (x2 - (15 : Int))).toNat 0) (3 : Int))), sI 8 .u32 (bxor .u32 (bxor .u32 r16 r18) (shr .u32 (m1.getD (IntKind.i64.wrap (x2 - (2 : Int))).toNat 0) (10 : Int))), sI 9 .i64 x2, hB 0 83 [.arr .u32 64 (List.replicate 64 0)], hB 1 83 [.arr .u32 64 m1], hR 9000 .u8 p_0] [CallOk P 70 [.v (.one (.int .u32 (m1.getD (IntKind.i64.wrap (x2 - (2 : Int))).toNat 0))), .v (.one (.int .i64 (-17 : Int)))] [] (.v (.one (.int .u32 r16))) [], CallOk P 70 [.v (.one (.int .u32 (m1.getD (IntKind.i64.wrap (x2 - (2 : Int))).toNat 0))), .v (.one (.int .i64 (-19 : Int)))] [] (.v (.one (.int .u32 r18))) [], 0 ≤ (10 : Int)] (by kernel_rfl) (hcons (math_bits_RotateLeft32_ok (m1.getD (IntKind.i64.wrap (x2 - (2 : Int))).toNat 0) (-17 : Int) r16 e17) (hcons (math_bits_RotateLeft32_ok (m1.getD (IntKind.i64.wrap (x2 - (2 : Int))).toNat 0) (-19 : Int) r18 e19) (hone (by decide)))) ?_
        refine q_k ?_
        obtain ⟨hn20, h⟩ := ite_some h
        obtain ⟨hn21, h⟩ := ite_some h
        obtain ⟨hn22, h⟩ := ite_some h
        refine tr_regd hT hM [] [.s 0, .s 2, .s 3, .s 9, .h 0, .h 1, .h 9000] [sO 0 (.slc 9000), sO 2 (.ptr 0 0), sO 3 (.ptr 1 0), sI 9 .i64 x2, hB 0 83 [.arr .u32 64 (List.replicate 64 0)], hB 1 83 [.arr .u32 64 (m1.set x2.toNat (IntKind.u32.wrap ((IntKind.u32.wrap ((IntKind.u32.wrap ((m1.getD (IntKind.i64.wrap (x2 - (16 : Int))).toNat 0) + (bxor .u32 (bxor .u32 r12 r14) (shr .u32 (m1.getD (IntKind.i64.wrap (x2 - (15 : Int))).toNat 0) (3 : Int))))) + (m1.getD (IntKind.i64.wrap (x2 - (7 : Int))).toNat 0))) + (bxor .u32 (bxor .u32 r16 r18) (shr .u32 (m1.getD (IntKind.i64.wrap (x2 - (2 : Int))).toNat 0) (10 : Int))))))], hR 9000 .u8 p_0] [0 ≤ (IntKind.i64.wrap (x2 - (16 : Int))) ∧ (IntKind.i64.wrap (x2 - (16 : Int))) < ((64 : Nat) : Int), 0 ≤ (IntKind.i64.wrap (x2 - (7 : Int))) ∧ (IntKind.i64.wrap (x2 - (7 : Int))) < ((64 : Nat) : Int), 0 ≤ x2 ∧ x2 < ((64 : Nat) : Int)] (by kernel_rfl) (hcons hn20 (hcons hn21 (hone hn22))) ?_
        refine q_b 1 ?_
        refine q_k ?_
        refine tr_reg hT [] [.s 0, .s 2, .s 3, .s 9, .h 0, .h 1, .h 9000] [sO 0 (.slc 9000), sO 2 (.ptr 0 0), sO 3 (.ptr 1 0), sI 9 .i64 (IntKind.i64.wrap (x2 + (1 : Int))), hB 0 83 [.arr .u32 64 (List.replicate 64 0)], hB 1 83 [.arr .u32 64 (m1.set x2.toNat (IntKind.u32.wrap ((IntKind.u32.wrap ((IntKind.u32.wrap ((m1.getD (IntKind.i64.wrap (x2 - (16 : Int))).toNat 0) + (bxor .u32 (bxor .u32 r12 r14) (shr .u32 (m1.getD (IntKind.i64.wrap (x2 - (15 : Int))).toNat 0) (3 : Int))))) + (m1.getD (IntKind.i64.wrap (x2 - (7 : Int))).toNat 0))) + (bxor .u32 (bxor .u32 r16 r18) (shr .u32 (m1.getD (IntKind.i64.wrap (x2 - (2 : Int))).toNat 0) (10 : Int))))))], hR 9000 .u8 p_0] [] (by kernel_rfl) trivial ?_
        refine q_kr ?_
        exact trR_less [.s 0, .s 2, .s 3, .s 9, .h 0, .h 1, .h 9000] [sO 0 (.slc 9000), sO 2 (.ptr 0 0), sO 3 (.ptr 1 0), sI 9 .i64 (IntKind.i64.wrap (x2 + (1 : Int))), hB 0 83 [.arr .u32 64 (List.replicate 64 0)], hB 1 83 [.arr .u32 64 (m1.set x2.toNat (IntKind.u32.wrap ((IntKind.u32.wrap ((IntKind.u32.wrap ((m1.getD (IntKind.i64.wrap (x2 - (16 : Int))).toNat 0) + (bxor .u32 (bxor .u32 r12 r14) (shr .u32 (m1.getD (IntKind.i64.wrap (x2 - (15 : Int))).toNat 0) (3 : Int))))) + (m1.getD (IntKind.i64.wrap (x2 - (7 : Int))).toNat 0))) + (bxor .u32 (bxor .u32 r16 r18) (shr .u32 (m1.getD (IntKind.i64.wrap (x2 - (2 : Int))).toNat 0) (10 : Int))))))], hR 9000 .u8 p_0] (by kernel_rfl) (ih0 ((m1.set x2.toNat (IntKind.u32.wrap ((IntKind.u32.wrap ((IntKind.u32.wrap ((m1.getD (IntKind.i64.wrap (x2 - (16 : Int))).toNat 0) + (bxor .u32 (bxor .u32 r12 r14) (shr .u32 (m1.getD (IntKind.i64.wrap (x2 - (15 : Int))).toNat 0) (3 : Int))))) + (m1.getD (IntKind.i64.wrap (x2 - (7 : Int))).toNat 0))) + (bxor .u32 (bxor .u32 r16 r18) (shr .u32 (m1.getD (IntKind.i64.wrap (x2 - (2 : Int))).toNat 0) (10 : Int)))))), (IntKind.i64.wrap (x2 + (1 : Int)))) h)
    · refine tr_cond_f (decide (x2 < (64 : Int))) (by kernel_rfl) hc4 ?_
      refine tr_exit ?_
      refine q_k_exit ?_
      refine q_kr_exit ?_
      have h := Option.some.inj h
      subst h
      exact q_less [.s 2, .s 3, .h 0, .h 1] [sO 2 (.ptr 0 0), sO 3 (.ptr 1 0), hB 0 83 [.arr .u32 64 (List.replicate 64 0)], hB 1 83 [.arr .u32 64 m1]] (by kernel_rfl) hx0

theorem sha_words_take_ok (h_0 : List Int) (p_1 : List Int) (r : List Int) (h : sha_words_take h_0 p_1 = some r) : CallOk P 64 [.v (.agg [.arr .u32 8 h_0]), .v (.one (.slc 9000))] [(9000, .rd .u8 p_1)] (.v (.agg [.arr .u32 8 r])) [] := by
  refine call1 (N := 115) Try.func64 (by kernel_rfl) rfl rfl rfl [(9000, .rd .u8 p_1)] (by kernel_rfl) ?_
  intro _ B w0
  show Tr P B 115 w0 _ _ (RetQ P Try.f64 (R1 _ _ B w0))
  unfold sha_words_take at h
  refine tr_seq ?_
  refine tr_reg hT [(0, .key 0), (1, .key 1)] [.s 1, .s 2, .s 4, .h 0, .h 1, .h 9000] [sO 1 (.slc 9000), sO 2 (.ptr 0 0), sO 4 (.ptr 1 0), hB 0 87 [.arr .u32 8 h_0], hB 1 87 [.arr .u32 8 (List.replicate 8 0)], hR 9000 .u8 p_1] [] (by kernel_rfl) trivial ?_
  refine q_k ?_
  refine tr_seq ?_
  obtain ⟨a1, e2, h⟩ := bind_some h
  refine tr_regd hT hM [(1, .call [] (.v (.one (.slc 2))) [(2, .own 24 .u32 a1)]), (2, .key 3)] [.s 1, .s 2, .s 4, .s 5, .s 6, .h 0, .h 1, .h 2, .h 3, .h 9000] [sO 1 (.slc 9000), sO 2 (.ptr 0 0), sO 4 (.ptr 1 0), sO 5 (.ptr 3 0), sO 6 (.slc 2), hB 0 87 [.arr .u32 8 h_0], hB 1 87 [.arr .u32 8 (List.replicate 8 0)], hO 2 24 .u32 a1, hB 3 87 [.arr .u32 8 h_0], hR 9000 .u8 p_1] [CallOk P 71 [] [] (.v (.one (.slc 2))) [(2, .own 24 .u32 a1)]] (by kernel_rfl) (hone ((sha_rounds_ok  a1 e2).tr [(8900, .slc 2)] rfl (by kernel_rfl) trivial (by kernel_rfl) (by kernel_rfl) rfl rfl)) ?_
  refine q_k ?_
  refine tr_seq ?_
  refine tr_seq ?_
  obtain ⟨a3, e4, h⟩ := bind_some h
  refine tr_reg hT [(1, .call [9000] (.v (.agg [.arr .u32 64 a3])) [])] [.s 2, .s 4, .s 5, .s 6, .s 19, .s 20, .h 0, .h 1, .h 2, .h 3] [sO 2 (.ptr 0 0), sO 4 (.ptr 1 0), sO 5 (.ptr 3 0), sO 6 (.slc 2), sG 19 [.arr .u32 64 a3], sI 20 .i64 (0 : Int), hB 0 87 [.arr .u32 8 h_0], hB 1 87 [.arr .u32 8 (List.replicate 8 0)], hO 2 24 .u32 a1, hB 3 87 [.arr .u32 8 h_0]] [CallOk P 72 [.v (.one (.slc 9000))] [(9000, .rd .u8 p_1)] (.v (.agg [.arr .u32 64 a3])) []] (by kernel_rfl) (hone ((sha_spread_ok p_1 a3 e4).tr [(9000, .slc 9000)] rfl (by kernel_rfl) ⟨.rd (by kernel_rfl), trivial⟩ (by kernel_rfl) (by kernel_rfl) rfl rfl)) ?_
  refine q_k ?_
  refine tr_block ?_
  obtain ⟨m7, e23, h⟩ := bind_some h
  refine tr_fit [] [sO 2 (.ptr 0 0), sO 4 (.ptr 1 0), sO 5 (.ptr 3 0), sO 6 (.slc 2), sG 19 [.arr .u32 64 a3], sI 20 .i64 (0 : Int), hB 0 87 [.arr .u32 8 h_0], hB 1 87 [.arr .u32 8 (List.replicate 8 0)], hO 2 24 .u32 a1, hB 3 87 [.arr .u32 8 h_0]] [(0, .blk 87 [.arr .u32 8 h_0]), (1, .blk 87 [.arr .u32 8 (List.replicate 8 0)]), (2, .own 24 .u32 a1), (3, .blk 87 [.arr .u32 8 h_0])] (by kernel_rfl) (by kernel_rfl) (by kernel_rfl) rfl ⟨.blk (by kernel_rfl) (by kernel_rfl), .blk (by kernel_rfl) (by kernel_rfl), .own (by kernel_rfl), .blk (by kernel_rfl) (by kernel_rfl), trivial⟩ (by kernel_rfl) ?_
  refine tr_loop_fuel (id := 0) (α := List Int × Int) (β := List Int) (fun z => [sO 2 (.ptr 0 0), sO 4 (.ptr 1 0), sO 5 (.ptr 3 0), sO 6 (.slc 2), sG 19 [.arr .u32 64 a3], sI 20 .i64 z.2, hB 0 87 [.arr .u32 8 h_0], hB 1 87 [.arr .u32 8 (List.replicate 8 0)], hO 2 24 .u32 a1, hB 3 87 [.arr .u32 8 z.1]]) (fun z => [sO 2 (.ptr 0 0), sO 4 (.ptr 1 0), sO 5 (.ptr 3 0), hB 0 87 [.arr .u32 8 h_0], hB 1 87 [.arr .u32 8 (List.replicate 8 0)], hB 3 87 [.arr .u32 8 z]]) (fun k z => sha_words_take_l0 h_0 a1 a3 k z.1 z.2) m7 (fun _ => rfl) (((64 : Int) - (0 : Int)).toNat + 1) (h_0, (0 : Int)) e23 ?_ ?_
  · skip
    replace h : ((sha_words_take_l1 m7 (((8 : Int) - (0 : Int)).toNat + 1) h_0 (0 : Int)).bind (fun m26 => some m26)) = _ := h
    refine q_b_this ?_
    refine q_k ?_
    refine tr_seq ?_
    refine tr_seq ?_
    refine tr_reg hT [] [.s 2, .s 4, .s 5, .s 102, .h 0, .h 1, .h 3] [sO 2 (.ptr 0 0), sO 4 (.ptr 1 0), sO 5 (.ptr 3 0), sI 102 .i64 (0 : Int), hB 0 87 [.arr .u32 8 h_0], hB 1 87 [.arr .u32 8 (List.replicate 8 0)], hB 3 87 [.arr .u32 8 m7]] [] (by kernel_rfl) trivial ?_
    refine q_k ?_
    refine tr_block ?_
    obtain ⟨m26, e31, h⟩ := bind_some h
    refine tr_fit [] [sO 2 (.ptr 0 0), sO 4 (.ptr 1 0), sO 5 (.ptr 3 0), sI 102 .i64 (0 : Int), hB 0 87 [.arr .u32 8 h_0], hB 1 87 [.arr .u32 8 (List.replicate 8 0)], hB 3 87 [.arr .u32 8 m7]] [(0, .blk 87 [.arr .u32 8 h_0]), (1, .blk 87 [.arr .u32 8 (List.replicate 8 0)]), (3, .blk 87 [.arr .u32 8 m7])] (by kernel_rfl) (by kernel_rfl) (by kernel_rfl) rfl ⟨.blk (by kernel_rfl) (by kernel_rfl), .blk (by kernel_rfl) (by kernel_rfl), .blk (by kernel_rfl) (by kernel_rfl), trivial⟩ (by kernel_rfl) ?_
    refine tr_loop_fuel (id := 2) (α := List Int × Int) (β := List Int) (fun z => [sO 2 (.ptr 0 0), sO 4 (.ptr 1 0), sO 5 (.ptr 3 0), sI 102 .i64 z.2, hB 0 87 [.arr .u32 8 z.1], hB 1 87 [.arr .u32 8 (List.replicate 8 0)], hB 3 87 [.arr .u32 8 m7]]) (fun z => [sO 2 (.ptr 0 0), sO 4 (.ptr 1 0), hB 0 87 [.arr .u32 8 z], hB 1 87 [.arr .u32 8 (List.replicate 8 0)]]) (fun k z => sha_words_take_l1 m7 k z.1 z.2) m26 (fun _ => rfl) (((8 : Int) - (0 : Int)).toNat + 1) (h_0, (0 : Int)) e31 ?_ ?_
    · skip
      replace h : (some m26) = _ := h
      refine q_b_this ?_
      refine q_k ?_
      refine tr_seq ?_
      refine tr_reg hT [] [.s 4, .h 1] [sO 4 (.ptr 1 0), hB 1 87 [.arr .u32 8 m26]] [] (by kernel_rfl) trivial ?_
      refine q_k ?_
      refine tr_ret ?_
      have h := Option.some.inj h
      subst h
      refine q_less [.s 4, .h 1] [sO 4 (.ptr 1 0), hB 1 87 [.arr .u32 8 m26]] (by kernel_rfl) ?_
      exact q_ret1 hT (.v (.agg [.arr .u32 8 m26])) [] (by kernel_rfl) (by kernel_rfl) (by kernel_rfl)
    · clear h e31
      intro k ih1 hx1 z h
      obtain ⟨m24, x25⟩ := z
      replace h : (if (decide (x25 < (8 : Int))) = true then if 0 ≤ x25 ∧ x25 < ((8 : Nat) : Int) then if 0 ≤ x25 ∧ x25 < ((8 : Nat) : Int) then if 0 ≤ x25 ∧ x25 < ((8 : Nat) : Int) then sha_words_take_l1 m7 k (m24.set x25.toNat (IntKind.u32.wrap ((m24.getD x25.toNat 0) + (m7.getD x25.toNat 0)))) (IntKind.i64.wrap (x25 + (1 : Int))) else none else none else none else some m24) = _ := h
      refine tr_seq ?_
      refine tr_reg hT [] [.s 2, .s 4, .s 5, .s 102, .s 103, .h 0, .h 1, .h 3] [sO 2 (.ptr 0 0), sO 4 (.ptr 1 0), sO 5 (.ptr 3 0), sI 102 .i64 x25, sB 103 (decide (x25 < (8 : Int))), hB 0 87 [.arr .u32 8 m24], hB 1 87 [.arr .u32 8 (List.replicate 8 0)], hB 3 87 [.arr .u32 8 m7]] [] (by kernel_rfl) trivial ?_
      refine q_k ?_
      refine tr_seq ?_
      rcases ite_split h with ⟨hc27, h⟩ | ⟨hc27, h⟩
      · refine tr_cond_t (decide (x25 < (8 : Int))) (by kernel_rfl) hc27 ?_
        refine tr_skip ?_
        refine q_k ?_
        refine tr_seq ?_
        refine tr_block ?_
        refine tr_seq ?_
        refine tr_reg hT [] [.s 2, .s 4, .s 5, .s 15, .s 102, .h 0, .h 1, .h 3] [sO 2 (.ptr 0 0), sO 4 (.ptr 1 0), sO 5 (.ptr 3 0), sI 15 .i64 x25, sI 102 .i64 x25, hB 0 87 [.arr .u32 8 m24], hB 1 87 [.arr .u32 8 (List.replicate 8 0)], hB 3 87 [.arr .u32 8 m7]] [] (by kernel_rfl) trivial ?_
        refine q_k ?_
        obtain ⟨hn28, h⟩ := ite_some h
        obtain ⟨hn29, h⟩ := ite_some h
        obtain ⟨hn30, h⟩ := ite_some h
        refine tr_regd hT hM [] [.s 2, .s 4, .s 5, .s 102, .h 0, .h 1, .h 3] [sO 2 (.ptr 0 0), sO 4 (.ptr 1 0), sO 5 (.ptr 3 0), sI 102 .i64 x25, hB 0 87 [.arr .u32 8 (m24.set x25.toNat (IntKind.u32.wrap ((m24.getD x25.toNat 0) + (m7.getD x25.toNat 0))))], hB 1 87 [.arr .u32 8 (List.replicate 8 0)], hB 3 87 [.arr .u32 8 m7]] [0 ≤ x25 ∧ x25 < ((8 : Nat) : Int), 0 ≤ x25 ∧ x25 < ((8 : Nat) : Int), 0 ≤ x25 ∧ x25 < ((8 : Nat) : Int)] (by kernel_rfl) (hcons hn28 (hcons hn29 (hone hn30))) ?_
        refine q_b 3 ?_
        refine q_k ?_
        refine tr_reg hT [] [.s 2, .s 4, .s 5, .s 102, .h 0, .h 1, .h 3] [sO 2 (.ptr 0 0), sO 4 (.ptr 1 0), sO 5 (.ptr 3 0), sI 102 .i64 (IntKind.i64.wrap (x25 + (1 : Int))), hB 0 87 [.arr .u32 8 (m24.set x25.toNat (IntKind.u32.wrap ((m24.getD x25.toNat 0) + (m7.getD x25.toNat 0))))], hB 1 87 [.arr .u32 8 (List.replicate 8 0)], hB 3 87 [.arr .u32 8 m7]] [] (by kernel_rfl) trivial ?_
        refine q_kr ?_
        exact trR_less [.s 2, .s 4, .s 5, .s 102, .h 0, .h 1, .h 3] [sO 2 (.ptr 0 0), sO 4 (.ptr 1 0), sO 5 (.ptr 3 0), sI 102 .i64 (IntKind.i64.wrap (x25 + (1 : Int))), hB 0 87 [.arr .u32 8 (m24.set x25.toNat (IntKind.u32.wrap ((m24.getD x25.toNat 0) + (m7.getD x25.toNat 0))))], hB 1 87 [.arr .u32 8 (List.replicate 8 0)], hB 3 87 [.arr .u32 8 m7]] (by kernel_rfl) (ih1 ((m24.set x25.toNat (IntKind.u32.wrap ((m24.getD x25.toNat 0) + (m7.getD x25.toNat 0)))), (IntKind.i64.wrap (x25 + (1 : Int)))) h)
      · refine tr_cond_f (decide (x25 < (8 : Int))) (by kernel_rfl) hc27 ?_
        refine tr_exit ?_
        refine q_k_exit ?_
        refine q_kr_exit ?_
        have h := Option.some.inj h
        subst h
        exact q_less [.s 2, .s 4, .h 0, .h 1] [sO 2 (.ptr 0 0), sO 4 (.ptr 1 0), hB 0 87 [.arr .u32 8 m24], hB 1 87 [.arr .u32 8 (List.replicate 8 0)]] (by kernel_rfl) hx1
  · clear h e23
    intro k ih0 hx0 z h
    obtain ⟨m5, x6⟩ := z
    replace h : (if (decide (x6 < (64 : Int))) = true then if 0 ≤ x6 ∧ x6 < ((64 : Nat) : Int) then (math_bits_RotateLeft32 (m5.getD 4 0) (-6 : Int)).bind (fun r10 => (math_bits_RotateLeft32 (m5.getD 4 0) (-11 : Int)).bind (fun r12 => (math_bits_RotateLeft32 (m5.getD 4 0) (-25 : Int)).bind (fun r14 => if 0 ≤ x6 ∧ x6 < ↑(List.length a1) then (math_bits_RotateLeft32 (m5.getD 0 0) (-2 : Int)).bind (fun r17 => (math_bits_RotateLeft32 (m5.getD 0 0) (-13 : Int)).bind (fun r19 => (math_bits_RotateLeft32 (m5.getD 0 0) (-22 : Int)).bind (fun r21 => sha_words_take_l0 h_0 a1 a3 k [(IntKind.u32.wrap ((IntKind.u32.wrap ((IntKind.u32.wrap ((IntKind.u32.wrap ((IntKind.u32.wrap ((m5.getD 7 0) + (bxor .u32 (bxor .u32 r10 r12) r14))) + (bxor .u32 (band .u32 (m5.getD 4 0) (m5.getD 5 0)) (band .u32 (bxor .u32 (if IntKind.u32.signed then -1 else IntKind.u32.max) (m5.getD 4 0)) (m5.getD 6 0))))) + (a1.getD x6.toNat 0))) + (a3.getD x6.toNat 0))) + (IntKind.u32.wrap ((bxor .u32 (bxor .u32 r17 r19) r21) + (bxor .u32 (bxor .u32 (band .u32 (m5.getD 0 0) (m5.getD 1 0)) (band .u32 (m5.getD 0 0) (m5.getD 2 0))) (band .u32 (m5.getD 1 0) (m5.getD 2 0))))))), (m5.getD 0 0), (m5.getD 1 0), (m5.getD 2 0), (IntKind.u32.wrap ((m5.getD 3 0) + (IntKind.u32.wrap ((IntKind.u32.wrap ((IntKind.u32.wrap ((IntKind.u32.wrap ((m5.getD 7 0) + (bxor .u32 (bxor .u32 r10 r12) r14))) + (bxor .u32 (band .u32 (m5.getD 4 0) (m5.getD 5 0)) (band .u32 (bxor .u32 (if IntKind.u32.signed then -1 else IntKind.u32.max) (m5.getD 4 0)) (m5.getD 6 0))))) + (a1.getD x6.toNat 0))) + (a3.getD x6.toNat 0))))), (m5.getD 4 0), (m5.getD 5 0), (m5.getD 6 0)] (IntKind.i64.wrap (x6 + (1 : Int)))))) else none))) else none else some m5) = _ := h
    refine tr_seq ?_
    refine tr_reg hT [] [.s 2, .s 4, .s 5, .s 6, .s 19, .s 20, .s 21, .h 0, .h 1, .h 2, .h 3] [sO 2 (.ptr 0 0), sO 4 (.ptr 1 0), sO 5 (.ptr 3 0), sO 6 (.slc 2), sG 19 [.arr .u32 64 a3], sI 20 .i64 x6, sB 21 (decide (x6 < (64 : Int))), hB 0 87 [.arr .u32 8 h_0], hB 1 87 [.arr .u32 8 (List.replicate 8 0)], hO 2 24 .u32 a1, hB 3 87 [.arr .u32 8 m5]] [] (by kernel_rfl) trivial ?_
    refine q_k ?_
    refine tr_seq ?_
    rcases ite_split h with ⟨hc8, h⟩ | ⟨hc8, h⟩
    · refine tr_cond_t (decide (x6 < (64 : Int))) (by kernel_rfl) hc8 ?_
      refine tr_skip ?_
      refine q_k ?_
      refine tr_seq ?_
      refine tr_block ?_
      refine tr_seq ?_
      obtain ⟨hn9, h⟩ := ite_some h
      refine tr_reg hT [] [.s 2, .s 4, .s 5, .s 6, .s 7, .s 8, .s 19, .s 20, .h 0, .h 1, .h 2, .h 3] [sO 2 (.ptr 0 0), sO 4 (.ptr 1 0), sO 5 (.ptr 3 0), sO 6 (.slc 2), sI 7 .i64 x6, sI 8 .u32 (a3.getD x6.toNat 0), sG 19 [.arr .u32 64 a3], sI 20 .i64 x6, hB 0 87 [.arr .u32 8 h_0], hB 1 87 [.arr .u32 8 (List.replicate 8 0)], hO 2 24 .u32 a1, hB 3 87 [.arr .u32 8 m5]] [0 ≤ x6 ∧ x6 < ((64 : Nat) : Int)] (by kernel_rfl) (hone hn9) ?_
      refine q_k ?_
      refine tr_seq ?_
      refine tr_regd hT hM [] [.s 2, .s 4, .s 5, .s 6, .s 7, .s 8, .s 9, .s 10, .s 19, .s 20, .h 0, .h 1, .h 2, .h 3] [sO 2 (.ptr 0 0), sO 4 (.ptr 1 0), sO 5 (.ptr 3 0), sO 6 (.slc 2), sI 7 .i64 x6, sI 8 .u32 (a3.getD x6.toNat 0), sI 9 .u32 (m5.getD 4 0), sI 10 .u32 (m5.getD 0 0), sG 19 [.arr .u32 64 a3], sI 20 .i64 x6, hB 0 87 [.arr .u32 8 h_0], hB 1 87 [.arr .u32 8 (List.replicate 8 0)], hO 2 24 .u32 a1, hB 3 87 [.arr .u32 8 m5]] [0 ≤ (4 : Int) ∧ (4 : Int) < ((8 : Nat) : Int), 0 ≤ (0 : Int) ∧ (0 : Int) < ((8 : Nat) : Int)] (by kernel_rfl) (hcons (by decide) (hone (by decide))) ?_
      refine q_k ?_
      refine tr_seq ?_
      obtain ⟨r10, e11, h⟩ := bind_some h
      obtain ⟨r12, e13, h⟩ := bind_some h
      obtain ⟨r14, e15, h⟩ := bind_some h
      refine tr_reg hT [(1, .call [] (.v (.one (.int .u32 r10))) []), (3, .call [] (.v (.one (.int .u32 r12))) []), (6, .call [] (.v (.one (.int .u32 r14))) [])] [.s 2, .s 4, .s 5, .s 6, .s 7, .s 8, .s 9, .s 10, .s 11, .s 19, .s 20, .h 0, .h 1, .h 2, .h 3] [sO 2 (.ptr 0 0), sO 4 (.ptr 1 0), sO 5 (.ptr 3 0), sO 6 (.slc 2), sI 7 .i64 x6, sI 8 .u32 (a3.getD x6.toNat 0), sI 9 .u32 (m5.getD 4 0), sI 10 .u32 (m5.getD 0 0), sI 11 .u32 (bxor .u32 (bxor .u32 r10 r12) r14), sG 19 [.arr .u32 64 a3], sI 20 .i64 x6, hB 0 87 [.arr .u32 8 h_0], hB 1 87 [.arr .u32 8 (List.replicate 8 0)], hO 2 24 .u32 a1, hB 3 87 [.arr .u32 8 m5]] [CallOk P 70 [.v (.one (.int .u32 (m5.getD 4 0))), .v (.one (.int .i64 (-6 : Int)))] [] (.v (.one (.int .u32 r10))) [], CallOk P 70 [.v (.one (.int .u32 (m5.getD 4 0))), .v (.one (.int .i64 (-11 : Int)))] [] (.v (.one (.int .u32 r12))) [], CallOk P 70 [.v (.one (.int .u32 (m5.getD 4 0))), .v (.one (.int .i64 (-25 : Int)))] [] (.v (.one (.int .u32 r14))) []] (by kernel_rfl) (hcons (math_bits_RotateLeft32_ok (m5.getD 4 0) (-6 : Int) r10 e11) (hcons (math_bits_RotateLeft32_ok (m5.getD 4 0) (-11 : Int) r12 e13) (hone (math_bits_RotateLeft32_ok (m5.getD 4 0) (-25 : Int) r14 e15)))) ?_
      refine q_k ?_
      refine tr_seq ?_
      obtain ⟨hn16, h⟩ := ite_some h
      refine tr_regd hT hM [] [.s 2, .s 4, .s 5, .s 6, .s 9, .s 10, .s 12, .s 19, .s 20, .h 0, .h 1, .h 2, .h 3] [sO 2 (.ptr 0 0), sO 4 (.ptr 1 0), sO 5 (.ptr 3 0), sO 6 (.slc 2), sI 9 .u32 (m5.getD 4 0), sI 10 .u32 (m5.getD 0 0), sI 12 .u32 (IntKind.u32.wrap ((IntKind.u32.wrap ((IntKind.u32.wrap ((IntKind.u32.wrap ((m5.getD 7 0) + (bxor .u32 (bxor .u32 r10 r12) r14))) + (bxor .u32 (band .u32 (m5.getD 4 0) (m5.getD 5 0)) (band .u32 (bxor .u32 (if IntKind.u32.signed then -1 else IntKind.u32.max) (m5.getD 4 0)) (m5.getD 6 0))))) + (a1.getD x6.toNat 0))) + (a3.getD x6.toNat 0))), sG 19 [.arr .u32 64 a3], sI 20 .i64 x6, hB 0 87 [.arr .u32 8 h_0], hB 1 87 [.arr .u32 8 (List.replicate 8 0)], hO 2 24 .u32 a1, hB 3 87 [.arr .u32 8 m5]] [0 ≤ (7 : Int) ∧ (7 : Int) < ((8 : Nat) : Int), 0 ≤ (5 : Int) ∧ (5 : Int) < ((8 : Nat) : Int), 0 ≤ (6 : Int) ∧ (6 : Int) < ((8 : Nat) : Int), 0 ≤ x6 ∧ x6 < ↑(List.length a1), x6 < ↑(List.length a1)] (by kernel_rfl) (hcons (by decide) (hcons (by decide) (hcons (by decide) (hcons hn16 (hone hn16.2))))) ?_
      refine q_k ?_
      refine tr_seq ?_
      obtain ⟨r17, e18, h⟩ := bind_some h
      obtain ⟨r19, e20, h⟩ := bind_some h
      obtain ⟨r21, e22, h⟩ := bind_some h
      refine tr_reg hT [(1, .call [] (.v (.one (.int .u32 r17))) []), (3, .call [] (.v (.one (.int .u32 r19))) []), (6, .call [] (.v (.one (.int .u32 r21))) [])] [.s 2, .s 4, .s 5, .s 6, .s 9, .s 10, .s 12, .s 13, .s 19, .s 20, .h 0, .h 1, .h 2, .h 3] [sO 2 (.ptr 0 0), sO 4 (.ptr 1 0), sO 5 (.ptr 3 0), sO 6 (.slc 2), sI 9 .u32 (m5.getD 4 0), sI 10 .u32 (m5.getD 0 0), sI 12 .u32 (IntKind.u32.wrap ((IntKind.u32.wrap ((IntKind.u32.wrap ((IntKind.u32.wrap ((m5.getD 7 0) + (bxor .u32 (bxor .u32 r10 r12) r14))) + (bxor .u32 (band .u32 (m5.getD 4 0) (m5.getD 5 0)) (band .u32 (bxor .u32 (if IntKind.u32.signed then -1 else IntKind.u32.max) (m5.getD 4 0)) (m5.getD 6 0))))) + (a1.getD x6.toNat 0))) + (a3.getD x6.toNat 0))), sI 13 .u32 (bxor .u32 (bxor .u32 r17 r19) r21), sG 19 [.arr .u32 64 a3], sI 20 .i64 x6, hB 0 87 [.arr .u32 8 h_0], hB 1 87 [.arr .u32 8 (List.replicate 8 0)], hO 2 24 .u32 a1, hB 3 87 [.arr .u32 8 m5]] [CallOk P 70 [.v (.one (.int .u32 (m5.getD 0 0))), .v (.one (.int .i64 (-2 : Int)))] [] (.v (.one (.int .u32 r17))) [], CallOk P 70 [.v (.one (.int .u32 (m5.getD 0 0))), .v (.one (.int .i64 (-13 : Int)))] [] (.v (.one (.int .u32 r19))) [], CallOk P 70 [.v (.one (.int .u32 (m5.getD 0 0))), .v (.one (.int .i64 (-22 : Int)))] [] (.v (.one (.int .u32 r21))) []] (by kernel_rfl) (hcons (math_bits_RotateLeft32_ok (m5.getD 0 0) (-2 : Int) r17 e18) (hcons (math_bits_RotateLeft32_ok (m5.getD 0 0) (-13 : Int) r19 e20) (hone (math_bits_RotateLeft32_ok (m5.getD 0 0) (-22 : Int) r21 e22)))) ?_
      refine q_k ?_
      refine tr_seq ?_
      refine tr_reg hT [] [.s 2, .s 4, .s 5, .s 6, .s 9, .s 10, .s 12, .s 14, .s 19, .s 20, .h 0, .h 1, .h 2, .h 3] [sO 2 (.ptr 0 0), sO 4 (.ptr 1 0), sO 5 (.ptr 3 0), sO 6 (.slc 2), sI 9 .u32 (m5.getD 4 0), sI 10 .u32 (m5.getD 0 0), sI 12 .u32 (IntKind.u32.wrap ((IntKind.u32.wrap ((IntKind.u32.wrap ((IntKind.u32.wrap ((m5.getD 7 0) + (bxor .u32 (bxor .u32 r10 r12) r14))) + (bxor .u32 (band .u32 (m5.getD 4 0) (m5.getD 5 0)) (band .u32 (bxor .u32 (if IntKind.u32.signed then -1 else IntKind.u32.max) (m5.getD 4 0)) (m5.getD 6 0))))) + (a1.getD x6.toNat 0))) + (a3.getD x6.toNat 0))), sI 14 .u32 (IntKind.u32.wrap ((bxor .u32 (bxor .u32 r17 r19) r21) + (bxor .u32 (bxor .u32 (band .u32 (m5.getD 0 0) (m5.getD 1 0)) (band .u32 (m5.getD 0 0) (m5.getD 2 0))) (band .u32 (m5.getD 1 0) (m5.getD 2 0))))), sG 19 [.arr .u32 64 a3], sI 20 .i64 x6, hB 0 87 [.arr .u32 8 h_0], hB 1 87 [.arr .u32 8 (List.replicate 8 0)], hO 2 24 .u32 a1, hB 3 87 [.arr .u32 8 m5]] [0 ≤ (1 : Int) ∧ (1 : Int) < ((8 : Nat) : Int), 0 ≤ (2 : Int) ∧ (2 : Int) < ((8 : Nat) : Int), 0 ≤ (1 : Int) ∧ (1 : Int) < ((8 : Nat) : Int), 0 ≤ (2 : Int) ∧ (2 : Int) < ((8 : Nat) : Int)] (by kernel_rfl) (hcons (by decide) (hcons (by decide) (hcons (by decide) (hone (by decide))))) ?_
      refine q_k ?_
      refine tr_reg hT [] [.s 2, .s 4, .s 5, .s 6, .s 19, .s 20, .h 0, .h 1, .h 2, .h 3] [sO 2 (.ptr 0 0), sO 4 (.ptr 1 0), sO 5 (.ptr 3 0), sO 6 (.slc 2), sG 19 [.arr .u32 64 a3], sI 20 .i64 x6, hB 0 87 [.arr .u32 8 h_0], hB 1 87 [.arr .u32 8 (List.replicate 8 0)], hO 2 24 .u32 a1, hB 3 87 [.arr .u32 8 [(IntKind.u32.wrap ((IntKind.u32.wrap ((IntKind.u32.wrap ((IntKind.u32.wrap ((IntKind.u32.wrap ((m5.getD 7 0) + (bxor .u32 (bxor .u32 r10 r12) r14))) + (bxor .u32 (band .u32 (m5.getD 4 0) (m5.getD 5 0)) (band .u32 (bxor .u32 (if IntKind.u32.signed then -1 else IntKind.u32.max) (m5.getD 4 0)) (m5.getD 6 0))))) + (a1.getD x6.toNat 0))) + (a3.getD x6.toNat 0))) + (IntKind.u32.wrap ((bxor .u32 (bxor .u32 r17 r19) r21) + (bxor .u32 (bxor .u32 (band .u32 (m5.getD 0 0) (m5.getD 1 0)) (band .u32 (m5.getD 0 0) (m5.getD 2 0))) (band .u32 (m5.getD 1 0) (m5.getD 2 0))))))), (m5.getD 0 0), (m5.getD 1 0), (m5.getD 2 0), (IntKind.u32.wrap ((m5.getD 3 0) + (IntKind.u32.wrap ((IntKind.u32.wrap ((IntKind.u32.wrap ((IntKind.u32.wrap ((m5.getD 7 0) + (bxor .u32 (bxor .u32 r10 r12) r14))) + (bxor .u32 (band .u32 (m5.getD 4 0) (m5.getD 5 0)) (band .u32 (bxor .u32 (if IntKind.u32.signed then -1 else IntKind.u32.max) (m5.getD 4 0)) (m5.getD 6 0))))) + (a1.getD x6.toNat 0))) + (a3.getD x6.toNat 0))))), (m5.getD 4 0), (m5.getD 5 0), (m5.getD 6 0)]]] [0 ≤ (1 : Int) ∧ (1 : Int) < ((8 : Nat) : Int), 0 ≤ (2 : Int) ∧ (2 : Int) < ((8 : Nat) : Int), 0 ≤ (3 : Int) ∧ (3 : Int) < ((8 : Nat) : Int), 0 ≤ (5 : Int) ∧ (5 : Int) < ((8 : Nat) : Int), 0 ≤ (6 : Int) ∧ (6 : Int) < ((8 : Nat) : Int)] (by kernel_rfl) (hcons (by decide) (hcons (by decide) (hcons (by decide) (hcons (by decide) (hone (by decide)))))) ?_
      refine q_b 1 ?_
      refine q_k ?_
      refine tr_reg hT [] [.s 2, .s 4, .s 5, .s 6, .s 19, .s 20, .h 0, .h 1, .h 2, .h 3] [sO 2 (.ptr 0 0), sO 4 (.ptr 1 0), sO 5 (.ptr 3 0), sO 6 (.slc 2), sG 19 [.arr .u32 64 a3], sI 20 .i64 (IntKind.i64.wrap (x6 + (1 : Int))), hB 0 87 [.arr .u32 8 h_0], hB 1 87 [.arr .u32 8 (List.replicate 8 0)], hO 2 24 .u32 a1, hB 3 87 [.arr .u32 8 [(IntKind.u32.wrap ((IntKind.u32.wrap ((IntKind.u32.wrap ((IntKind.u32.wrap ((IntKind.u32.wrap ((m5.getD 7 0) + (bxor .u32 (bxor .u32 r10 r12) r14))) + (bxor .u32 (band .u32 (m5.getD 4 0) (m5.getD 5 0)) (band .u32 (bxor .u32 (if IntKind.u32.signed then -1 else IntKind.u32.max) (m5.getD 4 0)) (m5.getD 6 0))))) + (a1.getD x6.toNat 0))) + (a3.getD x6.toNat 0))) + (IntKind.u32.wrap ((bxor .u32 (bxor .u32 r17 r19) r21) + (bxor .u32 (bxor .u32 (band .u32 (m5.getD 0 0) (m5.getD 1 0)) (band .u32 (m5.getD 0 0) (m5.getD 2 0))) (band .u32 (m5.getD 1 0) (m5.getD 2 0))))))), (m5.getD 0 0), (m5.getD 1 0), (m5.getD 2 0), (IntKind.u32.wrap ((m5.getD 3 0) + (IntKind.u32.wrap ((IntKind.u32.wrap ((IntKind.u32.wrap ((IntKind.u32.wrap ((m5.getD 7 0) + (bxor .u32 (bxor .u32 r10 r12) r14))) + (bxor .u32 (band .u32 (m5.getD 4 0) (m5.getD 5 0)) (band .u32 (bxor .u32 (if IntKind.u32.signed then -1 else IntKind.u32.max) (m5.getD 4 0)) (m5.getD 6 0))))) + (a1.getD x6.toNat 0))) + (a3.getD x6.toNat 0))))), (m5.getD 4 0), (m5.getD 5 0), (m5.getD 6 0)]]] [] (by kernel_rfl) trivial ?_
      refine q_kr ?_
      exact trR_less [.s 2, .s 4, .s 5, .s 6, .s 19, .s 20, .h 0, .h 1, .h 2, .h 3] [sO 2 (.ptr 0 0), sO 4 (.ptr 1 0), sO 5 (.ptr 3 0), sO 6 (.slc 2), sG 19 [.arr .u32 64 a3], sI 20 .i64 (IntKind.i64.wrap (x6 + (1 : Int))), hB 0 87 [.arr .u32 8 h_0], hB 1 87 [.arr .u32 8 (List.replicate 8 0)], hO 2 24 .u32 a1, hB 3 87 [.arr .u32 8 [(IntKind.u32.wrap ((IntKind.u32.wrap ((IntKind.u32.wrap ((IntKind.u32.wrap ((IntKind.u32.wrap ((m5.getD 7 0) + (bxor .u32 (bxor .u32 r10 r12) r14))) + (bxor .u32 (band .u32 (m5.getD 4 0) (m5.getD 5 0)) (band .u32 (bxor .u32 (if IntKind.u32.signed then -1 else IntKind.u32.max) (m5.getD 4 0)) (m5.getD 6 0))))) + (a1.getD x6.toNat 0))) + (a3.getD x6.toNat 0))) + (IntKind.u32.wrap ((bxor .u32 (bxor .u32 r17 r19) r21) + (bxor .u32 (bxor .u32 (band .u32 (m5.getD 0 0) (m5.getD 1 0)) (band .u32 (m5.getD 0 0) (m5.getD 2 0))) (band .u32 (m5.getD 1 0) (m5.getD 2 0))))))), (m5.getD 0 0), (m5.getD 1 0), (m5.getD 2 0), (IntKind.u32.wrap ((m5.getD 3 0) + (IntKind.u32.wrap ((IntKind.u32.wrap ((IntKind.u32.wrap ((IntKind.u32.wrap ((m5.getD 7 0) + (bxor .u32 (bxor .u32 r10 r12) r14))) + (bxor .u32 (band .u32 (m5.getD 4 0) (m5.getD 5 0)) (band .u32 (bxor .u32 (if IntKind.u32.signed then -1 else IntKind.u32.max) (m5.getD 4 0)) (m5.getD 6 0))))) + (a1.getD x6.toNat 0))) + (a3.getD x6.toNat 0))))), (m5.getD 4 0), (m5.getD 5 0), (m5.getD 6 0)]]] (by kernel_rfl) (ih0 ([(IntKind.u32.wrap ((IntKind.u32.wrap ((IntKind.u32.wrap ((IntKind.u32.wrap ((IntKind.u32.wrap ((m5.getD 7 0) + (bxor .u32 (bxor .u32 r10 r12) r14))) + (bxor .u32 (band .u32 (m5.getD 4 0) (m5.getD 5 0)) (band .u32 (bxor .u32 (if IntKind.u32.signed then -1 else IntKind.u32.max) (m5.getD 4 0)) (m5.getD 6 0))))) + (a1.getD x6.toNat 0))) + (a3.getD x6.toNat 0))) + (IntKind.u32.wrap ((bxor .u32 (bxor .u32 r17 r19) r21) + (bxor .u32 (bxor .u32 (band .u32 (m5.getD 0 0) (m5.getD 1 0)) (band .u32 (m5.getD 0 0) (m5.getD 2 0))) (band .u32 (m5.getD 1 0) (m5.getD 2 0))))))), (m5.getD 0 0), (m5.getD 1 0), (m5.getD 2 0), (IntKind.u32.wrap ((m5.getD 3 0) + (IntKind.u32.wrap ((IntKind.u32.wrap ((IntKind.u32.wrap ((IntKind.u32.wrap ((m5.getD 7 0) + (bxor .u32 (bxor .u32 r10 r12) r14))) + (bxor .u32 (band .u32 (m5.getD 4 0) (m5.getD 5 0)) (band .u32 (bxor .u32 (if IntKind.u32.signed then -1 else IntKind.u32.max) (m5.getD 4 0)) (m5.getD 6 0))))) + (a1.getD x6.toNat 0))) + (a3.getD x6.toNat 0))))), (m5.getD 4 0), (m5.getD 5 0), (m5.getD 6 0)], (IntKind.i64.wrap (x6 + (1 : Int)))) h)
    · refine tr_cond_f (decide (x6 < (64 : Int))) (by kernel_rfl) hc8 ?_
      refine tr_exit ?_
      refine q_k_exit ?_
      refine q_kr_exit ?_
      have h := Option.some.inj h
      subst h
      exact q_less [.s 2, .s 4, .s 5, .h 0, .h 1, .h 3] [sO 2 (.ptr 0 0), sO 4 (.ptr 1 0), sO 5 (.ptr 3 0), hB 0 87 [.arr .u32 8 h_0], hB 1 87 [.arr .u32 8 (List.replicate 8 0)], hB 3 87 [.arr .u32 8 m5]] (by kernel_rfl) hx0

theorem sha_Sha_Write_ok (s_0 : List Int) (s_1 : List Int) (s_2 : Int) (b_3 : List Int) (r : List Int × List Int × Int) (h : sha_Sha_Write s_0 s_1 s_2 b_3 = some r) : CallOk P 46 [.v (.one (.ptr 9000 0)), .v (.one (.slc 9002))] [(9000, .blk 90 [.arr .u32 8 s_0, .slc 9001, .int .i64 s_2]), (9001, .rd .u8 s_1), (9002, .rd .u8 b_3)] (.tup []) [(8900, .own 5 .u8 r.2.1), (9000, .blk 90 [.arr .u32 8 r.1, .slc 8900, .int .i64 r.2.2])] := by
  refine call1 (N := 41) Try.func46 (by kernel_rfl) rfl rfl rfl [(9000, .blk 90 [.arr .u32 8 s_0, .slc 9001, .int .i64 s_2]), (9001, .rd .u8 s_1), (9002, .rd .u8 b_3)] (by kernel_rfl) ?_
  intro _ B w0
  show Tr P B 41 w0 _ _ (RetQ P Try.f46 (R1 _ _ B w0))
  unfold sha_Sha_Write at h
  refine tr_seq ?_
  refine tr_reg hT [] [.s 0, .s 1, .h 9000, .h 9001, .h 9002] [sO 0 (.ptr 9000 0), sO 1 (.slc 9002), hB 9000 90 [.arr .u32 8 s_0, .slc 9001, .int .i64 (IntKind.i64.wrap (s_2 + (↑(List.length b_3) : Int)))], hR 9001 .u8 s_1, hR 9002 .u8 b_3] [] (by kernel_rfl) trivial ?_
  refine q_k ?_
  refine tr_seq ?_
  obtain ⟨a1, e2, h⟩ := bind_some h
  refine tr_reg hT [(5, .key 0), (6, .call [0] (.v (.one (.slc 1))) [(1, .own 5 .u8 a1)])] [.s 0, .s 4, .h 1, .h 9000, .h 9001] [sO 0 (.ptr 9000 0), sO 4 (.slc 1), hO 1 5 .u8 a1, hB 9000 90 [.arr .u32 8 s_0, .slc 9001, .int .i64 (IntKind.i64.wrap (s_2 + (↑(List.length b_3) : Int)))], hR 9001 .u8 s_1] [CallOk P 51 [.v (.one (.slc 0))] [(0, .rows (.bs .u8 [s_1, b_3]))] (.v (.one (.slc 1))) [(1, .own 5 .u8 a1)]] (by kernel_rfl) (hone ((slices_Concat_byte_byte_ok [s_1, b_3] a1 e2).tr [(9000, .slc 0), (8900, .slc 1)] rfl (by kernel_rfl) ⟨.rows (by kernel_rfl), trivial⟩ (by kernel_rfl) (by kernel_rfl) rfl rfl)) ?_
  refine q_k ?_
  refine tr_seq ?_
  refine tr_block ?_
  obtain ⟨rr0, e12, h⟩ := bind_some h
  refine tr_fit [(2, .slc 1)] [sO 0 (.ptr 9000 0), sO 4 (.slc 2), hR 2 .u8 a1, hB 9000 90 [.arr .u32 8 s_0, .slc 9001, .int .i64 (IntKind.i64.wrap (s_2 + (↑(List.length b_3) : Int)))], hR 9001 .u8 s_1] [(2, .rd .u8 a1), (9000, .blk 90 [.arr .u32 8 s_0, .slc 9001, .int .i64 (IntKind.i64.wrap (s_2 + (↑(List.length b_3) : Int)))]), (9001, .rd .u8 s_1)] (by kernel_rfl) (by kernel_rfl) (by kernel_rfl) rfl ⟨.ownrd (e := 5) (by kernel_rfl), .blk (by kernel_rfl) (by kernel_rfl), .rd (by kernel_rfl), trivial⟩ (by kernel_rfl) ?_
  refine tr_loop_fuel (id := 0) (α := List Int × List Int) (β := List Int × List Int) (fun z => [sO 0 (.ptr 9000 0), sO 4 (.slc 2), hR 2 .u8 z.2, hB 9000 90 [.arr .u32 8 z.1, .slc 9001, .int .i64 (IntKind.i64.wrap (s_2 + (↑(List.length b_3) : Int)))], hR 9001 .u8 s_1]) (fun z => [sO 0 (.ptr 9000 0), sO 4 (.slc 3), hR 3 .u8 z.2, hB 9000 90 [.arr .u32 8 z.1, .slc 9001, .int .i64 (IntKind.i64.wrap (s_2 + (↑(List.length b_3) : Int)))], hR 9001 .u8 s_1]) (fun k z => sha_Sha_Write_l0 s_1 s_2 b_3 k z.1 z.2) rr0 (fun _ => rfl) (((↑(List.length a1) : Int) - (64 : Int) + 1).toNat + 1) (s_0, a1) e12 ?_ ?_
  · rcases rr0 with ⟨m5, all6⟩
    replace h : ((slices_Clone_byte_byte all6).bind (fun a13 => some (m5, a13, (IntKind.i64.wrap (s_2 + (↑(List.length b_3) : Int)))))) = _ := h
    refine q_b_this ?_
    refine q_k ?_
    obtain ⟨a13, e14, h⟩ := bind_some h
    refine tr_reg hT [(2, .call [3] (.v (.one (.slc 6))) [(6, .own 5 .u8 a13)])] [.h 6, .h 9000] [hO 6 5 .u8 a13, hB 9000 90 [.arr .u32 8 m5, .slc 6, .int .i64 (IntKind.i64.wrap (s_2 + (↑(List.length b_3) : Int)))]] [CallOk P 58 [.v (.one (.slc 3))] [(3, .rd .u8 all6)] (.v (.one (.slc 6))) [(6, .own 5 .u8 a13)]] (by kernel_rfl) (hone ((slices_Clone_byte_byte_ok all6 a13 e14).tr [(9000, .slc 3), (8900, .slc 6)] rfl (by kernel_rfl) ⟨.rd (by kernel_rfl), trivial⟩ (by kernel_rfl) (by kernel_rfl) rfl rfl)) ?_
    have h := Option.some.inj h
    subst h
    refine q_fit [(8900, .slc 6)] [hO 8900 5 .u8 a13, hB 9000 90 [.arr .u32 8 m5, .slc 8900, .int .i64 (IntKind.i64.wrap (s_2 + (↑(List.length b_3) : Int)))]] [(8900, .own 5 .u8 a13), (9000, .blk 90 [.arr .u32 8 m5, .slc 8900, .int .i64 (IntKind.i64.wrap (s_2 + (↑(List.length b_3) : Int)))])] (by kernel_rfl) (by kernel_rfl) (by kernel_rfl) rfl ⟨.own (by kernel_rfl), .blk (by kernel_rfl) (by kernel_rfl), trivial⟩ (by kernel_rfl) ?_
    exact q_end1 hT (.tup []) [(8900, .own 5 .u8 a13), (9000, .blk 90 [.arr .u32 8 m5, .slc 8900, .int .i64 (IntKind.i64.wrap (s_2 + (↑(List.length b_3) : Int)))])] (by kernel_rfl) (by kernel_rfl) (by kernel_rfl)
  · clear h e12
    intro k ih0 hx0 z h
    obtain ⟨m3, all4⟩ := z
    replace h : (if (decide ((↑(List.length all4) : Int) ≥ (64 : Int))) = true then if 0 ≤ (0 : Int) ∧ (0 : Int) ≤ (64 : Int) ∧ (64 : Int) ≤ (↑(List.length all4) : Int) then (sha_words_take m3 ((all4.take (64)).drop 0)).bind (fun a9 => if 0 ≤ (64 : Int) ∧ (64 : Int) ≤ (↑(List.length all4) : Int) ∧ (↑(List.length all4) : Int) ≤ (↑(List.length all4) : Int) then sha_Sha_Write_l0 s_1 s_2 b_3 k a9 ((all4.take (((↑(List.length all4) : Int)).toNat)).drop 64) else none) else none else some (m3, all4)) = _ := h
    refine tr_seq ?_
    refine tr_seq ?_
    refine tr_reg hT [] [.s 0, .s 4, .s 23, .h 2, .h 9000, .h 9001] [sO 0 (.ptr 9000 0), sO 4 (.slc 2), sB 23 (decide ((↑(List.length all4) : Int) ≥ (64 : Int))), hR 2 .u8 all4, hB 9000 90 [.arr .u32 8 m3, .slc 9001, .int .i64 (IntKind.i64.wrap (s_2 + (↑(List.length b_3) : Int)))], hR 9001 .u8 s_1] [] (by kernel_rfl) trivial ?_
    refine q_k ?_
    rcases ite_split h with ⟨hc7, h⟩ | ⟨hc7, h⟩
    · refine tr_cond_t (decide ((↑(List.length all4) : Int) ≥ (64 : Int))) (by kernel_rfl) hc7 ?_
      refine tr_skip ?_
      refine q_k ?_
      refine tr_block ?_
      obtain ⟨hn8, h⟩ := ite_some h
      obtain ⟨a9, e10, h⟩ := bind_some h
      obtain ⟨hn11, h⟩ := ite_some h
      refine tr_regd hT hM [(6, .key 4), (7, .call [4] (.v (.agg [.arr .u32 8 a9])) []), (9, .key 5)] [.s 0, .s 4, .h 5, .h 9000, .h 9001] [sO 0 (.ptr 9000 0), sO 4 (.slc 5), hR 5 .u8 ((all4.take (((↑(List.length all4) : Int)).toNat)).drop 64), hB 9000 90 [.arr .u32 8 a9, .slc 9001, .int .i64 (IntKind.i64.wrap (s_2 + (↑(List.length b_3) : Int)))], hR 9001 .u8 s_1] [0 ≤ (0 : Int) ∧ (0 : Int) ≤ (64 : Int) ∧ (64 : Int) ≤ (↑(List.length all4) : Int), CallOk P 64 [.v (.agg [.arr .u32 8 m3]), .v (.one (.slc 4))] [(4, .rd .u8 ((all4.take (64)).drop 0))] (.v (.agg [.arr .u32 8 a9])) [], 0 ≤ (64 : Int) ∧ (64 : Int) ≤ (↑(List.length all4) : Int) ∧ (↑(List.length all4) : Int) ≤ (↑(List.length all4) : Int)] (by kernel_rfl) (hcons hn8 (hcons ((sha_words_take_ok m3 ((all4.take (64)).drop 0) a9 e10).tr [(9000, .slc 4)] rfl (by kernel_rfl) ⟨.rd (by kernel_rfl), trivial⟩ (by kernel_rfl) (by kernel_rfl) rfl rfl) (hone hn11))) ?_
      refine q_b 1 ?_
      refine q_kr ?_
      exact trR_fit [(2, .slc 5)] [sO 0 (.ptr 9000 0), sO 4 (.slc 2), hR 2 .u8 ((all4.take (((↑(List.length all4) : Int)).toNat)).drop 64), hB 9000 90 [.arr .u32 8 a9, .slc 9001, .int .i64 (IntKind.i64.wrap (s_2 + (↑(List.length b_3) : Int)))], hR 9001 .u8 s_1] [(2, .rd .u8 ((all4.take (((↑(List.length all4) : Int)).toNat)).drop 64)), (9000, .blk 90 [.arr .u32 8 a9, .slc 9001, .int .i64 (IntKind.i64.wrap (s_2 + (↑(List.length b_3) : Int)))]), (9001, .rd .u8 s_1)] (by kernel_rfl) (by kernel_rfl) (by kernel_rfl) rfl ⟨.rd (by kernel_rfl), .blk (by kernel_rfl) (by kernel_rfl), .rd (by kernel_rfl), trivial⟩ (by kernel_rfl) (ih0 (a9, ((all4.take (((↑(List.length all4) : Int)).toNat)).drop 64)) h)
    · refine tr_cond_f (decide ((↑(List.length all4) : Int) ≥ (64 : Int))) (by kernel_rfl) hc7 ?_
      refine tr_exit ?_
      refine q_k_exit ?_
      refine q_kr_exit ?_
      have h := Option.some.inj h
      subst h
      exact q_fit [(3, .slc 2)] [sO 0 (.ptr 9000 0), sO 4 (.slc 3), hR 3 .u8 all4, hB 9000 90 [.arr .u32 8 m3, .slc 9001, .int .i64 (IntKind.i64.wrap (s_2 + (↑(List.length b_3) : Int)))], hR 9001 .u8 s_1] [(3, .rd .u8 all4), (9000, .blk 90 [.arr .u32 8 m3, .slc 9001, .int .i64 (IntKind.i64.wrap (s_2 + (↑(List.length b_3) : Int)))]), (9001, .rd .u8 s_1)] (by kernel_rfl) (by kernel_rfl) (by kernel_rfl) rfl ⟨.rd (by kernel_rfl), .blk (by kernel_rfl) (by kernel_rfl), .rd (by kernel_rfl), trivial⟩ (by kernel_rfl) hx0

theorem sha_Sha_Sum_ok (s_0 : List Int) (s_1 : List Int) (s_2 : Int) (r : List Int) (h : sha_Sha_Sum s_0 s_1 s_2 = some r) : CallOk P 48 [.v (.one (.ptr 9000 0))] [(9000, .rblk 90 [.arr .u32 8 s_0, .slc 9001, .int .i64 s_2]), (9001, .rd .u8 s_1)] (.v (.agg [.arr .u8 32 r])) [] := by
  refine call1 (N := 69) Try.func48 (by kernel_rfl) rfl rfl rfl [(9000, .rblk 90 [.arr .u32 8 s_0, .slc 9001, .int .i64 s_2]), (9001, .rd .u8 s_1)] (by kernel_rfl) ?_
  intro _ B w0
  show Tr P B 69 w0 _ _ (RetQ P Try.f48 (R1 _ _ B w0))
  unfold sha_Sha_Sum at h
  refine tr_seq ?_
  refine tr_reg hT [(0, .key 0)] [.s 0, .s 2, .h 0, .h 9000, .h 9001] [sO 0 (.ptr 9000 0), sO 2 (.ptr 0 0), hB 0 62 [.arr .u8 32 (List.replicate 32 0)], hF 9000 90 [.arr .u32 8 s_0, .slc 9001, .int .i64 s_2], hR 9001 .u8 s_1] [] (by kernel_rfl) trivial ?_
  refine q_k ?_
  refine tr_seq ?_
  obtain ⟨a1, e2, h⟩ := bind_some h
  obtain ⟨hn3, h⟩ := ite_some h
  refine tr_reg hT [(4, .call [9001] (.v (.one (.slc 1))) [(1, .own 5 .u8 a1)]), (5, .key 2), (6, .key 3)] [.s 0, .s 2, .s 3, .h 0, .h 3, .h 9000, .h 9001] [sO 0 (.ptr 9000 0), sO 2 (.ptr 0 0), sO 3 (.slc 3), hB 0 62 [.arr .u8 32 (List.replicate 32 0)], hO 3 5 .u8 (a1 ++ [(128 : Int)]), hF 9000 90 [.arr .u32 8 s_0, .slc 9001, .int .i64 s_2], hR 9001 .u8 s_1] [CallOk P 58 [.v (.one (.slc 9001))] [(9001, .rd .u8 s_1)] (.v (.one (.slc 1))) [(1, .own 5 .u8 a1)], List.length (a1 ++ [(128 : Int)]) ≤ maxN] (by kernel_rfl) (hcons ((slices_Clone_byte_byte_ok s_1 a1 e2).tr [(9000, .slc 9001), (8900, .slc 1)] rfl (by kernel_rfl) ⟨.rd (by kernel_rfl), trivial⟩ (by kernel_rfl) (by kernel_rfl) rfl rfl) (hone hn3)) ?_
  refine q_k ?_
  refine tr_seq ?_
  refine tr_block ?_
  obtain ⟨last5, e8, h⟩ := bind_some h
  refine tr_fit [(4, .slc 3)] [sO 0 (.ptr 9000 0), sO 2 (.ptr 0 0), sO 3 (.slc 4), hB 0 62 [.arr .u8 32 (List.replicate 32 0)], hO 4 5 .u8 (a1 ++ [(128 : Int)]), hF 9000 90 [.arr .u32 8 s_0, .slc 9001, .int .i64 s_2], hR 9001 .u8 s_1] [(0, .blk 62 [.arr .u8 32 (List.replicate 32 0)]), (4, .own 5 .u8 (a1 ++ [(128 : Int)])), (9000, .rblk 90 [.arr .u32 8 s_0, .slc 9001, .int .i64 s_2]), (9001, .rd .u8 s_1)] (by kernel_rfl) (by kernel_rfl) (by kernel_rfl) rfl ⟨.blk (by kernel_rfl) (by kernel_rfl), .own (by kernel_rfl), .rblk (by kernel_rfl) (by kernel_rfl), .rd (by kernel_rfl), trivial⟩ (by kernel_rfl) ?_
  refine tr_loop_fuel (id := 0) (α := List Int) (β := List Int) (fun z => [sO 0 (.ptr 9000 0), sO 2 (.ptr 0 0), sO 3 (.slc 4), hB 0 62 [.arr .u8 32 (List.replicate 32 0)], hO 4 5 .u8 z, hF 9000 90 [.arr .u32 8 s_0, .slc 9001, .int .i64 s_2], hR 9001 .u8 s_1]) (fun z => [sO 0 (.ptr 9000 0), sO 2 (.ptr 0 0), sO 3 (.slc 5), hB 0 62 [.arr .u8 32 (List.replicate 32 0)], hO 5 5 .u8 z, hF 9000 90 [.arr .u32 8 s_0, .slc 9001, .int .i64 s_2], hR 9001 .u8 s_1]) (fun k z => sha_Sha_Sum_l0 s_0 s_1 s_2 k z) last5 (fun _ => rfl) (70) (a1 ++ [(128 : Int)]) e8 ?_ ?_
  · skip
    replace h : ((sha_Sha_Sum_l1 s_0 s_1 s_2 (((7 : Int) - (0 : Int) + 1).toNat + 1) last5 (7 : Int)).bind (fun last11 => (sha_Sha_Sum_l2 (List.length last11 + 1) s_0 last11).bind (fun m18 => (sha_Sha_Sum_l3 m18 (((32 : Int) - (0 : Int)).toNat + 1) (List.replicate 32 0) (0 : Int)).bind (fun m27 => some m27)))) = _ := h
    refine q_b_this ?_
    refine q_k ?_
    refine tr_seq ?_
    refine tr_seq ?_
    refine tr_reg hT [] [.s 0, .s 2, .s 3, .s 4, .h 0, .h 5, .h 9000, .h 9001] [sO 0 (.ptr 9000 0), sO 2 (.ptr 0 0), sO 3 (.slc 5), sI 4 .i64 (7 : Int), hB 0 62 [.arr .u8 32 (List.replicate 32 0)], hO 5 5 .u8 last5, hF 9000 90 [.arr .u32 8 s_0, .slc 9001, .int .i64 s_2], hR 9001 .u8 s_1] [] (by kernel_rfl) trivial ?_
    refine q_k ?_
    refine tr_block ?_
    obtain ⟨last11, e15, h⟩ := bind_some h
    refine tr_fit [(8, .slc 5)] [sO 0 (.ptr 9000 0), sO 2 (.ptr 0 0), sO 3 (.slc 8), sI 4 .i64 (7 : Int), hB 0 62 [.arr .u8 32 (List.replicate 32 0)], hO 8 5 .u8 last5, hF 9000 90 [.arr .u32 8 s_0, .slc 9001, .int .i64 s_2], hR 9001 .u8 s_1] [(0, .blk 62 [.arr .u8 32 (List.replicate 32 0)]), (8, .own 5 .u8 last5), (9000, .rblk 90 [.arr .u32 8 s_0, .slc 9001, .int .i64 s_2]), (9001, .rd .u8 s_1)] (by kernel_rfl) (by kernel_rfl) (by kernel_rfl) rfl ⟨.blk (by kernel_rfl) (by kernel_rfl), .own (by kernel_rfl), .rblk (by kernel_rfl) (by kernel_rfl), .rd (by kernel_rfl), trivial⟩ (by kernel_rfl) ?_
    refine tr_loop_fuel (id := 2) (α := List Int × Int) (β := List Int) (fun z => [sO 0 (.ptr 9000 0), sO 2 (.ptr 0 0), sO 3 (.slc 8), sI 4 .i64 z.2, hB 0 62 [.arr .u8 32 (List.replicate 32 0)], hO 8 5 .u8 z.1, hF 9000 90 [.arr .u32 8 s_0, .slc 9001, .int .i64 s_2], hR 9001 .u8 s_1]) (fun z => [sO 0 (.ptr 9000 0), sO 2 (.ptr 0 0), sO 3 (.slc 9), hB 0 62 [.arr .u8 32 (List.replicate 32 0)], hO 9 5 .u8 z, hF 9000 90 [.arr .u32 8 s_0, .slc 9001, .int .i64 s_2], hR 9001 .u8 s_1]) (fun k z => sha_Sha_Sum_l1 s_0 s_1 s_2 k z.1 z.2) last11 (fun _ => rfl) (((7 : Int) - (0 : Int) + 1).toNat + 1) (last5, (7 : Int)) e15 ?_ ?_
    · skip
      replace h : ((sha_Sha_Sum_l2 (List.length last11 + 1) s_0 last11).bind (fun m18 => (sha_Sha_Sum_l3 m18 (((32 : Int) - (0 : Int)).toNat + 1) (List.replicate 32 0) (0 : Int)).bind (fun m27 => some m27))) = _ := h
      refine q_b_this ?_
      refine q_k ?_
      refine tr_seq ?_
      refine tr_reg hT [(4, .key 12)] [.s 2, .s 3, .s 5, .h 0, .h 9, .h 12] [sO 2 (.ptr 0 0), sO 3 (.slc 9), sO 5 (.ptr 12 0), hB 0 62 [.arr .u8 32 (List.replicate 32 0)], hO 9 5 .u8 last11, hB 12 87 [.arr .u32 8 s_0]] [] (by kernel_rfl) trivial ?_
      refine q_k ?_
      refine tr_seq ?_
      refine tr_block ?_
      obtain ⟨m18, e24, h⟩ := bind_some h
      refine tr_fit [(13, .slc 9)] [sO 2 (.ptr 0 0), sO 3 (.slc 13), sO 5 (.ptr 12 0), hB 0 62 [.arr .u8 32 (List.replicate 32 0)], hB 12 87 [.arr .u32 8 s_0], hR 13 .u8 last11] [(0, .blk 62 [.arr .u8 32 (List.replicate 32 0)]), (12, .blk 87 [.arr .u32 8 s_0]), (13, .rd .u8 last11)] (by kernel_rfl) (by kernel_rfl) (by kernel_rfl) rfl ⟨.blk (by kernel_rfl) (by kernel_rfl), .blk (by kernel_rfl) (by kernel_rfl), .ownrd (e := 5) (by kernel_rfl), trivial⟩ (by kernel_rfl) ?_
      refine tr_loop_fuel (id := 4) (α := List Int × List Int) (β := List Int) (fun z => [sO 2 (.ptr 0 0), sO 3 (.slc 13), sO 5 (.ptr 12 0), hB 0 62 [.arr .u8 32 (List.replicate 32 0)], hB 12 87 [.arr .u32 8 z.1], hR 13 .u8 z.2]) (fun z => [sO 2 (.ptr 0 0), sO 5 (.ptr 12 0), hB 0 62 [.arr .u8 32 (List.replicate 32 0)], hB 12 87 [.arr .u32 8 z]]) (fun k z => sha_Sha_Sum_l2 k z.1 z.2) m18 (fun _ => rfl) (List.length last11 + 1) (s_0, last11) e24 ?_ ?_
      · skip
        replace h : ((sha_Sha_Sum_l3 m18 (((32 : Int) - (0 : Int)).toNat + 1) (List.replicate 32 0) (0 : Int)).bind (fun m27 => some m27)) = _ := h
        refine q_b_this ?_
        refine q_k ?_
        refine tr_seq ?_
        refine tr_reg hT [(0, .key 16)] [.s 2, .s 5, .s 6, .h 0, .h 12, .h 16] [sO 2 (.ptr 0 0), sO 5 (.ptr 12 0), sO 6 (.ptr 16 0), hB 0 62 [.arr .u8 32 (List.replicate 32 0)], hB 12 87 [.arr .u32 8 m18], hB 16 62 [.arr .u8 32 (List.replicate 32 0)]] [] (by kernel_rfl) trivial ?_
        refine q_k ?_
        refine tr_seq ?_
        refine tr_seq ?_
        refine tr_reg hT [] [.s 2, .s 5, .s 6, .s 52, .h 0, .h 12, .h 16] [sO 2 (.ptr 0 0), sO 5 (.ptr 12 0), sO 6 (.ptr 16 0), sI 52 .i64 (0 : Int), hB 0 62 [.arr .u8 32 (List.replicate 32 0)], hB 12 87 [.arr .u32 8 m18], hB 16 62 [.arr .u8 32 (List.replicate 32 0)]] [] (by kernel_rfl) trivial ?_
        refine q_k ?_
        refine tr_block ?_
        obtain ⟨m27, e32, h⟩ := bind_some h
        refine tr_fit [] [sO 2 (.ptr 0 0), sO 5 (.ptr 12 0), sO 6 (.ptr 16 0), sI 52 .i64 (0 : Int), hB 0 62 [.arr .u8 32 (List.replicate 32 0)], hB 12 87 [.arr .u32 8 m18], hB 16 62 [.arr .u8 32 (List.replicate 32 0)]] [(0, .blk 62 [.arr .u8 32 (List.replicate 32 0)]), (12, .blk 87 [.arr .u32 8 m18]), (16, .blk 62 [.arr .u8 32 (List.replicate 32 0)])] (by kernel_rfl) (by kernel_rfl) (by kernel_rfl) rfl ⟨.blk (by kernel_rfl) (by kernel_rfl), .blk (by kernel_rfl) (by kernel_rfl), .blk (by kernel_rfl) (by kernel_rfl), trivial⟩ (by kernel_rfl) ?_
        refine tr_loop_fuel (id := 6) (α := List Int × Int) (β := List Int) (fun z => [sO 2 (.ptr 0 0), sO 5 (.ptr 12 0), sO 6 (.ptr 16 0), sI 52 .i64 z.2, hB 0 62 [.arr .u8 32 (List.replicate 32 0)], hB 12 87 [.arr .u32 8 m18], hB 16 62 [.arr .u8 32 z.1]]) (fun z => [sO 2 (.ptr 0 0), sO 6 (.ptr 16 0), hB 0 62 [.arr .u8 32 (List.replicate 32 0)], hB 16 62 [.arr .u8 32 z]]) (fun k z => sha_Sha_Sum_l3 m18 k z.1 z.2) m27 (fun _ => rfl) (((32 : Int) - (0 : Int)).toNat + 1) ((List.replicate 32 0), (0 : Int)) e32 ?_ ?_
        · skip
          replace h : (some m27) = _ := h
          refine q_b_this ?_
          refine q_k ?_
          refine tr_seq ?_
          refine tr_reg hT [] [.s 2, .h 0] [sO 2 (.ptr 0 0), hB 0 62 [.arr .u8 32 m27]] [] (by kernel_rfl) trivial ?_
          refine q_k ?_
          refine tr_ret ?_
          have h := Option.some.inj h
          subst h
          refine q_less [.s 2, .h 0] [sO 2 (.ptr 0 0), hB 0 62 [.arr .u8 32 m27]] (by kernel_rfl) ?_
          exact q_ret1 hT (.v (.agg [.arr .u8 32 m27])) [] (by kernel_rfl) (by kernel_rfl) (by kernel_rfl)
        · clear h e32
          intro k ih3 hx3 z h
          obtain ⟨m25, x26⟩ := z
          replace h : (if (decide (x26 < (32 : Int))) = true then if 0 ≤ (IntKind.i64.wrap (x26.tdiv (4 : Int))) ∧ (IntKind.i64.wrap (x26.tdiv (4 : Int))) < ((8 : Nat) : Int) then if 0 ≤ (IntKind.i64.wrap ((24 : Int) - (IntKind.i64.wrap ((8 : Int) * (x26.tmod (4 : Int)))))) then if 0 ≤ x26 ∧ x26 < ((32 : Nat) : Int) then sha_Sha_Sum_l3 m18 k (m25.set x26.toNat (IntKind.u8.wrap (shr .u32 (m18.getD (IntKind.i64.wrap (x26.tdiv (4 : Int))).toNat 0) (IntKind.i64.wrap ((24 : Int) - (IntKind.i64.wrap ((8 : Int) * (x26.tmod (4 : Int))))))))) (IntKind.i64.wrap (x26 + (1 : Int))) else none else none else none else some m25) = _ := h
          refine tr_seq ?_
          refine tr_reg hT [] [.s 2, .s 5, .s 6, .s 52, .s 53, .h 0, .h 12, .h 16] [sO 2 (.ptr 0 0), sO 5 (.ptr 12 0), sO 6 (.ptr 16 0), sI 52 .i64 x26, sB 53 (decide (x26 < (32 : Int))), hB 0 62 [.arr .u8 32 (List.replicate 32 0)], hB 12 87 [.arr .u32 8 m18], hB 16 62 [.arr .u8 32 m25]] [] (by kernel_rfl) trivial ?_
          refine q_k ?_
          refine tr_seq ?_
          rcases ite_split h with ⟨hc28, h⟩ | ⟨hc28, h⟩
          · refine tr_cond_t (decide (x26 < (32 : Int))) (by kernel_rfl) hc28 ?_
            refine tr_skip ?_
            refine q_k ?_
            refine tr_seq ?_
            refine tr_block ?_
            refine tr_seq ?_
            refine tr_reg hT [] [.s 2, .s 5, .s 6, .s 7, .s 52, .h 0, .h 12, .h 16] [sO 2 (.ptr 0 0), sO 5 (.ptr 12 0), sO 6 (.ptr 16 0), sI 7 .i64 x26, sI 52 .i64 x26, hB 0 62 [.arr .u8 32 (List.replicate 32 0)], hB 12 87 [.arr .u32 8 m18], hB 16 62 [.arr .u8 32 m25]] [] (by kernel_rfl) trivial ?_
            refine q_k ?_
            obtain ⟨hn29, h⟩ := ite_some h
            obtain ⟨hn30, h⟩ := ite_some h
            obtain ⟨hn31, h⟩ := ite_some h
            refine tr_reg hT [] [.s 2, .s 5, .s 6, .s 52, .h 0, .h 12, .h 16] [sO 2 (.ptr 0 0), sO 5 (.ptr 12 0), sO 6 (.ptr 16 0), sI 52 .i64 x26, hB 0 62 [.arr .u8 32 (List.replicate 32 0)], hB 12 87 [.arr .u32 8 m18], hB 16 62 [.arr .u8 32 (m25.set x26.toNat (IntKind.u8.wrap (shr .u32 (m18.getD (IntKind.i64.wrap (x26.tdiv (4 : Int))).toNat 0) (IntKind.i64.wrap ((24 : Int) - (IntKind.i64.wrap ((8 : Int) * (x26.tmod (4 : Int)))))))))]] [(4 : Int) ≠ 0, 0 ≤ (IntKind.i64.wrap (x26.tdiv (4 : Int))) ∧ (IntKind.i64.wrap (x26.tdiv (4 : Int))) < ((8 : Nat) : Int), (4 : Int) ≠ 0, 0 ≤ (IntKind.i64.wrap ((24 : Int) - (IntKind.i64.wrap ((8 : Int) * (x26.tmod (4 : Int)))))), 0 ≤ x26 ∧ x26 < ((32 : Nat) : Int)] (by kernel_rfl) (hcons (by decide) (hcons hn29 (hcons (by decide) (hcons hn30 (hone hn31))))) ?_
            refine q_b 7 ?_
            refine q_k ?_
            refine tr_reg hT [] [.s 2, .s 5, .s 6, .s 52, .h 0, .h 12, .h 16] [sO 2 (.ptr 0 0), sO 5 (.ptr 12 0), sO 6 (.ptr 16 0), sI 52 .i64 (IntKind.i64.wrap (x26 + (1 : Int))), hB 0 62 [.arr .u8 32 (List.replicate 32 0)], hB 12 87 [.arr .u32 8 m18], hB 16 62 [.arr .u8 32 (m25.set x26.toNat (IntKind.u8.wrap (shr .u32 (m18.getD (IntKind.i64.wrap (x26.tdiv (4 : Int))).toNat 0) (IntKind.i64.wrap ((24 : Int) - (IntKind.i64.wrap ((8 : Int) * (x26.tmod (4 : Int)))))))))]] [] (by kernel_rfl) trivial ?_
            refine q_kr ?_
            exact trR_less [.s 2, .s 5, .s 6, .s 52, .h 0, .h 12, .h 16] [sO 2 (.ptr 0 0), sO 5 (.ptr 12 0), sO 6 (.ptr 16 0), sI 52 .i64 (IntKind.i64.wrap (x26 + (1 : Int))), hB 0 62 [.arr .u8 32 (List.replicate 32 0)], hB 12 87 [.arr .u32 8 m18], hB 16 62 [.arr .u8 32 (m25.set x26.toNat (IntKind.u8.wrap (shr .u32 (m18.getD (IntKind.i64.wrap (x26.tdiv (4 : Int))).toNat 0) (IntKind.i64.wrap ((24 : Int) - (IntKind.i64.wrap ((8 : Int) * (x26.tmod (4 : Int)))))))))]] (by kernel_rfl) (ih3 ((m25.set x26.toNat (IntKind.u8.wrap (shr .u32 (m18.getD (IntKind.i64.wrap (x26.tdiv (4 : Int))).toNat 0) (IntKind.i64.wrap ((24 : Int) - (IntKind.i64.wrap ((8 : Int) * (x26.tmod (4 : Int))))))))), (IntKind.i64.wrap (x26 + (1 : Int)))) h)
          · refine tr_cond_f (decide (x26 < (32 : Int))) (by kernel_rfl) hc28 ?_
            refine tr_exit ?_
            refine q_k_exit ?_
            refine q_kr_exit ?_
            have h := Option.some.inj h
            subst h
            exact q_less [.s 2, .s 6, .h 0, .h 16] [sO 2 (.ptr 0 0), sO 6 (.ptr 16 0), hB 0 62 [.arr .u8 32 (List.replicate 32 0)], hB 16 62 [.arr .u8 32 m25]] (by kernel_rfl) hx3
      · clear h e24
        intro k ih2 hx2 z h
        obtain ⟨m16, last17⟩ := z
        replace h : (if (decide ((↑(List.length last17) : Int) > (0 : Int))) = true then if 0 ≤ (0 : Int) ∧ (0 : Int) ≤ (64 : Int) ∧ (64 : Int) ≤ (↑(List.length last17) : Int) then (sha_words_take m16 ((last17.take (64)).drop 0)).bind (fun a21 => if 0 ≤ (64 : Int) ∧ (64 : Int) ≤ (↑(List.length last17) : Int) ∧ (↑(List.length last17) : Int) ≤ (↑(List.length last17) : Int) then sha_Sha_Sum_l2 k a21 ((last17.take (((↑(List.length last17) : Int)).toNat)).drop 64) else none) else none else some m16) = _ := h
        refine tr_seq ?_
        refine tr_seq ?_
        refine tr_reg hT [] [.s 2, .s 3, .s 5, .s 45, .h 0, .h 12, .h 13] [sO 2 (.ptr 0 0), sO 3 (.slc 13), sO 5 (.ptr 12 0), sB 45 (decide ((↑(List.length last17) : Int) > (0 : Int))), hB 0 62 [.arr .u8 32 (List.replicate 32 0)], hB 12 87 [.arr .u32 8 m16], hR 13 .u8 last17] [] (by kernel_rfl) trivial ?_
        refine q_k ?_
        rcases ite_split h with ⟨hc19, h⟩ | ⟨hc19, h⟩
        · refine tr_cond_t (decide ((↑(List.length last17) : Int) > (0 : Int))) (by kernel_rfl) hc19 ?_
          refine tr_skip ?_
          refine q_k ?_
          refine tr_seq ?_
          refine tr_block ?_
          obtain ⟨hn20, h⟩ := ite_some h
          obtain ⟨a21, e22, h⟩ := bind_some h
          refine tr_regd hT hM [(2, .key 14), (3, .call [14] (.v (.agg [.arr .u32 8 a21])) [])] [.s 2, .s 3, .s 5, .h 0, .h 12, .h 13] [sO 2 (.ptr 0 0), sO 3 (.slc 13), sO 5 (.ptr 12 0), hB 0 62 [.arr .u8 32 (List.replicate 32 0)], hB 12 87 [.arr .u32 8 a21], hR 13 .u8 last17] [0 ≤ (0 : Int) ∧ (0 : Int) ≤ (64 : Int) ∧ (64 : Int) ≤ (↑(List.length last17) : Int), CallOk P 64 [.v (.agg [.arr .u32 8 m16]), .v (.one (.slc 14))] [(14, .rd .u8 ((last17.take (64)).drop 0))] (.v (.agg [.arr .u32 8 a21])) []] (by kernel_rfl) (hcons hn20 (hone ((sha_words_take_ok m16 ((last17.take (64)).drop 0) a21 e22).tr [(9000, .slc 14)] rfl (by kernel_rfl) ⟨.rd (by kernel_rfl), trivial⟩ (by kernel_rfl) (by kernel_rfl) rfl rfl))) ?_
          refine q_b 5 ?_
          refine q_k ?_
          obtain ⟨hn23, h⟩ := ite_some h
          refine tr_reg hT [(1, .key 15)] [.s 2, .s 3, .s 5, .h 0, .h 12, .h 15] [sO 2 (.ptr 0 0), sO 3 (.slc 15), sO 5 (.ptr 12 0), hB 0 62 [.arr .u8 32 (List.replicate 32 0)], hB 12 87 [.arr .u32 8 a21], hR 15 .u8 ((last17.take (((↑(List.length last17) : Int)).toNat)).drop 64)] [0 ≤ (64 : Int) ∧ (64 : Int) ≤ (↑(List.length last17) : Int) ∧ (↑(List.length last17) : Int) ≤ (↑(List.length last17) : Int)] (by kernel_rfl) (hone hn23) ?_
          refine q_kr ?_
          exact trR_fit [(13, .slc 15)] [sO 2 (.ptr 0 0), sO 3 (.slc 13), sO 5 (.ptr 12 0), hB 0 62 [.arr .u8 32 (List.replicate 32 0)], hB 12 87 [.arr .u32 8 a21], hR 13 .u8 ((last17.take (((↑(List.length last17) : Int)).toNat)).drop 64)] [(0, .blk 62 [.arr .u8 32 (List.replicate 32 0)]), (12, .blk 87 [.arr .u32 8 a21]), (13, .rd .u8 ((last17.take (((↑(List.length last17) : Int)).toNat)).drop 64))] (by kernel_rfl) (by kernel_rfl) (by kernel_rfl) rfl ⟨.blk (by kernel_rfl) (by kernel_rfl), .blk (by kernel_rfl) (by kernel_rfl), .rd (by kernel_rfl), trivial⟩ (by kernel_rfl) (ih2 (a21, ((last17.take (((↑(List.length last17) : Int)).toNat)).drop 64)) h)
        · refine tr_cond_f (decide ((↑(List.length last17) : Int) > (0 : Int))) (by kernel_rfl) hc19 ?_
          refine tr_exit ?_
          refine q_k_exit ?_
          refine q_kr_exit ?_
          have h := Option.some.inj h
          subst h
          exact q_less [.s 2, .s 5, .h 0, .h 12] [sO 2 (.ptr 0 0), sO 5 (.ptr 12 0), hB 0 62 [.arr .u8 32 (List.replicate 32 0)], hB 12 87 [.arr .u32 8 m16]] (by kernel_rfl) hx2
    · clear h e15
      intro k ih1 hx1 z h
      obtain ⟨last9, k10⟩ := z
      replace h : (if (decide (k10 ≥ (0 : Int))) = true then if 0 ≤ (IntKind.i64.wrap ((8 : Int) * k10)) then if List.length (last9 ++ [(IntKind.u8.wrap (shr .u64 (shl .u64 (IntKind.u64.wrap s_2) (3 : Int)) (IntKind.i64.wrap ((8 : Int) * k10))))]) ≤ maxN then sha_Sha_Sum_l1 s_0 s_1 s_2 k (last9 ++ [(IntKind.u8.wrap (shr .u64 (shl .u64 (IntKind.u64.wrap s_2) (3 : Int)) (IntKind.i64.wrap ((8 : Int) * k10))))]) (IntKind.i64.wrap (k10 - (1 : Int))) else none else none else some last9) = _ := h
      refine tr_seq ?_
      refine tr_seq ?_
      refine tr_reg hT [] [.s 0, .s 2, .s 3, .s 4, .s 23, .h 0, .h 8, .h 9000, .h 9001] [sO 0 (.ptr 9000 0), sO 2 (.ptr 0 0), sO 3 (.slc 8), sI 4 .i64 k10, sB 23 (decide (k10 ≥ (0 : Int))), hB 0 62 [.arr .u8 32 (List.replicate 32 0)], hO 8 5 .u8 last9, hF 9000 90 [.arr .u32 8 s_0, .slc 9001, .int .i64 s_2], hR 9001 .u8 s_1] [] (by kernel_rfl) trivial ?_
      refine q_k ?_
      rcases ite_split h with ⟨hc12, h⟩ | ⟨hc12, h⟩
      · refine tr_cond_t (decide (k10 ≥ (0 : Int))) (by kernel_rfl) hc12 ?_
        refine tr_skip ?_
        refine q_k ?_
        refine tr_seq ?_
        refine tr_block ?_
        obtain ⟨hn13, h⟩ := ite_some h
        obtain ⟨hn14, h⟩ := ite_some h
        refine tr_reg hT [(11, .key 10), (12, .key 11)] [.s 0, .s 2, .s 3, .s 4, .h 0, .h 11, .h 9000, .h 9001] [sO 0 (.ptr 9000 0), sO 2 (.ptr 0 0), sO 3 (.slc 11), sI 4 .i64 k10, hB 0 62 [.arr .u8 32 (List.replicate 32 0)], hO 11 5 .u8 (last9 ++ [(IntKind.u8.wrap (shr .u64 (shl .u64 (IntKind.u64.wrap s_2) (3 : Int)) (IntKind.i64.wrap ((8 : Int) * k10))))]), hF 9000 90 [.arr .u32 8 s_0, .slc 9001, .int .i64 s_2], hR 9001 .u8 s_1] [0 ≤ (3 : Int), 0 ≤ (IntKind.i64.wrap ((8 : Int) * k10)), List.length (last9 ++ [(IntKind.u8.wrap (shr .u64 (shl .u64 (IntKind.u64.wrap s_2) (3 : Int)) (IntKind.i64.wrap ((8 : Int) * k10))))]) ≤ maxN] (by kernel_rfl) (hcons (by decide) (hcons hn13 (hone hn14))) ?_
        refine q_b 3 ?_
        refine q_k ?_
        refine tr_reg hT [] [.s 0, .s 2, .s 3, .s 4, .h 0, .h 11, .h 9000, .h 9001] [sO 0 (.ptr 9000 0), sO 2 (.ptr 0 0), sO 3 (.slc 11), sI 4 .i64 (IntKind.i64.wrap (k10 - (1 : Int))), hB 0 62 [.arr .u8 32 (List.replicate 32 0)], hO 11 5 .u8 (last9 ++ [(IntKind.u8.wrap (shr .u64 (shl .u64 (IntKind.u64.wrap s_2) (3 : Int)) (IntKind.i64.wrap ((8 : Int) * k10))))]), hF 9000 90 [.arr .u32 8 s_0, .slc 9001, .int .i64 s_2], hR 9001 .u8 s_1] [] (by kernel_rfl) trivial ?_
        refine q_kr ?_
        exact trR_fit [(8, .slc 11)] [sO 0 (.ptr 9000 0), sO 2 (.ptr 0 0), sO 3 (.slc 8), sI 4 .i64 (IntKind.i64.wrap (k10 - (1 : Int))), hB 0 62 [.arr .u8 32 (List.replicate 32 0)], hO 8 5 .u8 (last9 ++ [(IntKind.u8.wrap (shr .u64 (shl .u64 (IntKind.u64.wrap s_2) (3 : Int)) (IntKind.i64.wrap ((8 : Int) * k10))))]), hF 9000 90 [.arr .u32 8 s_0, .slc 9001, .int .i64 s_2], hR 9001 .u8 s_1] [(0, .blk 62 [.arr .u8 32 (List.replicate 32 0)]), (8, .own 5 .u8 (last9 ++ [(IntKind.u8.wrap (shr .u64 (shl .u64 (IntKind.u64.wrap s_2) (3 : Int)) (IntKind.i64.wrap ((8 : Int) * k10))))])), (9000, .rblk 90 [.arr .u32 8 s_0, .slc 9001, .int .i64 s_2]), (9001, .rd .u8 s_1)] (by kernel_rfl) (by kernel_rfl) (by kernel_rfl) rfl ⟨.blk (by kernel_rfl) (by kernel_rfl), .own (by kernel_rfl), .rblk (by kernel_rfl) (by kernel_rfl), .rd (by kernel_rfl), trivial⟩ (by kernel_rfl) (ih1 ((last9 ++ [(IntKind.u8.wrap (shr .u64 (shl .u64 (IntKind.u64.wrap s_2) (3 : Int)) (IntKind.i64.wrap ((8 : Int) * k10))))]), (IntKind.i64.wrap (k10 - (1 : Int)))) h)
      · refine tr_cond_f (decide (k10 ≥ (0 : Int))) (by kernel_rfl) hc12 ?_
        refine tr_exit ?_
        refine q_k_exit ?_
        refine q_kr_exit ?_
        have h := Option.some.inj h
        subst h
        exact q_fit [(9, .slc 8)] [sO 0 (.ptr 9000 0), sO 2 (.ptr 0 0), sO 3 (.slc 9), hB 0 62 [.arr .u8 32 (List.replicate 32 0)], hO 9 5 .u8 last9, hF 9000 90 [.arr .u32 8 s_0, .slc 9001, .int .i64 s_2], hR 9001 .u8 s_1] [(0, .blk 62 [.arr .u8 32 (List.replicate 32 0)]), (9, .own 5 .u8 last9), (9000, .rblk 90 [.arr .u32 8 s_0, .slc 9001, .int .i64 s_2]), (9001, .rd .u8 s_1)] (by kernel_rfl) (by kernel_rfl) (by kernel_rfl) rfl ⟨.blk (by kernel_rfl) (by kernel_rfl), .own (by kernel_rfl), .rblk (by kernel_rfl) (by kernel_rfl), .rd (by kernel_rfl), trivial⟩ (by kernel_rfl) hx1
  · clear h e8
    intro k ih0 hx0 last4 h
    replace h : (if (((↑(List.length last4) : Int).tmod (64 : Int)) != (56 : Int)) = true then if List.length (last4 ++ [(0 : Int)]) ≤ maxN then sha_Sha_Sum_l0 s_0 s_1 s_2 k (last4 ++ [(0 : Int)]) else none else some last4) = _ := h
    refine tr_seq ?_
    refine tr_seq ?_
    refine tr_reg hT [] [.s 0, .s 2, .s 3, .s 18, .h 0, .h 4, .h 9000, .h 9001] [sO 0 (.ptr 9000 0), sO 2 (.ptr 0 0), sO 3 (.slc 4), sB 18 (((↑(List.length last4) : Int).tmod (64 : Int)) != (56 : Int)), hB 0 62 [.arr .u8 32 (List.replicate 32 0)], hO 4 5 .u8 last4, hF 9000 90 [.arr .u32 8 s_0, .slc 9001, .int .i64 s_2], hR 9001 .u8 s_1] [(64 : Int) ≠ 0] (by kernel_rfl) (hone (by decide)) ?_
    refine q_k ?_
    rcases ite_split h with ⟨hc6, h⟩ | ⟨hc6, h⟩
    · refine tr_cond_t (((↑(List.length last4) : Int).tmod (64 : Int)) != (56 : Int)) (by kernel_rfl) hc6 ?_
      refine tr_skip ?_
      refine q_k ?_
      refine tr_block ?_
      obtain ⟨hn7, h⟩ := ite_some h
      refine tr_reg hT [(1, .key 6), (2, .key 7)] [.s 0, .s 2, .s 3, .h 0, .h 7, .h 9000, .h 9001] [sO 0 (.ptr 9000 0), sO 2 (.ptr 0 0), sO 3 (.slc 7), hB 0 62 [.arr .u8 32 (List.replicate 32 0)], hO 7 5 .u8 (last4 ++ [(0 : Int)]), hF 9000 90 [.arr .u32 8 s_0, .slc 9001, .int .i64 s_2], hR 9001 .u8 s_1] [List.length (last4 ++ [(0 : Int)]) ≤ maxN] (by kernel_rfl) (hone hn7) ?_
      refine q_b 1 ?_
      refine q_kr ?_
      exact trR_fit [(4, .slc 7)] [sO 0 (.ptr 9000 0), sO 2 (.ptr 0 0), sO 3 (.slc 4), hB 0 62 [.arr .u8 32 (List.replicate 32 0)], hO 4 5 .u8 (last4 ++ [(0 : Int)]), hF 9000 90 [.arr .u32 8 s_0, .slc 9001, .int .i64 s_2], hR 9001 .u8 s_1] [(0, .blk 62 [.arr .u8 32 (List.replicate 32 0)]), (4, .own 5 .u8 (last4 ++ [(0 : Int)])), (9000, .rblk 90 [.arr .u32 8 s_0, .slc 9001, .int .i64 s_2]), (9001, .rd .u8 s_1)] (by kernel_rfl) (by kernel_rfl) (by kernel_rfl) rfl ⟨.blk (by kernel_rfl) (by kernel_rfl), .own (by kernel_rfl), .rblk (by kernel_rfl) (by kernel_rfl), .rd (by kernel_rfl), trivial⟩ (by kernel_rfl) (ih0 (last4 ++ [(0 : Int)]) h)
    · refine tr_cond_f (((↑(List.length last4) : Int).tmod (64 : Int)) != (56 : Int)) (by kernel_rfl) hc6 ?_
      refine tr_exit ?_
      refine q_k_exit ?_
      refine q_kr_exit ?_
      have h := Option.some.inj h
      subst h
      exact q_fit [(5, .slc 4)] [sO 0 (.ptr 9000 0), sO 2 (.ptr 0 0), sO 3 (.slc 5), hB 0 62 [.arr .u8 32 (List.replicate 32 0)], hO 5 5 .u8 last4, hF 9000 90 [.arr .u32 8 s_0, .slc 9001, .int .i64 s_2], hR 9001 .u8 s_1] [(0, .blk 62 [.arr .u8 32 (List.replicate 32 0)]), (5, .own 5 .u8 last4), (9000, .rblk 90 [.arr .u32 8 s_0, .slc 9001, .int .i64 s_2]), (9001, .rd .u8 s_1)] (by kernel_rfl) (by kernel_rfl) (by kernel_rfl) rfl ⟨.blk (by kernel_rfl) (by kernel_rfl), .own (by kernel_rfl), .rblk (by kernel_rfl) (by kernel_rfl), .rd (by kernel_rfl), trivial⟩ (by kernel_rfl) hx0

theorem sha_Sum_ok (b_0 : List Int) (r : List Int) (h : sha_Sum b_0 = some r) : CallOk P 42 [.v (.one (.slc 9000))] [(9000, .rd .u8 b_0)] (.v (.agg [.arr .u8 32 r])) [] := by
  refine call1 (N := 10) Try.func42 (by kernel_rfl) rfl rfl rfl [(9000, .rd .u8 b_0)] (by kernel_rfl) ?_
  intro _ B w0
  show Tr P B 10 w0 _ _ (RetQ P Try.f42 (R1 _ _ B w0))
  unfold sha_Sum at h
  refine tr_seq ?_
  refine tr_reg hT [(0, .key 0)] [.s 0, .s 2, .h 0, .h 9000] [sO 0 (.slc 9000), sO 2 (.ptr 0 0), hB 0 62 [.arr .u8 32 (List.replicate 32 0)], hR 9000 .u8 b_0] [] (by kernel_rfl) trivial ?_
  refine q_k ?_
  refine tr_seq ?_
  obtain ⟨⟨a1, r2⟩, e3, h⟩ := bind_some h
  refine tr_reg hT [(0, .call [] (.v (.one (.ptr 1 0))) [(1, .blk 90 [.arr .u32 8 a1, .nils, .int .i64 r2])])] [.s 0, .s 2, .s 3, .h 0, .h 1, .h 9000] [sO 0 (.slc 9000), sO 2 (.ptr 0 0), sO 3 (.ptr 1 0), hB 0 62 [.arr .u8 32 (List.replicate 32 0)], hB 1 90 [.arr .u32 8 a1, .nils, .int .i64 r2], hR 9000 .u8 b_0] [CallOk P 45 [] [] (.v (.one (.ptr 1 0))) [(1, .blk 90 [.arr .u32 8 a1, .nils, .int .i64 r2])]] (by kernel_rfl) (hone ((sha_New_ok  (a1, r2) e3).tr [(8900, .slc 1)] rfl (by kernel_rfl) trivial (by kernel_rfl) (by kernel_rfl) rfl rfl)) ?_
  refine q_k ?_
  refine tr_seq ?_
  obtain ⟨⟨a5, a6, r7⟩, e8, h⟩ := bind_some h
  refine tr_reg hT [(2, .call [1, 9000] (.tup []) [(2, .own 5 .u8 a6), (1, .blk 90 [.arr .u32 8 a5, .slc 2, .int .i64 r7])])] [.s 2, .s 3, .h 0, .h 1, .h 2] [sO 2 (.ptr 0 0), sO 3 (.ptr 1 0), hB 0 62 [.arr .u8 32 (List.replicate 32 0)], hB 1 90 [.arr .u32 8 a5, .slc 2, .int .i64 r7], hO 2 5 .u8 a6] [CallOk P 46 [.v (.one (.ptr 1 0)), .v (.one (.slc 9000))] [(1, .blk 90 [.arr .u32 8 a1, .nils, .int .i64 r2]), (9000, .rd .u8 b_0)] (.tup []) [(2, .own 5 .u8 a6), (1, .blk 90 [.arr .u32 8 a5, .slc 2, .int .i64 r7])]] (by kernel_rfl) (hone ((sha_Sha_Write_ok a1 [] r2 b_0 (a5, a6, r7) e8).tr [(9000, .slc 1), (9001, .nils), (9002, .slc 9000), (8900, .slc 2)] rfl (by kernel_rfl) ⟨.blk (by kernel_rfl) (by kernel_rfl), .nilrd, .rd (by kernel_rfl), trivial⟩ (by kernel_rfl) (by kernel_rfl) rfl rfl)) ?_
  refine q_k ?_
  refine tr_seq ?_
  obtain ⟨a10, e11, h⟩ := bind_some h
  refine tr_reg hT [(1, .call [1, 2] (.v (.agg [.arr .u8 32 a10])) [])] [.s 2, .h 0] [sO 2 (.ptr 0 0), hB 0 62 [.arr .u8 32 a10]] [CallOk P 48 [.v (.one (.ptr 1 0))] [(1, .blk 90 [.arr .u32 8 a5, .slc 2, .int .i64 r7]), (2, .own 5 .u8 a6)] (.v (.agg [.arr .u8 32 a10])) []] (by kernel_rfl) (hone ((sha_Sha_Sum_ok a5 a6 r7 a10 e11).tr [(9000, .slc 1), (9001, .slc 2)] rfl (by kernel_rfl) ⟨.blkr (by kernel_rfl) (by kernel_rfl), .ownrd (e := 5) (by kernel_rfl), trivial⟩ (by kernel_rfl) (by kernel_rfl) rfl rfl)) ?_
  refine q_k ?_
  refine tr_ret ?_
  have h := Option.some.inj h
  subst h
  refine q_less [.s 2, .h 0] [sO 2 (.ptr 0 0), hB 0 62 [.arr .u8 32 a10]] (by kernel_rfl) ?_
  exact q_ret1 hT (.v (.agg [.arr .u8 32 a10])) [] (by kernel_rfl) (by kernel_rfl) (by kernel_rfl)

end Go.Proofs.Sa
