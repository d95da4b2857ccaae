/- Walks, printed by a program of this session (gowalk.py): each Go function comes to its plain function's answer. -/
import Derived.Test.YtdolipgngaljcaaSaA
import Derived.Test.YtdolipgngaljcaaSaD
import Derived.Test.YtdolipgngaljcaaGwI
import Derived.Test.YtdolipgngaljcaaSaV0
import Derived.Test.YtdolipgngaljcaaSaV1
import Derived.Test.YtdolipgngaljcaaSaV2
import Derived.Test.YtdolipgngaljcaaSaV3
namespace Go.Proofs.Sa
open Go Go.Gw D
set_option linter.unusedVariables false
set_option maxRecDepth 20000

theorem ref01_k256_ok (r : List Int) (h : ref01_k256 = some r) {pre : List (Nat × Ent)} : CallOk P 61 [] pre (.v (.agg [.arr .u32 64 r])) [] := by
  refine call0 (N := 2) Try.func61 (by kernel_rfl) rfl rfl rfl pre ?_
  intro _ w
  show Tr P (Ge w) 2 _ _ _ (RetQ P Try.f61 (R0 _ w))
  unfold ref01_k256 at h
  refine tr_seq ?_
  refine tr_reg hT [(0, .key 0)] [.s 0, .h 0] [sO 0 (.ptr 0 0), hB 0 83 [.arr .u32 64 (List.replicate 64 0)]] [] (by kernel_rfl) trivial ?_
  refine q_k ?_
  refine tr_seq ?_
  refine tr_reg hT [] [.s 0, .h 0] [sO 0 (.ptr 0 0), hB 0 83 [.arr .u32 64 [(1116352408 : Int), (1899447441 : Int), (3049323471 : Int), (3921009573 : Int), (961987163 : Int), (1508970993 : Int), (2453635748 : Int), (2870763221 : Int), (3624381080 : Int), (310598401 : Int), (607225278 : Int), (1426881987 : Int), (1925078388 : Int), (2162078206 : Int), (2614888103 : Int), (3248222580 : Int), (3835390401 : Int), (4022224774 : Int), (264347078 : Int), (604807628 : Int), (770255983 : Int), (1249150122 : Int), (1555081692 : Int), (1996064986 : Int), (2554220882 : Int), (2821834349 : Int), (2952996808 : Int), (3210313671 : Int), (3336571891 : Int), (3584528711 : Int), (113926993 : Int), (338241895 : Int), (666307205 : Int), (773529912 : Int), (1294757372 : Int), (1396182291 : Int), (1695183700 : Int), (1986661051 : Int), (2177026350 : Int), (2456956037 : Int), (2730485921 : Int), (2820302411 : Int), (3259730800 : Int), (3345764771 : Int), (3516065817 : Int), (3600352804 : Int), (4094571909 : Int), (275423344 : Int), (430227734 : Int), (506948616 : Int), (659060556 : Int), (883997877 : Int), (958139571 : Int), (1322822218 : Int), (1537002063 : Int), (1747873779 : Int), (1955562222 : Int), (2024104815 : Int), (2227730452 : Int), (2361852424 : Int), (2428436474 : Int), (2756734187 : Int), (3204031479 : Int), (3329325298 : Int)]]] [] (by kernel_rfl) trivial ?_
  refine q_k ?_
  refine tr_ret ?_
  have h := Option.some.inj h
  subst h
  exact q_ret0 hT (.v (.agg [.arr .u32 64 [(1116352408 : Int), (1899447441 : Int), (3049323471 : Int), (3921009573 : Int), (961987163 : Int), (1508970993 : Int), (2453635748 : Int), (2870763221 : Int), (3624381080 : Int), (310598401 : Int), (607225278 : Int), (1426881987 : Int), (1925078388 : Int), (2162078206 : Int), (2614888103 : Int), (3248222580 : Int), (3835390401 : Int), (4022224774 : Int), (264347078 : Int), (604807628 : Int), (770255983 : Int), (1249150122 : Int), (1555081692 : Int), (1996064986 : Int), (2554220882 : Int), (2821834349 : Int), (2952996808 : Int), (3210313671 : Int), (3336571891 : Int), (3584528711 : Int), (113926993 : Int), (338241895 : Int), (666307205 : Int), (773529912 : Int), (1294757372 : Int), (1396182291 : Int), (1695183700 : Int), (1986661051 : Int), (2177026350 : Int), (2456956037 : Int), (2730485921 : Int), (2820302411 : Int), (3259730800 : Int), (3345764771 : Int), (3516065817 : Int), (3600352804 : Int), (4094571909 : Int), (275423344 : Int), (430227734 : Int), (506948616 : Int), (659060556 : Int), (883997877 : Int), (958139571 : Int), (1322822218 : Int), (1537002063 : Int), (1747873779 : Int), (1955562222 : Int), (2024104815 : Int), (2227730452 : Int), (2361852424 : Int), (2428436474 : Int), (2756734187 : Int), (3204031479 : Int), (3329325298 : Int)]])) rfl (by kernel_rfl)

theorem ref01_rot32_ok (x_0 : Int) (n_1 : Int) (r : Int) (h : ref01_rot32 x_0 n_1 = some r) {pre : List (Nat × Ent)} : CallOk P 62 [.v (.one (.int .u32 x_0)), .v (.one (.int .i64 n_1))] pre (.v (.one (.int .u32 r))) [] := by
  refine call0 (N := 9) Try.func62 (by kernel_rfl) rfl rfl rfl pre ?_
  intro _ w
  show Tr P (Ge w) 9 _ _ _ (RetQ P Try.f62 (R0 _ w))
  unfold ref01_rot32 at h
  refine tr_seq ?_
  refine tr_reg hT [] [.s 0, .s 1] [sI 0 .u32 x_0, sI 1 .i64 n_1] [] (by kernel_rfl) trivial ?_
  refine q_k ?_
  refine tr_seq ?_
  obtain ⟨r1, e2, h⟩ := bind_some h
  refine tr_reg hT [(3, .call [] (.v (.one (.int .u32 r1))) [])] [.s 4] [sI 4 .u32 r1] [CallOk P 70 [.v (.one (.int .u32 x_0)), .v (.one (.int .i64 (IntKind.i64.wrap (0 - n_1))))] [] (.v (.one (.int .u32 r1))) []] (by kernel_rfl) (hone (math_bits_RotateLeft32_ok x_0 (IntKind.i64.wrap (0 - n_1)) r1 e2)) ?_
  refine q_k ?_
  refine tr_ret ?_
  have h := Option.some.inj h
  subst h
  exact q_ret0 hT (.v (.one (.int .u32 r1))) rfl (by kernel_rfl)

theorem ref01_Sum256_ok (b_0 : List Int) (r : List Int) (h : ref01_Sum256 b_0 = some r) : CallOk P 43 [.v (.one (.slc 9000))] [(9000, .rd .u8 b_0)] (.v (.agg [.arr .u8 32 r])) [] := by
  refine call1 (N := 208) Try.func43 (by kernel_rfl) rfl rfl rfl [(9000, .rd .u8 b_0)] (by kernel_rfl) ?_
  intro _ B w0
  show Tr P B 208 w0 _ _ (RetQ P Try.f43 (R1 _ _ B w0))
  unfold ref01_Sum256 at h
  refine tr_seq ?_
  refine tr_reg hT [(0, .key 0)] [.s 0, .s 2, .h 0, .h 9000] [sO 0 (.slc 9000), sO 2 (.ptr 0 0), hB 0 62 [.arr .u8 32 (List.replicate 32 0)], hR 9000 .u8 b_0] [] (by kernel_rfl) trivial ?_
  refine q_k ?_
  refine tr_seq ?_
  obtain ⟨a1, e2, h⟩ := bind_some h
  refine tr_reg hT [(0, .call [] (.v (.agg [.arr .u32 64 a1])) []), (1, .key 1)] [.s 0, .s 2, .s 3, .h 0, .h 1, .h 9000] [sO 0 (.slc 9000), sO 2 (.ptr 0 0), sO 3 (.ptr 1 0), hB 0 62 [.arr .u8 32 (List.replicate 32 0)], hB 1 83 [.arr .u32 64 a1], hR 9000 .u8 b_0] [CallOk P 61 [] [] (.v (.agg [.arr .u32 64 a1])) []] (by kernel_rfl) (hone (ref01_k256_ok  a1 e2)) ?_
  refine q_k ?_
  refine tr_seq ?_
  refine tr_reg hT [(1, .key 2)] [.s 0, .s 2, .s 3, .s 4, .h 0, .h 1, .h 2, .h 9000] [sO 0 (.slc 9000), sO 2 (.ptr 0 0), sO 3 (.ptr 1 0), sO 4 (.ptr 2 0), hB 0 62 [.arr .u8 32 (List.replicate 32 0)], hB 1 83 [.arr .u32 64 a1], hB 2 85 [.arr .u32 8 [(1779033703 : Int), (3144134277 : Int), (1013904242 : Int), (2773480762 : Int), (1359893119 : Int), (2600822924 : Int), (528734635 : Int), (1541459225 : Int)]], hR 9000 .u8 b_0] [] (by kernel_rfl) trivial ?_
  refine q_k ?_
  refine tr_seq ?_
  obtain ⟨a3, e4, h⟩ := bind_some h
  refine tr_reg hT [(1, .call [9000] (.v (.one (.slc 3))) [(3, .own 5 .u8 a3)])] [.s 2, .s 3, .s 4, .s 5, .h 0, .h 1, .h 2, .h 3] [sO 2 (.ptr 0 0), sO 3 (.ptr 1 0), sO 4 (.ptr 2 0), sO 5 (.slc 3), hB 0 62 [.arr .u8 32 (List.replicate 32 0)], hB 1 83 [.arr .u32 64 a1], hB 2 85 [.arr .u32 8 [(1779033703 : Int), (3144134277 : Int), (1013904242 : Int), (2773480762 : Int), (1359893119 : Int), (2600822924 : Int), (528734635 : Int), (1541459225 : Int)]], hO 3 5 .u8 a3] [CallOk P 54 [.v (.one (.slc 9000)), .v (.one (.int .i64 (64 : Int))), .v (.one (.int .i64 (8 : Int)))] [(9000, .rd .u8 b_0)] (.v (.one (.slc 3))) [(3, .own 5 .u8 a3)]] (by kernel_rfl) (hone ((ref01_padded_ok b_0 (64 : Int) (8 : Int) a3 e4).tr [(9000, .slc 9000), (8900, .slc 3)] rfl (by kernel_rfl) ⟨.rd (by kernel_rfl), trivial⟩ (by kernel_rfl) (by kernel_rfl) rfl rfl)) ?_
  refine q_k ?_
  refine tr_seq ?_
  refine tr_seq ?_
  refine tr_reg hT [] [.s 2, .s 3, .s 4, .s 5, .s 6, .h 0, .h 1, .h 2, .h 3] [sO 2 (.ptr 0 0), sO 3 (.ptr 1 0), sO 4 (.ptr 2 0), sO 5 (.slc 3), sI 6 .i64 (0 : Int), hB 0 62 [.arr .u8 32 (List.replicate 32 0)], hB 1 83 [.arr .u32 64 a1], hB 2 85 [.arr .u32 8 [(1779033703 : Int), (3144134277 : Int), (1013904242 : Int), (2773480762 : Int), (1359893119 : Int), (2600822924 : Int), (528734635 : Int), (1541459225 : Int)]], hO 3 5 .u8 a3] [] (by kernel_rfl) trivial ?_
  refine q_k ?_
  refine tr_block ?_
  obtain ⟨m7, e63, h⟩ := bind_some h
  refine tr_fit [] [sO 2 (.ptr 0 0), sO 3 (.ptr 1 0), sO 4 (.ptr 2 0), sO 5 (.slc 3), sI 6 .i64 (0 : Int), hB 0 62 [.arr .u8 32 (List.replicate 32 0)], hB 1 83 [.arr .u32 64 a1], hB 2 85 [.arr .u32 8 [(1779033703 : Int), (3144134277 : Int), (1013904242 : Int), (2773480762 : Int), (1359893119 : Int), (2600822924 : Int), (528734635 : Int), (1541459225 : Int)]], hO 3 5 .u8 a3] [(0, .blk 62 [.arr .u8 32 (List.replicate 32 0)]), (1, .blk 83 [.arr .u32 64 a1]), (2, .blk 85 [.arr .u32 8 [(1779033703 : Int), (3144134277 : Int), (1013904242 : Int), (2773480762 : Int), (1359893119 : Int), (2600822924 : Int), (528734635 : Int), (1541459225 : Int)]]), (3, .own 5 .u8 a3)] (by kernel_rfl) (by kernel_rfl) (by kernel_rfl) rfl ⟨.blk (by kernel_rfl) (by kernel_rfl), .blk (by kernel_rfl) (by kernel_rfl), .blk (by kernel_rfl) (by kernel_rfl), .own (by kernel_rfl), trivial⟩ (by kernel_rfl) ?_
  refine tr_loop_fuel (id := 0) (α := List Int × Int) (β := List Int) (fun z => [sO 2 (.ptr 0 0), sO 3 (.ptr 1 0), sO 4 (.ptr 2 0), sO 5 (.slc 3), sI 6 .i64 z.2, hB 0 62 [.arr .u8 32 (List.replicate 32 0)], hB 1 83 [.arr .u32 64 a1], hB 2 85 [.arr .u32 8 z.1], hO 3 5 .u8 a3]) (fun z => [sO 2 (.ptr 0 0), sO 4 (.ptr 2 0), hB 0 62 [.arr .u8 32 (List.replicate 32 0)], hB 2 85 [.arr .u32 8 z]]) (fun k z => ref01_Sum256_l0 a1 a3 k z.1 z.2) m7 (fun _ => rfl) (((↑(List.length a3) : Int) - (0 : Int)).toNat + 1) ([(1779033703 : Int), (3144134277 : Int), (1013904242 : Int), (2773480762 : Int), (1359893119 : Int), (2600822924 : Int), (528734635 : Int), (1541459225 : Int)], (0 : Int)) e63 ?_ ?_
  · skip
    replace h : ((ref01_Sum256_l5 m7 (((32 : Int) - (0 : Int)).toNat + 1) (List.replicate 32 0) (0 : Int)).bind (fun m66 => some m66)) = _ := h
    refine q_b_this ?_
    refine q_k ?_
    refine tr_seq ?_
    refine tr_reg hT [(0, .key 6)] [.s 2, .s 4, .s 19, .h 0, .h 2, .h 6] [sO 2 (.ptr 0 0), sO 4 (.ptr 2 0), sO 19 (.ptr 6 0), hB 0 62 [.arr .u8 32 (List.replicate 32 0)], hB 2 85 [.arr .u32 8 m7], hB 6 62 [.arr .u8 32 (List.replicate 32 0)]] [] (by kernel_rfl) trivial ?_
    refine q_k ?_
    refine tr_seq ?_
    refine tr_seq ?_
    refine tr_reg hT [] [.s 2, .s 4, .s 19, .s 20, .h 0, .h 2, .h 6] [sO 2 (.ptr 0 0), sO 4 (.ptr 2 0), sO 19 (.ptr 6 0), sI 20 .i64 (0 : Int), hB 0 62 [.arr .u8 32 (List.replicate 32 0)], hB 2 85 [.arr .u32 8 m7], hB 6 62 [.arr .u8 32 (List.replicate 32 0)]] [] (by kernel_rfl) trivial ?_
    refine q_k ?_
    refine tr_block ?_
    obtain ⟨m66, e71, h⟩ := bind_some h
    refine tr_fit [] [sO 2 (.ptr 0 0), sO 4 (.ptr 2 0), sO 19 (.ptr 6 0), sI 20 .i64 (0 : Int), hB 0 62 [.arr .u8 32 (List.replicate 32 0)], hB 2 85 [.arr .u32 8 m7], hB 6 62 [.arr .u8 32 (List.replicate 32 0)]] [(0, .blk 62 [.arr .u8 32 (List.replicate 32 0)]), (2, .blk 85 [.arr .u32 8 m7]), (6, .blk 62 [.arr .u8 32 (List.replicate 32 0)])] (by kernel_rfl) (by kernel_rfl) (by kernel_rfl) rfl ⟨.blk (by kernel_rfl) (by kernel_rfl), .blk (by kernel_rfl) (by kernel_rfl), .blk (by kernel_rfl) (by kernel_rfl), trivial⟩ (by kernel_rfl) ?_
    refine tr_loop_fuel (id := 10) (α := List Int × Int) (β := List Int) (fun z => [sO 2 (.ptr 0 0), sO 4 (.ptr 2 0), sO 19 (.ptr 6 0), sI 20 .i64 z.2, hB 0 62 [.arr .u8 32 (List.replicate 32 0)], hB 2 85 [.arr .u32 8 m7], hB 6 62 [.arr .u8 32 z.1]]) (fun z => [sO 2 (.ptr 0 0), sO 19 (.ptr 6 0), hB 0 62 [.arr .u8 32 (List.replicate 32 0)], hB 6 62 [.arr .u8 32 z]]) (fun k z => ref01_Sum256_l5 m7 k z.1 z.2) m66 (fun _ => rfl) (((32 : Int) - (0 : Int)).toNat + 1) ((List.replicate 32 0), (0 : Int)) e71 ?_ ?_
    · skip
      replace h : (some m66) = _ := h
      refine q_b_this ?_
      refine q_k ?_
      refine tr_seq ?_
      refine tr_reg hT [] [.s 2, .h 0] [sO 2 (.ptr 0 0), hB 0 62 [.arr .u8 32 m66]] [] (by kernel_rfl) trivial ?_
      refine q_k ?_
      refine tr_ret ?_
      have h := Option.some.inj h
      subst h
      refine q_less [.s 2, .h 0] [sO 2 (.ptr 0 0), hB 0 62 [.arr .u8 32 m66]] (by kernel_rfl) ?_
      exact q_ret1 hT (.v (.agg [.arr .u8 32 m66])) [] (by kernel_rfl) (by kernel_rfl) (by kernel_rfl)
    · clear h e71
      intro k ih5 hx5 z h
      obtain ⟨m64, i65⟩ := z
      replace h : (if (decide (i65 < (32 : Int))) = true then if 0 ≤ (IntKind.i64.wrap (i65.tdiv (4 : Int))) ∧ (IntKind.i64.wrap (i65.tdiv (4 : Int))) < ((8 : Nat) : Int) then if 0 ≤ (IntKind.u64.wrap (IntKind.i64.wrap ((24 : Int) - (IntKind.i64.wrap ((8 : Int) * (i65.tmod (4 : Int))))))) then if 0 ≤ i65 ∧ i65 < ((32 : Nat) : Int) then ref01_Sum256_l5 m7 k (m64.set i65.toNat (IntKind.u8.wrap (shr .u32 (m7.getD (IntKind.i64.wrap (i65.tdiv (4 : Int))).toNat 0) (IntKind.u64.wrap (IntKind.i64.wrap ((24 : Int) - (IntKind.i64.wrap ((8 : Int) * (i65.tmod (4 : Int)))))))))) (IntKind.i64.wrap (i65 + (1 : Int))) else none else none else none else some m64) = _ := h
      refine tr_seq ?_
      refine tr_seq ?_
      refine tr_reg hT [] [.s 2, .s 4, .s 19, .s 20, .s 191, .h 0, .h 2, .h 6] [sO 2 (.ptr 0 0), sO 4 (.ptr 2 0), sO 19 (.ptr 6 0), sI 20 .i64 i65, sB 191 (decide (i65 < (32 : Int))), hB 0 62 [.arr .u8 32 (List.replicate 32 0)], hB 2 85 [.arr .u32 8 m7], hB 6 62 [.arr .u8 32 m64]] [] (by kernel_rfl) trivial ?_
      refine q_k ?_
      rcases ite_split h with ⟨hc67, h⟩ | ⟨hc67, h⟩
      · refine tr_cond_t (decide (i65 < (32 : Int))) (by kernel_rfl) hc67 ?_
        refine tr_skip ?_
        refine q_k ?_
        refine tr_seq ?_
        refine tr_block ?_
        obtain ⟨hn68, h⟩ := ite_some h
        obtain ⟨hn69, h⟩ := ite_some h
        obtain ⟨hn70, h⟩ := ite_some h
        refine tr_reg hT [] [.s 2, .s 4, .s 19, .s 20, .h 0, .h 2, .h 6] [sO 2 (.ptr 0 0), sO 4 (.ptr 2 0), sO 19 (.ptr 6 0), sI 20 .i64 i65, hB 0 62 [.arr .u8 32 (List.replicate 32 0)], hB 2 85 [.arr .u32 8 m7], hB 6 62 [.arr .u8 32 (m64.set i65.toNat (IntKind.u8.wrap (shr .u32 (m7.getD (IntKind.i64.wrap (i65.tdiv (4 : Int))).toNat 0) (IntKind.u64.wrap (IntKind.i64.wrap ((24 : Int) - (IntKind.i64.wrap ((8 : Int) * (i65.tmod (4 : Int))))))))))]] [(4 : Int) ≠ 0, 0 ≤ (IntKind.i64.wrap (i65.tdiv (4 : Int))) ∧ (IntKind.i64.wrap (i65.tdiv (4 : Int))) < ((8 : Nat) : Int), (4 : Int) ≠ 0, 0 ≤ (IntKind.u64.wrap (IntKind.i64.wrap ((24 : Int) - (IntKind.i64.wrap ((8 : Int) * (i65.tmod (4 : Int))))))), 0 ≤ i65 ∧ i65 < ((32 : Nat) : Int)] (by kernel_rfl) (hcons (by decide) (hcons hn68 (hcons (by decide) (hcons hn69 (hone hn70))))) ?_
        refine q_b 11 ?_
        refine q_k ?_
        refine tr_reg hT [] [.s 2, .s 4, .s 19, .s 20, .h 0, .h 2, .h 6] [sO 2 (.ptr 0 0), sO 4 (.ptr 2 0), sO 19 (.ptr 6 0), sI 20 .i64 (IntKind.i64.wrap (i65 + (1 : Int))), hB 0 62 [.arr .u8 32 (List.replicate 32 0)], hB 2 85 [.arr .u32 8 m7], hB 6 62 [.arr .u8 32 (m64.set i65.toNat (IntKind.u8.wrap (shr .u32 (m7.getD (IntKind.i64.wrap (i65.tdiv (4 : Int))).toNat 0) (IntKind.u64.wrap (IntKind.i64.wrap ((24 : Int) - (IntKind.i64.wrap ((8 : Int) * (i65.tmod (4 : Int))))))))))]] [] (by kernel_rfl) trivial ?_
        refine q_kr ?_
        exact trR_less [.s 2, .s 4, .s 19, .s 20, .h 0, .h 2, .h 6] [sO 2 (.ptr 0 0), sO 4 (.ptr 2 0), sO 19 (.ptr 6 0), sI 20 .i64 (IntKind.i64.wrap (i65 + (1 : Int))), hB 0 62 [.arr .u8 32 (List.replicate 32 0)], hB 2 85 [.arr .u32 8 m7], hB 6 62 [.arr .u8 32 (m64.set i65.toNat (IntKind.u8.wrap (shr .u32 (m7.getD (IntKind.i64.wrap (i65.tdiv (4 : Int))).toNat 0) (IntKind.u64.wrap (IntKind.i64.wrap ((24 : Int) - (IntKind.i64.wrap ((8 : Int) * (i65.tmod (4 : Int))))))))))]] (by kernel_rfl) (ih5 ((m64.set i65.toNat (IntKind.u8.wrap (shr .u32 (m7.getD (IntKind.i64.wrap (i65.tdiv (4 : Int))).toNat 0) (IntKind.u64.wrap (IntKind.i64.wrap ((24 : Int) - (IntKind.i64.wrap ((8 : Int) * (i65.tmod (4 : Int)))))))))), (IntKind.i64.wrap (i65 + (1 : Int)))) h)
      · refine tr_cond_f (decide (i65 < (32 : Int))) (by kernel_rfl) hc67 ?_
        refine tr_exit ?_
        refine q_k_exit ?_
        refine q_kr_exit ?_
        have h := Option.some.inj h
        subst h
        exact q_less [.s 2, .s 19, .h 0, .h 6] [sO 2 (.ptr 0 0), sO 19 (.ptr 6 0), hB 0 62 [.arr .u8 32 (List.replicate 32 0)], hB 6 62 [.arr .u8 32 m64]] (by kernel_rfl) hx5
  · clear h e63
    intro k ih0 hx0 z h
    obtain ⟨m5, at6⟩ := z
    replace h : (if (decide (at6 < (↑(List.length a3) : Int))) = true then (ref01_Sum256_l1 a1 a3 m5 at6 (((64 : Int) - (0 : Int)).toNat + 1) (List.replicate 64 0) (0 : Int)).bind (fun m11 => (ref01_Sum256_l3 a1 a3 m5 at6 m11 (((64 : Int) - (0 : Int)).toNat + 1) m5 (0 : Int)).bind (fun m38 => (ref01_Sum256_l4 a1 a3 at6 m38 (((8 : Int) - (0 : Int)).toNat + 1) m5 (0 : Int)).bind (fun m57 => ref01_Sum256_l0 a1 a3 k m57 (IntKind.i64.wrap (at6 + (64 : Int)))))) else some m5) = _ := h
    refine tr_seq ?_
    refine tr_seq ?_
    refine tr_reg hT [] [.s 2, .s 3, .s 4, .s 5, .s 6, .s 28, .h 0, .h 1, .h 2, .h 3] [sO 2 (.ptr 0 0), sO 3 (.ptr 1 0), sO 4 (.ptr 2 0), sO 5 (.slc 3), sI 6 .i64 at6, sB 28 (decide (at6 < (↑(List.length a3) : Int))), hB 0 62 [.arr .u8 32 (List.replicate 32 0)], hB 1 83 [.arr .u32 64 a1], hB 2 85 [.arr .u32 8 m5], hO 3 5 .u8 a3] [] (by kernel_rfl) trivial ?_
    refine q_k ?_
    rcases ite_split h with ⟨hc8, h⟩ | ⟨hc8, h⟩
    · refine tr_cond_t (decide (at6 < (↑(List.length a3) : Int))) (by kernel_rfl) hc8 ?_
      refine tr_skip ?_
      refine q_k ?_
      refine tr_seq ?_
      refine tr_block ?_
      refine tr_seq ?_
      refine tr_reg hT [(0, .key 4)] [.s 2, .s 3, .s 4, .s 5, .s 6, .s 7, .h 0, .h 1, .h 2, .h 3, .h 4] [sO 2 (.ptr 0 0), sO 3 (.ptr 1 0), sO 4 (.ptr 2 0), sO 5 (.slc 3), sI 6 .i64 at6, sO 7 (.ptr 4 0), hB 0 62 [.arr .u8 32 (List.replicate 32 0)], hB 1 83 [.arr .u32 64 a1], hB 2 85 [.arr .u32 8 m5], hO 3 5 .u8 a3, hB 4 83 [.arr .u32 64 (List.replicate 64 0)]] [] (by kernel_rfl) trivial ?_
      refine q_k ?_
      refine tr_seq ?_
      refine tr_seq ?_
      refine tr_reg hT [] [.s 2, .s 3, .s 4, .s 5, .s 6, .s 7, .s 8, .h 0, .h 1, .h 2, .h 3, .h 4] [sO 2 (.ptr 0 0), sO 3 (.ptr 1 0), sO 4 (.ptr 2 0), sO 5 (.slc 3), sI 6 .i64 at6, sO 7 (.ptr 4 0), sI 8 .i64 (0 : Int), hB 0 62 [.arr .u8 32 (List.replicate 32 0)], hB 1 83 [.arr .u32 64 a1], hB 2 85 [.arr .u32 8 m5], hO 3 5 .u8 a3, hB 4 83 [.arr .u32 64 (List.replicate 64 0)]] [] (by kernel_rfl) trivial ?_
      refine q_k ?_
      refine tr_block ?_
      obtain ⟨m11, e35, h⟩ := bind_some h
      refine tr_fit [] [sO 2 (.ptr 0 0), sO 3 (.ptr 1 0), sO 4 (.ptr 2 0), sO 5 (.slc 3), sI 6 .i64 at6, sO 7 (.ptr 4 0), sI 8 .i64 (0 : Int), hB 0 62 [.arr .u8 32 (List.replicate 32 0)], hB 1 83 [.arr .u32 64 a1], hB 2 85 [.arr .u32 8 m5], hO 3 5 .u8 a3, hB 4 83 [.arr .u32 64 (List.replicate 64 0)]] [(0, .blk 62 [.arr .u8 32 (List.replicate 32 0)]), (1, .blk 83 [.arr .u32 64 a1]), (2, .blk 85 [.arr .u32 8 m5]), (3, .own 5 .u8 a3), (4, .blk 83 [.arr .u32 64 (List.replicate 64 0)])] (by kernel_rfl) (by kernel_rfl) (by kernel_rfl) rfl ⟨.blk (by kernel_rfl) (by kernel_rfl), .blk (by kernel_rfl) (by kernel_rfl), .blk (by kernel_rfl) (by kernel_rfl), .own (by kernel_rfl), .blk (by kernel_rfl) (by kernel_rfl), trivial⟩ (by kernel_rfl) ?_
      refine tr_loop_fuel (id := 2) (α := List Int × Int) (β := List Int) (fun z => [sO 2 (.ptr 0 0), sO 3 (.ptr 1 0), sO 4 (.ptr 2 0), sO 5 (.slc 3), sI 6 .i64 at6, sO 7 (.ptr 4 0), sI 8 .i64 z.2, hB 0 62 [.arr .u8 32 (List.replicate 32 0)], hB 1 83 [.arr .u32 64 a1], hB 2 85 [.arr .u32 8 m5], hO 3 5 .u8 a3, hB 4 83 [.arr .u32 64 z.1]]) (fun z => [sO 2 (.ptr 0 0), sO 3 (.ptr 1 0), sO 4 (.ptr 2 0), sO 5 (.slc 3), sI 6 .i64 at6, sO 7 (.ptr 4 0), hB 0 62 [.arr .u8 32 (List.replicate 32 0)], hB 1 83 [.arr .u32 64 a1], hB 2 85 [.arr .u32 8 m5], hO 3 5 .u8 a3, hB 4 83 [.arr .u32 64 z]]) (fun k z => ref01_Sum256_l1 a1 a3 m5 at6 k z.1 z.2) m11 (fun _ => rfl) (((64 : Int) - (0 : Int)).toNat + 1) ((List.replicate 64 0), (0 : Int)) e35 ?_ ?_
      · skip
        replace h : ((ref01_Sum256_l3 a1 a3 m5 at6 m11 (((64 : Int) - (0 : Int)).toNat + 1) m5 (0 : Int)).bind (fun m38 => (ref01_Sum256_l4 a1 a3 at6 m38 (((8 : Int) - (0 : Int)).toNat + 1) m5 (0 : Int)).bind (fun m57 => ref01_Sum256_l0 a1 a3 k m57 (IntKind.i64.wrap (at6 + (64 : Int)))))) = _ := h
        refine q_b_this ?_
        refine q_k ?_
        refine tr_seq ?_
        refine tr_reg hT [(1, .key 5)] [.s 2, .s 3, .s 4, .s 5, .s 6, .s 7, .s 12, .h 0, .h 1, .h 2, .h 3, .h 4, .h 5] [sO 2 (.ptr 0 0), sO 3 (.ptr 1 0), sO 4 (.ptr 2 0), sO 5 (.slc 3), sI 6 .i64 at6, sO 7 (.ptr 4 0), sO 12 (.ptr 5 0), hB 0 62 [.arr .u8 32 (List.replicate 32 0)], hB 1 83 [.arr .u32 64 a1], hB 2 85 [.arr .u32 8 m5], hO 3 5 .u8 a3, hB 4 83 [.arr .u32 64 m11], hB 5 85 [.arr .u32 8 m5]] [] (by kernel_rfl) trivial ?_
        refine q_k ?_
        refine tr_seq ?_
        refine tr_seq ?_
        refine tr_reg hT [] [.s 2, .s 3, .s 4, .s 5, .s 6, .s 7, .s 12, .s 13, .h 0, .h 1, .h 2, .h 3, .h 4, .h 5] [sO 2 (.ptr 0 0), sO 3 (.ptr 1 0), sO 4 (.ptr 2 0), sO 5 (.slc 3), sI 6 .i64 at6, sO 7 (.ptr 4 0), sO 12 (.ptr 5 0), sI 13 .i64 (0 : Int), hB 0 62 [.arr .u8 32 (List.replicate 32 0)], hB 1 83 [.arr .u32 64 a1], hB 2 85 [.arr .u32 8 m5], hO 3 5 .u8 a3, hB 4 83 [.arr .u32 64 m11], hB 5 85 [.arr .u32 8 m5]] [] (by kernel_rfl) trivial ?_
        refine q_k ?_
        refine tr_block ?_
        obtain ⟨m38, e54, h⟩ := bind_some h
        refine tr_fit [] [sO 2 (.ptr 0 0), sO 3 (.ptr 1 0), sO 4 (.ptr 2 0), sO 5 (.slc 3), sI 6 .i64 at6, sO 7 (.ptr 4 0), sO 12 (.ptr 5 0), sI 13 .i64 (0 : Int), hB 0 62 [.arr .u8 32 (List.replicate 32 0)], hB 1 83 [.arr .u32 64 a1], hB 2 85 [.arr .u32 8 m5], hO 3 5 .u8 a3, hB 4 83 [.arr .u32 64 m11], hB 5 85 [.arr .u32 8 m5]] [(0, .blk 62 [.arr .u8 32 (List.replicate 32 0)]), (1, .blk 83 [.arr .u32 64 a1]), (2, .blk 85 [.arr .u32 8 m5]), (3, .own 5 .u8 a3), (4, .blk 83 [.arr .u32 64 m11]), (5, .blk 85 [.arr .u32 8 m5])] (by kernel_rfl) (by kernel_rfl) (by kernel_rfl) rfl ⟨.blk (by kernel_rfl) (by kernel_rfl), .blk (by kernel_rfl) (by kernel_rfl), .blk (by kernel_rfl) (by kernel_rfl), .own (by kernel_rfl), .blk (by kernel_rfl) (by kernel_rfl), .blk (by kernel_rfl) (by kernel_rfl), trivial⟩ (by kernel_rfl) ?_
        refine tr_loop_fuel (id := 6) (α := List Int × Int) (β := List Int) (fun z => [sO 2 (.ptr 0 0), sO 3 (.ptr 1 0), sO 4 (.ptr 2 0), sO 5 (.slc 3), sI 6 .i64 at6, sO 7 (.ptr 4 0), sO 12 (.ptr 5 0), sI 13 .i64 z.2, hB 0 62 [.arr .u8 32 (List.replicate 32 0)], hB 1 83 [.arr .u32 64 a1], hB 2 85 [.arr .u32 8 m5], hO 3 5 .u8 a3, hB 4 83 [.arr .u32 64 m11], hB 5 85 [.arr .u32 8 z.1]]) (fun z => [sO 2 (.ptr 0 0), sO 3 (.ptr 1 0), sO 4 (.ptr 2 0), sO 5 (.slc 3), sI 6 .i64 at6, sO 12 (.ptr 5 0), hB 0 62 [.arr .u8 32 (List.replicate 32 0)], hB 1 83 [.arr .u32 64 a1], hB 2 85 [.arr .u32 8 m5], hO 3 5 .u8 a3, hB 5 85 [.arr .u32 8 z]]) (fun k z => ref01_Sum256_l3 a1 a3 m5 at6 m11 k z.1 z.2) m38 (fun _ => rfl) (((64 : Int) - (0 : Int)).toNat + 1) (m5, (0 : Int)) e54 ?_ ?_
        · skip
          replace h : ((ref01_Sum256_l4 a1 a3 at6 m38 (((8 : Int) - (0 : Int)).toNat + 1) m5 (0 : Int)).bind (fun m57 => ref01_Sum256_l0 a1 a3 k m57 (IntKind.i64.wrap (at6 + (64 : Int))))) = _ := h
          refine q_b_this ?_
          refine q_k ?_
          refine tr_seq ?_
          refine tr_reg hT [] [.s 2, .s 3, .s 4, .s 5, .s 6, .s 12, .s 18, .h 0, .h 1, .h 2, .h 3, .h 5] [sO 2 (.ptr 0 0), sO 3 (.ptr 1 0), sO 4 (.ptr 2 0), sO 5 (.slc 3), sI 6 .i64 at6, sO 12 (.ptr 5 0), sI 18 .i64 (0 : Int), hB 0 62 [.arr .u8 32 (List.replicate 32 0)], hB 1 83 [.arr .u32 64 a1], hB 2 85 [.arr .u32 8 m5], hO 3 5 .u8 a3, hB 5 85 [.arr .u32 8 m38]] [] (by kernel_rfl) trivial ?_
          refine q_k ?_
          refine tr_block ?_
          obtain ⟨m57, e62, h⟩ := bind_some h
          refine tr_fit [] [sO 2 (.ptr 0 0), sO 3 (.ptr 1 0), sO 4 (.ptr 2 0), sO 5 (.slc 3), sI 6 .i64 at6, sO 12 (.ptr 5 0), sI 18 .i64 (0 : Int), hB 0 62 [.arr .u8 32 (List.replicate 32 0)], hB 1 83 [.arr .u32 64 a1], hB 2 85 [.arr .u32 8 m5], hO 3 5 .u8 a3, hB 5 85 [.arr .u32 8 m38]] [(0, .blk 62 [.arr .u8 32 (List.replicate 32 0)]), (1, .blk 83 [.arr .u32 64 a1]), (2, .blk 85 [.arr .u32 8 m5]), (3, .own 5 .u8 a3), (5, .blk 85 [.arr .u32 8 m38])] (by kernel_rfl) (by kernel_rfl) (by kernel_rfl) rfl ⟨.blk (by kernel_rfl) (by kernel_rfl), .blk (by kernel_rfl) (by kernel_rfl), .blk (by kernel_rfl) (by kernel_rfl), .own (by kernel_rfl), .blk (by kernel_rfl) (by kernel_rfl), trivial⟩ (by kernel_rfl) ?_
          refine tr_loop_fuel (id := 8) (α := List Int × Int) (β := List Int) (fun z => [sO 2 (.ptr 0 0), sO 3 (.ptr 1 0), sO 4 (.ptr 2 0), sO 5 (.slc 3), sI 6 .i64 at6, sO 12 (.ptr 5 0), sI 18 .i64 z.2, hB 0 62 [.arr .u8 32 (List.replicate 32 0)], hB 1 83 [.arr .u32 64 a1], hB 2 85 [.arr .u32 8 z.1], hO 3 5 .u8 a3, hB 5 85 [.arr .u32 8 m38]]) (fun z => [sO 2 (.ptr 0 0), sO 3 (.ptr 1 0), sO 4 (.ptr 2 0), sO 5 (.slc 3), sI 6 .i64 at6, hB 0 62 [.arr .u8 32 (List.replicate 32 0)], hB 1 83 [.arr .u32 64 a1], hB 2 85 [.arr .u32 8 z], hO 3 5 .u8 a3]) (fun k z => ref01_Sum256_l4 a1 a3 at6 m38 k z.1 z.2) m57 (fun _ => rfl) (((8 : Int) - (0 : Int)).toNat + 1) (m5, (0 : Int)) e62 ?_ ?_
          · skip
            replace h : (ref01_Sum256_l0 a1 a3 k m57 (IntKind.i64.wrap (at6 + (64 : Int)))) = _ := h
            refine q_b_this ?_
            refine q_b 1 ?_
            refine q_k ?_
            refine tr_reg hT [] [.s 2, .s 3, .s 4, .s 5, .s 6, .h 0, .h 1, .h 2, .h 3] [sO 2 (.ptr 0 0), sO 3 (.ptr 1 0), sO 4 (.ptr 2 0), sO 5 (.slc 3), sI 6 .i64 (IntKind.i64.wrap (at6 + (64 : Int))), hB 0 62 [.arr .u8 32 (List.replicate 32 0)], hB 1 83 [.arr .u32 64 a1], hB 2 85 [.arr .u32 8 m57], hO 3 5 .u8 a3] [] (by kernel_rfl) trivial ?_
            refine q_kr ?_
            exact trR_less [.s 2, .s 3, .s 4, .s 5, .s 6, .h 0, .h 1, .h 2, .h 3] [sO 2 (.ptr 0 0), sO 3 (.ptr 1 0), sO 4 (.ptr 2 0), sO 5 (.slc 3), sI 6 .i64 (IntKind.i64.wrap (at6 + (64 : Int))), hB 0 62 [.arr .u8 32 (List.replicate 32 0)], hB 1 83 [.arr .u32 64 a1], hB 2 85 [.arr .u32 8 m57], hO 3 5 .u8 a3] (by kernel_rfl) (ih0 (m57, (IntKind.i64.wrap (at6 + (64 : Int)))) h)
          · clear h e62
            intro k ih4 hx4 z h
            obtain ⟨m55, i56⟩ := z
            replace h : (if (decide (i56 < (8 : Int))) = true then if 0 ≤ i56 ∧ i56 < ((8 : Nat) : Int) then if 0 ≤ i56 ∧ i56 < ((8 : Nat) : Int) then if 0 ≤ i56 ∧ i56 < ((8 : Nat) : Int) then ref01_Sum256_l4 a1 a3 at6 m38 k (m55.set i56.toNat (IntKind.u32.wrap ((m55.getD i56.toNat 0) + (m38.getD i56.toNat 0)))) (IntKind.i64.wrap (i56 + (1 : Int))) else none else none else none else some m55) = _ := h
            refine tr_seq ?_
            refine tr_seq ?_
            refine tr_reg hT [] [.s 2, .s 3, .s 4, .s 5, .s 6, .s 12, .s 18, .s 179, .h 0, .h 1, .h 2, .h 3, .h 5] [sO 2 (.ptr 0 0), sO 3 (.ptr 1 0), sO 4 (.ptr 2 0), sO 5 (.slc 3), sI 6 .i64 at6, sO 12 (.ptr 5 0), sI 18 .i64 i56, sB 179 (decide (i56 < (8 : Int))), hB 0 62 [.arr .u8 32 (List.replicate 32 0)], hB 1 83 [.arr .u32 64 a1], hB 2 85 [.arr .u32 8 m55], hO 3 5 .u8 a3, hB 5 85 [.arr .u32 8 m38]] [] (by kernel_rfl) trivial ?_
            refine q_k ?_
            rcases ite_split h with ⟨hc58, h⟩ | ⟨hc58, h⟩
            · refine tr_cond_t (decide (i56 < (8 : Int))) (by kernel_rfl) hc58 ?_
              refine tr_skip ?_
              refine q_k ?_
              refine tr_seq ?_
              refine tr_block ?_
              obtain ⟨hn59, h⟩ := ite_some h
              obtain ⟨hn60, h⟩ := ite_some h
              obtain ⟨hn61, h⟩ := ite_some h
              refine tr_regd hT hM [] [.s 2, .s 3, .s 4, .s 5, .s 6, .s 12, .s 18, .h 0, .h 1, .h 2, .h 3, .h 5] [sO 2 (.ptr 0 0), sO 3 (.ptr 1 0), sO 4 (.ptr 2 0), sO 5 (.slc 3), sI 6 .i64 at6, sO 12 (.ptr 5 0), sI 18 .i64 i56, hB 0 62 [.arr .u8 32 (List.replicate 32 0)], hB 1 83 [.arr .u32 64 a1], hB 2 85 [.arr .u32 8 (m55.set i56.toNat (IntKind.u32.wrap ((m55.getD i56.toNat 0) + (m38.getD i56.toNat 0))))], hO 3 5 .u8 a3, hB 5 85 [.arr .u32 8 m38]] [0 ≤ i56 ∧ i56 < ((8 : Nat) : Int), 0 ≤ i56 ∧ i56 < ((8 : Nat) : Int), 0 ≤ i56 ∧ i56 < ((8 : Nat) : Int)] (by kernel_rfl) (hcons hn59 (hcons hn60 (hone hn61))) ?_
              refine q_b 9 ?_
              refine q_k ?_
              refine tr_reg hT [] [.s 2, .s 3, .s 4, .s 5, .s 6, .s 12, .s 18, .h 0, .h 1, .h 2, .h 3, .h 5] [sO 2 (.ptr 0 0), sO 3 (.ptr 1 0), sO 4 (.ptr 2 0), sO 5 (.slc 3), sI 6 .i64 at6, sO 12 (.ptr 5 0), sI 18 .i64 (IntKind.i64.wrap (i56 + (1 : Int))), hB 0 62 [.arr .u8 32 (List.replicate 32 0)], hB 1 83 [.arr .u32 64 a1], hB 2 85 [.arr .u32 8 (m55.set i56.toNat (IntKind.u32.wrap ((m55.getD i56.toNat 0) + (m38.getD i56.toNat 0))))], hO 3 5 .u8 a3, hB 5 85 [.arr .u32 8 m38]] [] (by kernel_rfl) trivial ?_
              refine q_kr ?_
              exact trR_less [.s 2, .s 3, .s 4, .s 5, .s 6, .s 12, .s 18, .h 0, .h 1, .h 2, .h 3, .h 5] [sO 2 (.ptr 0 0), sO 3 (.ptr 1 0), sO 4 (.ptr 2 0), sO 5 (.slc 3), sI 6 .i64 at6, sO 12 (.ptr 5 0), sI 18 .i64 (IntKind.i64.wrap (i56 + (1 : Int))), hB 0 62 [.arr .u8 32 (List.replicate 32 0)], hB 1 83 [.arr .u32 64 a1], hB 2 85 [.arr .u32 8 (m55.set i56.toNat (IntKind.u32.wrap ((m55.getD i56.toNat 0) + (m38.getD i56.toNat 0))))], hO 3 5 .u8 a3, hB 5 85 [.arr .u32 8 m38]] (by kernel_rfl) (ih4 ((m55.set i56.toNat (IntKind.u32.wrap ((m55.getD i56.toNat 0) + (m38.getD i56.toNat 0)))), (IntKind.i64.wrap (i56 + (1 : Int)))) h)
            · refine tr_cond_f (decide (i56 < (8 : Int))) (by kernel_rfl) hc58 ?_
              refine tr_exit ?_
              refine q_k_exit ?_
              refine q_kr_exit ?_
              have h := Option.some.inj h
              subst h
              exact q_less [.s 2, .s 3, .s 4, .s 5, .s 6, .h 0, .h 1, .h 2, .h 3] [sO 2 (.ptr 0 0), sO 3 (.ptr 1 0), sO 4 (.ptr 2 0), sO 5 (.slc 3), sI 6 .i64 at6, hB 0 62 [.arr .u8 32 (List.replicate 32 0)], hB 1 83 [.arr .u32 64 a1], hB 2 85 [.arr .u32 8 m55], hO 3 5 .u8 a3] (by kernel_rfl) hx4
        · clear h e54
          intro k ih3 hx3 z h
          obtain ⟨m36, t37⟩ := z
          replace h : (if (decide (t37 < (64 : Int))) = true then (ref01_rot32 (m36.getD 4 0) (6 : Int)).bind (fun r40 => (ref01_rot32 (m36.getD 4 0) (11 : Int)).bind (fun r42 => (ref01_rot32 (m36.getD 4 0) (25 : Int)).bind (fun r44 => if 0 ≤ t37 ∧ t37 < ((64 : Nat) : Int) then if 0 ≤ t37 ∧ t37 < ((64 : Nat) : Int) then (ref01_rot32 (m36.getD 0 0) (2 : Int)).bind (fun r48 => (ref01_rot32 (m36.getD 0 0) (13 : Int)).bind (fun r50 => (ref01_rot32 (m36.getD 0 0) (22 : Int)).bind (fun r52 => ref01_Sum256_l3 a1 a3 m5 at6 m11 k [(IntKind.u32.wrap ((IntKind.u32.wrap ((IntKind.u32.wrap ((IntKind.u32.wrap ((IntKind.u32.wrap ((m36.getD 7 0) + (bxor .u32 (bxor .u32 r40 r42) r44))) + (bxor .u32 (band .u32 (m36.getD 4 0) (m36.getD 5 0)) (band .u32 (bxor .u32 (if IntKind.u32.signed then -1 else IntKind.u32.max) (m36.getD 4 0)) (m36.getD 6 0))))) + (a1.getD t37.toNat 0))) + (m11.getD t37.toNat 0))) + (IntKind.u32.wrap ((bxor .u32 (bxor .u32 r48 r50) r52) + (bxor .u32 (bxor .u32 (band .u32 (m36.getD 0 0) (m36.getD 1 0)) (band .u32 (m36.getD 0 0) (m36.getD 2 0))) (band .u32 (m36.getD 1 0) (m36.getD 2 0))))))), (m36.getD 0 0), (m36.getD 1 0), (m36.getD 2 0), (IntKind.u32.wrap ((m36.getD 3 0) + (IntKind.u32.wrap ((IntKind.u32.wrap ((IntKind.u32.wrap ((IntKind.u32.wrap ((m36.getD 7 0) + (bxor .u32 (bxor .u32 r40 r42) r44))) + (bxor .u32 (band .u32 (m36.getD 4 0) (m36.getD 5 0)) (band .u32 (bxor .u32 (if IntKind.u32.signed then -1 else IntKind.u32.max) (m36.getD 4 0)) (m36.getD 6 0))))) + (a1.getD t37.toNat 0))) + (m11.getD t37.toNat 0))))), (m36.getD 4 0), (m36.getD 5 0), (m36.getD 6 0)] (IntKind.i64.wrap (t37 + (1 : Int)))))) else none else none))) else some m36) = _ := h
          refine tr_seq ?_
          refine tr_seq ?_
          refine tr_reg hT [] [.s 2, .s 3, .s 4, .s 5, .s 6, .s 7, .s 12, .s 13, .s 97, .h 0, .h 1, .h 2, .h 3, .h 4, .h 5] [sO 2 (.ptr 0 0), sO 3 (.ptr 1 0), sO 4 (.ptr 2 0), sO 5 (.slc 3), sI 6 .i64 at6, sO 7 (.ptr 4 0), sO 12 (.ptr 5 0), sI 13 .i64 t37, sB 97 (decide (t37 < (64 : Int))), hB 0 62 [.arr .u8 32 (List.replicate 32 0)], hB 1 83 [.arr .u32 64 a1], hB 2 85 [.arr .u32 8 m5], hO 3 5 .u8 a3, hB 4 83 [.arr .u32 64 m11], hB 5 85 [.arr .u32 8 m36]] [] (by kernel_rfl) trivial ?_
          refine q_k ?_
          rcases ite_split h with ⟨hc39, h⟩ | ⟨hc39, h⟩
          · refine tr_cond_t (decide (t37 < (64 : Int))) (by kernel_rfl) hc39 ?_
            refine tr_skip ?_
            refine q_k ?_
            refine tr_seq ?_
            refine tr_block ?_
            refine tr_seq ?_
            refine tr_regd hT hM [] [.s 2, .s 3, .s 4, .s 5, .s 6, .s 7, .s 12, .s 13, .s 14, .s 15, .h 0, .h 1, .h 2, .h 3, .h 4, .h 5] [sO 2 (.ptr 0 0), sO 3 (.ptr 1 0), sO 4 (.ptr 2 0), sO 5 (.slc 3), sI 6 .i64 at6, sO 7 (.ptr 4 0), sO 12 (.ptr 5 0), sI 13 .i64 t37, sI 14 .u32 (m36.getD 0 0), sI 15 .u32 (m36.getD 4 0), hB 0 62 [.arr .u8 32 (List.replicate 32 0)], hB 1 83 [.arr .u32 64 a1], hB 2 85 [.arr .u32 8 m5], hO 3 5 .u8 a3, hB 4 83 [.arr .u32 64 m11], hB 5 85 [.arr .u32 8 m36]] [0 ≤ (0 : Int) ∧ (0 : Int) < ((8 : Nat) : Int), 0 ≤ (4 : Int) ∧ (4 : Int) < ((8 : Nat) : Int)] (by kernel_rfl) (hcons (by decide) (hone (by decide))) ?_
            refine q_k ?_
            refine tr_seq ?_
            obtain ⟨r40, e41, h⟩ := bind_some h
            obtain ⟨r42, e43, h⟩ := bind_some h
            obtain ⟨r44, e45, h⟩ := bind_some h
            obtain ⟨hn46, h⟩ := ite_some h
            obtain ⟨hn47, h⟩ := ite_some h
            refine tr_regd hT hM [(3, .call [] (.v (.one (.int .u32 r40))) []), (5, .call [] (.v (.one (.int .u32 r42))) []), (8, .call [] (.v (.one (.int .u32 r44))) [])] [.s 2, .s 3, .s 4, .s 5, .s 6, .s 7, .s 12, .s 13, .s 14, .s 16, .h 0, .h 1, .h 2, .h 3, .h 4, .h 5] [sO 2 (.ptr 0 0), sO 3 (.ptr 1 0), sO 4 (.ptr 2 0), sO 5 (.slc 3), sI 6 .i64 at6, sO 7 (.ptr 4 0), sO 12 (.ptr 5 0), sI 13 .i64 t37, sI 14 .u32 (m36.getD 0 0), sI 16 .u32 (IntKind.u32.wrap ((IntKind.u32.wrap ((IntKind.u32.wrap ((IntKind.u32.wrap ((m36.getD 7 0) + (bxor .u32 (bxor .u32 r40 r42) r44))) + (bxor .u32 (band .u32 (m36.getD 4 0) (m36.getD 5 0)) (band .u32 (bxor .u32 (if IntKind.u32.signed then -1 else IntKind.u32.max) (m36.getD 4 0)) (m36.getD 6 0))))) + (a1.getD t37.toNat 0))) + (m11.getD t37.toNat 0))), hB 0 62 [.arr .u8 32 (List.replicate 32 0)], hB 1 83 [.arr .u32 64 a1], hB 2 85 [.arr .u32 8 m5], hO 3 5 .u8 a3, hB 4 83 [.arr .u32 64 m11], hB 5 85 [.arr .u32 8 m36]] [0 ≤ (7 : Int) ∧ (7 : Int) < ((8 : Nat) : Int), CallOk P 62 [.v (.one (.int .u32 (m36.getD 4 0))), .v (.one (.int .i64 (6 : Int)))] [] (.v (.one (.int .u32 r40))) [], CallOk P 62 [.v (.one (.int .u32 (m36.getD 4 0))), .v (.one (.int .i64 (11 : Int)))] [] (.v (.one (.int .u32 r42))) [], CallOk P 62 [.v (.one (.int .u32 (m36.getD 4 0))), .v (.one (.int .i64 (25 : Int)))] [] (.v (.one (.int .u32 r44))) [], 0 ≤ (5 : Int) ∧ (5 : Int) < ((8 : Nat) : Int), 0 ≤ (6 : Int) ∧ (6 : Int) < ((8 : Nat) : Int), 0 ≤ t37 ∧ t37 < ((64 : Nat) : Int), 0 ≤ t37 ∧ t37 < ((64 : Nat) : Int)] (by kernel_rfl) (hcons (by decide) (hcons (ref01_rot32_ok (m36.getD 4 0) (6 : Int) r40 e41) (hcons (ref01_rot32_ok (m36.getD 4 0) (11 : Int) r42 e43) (hcons (ref01_rot32_ok (m36.getD 4 0) (25 : Int) r44 e45) (hcons (by decide) (hcons (by decide) (hcons hn46 (hone hn47)))))))) ?_
            refine q_k ?_
            refine tr_seq ?_
            obtain ⟨r48, e49, h⟩ := bind_some h
            obtain ⟨r50, e51, h⟩ := bind_some h
            obtain ⟨r52, e53, h⟩ := bind_some h
            refine tr_regd hT hM [(1, .call [] (.v (.one (.int .u32 r48))) []), (3, .call [] (.v (.one (.int .u32 r50))) []), (6, .call [] (.v (.one (.int .u32 r52))) [])] [.s 2, .s 3, .s 4, .s 5, .s 6, .s 7, .s 12, .s 13, .s 16, .s 17, .h 0, .h 1, .h 2, .h 3, .h 4, .h 5] [sO 2 (.ptr 0 0), sO 3 (.ptr 1 0), sO 4 (.ptr 2 0), sO 5 (.slc 3), sI 6 .i64 at6, sO 7 (.ptr 4 0), sO 12 (.ptr 5 0), sI 13 .i64 t37, sI 16 .u32 (IntKind.u32.wrap ((IntKind.u32.wrap ((IntKind.u32.wrap ((IntKind.u32.wrap ((m36.getD 7 0) + (bxor .u32 (bxor .u32 r40 r42) r44))) + (bxor .u32 (band .u32 (m36.getD 4 0) (m36.getD 5 0)) (band .u32 (bxor .u32 (if IntKind.u32.signed then -1 else IntKind.u32.max) (m36.getD 4 0)) (m36.getD 6 0))))) + (a1.getD t37.toNat 0))) + (m11.getD t37.toNat 0))), sI 17 .u32 (IntKind.u32.wrap ((bxor .u32 (bxor .u32 r48 r50) r52) + (bxor .u32 (bxor .u32 (band .u32 (m36.getD 0 0) (m36.getD 1 0)) (band .u32 (m36.getD 0 0) (m36.getD 2 0))) (band .u32 (m36.getD 1 0) (m36.getD 2 0))))), hB 0 62 [.arr .u8 32 (List.replicate 32 0)], hB 1 83 [.arr .u32 64 a1], hB 2 85 [.arr .u32 8 m5], hO 3 5 .u8 a3, hB 4 83 [.arr .u32 64 m11], hB 5 85 [.arr .u32 8 m36]] [CallOk P 62 [.v (.one (.int .u32 (m36.getD 0 0))), .v (.one (.int .i64 (2 : Int)))] [] (.v (.one (.int .u32 r48))) [], CallOk P 62 [.v (.one (.int .u32 (m36.getD 0 0))), .v (.one (.int .i64 (13 : Int)))] [] (.v (.one (.int .u32 r50))) [], CallOk P 62 [.v (.one (.int .u32 (m36.getD 0 0))), .v (.one (.int .i64 (22 : Int)))] [] (.v (.one (.int .u32 r52))) [], 0 ≤ (1 : Int) ∧ (1 : Int) < ((8 : Nat) : Int), 0 ≤ (2 : Int) ∧ (2 : Int) < ((8 : Nat) : Int), 0 ≤ (1 : Int) ∧ (1 : Int) < ((8 : Nat) : Int), 0 ≤ (2 : Int) ∧ (2 : Int) < ((8 : Nat) : Int)] (by kernel_rfl) (hcons (ref01_rot32_ok (m36.getD 0 0) (2 : Int) r48 e49) (hcons (ref01_rot32_ok (m36.getD 0 0) (13 : Int) r50 e51) (hcons (ref01_rot32_ok (m36.getD 0 0) (22 : Int) r52 e53) (hcons (by decide) (hcons (by decide) (hcons (by decide) (hone (by decide)))))))) ?_
            refine q_k ?_
            refine tr_reg hT [] [.s 2, .s 3, .s 4, .s 5, .s 6, .s 7, .s 12, .s 13, .h 0, .h 1, .h 2, .h 3, .h 4, .h 5] [sO 2 (.ptr 0 0), sO 3 (.ptr 1 0), sO 4 (.ptr 2 0), sO 5 (.slc 3), sI 6 .i64 at6, sO 7 (.ptr 4 0), sO 12 (.ptr 5 0), sI 13 .i64 t37, hB 0 62 [.arr .u8 32 (List.replicate 32 0)], hB 1 83 [.arr .u32 64 a1], hB 2 85 [.arr .u32 8 m5], hO 3 5 .u8 a3, hB 4 83 [.arr .u32 64 m11], hB 5 85 [.arr .u32 8 [(IntKind.u32.wrap ((IntKind.u32.wrap ((IntKind.u32.wrap ((IntKind.u32.wrap ((IntKind.u32.wrap ((m36.getD 7 0) + (bxor .u32 (bxor .u32 r40 r42) r44))) + (bxor .u32 (band .u32 (m36.getD 4 0) (m36.getD 5 0)) (band .u32 (bxor .u32 (if IntKind.u32.signed then -1 else IntKind.u32.max) (m36.getD 4 0)) (m36.getD 6 0))))) + (a1.getD t37.toNat 0))) + (m11.getD t37.toNat 0))) + (IntKind.u32.wrap ((bxor .u32 (bxor .u32 r48 r50) r52) + (bxor .u32 (bxor .u32 (band .u32 (m36.getD 0 0) (m36.getD 1 0)) (band .u32 (m36.getD 0 0) (m36.getD 2 0))) (band .u32 (m36.getD 1 0) (m36.getD 2 0))))))), (m36.getD 0 0), (m36.getD 1 0), (m36.getD 2 0), (IntKind.u32.wrap ((m36.getD 3 0) + (IntKind.u32.wrap ((IntKind.u32.wrap ((IntKind.u32.wrap ((IntKind.u32.wrap ((m36.getD 7 0) + (bxor .u32 (bxor .u32 r40 r42) r44))) + (bxor .u32 (band .u32 (m36.getD 4 0) (m36.getD 5 0)) (band .u32 (bxor .u32 (if IntKind.u32.signed then -1 else IntKind.u32.max) (m36.getD 4 0)) (m36.getD 6 0))))) + (a1.getD t37.toNat 0))) + (m11.getD t37.toNat 0))))), (m36.getD 4 0), (m36.getD 5 0), (m36.getD 6 0)]]] [0 ≤ (0 : Int) ∧ (0 : Int) < ((8 : Nat) : Int), 0 ≤ (1 : Int) ∧ (1 : Int) < ((8 : Nat) : Int), 0 ≤ (2 : Int) ∧ (2 : Int) < ((8 : Nat) : Int), 0 ≤ (3 : Int) ∧ (3 : Int) < ((8 : Nat) : Int), 0 ≤ (4 : Int) ∧ (4 : Int) < ((8 : Nat) : Int), 0 ≤ (5 : Int) ∧ (5 : Int) < ((8 : Nat) : Int), 0 ≤ (6 : Int) ∧ (6 : Int) < ((8 : Nat) : Int)] (by kernel_rfl) (hcons (by decide) (hcons (by decide) (hcons (by decide) (hcons (by decide) (hcons (by decide) (hcons (by decide) (hone (by decide)))))))) ?_
            refine q_b 7 ?_
            refine q_k ?_
            refine tr_reg hT [] [.s 2, .s 3, .s 4, .s 5, .s 6, .s 7, .s 12, .s 13, .h 0, .h 1, .h 2, .h 3, .h 4, .h 5] [sO 2 (.ptr 0 0), sO 3 (.ptr 1 0), sO 4 (.ptr 2 0), sO 5 (.slc 3), sI 6 .i64 at6, sO 7 (.ptr 4 0), sO 12 (.ptr 5 0), sI 13 .i64 (IntKind.i64.wrap (t37 + (1 : Int))), hB 0 62 [.arr .u8 32 (List.replicate 32 0)], hB 1 83 [.arr .u32 64 a1], hB 2 85 [.arr .u32 8 m5], hO 3 5 .u8 a3, hB 4 83 [.arr .u32 64 m11], hB 5 85 [.arr .u32 8 [(IntKind.u32.wrap ((IntKind.u32.wrap ((IntKind.u32.wrap ((IntKind.u32.wrap ((IntKind.u32.wrap ((m36.getD 7 0) + (bxor .u32 (bxor .u32 r40 r42) r44))) + (bxor .u32 (band .u32 (m36.getD 4 0) (m36.getD 5 0)) (band .u32 (bxor .u32 (if IntKind.u32.signed then -1 else IntKind.u32.max) (m36.getD 4 0)) (m36.getD 6 0))))) + (a1.getD t37.toNat 0))) + (m11.getD t37.toNat 0))) + (IntKind.u32.wrap ((bxor .u32 (bxor .u32 r48 r50) r52) + (bxor .u32 (bxor .u32 (band .u32 (m36.getD 0 0) (m36.getD 1 0)) (band .u32 (m36.getD 0 0) (m36.getD 2 0))) (band .u32 (m36.getD 1 0) (m36.getD 2 0))))))), (m36.getD 0 0), (m36.getD 1 0), (m36.getD 2 0), (IntKind.u32.wrap ((m36.getD 3 0) + (IntKind.u32.wrap ((IntKind.u32.wrap ((IntKind.u32.wrap ((IntKind.u32.wrap ((m36.getD 7 0) + (bxor .u32 (bxor .u32 r40 r42) r44))) + (bxor .u32 (band .u32 (m36.getD 4 0) (m36.getD 5 0)) (band .u32 (bxor .u32 (if IntKind.u32.signed then -1 else IntKind.u32.max) (m36.getD 4 0)) (m36.getD 6 0))))) + (a1.getD t37.toNat 0))) + (m11.getD t37.toNat 0))))), (m36.getD 4 0), (m36.getD 5 0), (m36.getD 6 0)]]] [] (by kernel_rfl) trivial ?_
            refine q_kr ?_
            exact trR_less [.s 2, .s 3, .s 4, .s 5, .s 6, .s 7, .s 12, .s 13, .h 0, .h 1, .h 2, .h 3, .h 4, .h 5] [sO 2 (.ptr 0 0), sO 3 (.ptr 1 0), sO 4 (.ptr 2 0), sO 5 (.slc 3), sI 6 .i64 at6, sO 7 (.ptr 4 0), sO 12 (.ptr 5 0), sI 13 .i64 (IntKind.i64.wrap (t37 + (1 : Int))), hB 0 62 [.arr .u8 32 (List.replicate 32 0)], hB 1 83 [.arr .u32 64 a1], hB 2 85 [.arr .u32 8 m5], hO 3 5 .u8 a3, hB 4 83 [.arr .u32 64 m11], hB 5 85 [.arr .u32 8 [(IntKind.u32.wrap ((IntKind.u32.wrap ((IntKind.u32.wrap ((IntKind.u32.wrap ((IntKind.u32.wrap ((m36.getD 7 0) + (bxor .u32 (bxor .u32 r40 r42) r44))) + (bxor .u32 (band .u32 (m36.getD 4 0) (m36.getD 5 0)) (band .u32 (bxor .u32 (if IntKind.u32.signed then -1 else IntKind.u32.max) (m36.getD 4 0)) (m36.getD 6 0))))) + (a1.getD t37.toNat 0))) + (m11.getD t37.toNat 0))) + (IntKind.u32.wrap ((bxor .u32 (bxor .u32 r48 r50) r52) + (bxor .u32 (bxor .u32 (band .u32 (m36.getD 0 0) (m36.getD 1 0)) (band .u32 (m36.getD 0 0) (m36.getD 2 0))) (band .u32 (m36.getD 1 0) (m36.getD 2 0))))))), (m36.getD 0 0), (m36.getD 1 0), (m36.getD 2 0), (IntKind.u32.wrap ((m36.getD 3 0) + (IntKind.u32.wrap ((IntKind.u32.wrap ((IntKind.u32.wrap ((IntKind.u32.wrap ((m36.getD 7 0) + (bxor .u32 (bxor .u32 r40 r42) r44))) + (bxor .u32 (band .u32 (m36.getD 4 0) (m36.getD 5 0)) (band .u32 (bxor .u32 (if IntKind.u32.signed then -1 else IntKind.u32.max) (m36.getD 4 0)) (m36.getD 6 0))))) + (a1.getD t37.toNat 0))) + (m11.getD t37.toNat 0))))), (m36.getD 4 0), (m36.getD 5 0), (m36.getD 6 0)]]] (by kernel_rfl) (ih3 ([(IntKind.u32.wrap ((IntKind.u32.wrap ((IntKind.u32.wrap ((IntKind.u32.wrap ((IntKind.u32.wrap ((m36.getD 7 0) + (bxor .u32 (bxor .u32 r40 r42) r44))) + (bxor .u32 (band .u32 (m36.getD 4 0) (m36.getD 5 0)) (band .u32 (bxor .u32 (if IntKind.u32.signed then -1 else IntKind.u32.max) (m36.getD 4 0)) (m36.getD 6 0))))) + (a1.getD t37.toNat 0))) + (m11.getD t37.toNat 0))) + (IntKind.u32.wrap ((bxor .u32 (bxor .u32 r48 r50) r52) + (bxor .u32 (bxor .u32 (band .u32 (m36.getD 0 0) (m36.getD 1 0)) (band .u32 (m36.getD 0 0) (m36.getD 2 0))) (band .u32 (m36.getD 1 0) (m36.getD 2 0))))))), (m36.getD 0 0), (m36.getD 1 0), (m36.getD 2 0), (IntKind.u32.wrap ((m36.getD 3 0) + (IntKind.u32.wrap ((IntKind.u32.wrap ((IntKind.u32.wrap ((IntKind.u32.wrap ((m36.getD 7 0) + (bxor .u32 (bxor .u32 r40 r42) r44))) + (bxor .u32 (band .u32 (m36.getD 4 0) (m36.getD 5 0)) (band .u32 (bxor .u32 (if IntKind.u32.signed then -1 else IntKind.u32.max) (m36.getD 4 0)) (m36.getD 6 0))))) + (a1.getD t37.toNat 0))) + (m11.getD t37.toNat 0))))), (m36.getD 4 0), (m36.getD 5 0), (m36.getD 6 0)], (IntKind.i64.wrap (t37 + (1 : Int)))) h)
          · refine tr_cond_f (decide (t37 < (64 : Int))) (by kernel_rfl) hc39 ?_
            refine tr_exit ?_
            refine q_k_exit ?_
            refine q_kr_exit ?_
            have h := Option.some.inj h
            subst h
            exact q_less [.s 2, .s 3, .s 4, .s 5, .s 6, .s 12, .h 0, .h 1, .h 2, .h 3, .h 5] [sO 2 (.ptr 0 0), sO 3 (.ptr 1 0), sO 4 (.ptr 2 0), sO 5 (.slc 3), sI 6 .i64 at6, sO 12 (.ptr 5 0), hB 0 62 [.arr .u8 32 (List.replicate 32 0)], hB 1 83 [.arr .u32 64 a1], hB 2 85 [.arr .u32 8 m5], hO 3 5 .u8 a3, hB 5 85 [.arr .u32 8 m36]] (by kernel_rfl) hx3
      · clear h e35
        intro k ih1 hx1 z h
        obtain ⟨m9, t10⟩ := z
        replace h : (if (decide (t10 < (64 : Int))) = true then if (decide (t10 < (16 : Int))) = true then (ref01_Sum256_l2 a1 a3 m5 at6 t10 (((4 : Int) - (0 : Int)).toNat + 1) m9 (0 : Int)).bind (fun m16 => ref01_Sum256_l1 a1 a3 m5 at6 k m16 (IntKind.i64.wrap (t10 + (1 : Int)))) else if 0 ≤ (IntKind.i64.wrap (t10 - (15 : Int))) ∧ (IntKind.i64.wrap (t10 - (15 : Int))) < ((64 : Nat) : Int) then if 0 ≤ (IntKind.i64.wrap (t10 - (2 : Int))) ∧ (IntKind.i64.wrap (t10 - (2 : Int))) < ((64 : Nat) : Int) then if 0 ≤ (IntKind.i64.wrap (t10 - (16 : Int))) ∧ (IntKind.i64.wrap (t10 - (16 : Int))) < ((64 : Nat) : Int) then if 0 ≤ (IntKind.i64.wrap (t10 - (7 : Int))) ∧ (IntKind.i64.wrap (t10 - (7 : Int))) < ((64 : Nat) : Int) then (ref01_rot32 (m9.getD (IntKind.i64.wrap (t10 - (15 : Int))).toNat 0) (7 : Int)).bind (fun r26 => (ref01_rot32 (m9.getD (IntKind.i64.wrap (t10 - (15 : Int))).toNat 0) (18 : Int)).bind (fun r28 => (ref01_rot32 (m9.getD (IntKind.i64.wrap (t10 - (2 : Int))).toNat 0) (17 : Int)).bind (fun r30 => (ref01_rot32 (m9.getD (IntKind.i64.wrap (t10 - (2 : Int))).toNat 0) (19 : Int)).bind (fun r32 => if 0 ≤ t10 ∧ t10 < ((64 : Nat) : Int) then ref01_Sum256_l1 a1 a3 m5 at6 k (m9.set t10.toNat (IntKind.u32.wrap ((IntKind.u32.wrap ((IntKind.u32.wrap ((m9.getD (IntKind.i64.wrap (t10 - (16 : Int))).toNat 0) + (m9.getD (IntKind.i64.wrap (t10 - (7 : Int))).toNat 0))) + (bxor .u32 (bxor .u32 r26 r28) (shr .u32 (m9.getD (IntKind.i64.wrap (t10 - (15 : Int))).toNat 0) (3 : Int))))) + (bxor .u32 (bxor .u32 r30 r32) (shr .u32 (m9.getD (IntKind.i64.wrap (t10 - (2 : Int))).toNat 0) (10 : Int)))))) (IntKind.i64.wrap (t10 + (1 : Int))) else none)))) else none else none else none else none else some m9) = _ := h
        refine tr_seq ?_
        refine tr_seq ?_
        refine tr_reg hT [] [.s 2, .s 3, .s 4, .s 5, .s 6, .s 7, .s 8, .s 32, .h 0, .h 1, .h 2, .h 3, .h 4] [sO 2 (.ptr 0 0), sO 3 (.ptr 1 0), sO 4 (.ptr 2 0), sO 5 (.slc 3), sI 6 .i64 at6, sO 7 (.ptr 4 0), sI 8 .i64 t10, sB 32 (decide (t10 < (64 : Int))), hB 0 62 [.arr .u8 32 (List.replicate 32 0)], hB 1 83 [.arr .u32 64 a1], hB 2 85 [.arr .u32 8 m5], hO 3 5 .u8 a3, hB 4 83 [.arr .u32 64 m9]] [] (by kernel_rfl) trivial ?_
        refine q_k ?_
        rcases ite_split h with ⟨hc12, h⟩ | ⟨hc12, h⟩
        · refine tr_cond_t (decide (t10 < (64 : Int))) (by kernel_rfl) hc12 ?_
          refine tr_skip ?_
          refine q_k ?_
          refine tr_seq ?_
          refine tr_block ?_
          refine tr_seq ?_
          refine tr_seq ?_
          refine tr_reg hT [] [.s 2, .s 3, .s 4, .s 5, .s 6, .s 7, .s 8, .s 36, .h 0, .h 1, .h 2, .h 3, .h 4] [sO 2 (.ptr 0 0), sO 3 (.ptr 1 0), sO 4 (.ptr 2 0), sO 5 (.slc 3), sI 6 .i64 at6, sO 7 (.ptr 4 0), sI 8 .i64 t10, sB 36 (decide (t10 < (16 : Int))), hB 0 62 [.arr .u8 32 (List.replicate 32 0)], hB 1 83 [.arr .u32 64 a1], hB 2 85 [.arr .u32 8 m5], hO 3 5 .u8 a3, hB 4 83 [.arr .u32 64 m9]] [] (by kernel_rfl) trivial ?_
          refine q_k ?_
          rcases ite_split h with ⟨hc13, h⟩ | ⟨hc13, h⟩
          · refine tr_cond_t (decide (t10 < (16 : Int))) (by kernel_rfl) hc13 ?_
            refine tr_seq ?_
            refine tr_seq ?_
            refine tr_reg hT [] [.s 2, .s 3, .s 4, .s 5, .s 6, .s 7, .s 8, .s 9, .h 0, .h 1, .h 2, .h 3, .h 4] [sO 2 (.ptr 0 0), sO 3 (.ptr 1 0), sO 4 (.ptr 2 0), sO 5 (.slc 3), sI 6 .i64 at6, sO 7 (.ptr 4 0), sI 8 .i64 t10, sI 9 .i64 (0 : Int), hB 0 62 [.arr .u8 32 (List.replicate 32 0)], hB 1 83 [.arr .u32 64 a1], hB 2 85 [.arr .u32 8 m5], hO 3 5 .u8 a3, hB 4 83 [.arr .u32 64 m9]] [] (by kernel_rfl) trivial ?_
            refine q_k ?_
            refine tr_block ?_
            obtain ⟨m16, e21, h⟩ := bind_some h
            refine tr_fit [] [sO 2 (.ptr 0 0), sO 3 (.ptr 1 0), sO 4 (.ptr 2 0), sO 5 (.slc 3), sI 6 .i64 at6, sO 7 (.ptr 4 0), sI 8 .i64 t10, sI 9 .i64 (0 : Int), hB 0 62 [.arr .u8 32 (List.replicate 32 0)], hB 1 83 [.arr .u32 64 a1], hB 2 85 [.arr .u32 8 m5], hO 3 5 .u8 a3, hB 4 83 [.arr .u32 64 m9]] [(0, .blk 62 [.arr .u8 32 (List.replicate 32 0)]), (1, .blk 83 [.arr .u32 64 a1]), (2, .blk 85 [.arr .u32 8 m5]), (3, .own 5 .u8 a3), (4, .blk 83 [.arr .u32 64 m9])] (by kernel_rfl) (by kernel_rfl) (by kernel_rfl) rfl ⟨.blk (by kernel_rfl) (by kernel_rfl), .blk (by kernel_rfl) (by kernel_rfl), .blk (by kernel_rfl) (by kernel_rfl), .own (by kernel_rfl), .blk (by kernel_rfl) (by kernel_rfl), trivial⟩ (by kernel_rfl) ?_
            refine tr_loop_fuel (id := 4) (α := List Int × Int) (β := List Int) (fun z => [sO 2 (.ptr 0 0), sO 3 (.ptr 1 0), sO 4 (.ptr 2 0), sO 5 (.slc 3), sI 6 .i64 at6, sO 7 (.ptr 4 0), sI 8 .i64 t10, sI 9 .i64 z.2, hB 0 62 [.arr .u8 32 (List.replicate 32 0)], hB 1 83 [.arr .u32 64 a1], hB 2 85 [.arr .u32 8 m5], hO 3 5 .u8 a3, hB 4 83 [.arr .u32 64 z.1]]) (fun z => [sO 2 (.ptr 0 0), sO 3 (.ptr 1 0), sO 4 (.ptr 2 0), sO 5 (.slc 3), sI 6 .i64 at6, sO 7 (.ptr 4 0), sI 8 .i64 t10, hB 0 62 [.arr .u8 32 (List.replicate 32 0)], hB 1 83 [.arr .u32 64 a1], hB 2 85 [.arr .u32 8 m5], hO 3 5 .u8 a3, hB 4 83 [.arr .u32 64 z]]) (fun k z => ref01_Sum256_l2 a1 a3 m5 at6 t10 k z.1 z.2) m16 (fun _ => rfl) (((4 : Int) - (0 : Int)).toNat + 1) (m9, (0 : Int)) e21 ?_ ?_
            · skip
              replace h : (ref01_Sum256_l1 a1 a3 m5 at6 k m16 (IntKind.i64.wrap (t10 + (1 : Int)))) = _ := h
              refine q_b_this ?_
              refine q_k ?_
              refine tr_exit ?_
              refine q_k_exit ?_
              refine q_b_this ?_
              refine q_k ?_
              refine tr_reg hT [] [.s 2, .s 3, .s 4, .s 5, .s 6, .s 7, .s 8, .h 0, .h 1, .h 2, .h 3, .h 4] [sO 2 (.ptr 0 0), sO 3 (.ptr 1 0), sO 4 (.ptr 2 0), sO 5 (.slc 3), sI 6 .i64 at6, sO 7 (.ptr 4 0), sI 8 .i64 (IntKind.i64.wrap (t10 + (1 : Int))), hB 0 62 [.arr .u8 32 (List.replicate 32 0)], hB 1 83 [.arr .u32 64 a1], hB 2 85 [.arr .u32 8 m5], hO 3 5 .u8 a3, hB 4 83 [.arr .u32 64 m16]] [] (by kernel_rfl) trivial ?_
              refine q_kr ?_
              exact trR_less [.s 2, .s 3, .s 4, .s 5, .s 6, .s 7, .s 8, .h 0, .h 1, .h 2, .h 3, .h 4] [sO 2 (.ptr 0 0), sO 3 (.ptr 1 0), sO 4 (.ptr 2 0), sO 5 (.slc 3), sI 6 .i64 at6, sO 7 (.ptr 4 0), sI 8 .i64 (IntKind.i64.wrap (t10 + (1 : Int))), hB 0 62 [.arr .u8 32 (List.replicate 32 0)], hB 1 83 [.arr .u32 64 a1], hB 2 85 [.arr .u32 8 m5], hO 3 5 .u8 a3, hB 4 83 [.arr .u32 64 m16]] (by kernel_rfl) (ih1 (m16, (IntKind.i64.wrap (t10 + (1 : Int)))) h)
            · clear h e21
              intro k ih2 hx2 z h
              obtain ⟨m14, i15⟩ := z
              replace h : (if (decide (i15 < (4 : Int))) = true then if 0 ≤ t10 ∧ t10 < ((64 : Nat) : Int) then if 0 ≤ (IntKind.i64.wrap ((IntKind.i64.wrap (at6 + (IntKind.i64.wrap ((4 : Int) * t10)))) + i15)) ∧ (IntKind.i64.wrap ((IntKind.i64.wrap (at6 + (IntKind.i64.wrap ((4 : Int) * t10)))) + i15)) < ↑(List.length a3) then if 0 ≤ t10 ∧ t10 < ((64 : Nat) : Int) then ref01_Sum256_l2 a1 a3 m5 at6 t10 k (m14.set t10.toNat (bor .u32 (shl .u32 (m14.getD t10.toNat 0) (8 : Int)) (IntKind.u32.wrap (a3.getD (IntKind.i64.wrap ((IntKind.i64.wrap (at6 + (IntKind.i64.wrap ((4 : Int) * t10)))) + i15)).toNat 0)))) (IntKind.i64.wrap (i15 + (1 : Int))) else none else none else none else some m14) = _ := h
              refine tr_seq ?_
              refine tr_seq ?_
              refine tr_reg hT [] [.s 2, .s 3, .s 4, .s 5, .s 6, .s 7, .s 8, .s 9, .s 38, .h 0, .h 1, .h 2, .h 3, .h 4] [sO 2 (.ptr 0 0), sO 3 (.ptr 1 0), sO 4 (.ptr 2 0), sO 5 (.slc 3), sI 6 .i64 at6, sO 7 (.ptr 4 0), sI 8 .i64 t10, sI 9 .i64 i15, sB 38 (decide (i15 < (4 : Int))), hB 0 62 [.arr .u8 32 (List.replicate 32 0)], hB 1 83 [.arr .u32 64 a1], hB 2 85 [.arr .u32 8 m5], hO 3 5 .u8 a3, hB 4 83 [.arr .u32 64 m14]] [] (by kernel_rfl) trivial ?_
              refine q_k ?_
              rcases ite_split h with ⟨hc17, h⟩ | ⟨hc17, h⟩
              · refine tr_cond_t (decide (i15 < (4 : Int))) (by kernel_rfl) hc17 ?_
                refine tr_skip ?_
                refine q_k ?_
                refine tr_seq ?_
                refine tr_block ?_
                obtain ⟨hn18, h⟩ := ite_some h
                obtain ⟨hn19, h⟩ := ite_some h
                obtain ⟨hn20, h⟩ := ite_some h
                refine tr_regd hT hM [] [.s 2, .s 3, .s 4, .s 5, .s 6, .s 7, .s 8, .s 9, .h 0, .h 1, .h 2, .h 3, .h 4] [sO 2 (.ptr 0 0), sO 3 (.ptr 1 0), sO 4 (.ptr 2 0), sO 5 (.slc 3), sI 6 .i64 at6, sO 7 (.ptr 4 0), sI 8 .i64 t10, sI 9 .i64 i15, hB 0 62 [.arr .u8 32 (List.replicate 32 0)], hB 1 83 [.arr .u32 64 a1], hB 2 85 [.arr .u32 8 m5], hO 3 5 .u8 a3, hB 4 83 [.arr .u32 64 (m14.set t10.toNat (bor .u32 (shl .u32 (m14.getD t10.toNat 0) (8 : Int)) (IntKind.u32.wrap (a3.getD (IntKind.i64.wrap ((IntKind.i64.wrap (at6 + (IntKind.i64.wrap ((4 : Int) * t10)))) + i15)).toNat 0))))]] [0 ≤ t10 ∧ t10 < ((64 : Nat) : Int), 0 ≤ (8 : Int), 0 ≤ (IntKind.i64.wrap ((IntKind.i64.wrap (at6 + (IntKind.i64.wrap ((4 : Int) * t10)))) + i15)) ∧ (IntKind.i64.wrap ((IntKind.i64.wrap (at6 + (IntKind.i64.wrap ((4 : Int) * t10)))) + i15)) < ↑(List.length a3), (IntKind.i64.wrap ((IntKind.i64.wrap (at6 + (IntKind.i64.wrap ((4 : Int) * t10)))) + i15)) < ↑(List.length a3), 0 ≤ t10 ∧ t10 < ((64 : Nat) : Int)] (by kernel_rfl) (hcons hn18 (hcons (by decide) (hcons hn19 (hcons hn19.2 (hone hn20))))) ?_
                refine q_b 5 ?_
                refine q_k ?_
                refine tr_reg hT [] [.s 2, .s 3, .s 4, .s 5, .s 6, .s 7, .s 8, .s 9, .h 0, .h 1, .h 2, .h 3, .h 4] [sO 2 (.ptr 0 0), sO 3 (.ptr 1 0), sO 4 (.ptr 2 0), sO 5 (.slc 3), sI 6 .i64 at6, sO 7 (.ptr 4 0), sI 8 .i64 t10, sI 9 .i64 (IntKind.i64.wrap (i15 + (1 : Int))), hB 0 62 [.arr .u8 32 (List.replicate 32 0)], hB 1 83 [.arr .u32 64 a1], hB 2 85 [.arr .u32 8 m5], hO 3 5 .u8 a3, hB 4 83 [.arr .u32 64 (m14.set t10.toNat (bor .u32 (shl .u32 (m14.getD t10.toNat 0) (8 : Int)) (IntKind.u32.wrap (a3.getD (IntKind.i64.wrap ((IntKind.i64.wrap (at6 + (IntKind.i64.wrap ((4 : Int) * t10)))) + i15)).toNat 0))))]] [] (by kernel_rfl) trivial ?_
                refine q_kr ?_
                exact trR_less [.s 2, .s 3, .s 4, .s 5, .s 6, .s 7, .s 8, .s 9, .h 0, .h 1, .h 2, .h 3, .h 4] [sO 2 (.ptr 0 0), sO 3 (.ptr 1 0), sO 4 (.ptr 2 0), sO 5 (.slc 3), sI 6 .i64 at6, sO 7 (.ptr 4 0), sI 8 .i64 t10, sI 9 .i64 (IntKind.i64.wrap (i15 + (1 : Int))), hB 0 62 [.arr .u8 32 (List.replicate 32 0)], hB 1 83 [.arr .u32 64 a1], hB 2 85 [.arr .u32 8 m5], hO 3 5 .u8 a3, hB 4 83 [.arr .u32 64 (m14.set t10.toNat (bor .u32 (shl .u32 (m14.getD t10.toNat 0) (8 : Int)) (IntKind.u32.wrap (a3.getD (IntKind.i64.wrap ((IntKind.i64.wrap (at6 + (IntKind.i64.wrap ((4 : Int) * t10)))) + i15)).toNat 0))))]] (by kernel_rfl) (ih2 ((m14.set t10.toNat (bor .u32 (shl .u32 (m14.getD t10.toNat 0) (8 : Int)) (IntKind.u32.wrap (a3.getD (IntKind.i64.wrap ((IntKind.i64.wrap (at6 + (IntKind.i64.wrap ((4 : Int) * t10)))) + i15)).toNat 0)))), (IntKind.i64.wrap (i15 + (1 : Int)))) h)
              · refine tr_cond_f (decide (i15 < (4 : Int))) (by kernel_rfl) hc17 ?_
                refine tr_exit ?_
                refine q_k_exit ?_
                refine q_kr_exit ?_
                have h := Option.some.inj h
                subst h
                exact q_less [.s 2, .s 3, .s 4, .s 5, .s 6, .s 7, .s 8, .h 0, .h 1, .h 2, .h 3, .h 4] [sO 2 (.ptr 0 0), sO 3 (.ptr 1 0), sO 4 (.ptr 2 0), sO 5 (.slc 3), sI 6 .i64 at6, sO 7 (.ptr 4 0), sI 8 .i64 t10, hB 0 62 [.arr .u8 32 (List.replicate 32 0)], hB 1 83 [.arr .u32 64 a1], hB 2 85 [.arr .u32 8 m5], hO 3 5 .u8 a3, hB 4 83 [.arr .u32 64 m14]] (by kernel_rfl) hx2
          · refine tr_cond_f (decide (t10 < (16 : Int))) (by kernel_rfl) hc13 ?_
            refine tr_skip ?_
            refine q_k ?_
            refine tr_seq ?_
            obtain ⟨hn22, h⟩ := ite_some h
            obtain ⟨hn23, h⟩ := ite_some h
            refine tr_regd hT hM [] [.s 2, .s 3, .s 4, .s 5, .s 6, .s 7, .s 8, .s 10, .s 11, .h 0, .h 1, .h 2, .h 3, .h 4] [sO 2 (.ptr 0 0), sO 3 (.ptr 1 0), sO 4 (.ptr 2 0), sO 5 (.slc 3), sI 6 .i64 at6, sO 7 (.ptr 4 0), sI 8 .i64 t10, sI 10 .u32 (m9.getD (IntKind.i64.wrap (t10 - (15 : Int))).toNat 0), sI 11 .u32 (m9.getD (IntKind.i64.wrap (t10 - (2 : Int))).toNat 0), hB 0 62 [.arr .u8 32 (List.replicate 32 0)], hB 1 83 [.arr .u32 64 a1], hB 2 85 [.arr .u32 8 m5], hO 3 5 .u8 a3, hB 4 83 [.arr .u32 64 m9]] [0 ≤ (IntKind.i64.wrap (t10 - (15 : Int))) ∧ (IntKind.i64.wrap (t10 - (15 : Int))) < ((64 : Nat) : Int), 0 ≤ (IntKind.i64.wrap (t10 - (2 : Int))) ∧ (IntKind.i64.wrap (t10 - (2 : Int))) < ((64 : Nat) : Int)] (by kernel_rfl) (hcons hn22 (hone hn23)) ?_
            refine q_k ?_
            obtain ⟨hn24, h⟩ := ite_some h
            obtain ⟨hn25, h⟩ := ite_some h
            obtain ⟨r26, e27, h⟩ := bind_some h
            obtain ⟨r28, e29, h⟩ := bind_some h
            obtain ⟨r30, e31, h⟩ := bind_some h
            obtain ⟨r32, e33, h⟩ := bind_some h
            obtain ⟨hn34, h⟩ := ite_some h
            refine tr_regd hT hM [(11, .call [] (.v (.one (.int .u32 r26))) []), (13, .call [] (.v (.one (.int .u32 r28))) []), (20, .call [] (.v (.one (.int .u32 r30))) []), (22, .call [] (.v (.one (.int .u32 r32))) [])] [.s 2, .s 3, .s 4, .s 5, .s 6, .s 7, .s 8, .h 0, .h 1, .h 2, .h 3, .h 4] [sO 2 (.ptr 0 0), sO 3 (.ptr 1 0), sO 4 (.ptr 2 0), sO 5 (.slc 3), sI 6 .i64 at6, sO 7 (.ptr 4 0), sI 8 .i64 t10, hB 0 62 [.arr .u8 32 (List.replicate 32 0)], hB 1 83 [.arr .u32 64 a1], hB 2 85 [.arr .u32 8 m5], hO 3 5 .u8 a3, hB 4 83 [.arr .u32 64 (m9.set t10.toNat (IntKind.u32.wrap ((IntKind.u32.wrap ((IntKind.u32.wrap ((m9.getD (IntKind.i64.wrap (t10 - (16 : Int))).toNat 0) + (m9.getD (IntKind.i64.wrap (t10 - (7 : Int))).toNat 0))) + (bxor .u32 (bxor .u32 r26 r28) (shr .u32 (m9.getD (IntKind.i64.wrap (t10 - (15 : Int))).toNat 0) (3 : Int))))) + (bxor .u32 (bxor .u32 r30 r32) (shr .u32 (m9.getD (IntKind.i64.wrap (t10 - (2 : Int))).toNat 0) (10 : Int))))))]] [0 ≤ (IntKind.i64.wrap (t10 - (16 : Int))) ∧ (IntKind.i64.wrap (t10 - (16 : Int))) < ((64 : Nat) : Int), 0 ≤ (IntKind.i64.wrap (t10 - (7 : Int))) ∧ (IntKind.i64.wrap (t10 - (7 : Int))) < ((64 : Nat) : Int), CallOk P 62 [.v (.one (.int .u32 (m9.getD (IntKind.i64.wrap (t10 - (15 : Int))).toNat 0))), .v (.one (.int .i64 (7 : Int)))] [] (.v (.one (.int .u32 r26))) [], CallOk P 62 [.v (.one (.int .u32 (m9.getD (IntKind.i64.wrap (t10 - (15 : Int))).toNat 0))), .v (.one (.int .i64 (18 : Int)))] [] (.v (.one (.int .u32 r28))) [], 0 ≤ (3 : Int), CallOk P 62 [.v (.one (.int .u32 (m9.getD (IntKind.i64.wrap (t10 - (2 : Int))).toNat 0))), .v (.one (.int .i64 (17 : Int)))] [] (.v (.one (.int .u32 r30))) [], CallOk P 62 [.v (.one (.int .u32 (m9.getD (IntKind.i64.wrap (t10 - (2 : Int))).toNat 0))), .v (.one (.int .i64 (19 : Int)))] [] (.v (.one (.int .u32 r32))) [], 0 ≤ (10 : Int), 0 ≤ t10 ∧ t10 < ((64 : Nat) : Int)] (by kernel_rfl) (hcons hn24 (hcons hn25 (hcons (ref01_rot32_ok (m9.getD (IntKind.i64.wrap (t10 - (15 : Int))).toNat 0) (7 : Int) r26 e27) (hcons (ref01_rot32_ok (m9.getD (IntKind.i64.wrap (t10 - (15 : Int))).toNat 0) (18 : Int) r28 e29) (hcons (by decide) (hcons (ref01_rot32_ok (m9.getD (IntKind.i64.wrap (t10 - (2 : Int))).toNat 0) (17 : Int) r30 e31) (hcons (ref01_rot32_ok (m9.getD (IntKind.i64.wrap (t10 - (2 : Int))).toNat 0) (19 : Int) r32 e33) (hcons (by decide) (hone hn34))))))))) ?_
            refine q_b 3 ?_
            refine q_k ?_
            refine tr_reg hT [] [.s 2, .s 3, .s 4, .s 5, .s 6, .s 7, .s 8, .h 0, .h 1, .h 2, .h 3, .h 4] [sO 2 (.ptr 0 0), sO 3 (.ptr 1 0), sO 4 (.ptr 2 0), sO 5 (.slc 3), sI 6 .i64 at6, sO 7 (.ptr 4 0), sI 8 .i64 (IntKind.i64.wrap (t10 + (1 : Int))), hB 0 62 [.arr .u8 32 (List.replicate 32 0)], hB 1 83 [.arr .u32 64 a1], hB 2 85 [.arr .u32 8 m5], hO 3 5 .u8 a3, hB 4 83 [.arr .u32 64 (m9.set t10.toNat (IntKind.u32.wrap ((IntKind.u32.wrap ((IntKind.u32.wrap ((m9.getD (IntKind.i64.wrap (t10 - (16 : Int))).toNat 0) + (m9.getD (IntKind.i64.wrap (t10 - (7 : Int))).toNat 0))) + (bxor .u32 (bxor .u32 r26 r28) (shr .u32 (m9.getD (IntKind.i64.wrap (t10 - (15 : Int))).toNat 0) (3 : Int))))) + (bxor .u32 (bxor .u32 r30 r32) (shr .u32 (m9.getD (IntKind.i64.wrap (t10 - (2 : Int))).toNat 0) (10 : Int))))))]] [] (by kernel_rfl) trivial ?_
            refine q_kr ?_
            exact trR_less [.s 2, .s 3, .s 4, .s 5, .s 6, .s 7, .s 8, .h 0, .h 1, .h 2, .h 3, .h 4] [sO 2 (.ptr 0 0), sO 3 (.ptr 1 0), sO 4 (.ptr 2 0), sO 5 (.slc 3), sI 6 .i64 at6, sO 7 (.ptr 4 0), sI 8 .i64 (IntKind.i64.wrap (t10 + (1 : Int))), hB 0 62 [.arr .u8 32 (List.replicate 32 0)], hB 1 83 [.arr .u32 64 a1], hB 2 85 [.arr .u32 8 m5], hO 3 5 .u8 a3, hB 4 83 [.arr .u32 64 (m9.set t10.toNat (IntKind.u32.wrap ((IntKind.u32.wrap ((IntKind.u32.wrap ((m9.getD (IntKind.i64.wrap (t10 - (16 : Int))).toNat 0) + (m9.getD (IntKind.i64.wrap (t10 - (7 : Int))).toNat 0))) + (bxor .u32 (bxor .u32 r26 r28) (shr .u32 (m9.getD (IntKind.i64.wrap (t10 - (15 : Int))).toNat 0) (3 : Int))))) + (bxor .u32 (bxor .u32 r30 r32) (shr .u32 (m9.getD (IntKind.i64.wrap (t10 - (2 : Int))).toNat 0) (10 : Int))))))]] (by kernel_rfl) (ih1 ((m9.set t10.toNat (IntKind.u32.wrap ((IntKind.u32.wrap ((IntKind.u32.wrap ((m9.getD (IntKind.i64.wrap (t10 - (16 : Int))).toNat 0) + (m9.getD (IntKind.i64.wrap (t10 - (7 : Int))).toNat 0))) + (bxor .u32 (bxor .u32 r26 r28) (shr .u32 (m9.getD (IntKind.i64.wrap (t10 - (15 : Int))).toNat 0) (3 : Int))))) + (bxor .u32 (bxor .u32 r30 r32) (shr .u32 (m9.getD (IntKind.i64.wrap (t10 - (2 : Int))).toNat 0) (10 : Int)))))), (IntKind.i64.wrap (t10 + (1 : Int)))) h)
        · refine tr_cond_f (decide (t10 < (64 : Int))) (by kernel_rfl) hc12 ?_
          refine tr_exit ?_
          refine q_k_exit ?_
          refine q_kr_exit ?_
          have h := Option.some.inj h
          subst h
          exact q_less [.s 2, .s 3, .s 4, .s 5, .s 6, .s 7, .h 0, .h 1, .h 2, .h 3, .h 4] [sO 2 (.ptr 0 0), sO 3 (.ptr 1 0), sO 4 (.ptr 2 0), sO 5 (.slc 3), sI 6 .i64 at6, sO 7 (.ptr 4 0), hB 0 62 [.arr .u8 32 (List.replicate 32 0)], hB 1 83 [.arr .u32 64 a1], hB 2 85 [.arr .u32 8 m5], hO 3 5 .u8 a3, hB 4 83 [.arr .u32 64 m9]] (by kernel_rfl) hx1
    · refine tr_cond_f (decide (at6 < (↑(List.length a3) : Int))) (by kernel_rfl) hc8 ?_
      refine tr_exit ?_
      refine q_k_exit ?_
      refine q_kr_exit ?_
      have h := Option.some.inj h
      subst h
      exact q_less [.s 2, .s 4, .h 0, .h 2] [sO 2 (.ptr 0 0), sO 4 (.ptr 2 0), hB 0 62 [.arr .u8 32 (List.replicate 32 0)], hB 2 85 [.arr .u32 8 m5]] (by kernel_rfl) hx0

theorem law01_wakes_ok (r : Bool) (h : law01_wakes = some r) {pre : List (Nat × Ent)} : CallOk P 44 [] pre (.v (.one (.bool r))) [] := by
  refine call0 (N := 33) Try.func44 (by kernel_rfl) rfl rfl rfl pre ?_
  intro _ w
  show Tr P (Ge w) 33 _ _ _ (RetQ P Try.f44 (R0 _ w))
  unfold law01_wakes at h
  refine tr_seq ?_
  refine tr_reg hT [] [] [] [] (by kernel_rfl) trivial ?_
  refine q_k ?_
  refine tr_seq ?_
  obtain ⟨a1, e2, h⟩ := bind_some h
  refine tr_reg hT [(0, .key 0), (1, .key 1), (2, .call [1] (.v (.agg [.arr .u8 32 a1])) []), (3, .key 2)] [.s 1, .h 2] [sO 1 (.ptr 2 0), hB 2 62 [.arr .u8 32 a1]] [0 < List.length [(97 : Int), (98 : Int), (99 : Int)], CallOk P 42 [.v (.one (.slc 1))] [(1, .rd .u8 [(97 : Int), (98 : Int), (99 : Int)])] (.v (.agg [.arr .u8 32 a1])) []] (by kernel_rfl) (hcons (by decide) (hone ((sha_Sum_ok [(97 : Int), (98 : Int), (99 : Int)] a1 e2).tr [(9000, .slc 1)] rfl (by kernel_rfl) ⟨.rd (by kernel_rfl), trivial⟩ (by kernel_rfl) (by kernel_rfl) rfl rfl))) ?_
  refine q_k ?_
  refine tr_seq ?_
  rcases ite_split h with ⟨hb3, h⟩ | ⟨hb12, h⟩
  · rcases ite_split h with ⟨hb4, h⟩ | ⟨hb11, h⟩
    · rcases ite_split h with ⟨hb5, h⟩ | ⟨hb10, h⟩
      · rcases ite_split h with ⟨hb6, h⟩ | ⟨hb9, h⟩
        · rcases ite_split h with ⟨hb7, h⟩ | ⟨hb8, h⟩
          · refine tr_reg hT [(3, .dec true), (8, .dec true), (13, .dec true), (18, .dec true), (23, .dec true)] [.s 0] [sB 0 ((a1.getD 31 0) == (173 : Int))] [0 ≤ (0 : Int) ∧ (0 : Int) < ((32 : Nat) : Int), ((a1.getD 0 0) == (186 : Int)) = true, 0 ≤ (1 : Int) ∧ (1 : Int) < ((32 : Nat) : Int), ((a1.getD 1 0) == (120 : Int)) = true, 0 ≤ (2 : Int) ∧ (2 : Int) < ((32 : Nat) : Int), ((a1.getD 2 0) == (22 : Int)) = true, 0 ≤ (3 : Int) ∧ (3 : Int) < ((32 : Nat) : Int), ((a1.getD 3 0) == (191 : Int)) = true, 0 ≤ (30 : Int) ∧ (30 : Int) < ((32 : Nat) : Int), ((a1.getD 30 0) == (21 : Int)) = true, 0 ≤ (31 : Int) ∧ (31 : Int) < ((32 : Nat) : Int)] (by kernel_rfl) (hcons (by decide) (hcons hb3 (hcons (by decide) (hcons hb4 (hcons (by decide) (hcons hb5 (hcons (by decide) (hcons hb6 (hcons (by decide) (hcons hb7 (hone (by decide)))))))))))) ?_
            refine q_k ?_
            refine tr_ret ?_
            have h := Option.some.inj h
            subst h
            exact q_ret0 hT (.v (.one (.bool ((a1.getD 31 0) == (173 : Int))))) rfl (by kernel_rfl)
          · refine tr_reg hT [(3, .dec true), (8, .dec true), (13, .dec true), (18, .dec true), (23, .dec false)] [.s 0] [sB 0 false] [0 ≤ (0 : Int) ∧ (0 : Int) < ((32 : Nat) : Int), ((a1.getD 0 0) == (186 : Int)) = true, 0 ≤ (1 : Int) ∧ (1 : Int) < ((32 : Nat) : Int), ((a1.getD 1 0) == (120 : Int)) = true, 0 ≤ (2 : Int) ∧ (2 : Int) < ((32 : Nat) : Int), ((a1.getD 2 0) == (22 : Int)) = true, 0 ≤ (3 : Int) ∧ (3 : Int) < ((32 : Nat) : Int), ((a1.getD 3 0) == (191 : Int)) = true, 0 ≤ (30 : Int) ∧ (30 : Int) < ((32 : Nat) : Int), ((a1.getD 30 0) == (21 : Int)) = false] (by kernel_rfl) (hcons (by decide) (hcons hb3 (hcons (by decide) (hcons hb4 (hcons (by decide) (hcons hb5 (hcons (by decide) (hcons hb6 (hcons (by decide) (hone hb8)))))))))) ?_
            refine q_k ?_
            refine tr_ret ?_
            have h := Option.some.inj h
            subst h
            exact q_ret0 hT (.v (.one (.bool false))) rfl (by kernel_rfl)
        · refine tr_reg hT [(3, .dec true), (8, .dec true), (13, .dec true), (18, .dec false)] [.s 0] [sB 0 false] [0 ≤ (0 : Int) ∧ (0 : Int) < ((32 : Nat) : Int), ((a1.getD 0 0) == (186 : Int)) = true, 0 ≤ (1 : Int) ∧ (1 : Int) < ((32 : Nat) : Int), ((a1.getD 1 0) == (120 : Int)) = true, 0 ≤ (2 : Int) ∧ (2 : Int) < ((32 : Nat) : Int), ((a1.getD 2 0) == (22 : Int)) = true, 0 ≤ (3 : Int) ∧ (3 : Int) < ((32 : Nat) : Int), ((a1.getD 3 0) == (191 : Int)) = false] (by kernel_rfl) (hcons (by decide) (hcons hb3 (hcons (by decide) (hcons hb4 (hcons (by decide) (hcons hb5 (hcons (by decide) (hone hb9)))))))) ?_
          refine q_k ?_
          refine tr_ret ?_
          have h := Option.some.inj h
          subst h
          exact q_ret0 hT (.v (.one (.bool false))) rfl (by kernel_rfl)
      · refine tr_reg hT [(3, .dec true), (8, .dec true), (13, .dec false)] [.s 0] [sB 0 false] [0 ≤ (0 : Int) ∧ (0 : Int) < ((32 : Nat) : Int), ((a1.getD 0 0) == (186 : Int)) = true, 0 ≤ (1 : Int) ∧ (1 : Int) < ((32 : Nat) : Int), ((a1.getD 1 0) == (120 : Int)) = true, 0 ≤ (2 : Int) ∧ (2 : Int) < ((32 : Nat) : Int), ((a1.getD 2 0) == (22 : Int)) = false] (by kernel_rfl) (hcons (by decide) (hcons hb3 (hcons (by decide) (hcons hb4 (hcons (by decide) (hone hb10)))))) ?_
        refine q_k ?_
        refine tr_ret ?_
        have h := Option.some.inj h
        subst h
        exact q_ret0 hT (.v (.one (.bool false))) rfl (by kernel_rfl)
    · refine tr_reg hT [(3, .dec true), (8, .dec false)] [.s 0] [sB 0 false] [0 ≤ (0 : Int) ∧ (0 : Int) < ((32 : Nat) : Int), ((a1.getD 0 0) == (186 : Int)) = true, 0 ≤ (1 : Int) ∧ (1 : Int) < ((32 : Nat) : Int), ((a1.getD 1 0) == (120 : Int)) = false] (by kernel_rfl) (hcons (by decide) (hcons hb3 (hcons (by decide) (hone hb11)))) ?_
      refine q_k ?_
      refine tr_ret ?_
      have h := Option.some.inj h
      subst h
      exact q_ret0 hT (.v (.one (.bool false))) rfl (by kernel_rfl)
  · refine tr_reg hT [(3, .dec false)] [.s 0] [sB 0 false] [0 ≤ (0 : Int) ∧ (0 : Int) < ((32 : Nat) : Int), ((a1.getD 0 0) == (186 : Int)) = false] (by kernel_rfl) (hcons (by decide) (hone hb12)) ?_
    refine q_k ?_
    refine tr_ret ?_
    have h := Option.some.inj h
    subst h
    exact q_ret0 hT (.v (.one (.bool false))) rfl (by kernel_rfl)

theorem law01_ShaBlocks_ok (n_0 : Int) (c_1 : Int) (r : Bool) (h : law01_ShaBlocks n_0 c_1 = some r) {pre : List (Nat × Ent)} : CallOk P 18 [.v (.one (.int .i64 n_0)), .v (.one (.int .u8 c_1))] pre (.v (.one (.bool r))) [] := by
  refine call0 (N := 30) Try.func18 (by kernel_rfl) rfl rfl rfl pre ?_
  intro _ w
  show Tr P (Ge w) 30 _ _ _ (RetQ P Try.f18 (R0 _ w))
  unfold law01_ShaBlocks at h
  refine tr_seq ?_
  refine tr_reg hT [] [.s 0, .s 1] [sI 0 .i64 n_0, sI 1 .u8 c_1] [] (by kernel_rfl) trivial ?_
  refine q_k ?_
  refine tr_seq ?_
  refine tr_reg hT [] [.s 0, .s 1] [sI 0 .i64 (IntKind.i64.wrap ((IntKind.u64.wrap n_0).tmod (200 : Int))), sI 1 .u8 c_1] [(200 : Int) ≠ 0] (by kernel_rfl) (hone (by decide)) ?_
  refine q_k ?_
  refine tr_seq ?_
  obtain ⟨hn1, h⟩ := ite_some h
  refine tr_reg hT [(1, .key 0)] [.s 0, .s 1, .s 5, .h 0] [sI 0 .i64 (IntKind.i64.wrap ((IntKind.u64.wrap n_0).tmod (200 : Int))), sI 1 .u8 c_1, sO 5 (.slc 0), hO 0 5 .u8 (List.replicate (IntKind.i64.wrap ((IntKind.u64.wrap n_0).tmod (200 : Int))).toNat (0 : Int))] [(IntKind.i64.wrap ((IntKind.u64.wrap n_0).tmod (200 : Int))) = (IntKind.i64.wrap ((IntKind.u64.wrap n_0).tmod (200 : Int))), 0 ≤ (IntKind.i64.wrap ((IntKind.u64.wrap n_0).tmod (200 : Int))) ∧ (IntKind.i64.wrap ((IntKind.u64.wrap n_0).tmod (200 : Int))) ≤ (↑maxN : Int)] (by kernel_rfl) (hcons rfl (hone hn1)) ?_
  refine q_k ?_
  refine tr_seq ?_
  refine tr_seq ?_
  refine tr_reg hT [] [.s 0, .s 1, .s 5, .s 6, .h 0] [sI 0 .i64 (IntKind.i64.wrap ((IntKind.u64.wrap n_0).tmod (200 : Int))), sI 1 .u8 c_1, sO 5 (.slc 0), sI 6 .i64 (0 : Int), hO 0 5 .u8 (List.replicate (IntKind.i64.wrap ((IntKind.u64.wrap n_0).tmod (200 : Int))).toNat (0 : Int))] [] (by kernel_rfl) trivial ?_
  refine q_k ?_
  refine tr_block ?_
  obtain ⟨m4, e7, h⟩ := bind_some h
  refine tr_fit [] [sI 0 .i64 (IntKind.i64.wrap ((IntKind.u64.wrap n_0).tmod (200 : Int))), sI 1 .u8 c_1, sO 5 (.slc 0), sI 6 .i64 (0 : Int), hO 0 5 .u8 (List.replicate (IntKind.i64.wrap ((IntKind.u64.wrap n_0).tmod (200 : Int))).toNat (0 : Int))] [(0, .own 5 .u8 (List.replicate (IntKind.i64.wrap ((IntKind.u64.wrap n_0).tmod (200 : Int))).toNat (0 : Int)))] (by kernel_rfl) (by kernel_rfl) (by kernel_rfl) rfl ⟨.own (by kernel_rfl), trivial⟩ (by kernel_rfl) ?_
  refine tr_loop_fuel (id := 0) (α := List Int × Int) (β := List Int) (fun z => [sI 0 .i64 (IntKind.i64.wrap ((IntKind.u64.wrap n_0).tmod (200 : Int))), sI 1 .u8 c_1, sO 5 (.slc 0), sI 6 .i64 z.2, hO 0 5 .u8 z.1]) (fun z => [sO 5 (.slc 0), hO 0 5 .u8 z]) (fun k z => law01_ShaBlocks_l0 n_0 c_1 k z.1 z.2) m4 (fun _ => rfl) (((IntKind.i64.wrap ((IntKind.u64.wrap n_0).tmod (200 : Int))) - (0 : Int)).toNat + 1) ((List.replicate (IntKind.i64.wrap ((IntKind.u64.wrap n_0).tmod (200 : Int))).toNat (0 : Int)), (0 : Int)) e7 ?_ ?_
  · skip
    replace h : ((sha_Sum m4).bind (fun a8 => (ref01_Sum256 m4).bind (fun a10 => if (decide (a8 = a10)) = true then (law01_wakes).bind (fun b13 => some b13) else some false))) = _ := h
    refine q_b_this ?_
    refine q_k ?_
    refine tr_seq ?_
    obtain ⟨a8, e9, h⟩ := bind_some h
    obtain ⟨a10, e11, h⟩ := bind_some h
    rcases ite_split h with ⟨hb12, h⟩ | ⟨hb15, h⟩
    · obtain ⟨b13, e14, h⟩ := bind_some h
      refine tr_reg hT [(1, .call [0] (.v (.agg [.arr .u8 32 a8])) []), (3, .call [0] (.v (.agg [.arr .u8 32 a10])) []), (5, .dec true), (6, .call [] (.v (.one (.bool b13))) [])] [.s 4] [sB 4 b13] [CallOk P 42 [.v (.one (.slc 0))] [(0, .own 5 .u8 m4)] (.v (.agg [.arr .u8 32 a8])) [], CallOk P 43 [.v (.one (.slc 0))] [(0, .own 5 .u8 m4)] (.v (.agg [.arr .u8 32 a10])) [], (decide (a8 = a10)) = true, CallOk P 44 [] [] (.v (.one (.bool b13))) []] (by kernel_rfl) (hcons ((sha_Sum_ok m4 a8 e9).tr [(9000, .slc 0)] rfl (by kernel_rfl) ⟨.ownrd (e := 5) (by kernel_rfl), trivial⟩ (by kernel_rfl) (by kernel_rfl) rfl rfl) (hcons ((ref01_Sum256_ok m4 a10 e11).tr [(9000, .slc 0)] rfl (by kernel_rfl) ⟨.ownrd (e := 5) (by kernel_rfl), trivial⟩ (by kernel_rfl) (by kernel_rfl) rfl rfl) (hcons hb12 (hone (law01_wakes_ok  b13 e14))))) ?_
      refine q_k ?_
      refine tr_ret ?_
      have h := Option.some.inj h
      subst h
      exact q_ret0 hT (.v (.one (.bool b13))) rfl (by kernel_rfl)
    · refine tr_reg hT [(1, .call [0] (.v (.agg [.arr .u8 32 a8])) []), (3, .call [0] (.v (.agg [.arr .u8 32 a10])) []), (5, .dec false)] [.s 4] [sB 4 false] [CallOk P 42 [.v (.one (.slc 0))] [(0, .own 5 .u8 m4)] (.v (.agg [.arr .u8 32 a8])) [], CallOk P 43 [.v (.one (.slc 0))] [(0, .own 5 .u8 m4)] (.v (.agg [.arr .u8 32 a10])) [], (decide (a8 = a10)) = false] (by kernel_rfl) (hcons ((sha_Sum_ok m4 a8 e9).tr [(9000, .slc 0)] rfl (by kernel_rfl) ⟨.ownrd (e := 5) (by kernel_rfl), trivial⟩ (by kernel_rfl) (by kernel_rfl) rfl rfl) (hcons ((ref01_Sum256_ok m4 a10 e11).tr [(9000, .slc 0)] rfl (by kernel_rfl) ⟨.ownrd (e := 5) (by kernel_rfl), trivial⟩ (by kernel_rfl) (by kernel_rfl) rfl rfl) (hone hb15))) ?_
      refine q_k ?_
      refine tr_ret ?_
      have h := Option.some.inj h
      subst h
      exact q_ret0 hT (.v (.one (.bool false))) rfl (by kernel_rfl)
  · clear h e7
    intro k ih0 hx0 z h
    obtain ⟨m2, i3⟩ := z
    replace h : (if (decide (i3 < (IntKind.i64.wrap ((IntKind.u64.wrap n_0).tmod (200 : Int))))) = true then if 0 ≤ i3 ∧ i3 < ↑(List.length m2) then law01_ShaBlocks_l0 n_0 c_1 k (m2.set i3.toNat c_1) (IntKind.i64.wrap (i3 + (1 : Int))) else none else some m2) = _ := h
    refine tr_seq ?_
    refine tr_seq ?_
    refine tr_reg hT [] [.s 0, .s 1, .s 5, .s 6, .s 15, .h 0] [sI 0 .i64 (IntKind.i64.wrap ((IntKind.u64.wrap n_0).tmod (200 : Int))), sI 1 .u8 c_1, sO 5 (.slc 0), sI 6 .i64 i3, sB 15 (decide (i3 < (IntKind.i64.wrap ((IntKind.u64.wrap n_0).tmod (200 : Int))))), hO 0 5 .u8 m2] [] (by kernel_rfl) trivial ?_
    refine q_k ?_
    rcases ite_split h with ⟨hc5, h⟩ | ⟨hc5, h⟩
    · refine tr_cond_t (decide (i3 < (IntKind.i64.wrap ((IntKind.u64.wrap n_0).tmod (200 : Int))))) (by kernel_rfl) hc5 ?_
      refine tr_skip ?_
      refine q_k ?_
      refine tr_seq ?_
      refine tr_block ?_
      obtain ⟨hn6, h⟩ := ite_some h
      refine tr_reg hT [] [.s 0, .s 1, .s 5, .s 6, .h 0] [sI 0 .i64 (IntKind.i64.wrap ((IntKind.u64.wrap n_0).tmod (200 : Int))), sI 1 .u8 c_1, sO 5 (.slc 0), sI 6 .i64 i3, hO 0 5 .u8 (m2.set i3.toNat c_1)] [0 ≤ i3 ∧ i3 < ↑(List.length m2), i3 < ↑(List.length m2)] (by kernel_rfl) (hcons hn6 (hone hn6.2)) ?_
      refine q_b 1 ?_
      refine q_k ?_
      refine tr_reg hT [] [.s 0, .s 1, .s 5, .s 6, .h 0] [sI 0 .i64 (IntKind.i64.wrap ((IntKind.u64.wrap n_0).tmod (200 : Int))), sI 1 .u8 c_1, sO 5 (.slc 0), sI 6 .i64 (IntKind.i64.wrap (i3 + (1 : Int))), hO 0 5 .u8 (m2.set i3.toNat c_1)] [] (by kernel_rfl) trivial ?_
      refine q_kr ?_
      exact trR_less [.s 0, .s 1, .s 5, .s 6, .h 0] [sI 0 .i64 (IntKind.i64.wrap ((IntKind.u64.wrap n_0).tmod (200 : Int))), sI 1 .u8 c_1, sO 5 (.slc 0), sI 6 .i64 (IntKind.i64.wrap (i3 + (1 : Int))), hO 0 5 .u8 (m2.set i3.toNat c_1)] (by kernel_rfl) (ih0 ((m2.set i3.toNat c_1), (IntKind.i64.wrap (i3 + (1 : Int)))) h)
    · refine tr_cond_f (decide (i3 < (IntKind.i64.wrap ((IntKind.u64.wrap n_0).tmod (200 : Int))))) (by kernel_rfl) hc5 ?_
      refine tr_exit ?_
      refine q_k_exit ?_
      refine q_kr_exit ?_
      have h := Option.some.inj h
      subst h
      exact q_less [.s 5, .h 0] [sO 5 (.slc 0), hO 0 5 .u8 m2] (by kernel_rfl) hx0

theorem sha_Sha_Len_ok (s_0 : List Int) (s_1 : List Int) (s_2 : Int) (r : Int) (h : sha_Sha_Len s_0 s_1 s_2 = some r) : CallOk P 47 [.v (.one (.ptr 9000 0))] [(9000, .rblk 90 [.arr .u32 8 s_0, .slc 9001, .int .i64 s_2]), (9001, .rd .u8 s_1)] (.v (.one (.int .i64 r))) [] := by
  refine call1 (N := 7) Try.func47 (by kernel_rfl) rfl rfl rfl [(9000, .rblk 90 [.arr .u32 8 s_0, .slc 9001, .int .i64 s_2]), (9001, .rd .u8 s_1)] (by kernel_rfl) ?_
  intro _ B w0
  show Tr P B 7 w0 _ _ (RetQ P Try.f47 (R1 _ _ B w0))
  unfold sha_Sha_Len at h
  refine tr_seq ?_
  refine tr_reg hT [] [.s 0, .h 9000, .h 9001] [sO 0 (.ptr 9000 0), hF 9000 90 [.arr .u32 8 s_0, .slc 9001, .int .i64 s_2], hR 9001 .u8 s_1] [] (by kernel_rfl) trivial ?_
  refine q_k ?_
  refine tr_seq ?_
  refine tr_reg hT [] [.s 2] [sI 2 .i64 s_2] [] (by kernel_rfl) trivial ?_
  refine q_k ?_
  refine tr_ret ?_
  have h := Option.some.inj h
  subst h
  refine q_less [.s 2] [sI 2 .i64 s_2] (by kernel_rfl) ?_
  exact q_ret1 hT (.v (.one (.int .i64 s_2))) [] (by kernel_rfl) (by kernel_rfl) (by kernel_rfl)

theorem law01_ShaExact_ok (b_0 : List Int) (cuts_1 : List Int) (r : Bool) (h : law01_ShaExact b_0 cuts_1 = some r) : CallOk P 19 [.v (.one (.slc 9000)), .v (.one (.slc 9001))] [(9000, .rd .u8 b_0), (9001, .rd .i64 cuts_1)] (.v (.one (.bool r))) [] := by
  refine call1 (N := 120) Try.func19 (by kernel_rfl) rfl rfl rfl [(9000, .rd .u8 b_0), (9001, .rd .i64 cuts_1)] (by kernel_rfl) ?_
  intro _ B w0
  show Tr P B 120 w0 _ _ (RetQ P Try.f19 (R1 _ _ B w0))
  unfold law01_ShaExact at h
  refine tr_seq ?_
  refine tr_reg hT [] [.s 0, .s 1, .h 9000, .h 9001] [sO 0 (.slc 9000), sO 1 (.slc 9001), hR 9000 .u8 b_0, hR 9001 .i64 cuts_1] [] (by kernel_rfl) trivial ?_
  refine q_k ?_
  refine tr_seq ?_
  refine tr_seq ?_
  rcases ite_split h with ⟨hb1, h⟩ | ⟨hb2, h⟩
  · refine tr_reg hT [(3, .dec true)] [.s 0, .s 1, .s 19, .h 9000, .h 9001] [sO 0 (.slc 9000), sO 1 (.slc 9001), sB 19 true, hR 9000 .u8 b_0, hR 9001 .i64 cuts_1] [(decide ((↑(List.length b_0) : Int) > (400 : Int))) = true] (by kernel_rfl) (hone hb1) ?_
    refine q_k ?_
    refine tr_cond_t true (by kernel_rfl) rfl ?_
    refine tr_seq ?_
    refine tr_reg hT [] [.s 4] [sB 4 true] [] (by kernel_rfl) trivial ?_
    refine q_k ?_
    refine tr_ret ?_
    refine q_k_ret ?_
    have h := Option.some.inj h
    subst h
    refine q_less [.s 4] [sB 4 true] (by kernel_rfl) ?_
    exact q_ret1 hT (.v (.one (.bool true))) [] (by kernel_rfl) (by kernel_rfl) (by kernel_rfl)
  · refine tr_reg hT [(3, .dec false)] [.s 0, .s 1, .s 19, .h 9000, .h 9001] [sO 0 (.slc 9000), sO 1 (.slc 9001), sB 19 (decide ((↑(List.length cuts_1) : Int) > (50 : Int))), hR 9000 .u8 b_0, hR 9001 .i64 cuts_1] [(decide ((↑(List.length b_0) : Int) > (400 : Int))) = false] (by kernel_rfl) (hone hb2) ?_
    refine q_k ?_
    rcases ite_split h with ⟨hc3, h⟩ | ⟨hc3, h⟩
    · refine tr_cond_t (decide ((↑(List.length cuts_1) : Int) > (50 : Int))) (by kernel_rfl) hc3 ?_
      refine tr_seq ?_
      refine tr_reg hT [] [.s 4] [sB 4 true] [] (by kernel_rfl) trivial ?_
      refine q_k ?_
      refine tr_ret ?_
      refine q_k_ret ?_
      have h := Option.some.inj h
      subst h
      refine q_less [.s 4] [sB 4 true] (by kernel_rfl) ?_
      exact q_ret1 hT (.v (.one (.bool true))) [] (by kernel_rfl) (by kernel_rfl) (by kernel_rfl)
    · refine tr_cond_f (decide ((↑(List.length cuts_1) : Int) > (50 : Int))) (by kernel_rfl) hc3 ?_
      refine tr_skip ?_
      refine q_k ?_
      refine tr_seq ?_
      obtain ⟨a4, e5, h⟩ := bind_some h
      refine tr_reg hT [(1, .call [9000] (.v (.one (.slc 0))) [(0, .own 5 .u8 a4)])] [.s 0, .s 1, .s 5, .h 0, .h 9000, .h 9001] [sO 0 (.slc 9000), sO 1 (.slc 9001), sO 5 (.slc 0), hO 0 5 .u8 a4, hR 9000 .u8 b_0, hR 9001 .i64 cuts_1] [CallOk P 23 [.v (.one (.slc 9000))] [(9000, .rd .u8 b_0)] (.v (.one (.slc 0))) [(0, .own 5 .u8 a4)]] (by kernel_rfl) (hone ((keep_Twin_ok b_0 a4 e5).tr [(9000, .slc 9000), (8900, .slc 0)] rfl (by kernel_rfl) ⟨.rd (by kernel_rfl), trivial⟩ (by kernel_rfl) (by kernel_rfl) rfl rfl)) ?_
      refine q_k ?_
      refine tr_seq ?_
      obtain ⟨a6, e7, h⟩ := bind_some h
      refine tr_reg hT [(1, .call [9000] (.v (.agg [.arr .u8 32 a6])) []), (2, .key 1)] [.s 0, .s 1, .s 5, .s 6, .h 0, .h 1, .h 9000, .h 9001] [sO 0 (.slc 9000), sO 1 (.slc 9001), sO 5 (.slc 0), sO 6 (.ptr 1 0), hO 0 5 .u8 a4, hB 1 62 [.arr .u8 32 a6], hR 9000 .u8 b_0, hR 9001 .i64 cuts_1] [CallOk P 43 [.v (.one (.slc 9000))] [(9000, .rd .u8 b_0)] (.v (.agg [.arr .u8 32 a6])) []] (by kernel_rfl) (hone ((ref01_Sum256_ok b_0 a6 e7).tr [(9000, .slc 9000)] rfl (by kernel_rfl) ⟨.rd (by kernel_rfl), trivial⟩ (by kernel_rfl) (by kernel_rfl) rfl rfl)) ?_
      refine q_k ?_
      refine tr_seq ?_
      refine tr_seq ?_
      obtain ⟨a8, e9, h⟩ := bind_some h
      rcases ite_split h with ⟨hb10, h⟩ | ⟨hb11, h⟩
      · refine tr_regd hT hM [(1, .call [0] (.v (.agg [.arr .u8 32 a8])) []), (4, .dec true)] [.s 0, .s 1, .s 5, .s 6, .s 33, .h 0, .h 1, .h 9000, .h 9001] [sO 0 (.slc 9000), sO 1 (.slc 9001), sO 5 (.slc 0), sO 6 (.ptr 1 0), sB 33 true, hO 0 5 .u8 a4, hB 1 62 [.arr .u8 32 a6], hR 9000 .u8 b_0, hR 9001 .i64 cuts_1] [CallOk P 42 [.v (.one (.slc 0))] [(0, .own 5 .u8 a4)] (.v (.agg [.arr .u8 32 a8])) [], (!(decide (a8 = a6))) = true] (by kernel_rfl) (hcons ((sha_Sum_ok a4 a8 e9).tr [(9000, .slc 0)] rfl (by kernel_rfl) ⟨.ownrd (e := 5) (by kernel_rfl), trivial⟩ (by kernel_rfl) (by kernel_rfl) rfl rfl) (hone hb10)) ?_
        refine q_k ?_
        refine tr_cond_t true (by kernel_rfl) rfl ?_
        refine tr_seq ?_
        refine tr_reg hT [] [.s 4] [sB 4 false] [] (by kernel_rfl) trivial ?_
        refine q_k ?_
        refine tr_ret ?_
        refine q_k_ret ?_
        have h := Option.some.inj h
        subst h
        refine q_less [.s 4] [sB 4 false] (by kernel_rfl) ?_
        exact q_ret1 hT (.v (.one (.bool false))) [] (by kernel_rfl) (by kernel_rfl) (by kernel_rfl)
      · obtain ⟨b12, e13, h⟩ := bind_some h
        refine tr_regd hT hM [(1, .call [0] (.v (.agg [.arr .u8 32 a8])) []), (4, .dec false), (7, .call [0, 9000] (.v (.one (.bool b12))) [])] [.s 0, .s 1, .s 5, .s 6, .s 33, .h 0, .h 1, .h 9000, .h 9001] [sO 0 (.slc 9000), sO 1 (.slc 9001), sO 5 (.slc 0), sO 6 (.ptr 1 0), sB 33 (!b12), hO 0 5 .u8 a4, hB 1 62 [.arr .u8 32 a6], hR 9000 .u8 b_0, hR 9001 .i64 cuts_1] [CallOk P 42 [.v (.one (.slc 0))] [(0, .own 5 .u8 a4)] (.v (.agg [.arr .u8 32 a8])) [], (!(decide (a8 = a6))) = false, CallOk P 26 [.v (.one (.slc 0)), .v (.one (.slc 9000))] [(0, .own 5 .u8 a4), (9000, .rd .u8 b_0)] (.v (.one (.bool b12))) []] (by kernel_rfl) (hcons ((sha_Sum_ok a4 a8 e9).tr [(9000, .slc 0)] rfl (by kernel_rfl) ⟨.ownrd (e := 5) (by kernel_rfl), trivial⟩ (by kernel_rfl) (by kernel_rfl) rfl rfl) (hcons hb11 (hone ((keep_Bytes_ok a4 b_0 b12 e13).tr [(9000, .slc 0), (9001, .slc 9000)] rfl (by kernel_rfl) ⟨.ownrd (e := 5) (by kernel_rfl), .rd (by kernel_rfl), trivial⟩ (by kernel_rfl) (by kernel_rfl) rfl rfl)))) ?_
        refine q_k ?_
        rcases ite_split h with ⟨hc14, h⟩ | ⟨hc14, h⟩
        · refine tr_cond_t (!b12) (by kernel_rfl) hc14 ?_
          refine tr_seq ?_
          refine tr_reg hT [] [.s 4] [sB 4 false] [] (by kernel_rfl) trivial ?_
          refine q_k ?_
          refine tr_ret ?_
          refine q_k_ret ?_
          have h := Option.some.inj h
          subst h
          refine q_less [.s 4] [sB 4 false] (by kernel_rfl) ?_
          exact q_ret1 hT (.v (.one (.bool false))) [] (by kernel_rfl) (by kernel_rfl) (by kernel_rfl)
        · refine tr_cond_f (!b12) (by kernel_rfl) hc14 ?_
          refine tr_skip ?_
          refine q_k ?_
          refine tr_seq ?_
          obtain ⟨⟨a15, r16⟩, e17, h⟩ := bind_some h
          refine tr_reg hT [(0, .call [] (.v (.one (.ptr 2 0))) [(2, .blk 90 [.arr .u32 8 a15, .nils, .int .i64 r16])])] [.s 0, .s 1, .s 5, .s 6, .s 7, .h 0, .h 1, .h 2, .h 9000, .h 9001] [sO 0 (.slc 9000), sO 1 (.slc 9001), sO 5 (.slc 0), sO 6 (.ptr 1 0), sO 7 (.ptr 2 0), hO 0 5 .u8 a4, hB 1 62 [.arr .u8 32 a6], hB 2 90 [.arr .u32 8 a15, .nils, .int .i64 r16], hR 9000 .u8 b_0, hR 9001 .i64 cuts_1] [CallOk P 45 [] [] (.v (.one (.ptr 2 0))) [(2, .blk 90 [.arr .u32 8 a15, .nils, .int .i64 r16])]] (by kernel_rfl) (hone ((sha_New_ok  (a15, r16) e17).tr [(8900, .slc 2)] rfl (by kernel_rfl) trivial (by kernel_rfl) (by kernel_rfl) rfl rfl)) ?_
          refine q_k ?_
          refine tr_seq ?_
          refine tr_seq ?_
          refine tr_reg hT [] [.s 0, .s 1, .s 5, .s 6, .s 7, .s 36, .h 0, .h 1, .h 2, .h 9000, .h 9001] [sO 0 (.slc 9000), sO 1 (.slc 9001), sO 5 (.slc 0), sO 6 (.ptr 1 0), sO 7 (.ptr 2 0), sB 36 false, hO 0 5 .u8 a4, hB 1 62 [.arr .u8 32 a6], hB 2 90 [.arr .u32 8 a15, .nils, .int .i64 r16], hR 9000 .u8 b_0, hR 9001 .i64 cuts_1] [] (by kernel_rfl) trivial ?_
          refine q_k ?_
          refine tr_cond_f false (by kernel_rfl) rfl ?_
          refine tr_skip ?_
          refine q_k ?_
          refine tr_seq ?_
          refine tr_reg hT [] [.s 0, .s 1, .s 5, .s 6, .s 7, .s 8, .h 0, .h 1, .h 2, .h 9000, .h 9001] [sO 0 (.slc 9000), sO 1 (.slc 9001), sO 5 (.slc 0), sO 6 (.ptr 1 0), sO 7 (.ptr 2 0), sI 8 .i64 (0 : Int), hO 0 5 .u8 a4, hB 1 62 [.arr .u8 32 a6], hB 2 90 [.arr .u32 8 a15, .nils, .int .i64 r16], hR 9000 .u8 b_0, hR 9001 .i64 cuts_1] [] (by kernel_rfl) trivial ?_
          refine q_k ?_
          refine tr_seq ?_
          refine tr_seq ?_
          refine tr_reg hT [] [.s 0, .s 1, .s 5, .s 6, .s 7, .s 8, .s 9, .h 0, .h 1, .h 2, .h 9000, .h 9001] [sO 0 (.slc 9000), sO 1 (.slc 9001), sO 5 (.slc 0), sO 6 (.ptr 1 0), sO 7 (.ptr 2 0), sI 8 .i64 (0 : Int), sI 9 .i64 (0 : Int), hO 0 5 .u8 a4, hB 1 62 [.arr .u8 32 a6], hB 2 90 [.arr .u32 8 a15, .nils, .int .i64 r16], hR 9000 .u8 b_0, hR 9001 .i64 cuts_1] [] (by kernel_rfl) trivial ?_
          refine q_k ?_
          refine tr_block ?_
          obtain ⟨rr0, e55, h⟩ := bind_some h
          refine tr_fit [(3, .nils)] [sO 0 (.slc 9000), sO 1 (.slc 9001), sO 5 (.slc 0), sO 6 (.ptr 1 0), sO 7 (.ptr 2 0), sI 8 .i64 (0 : Int), sI 9 .i64 (0 : Int), hR 0 .u8 a4, hB 1 62 [.arr .u8 32 a6], hB 2 90 [.arr .u32 8 a15, .slc 3, .int .i64 r16], hO 3 5 .u8 [], hR 9000 .u8 b_0, hR 9001 .i64 cuts_1] [(0, .rd .u8 a4), (1, .blk 62 [.arr .u8 32 a6]), (2, .blk 90 [.arr .u32 8 a15, .slc 3, .int .i64 r16]), (3, .own 5 .u8 []), (9000, .rd .u8 b_0), (9001, .rd .i64 cuts_1)] (by kernel_rfl) (by kernel_rfl) (by kernel_rfl) rfl ⟨.ownrd (e := 5) (by kernel_rfl), .blk (by kernel_rfl) (by kernel_rfl), .blk (by kernel_rfl) (by kernel_rfl), .nilown, .rd (by kernel_rfl), .rd (by kernel_rfl), trivial⟩ (by kernel_rfl) ?_
          refine tr_loop_ret (id := 0) (α := List Int × List Int × List Int × Int × Int × Int) (β := List Int × List Int × List Int × Int × Int) (ρ := Bool) (fun z => [sO 0 (.slc 9000), sO 1 (.slc 9001), sO 5 (.slc 0), sO 6 (.ptr 1 0), sO 7 (.ptr 2 0), sI 8 .i64 z.2.2.2.2.1, sI 9 .i64 z.2.2.2.2.2, hR 0 .u8 z.1, hB 1 62 [.arr .u8 32 a6], hB 2 90 [.arr .u32 8 z.2.1, .slc 3, .int .i64 z.2.2.2.1], hO 3 5 .u8 z.2.2.1, hR 9000 .u8 b_0, hR 9001 .i64 cuts_1]) (fun z => [sO 0 (.slc 9000), sO 5 (.slc 0), sO 6 (.ptr 1 0), sO 7 (.ptr 2 0), sI 8 .i64 z.2.2.2.2, hR 0 .u8 z.1, hB 1 62 [.arr .u8 32 a6], hB 2 90 [.arr .u32 8 z.2.1, .slc 4, .int .i64 z.2.2.2.1], hO 4 5 .u8 z.2.2.1, hR 9000 .u8 b_0]) (fun v σ => resS T (Gw.look σ) Try.f19.results.toList = some (.v (.one (.bool v))) ∧ Gw.hasAll σ [] = some (Gw.preSS [])) (fun k z => law01_ShaExact_l0 b_0 cuts_1 a6 k z.1 z.2.1 z.2.2.1 z.2.2.2.1 z.2.2.2.2.1 z.2.2.2.2.2) rr0 (fun _ => rfl) (((↑(List.length cuts_1) : Int) - (0 : Int)).toNat + 1) (a4, a15, [], r16, (0 : Int), (0 : Int)) e55 ?_ ?_ ?_
          · intro z hz
            subst hz
            rcases z with ⟨m25, m26, m27, m28, at29⟩
            replace h : (if 0 ≤ at29 ∧ at29 ≤ (↑(List.length m25) : Int) ∧ (↑(List.length m25) : Int) ≤ (↑(List.length m25) : Int) then (sha_Sha_Write m26 m27 m28 ((m25.take (((↑(List.length m25) : Int)).toNat)).drop at29.toNat)).bind (fun (a57, a58, r59) => (sha_Sha_Len a57 a58 r59).bind (fun r62 => if (r62 == (↑(List.length b_0) : Int)) = true then (sha_Sha_Sum a57 a58 r59).bind (fun a65 => if (decide (a65 = a6)) = true then (sha_Sha_Sum a57 a58 r59).bind (fun a68 => if (decide (a68 = a6)) = true then (keep_Bytes m25 b_0).bind (fun b71 => if b71 = true then (law01_wakes).bind (fun b74 => some b74) else some false) else some false) else some false) else some false)) else none) = _ := h
            refine q_b_this ?_
            refine q_k ?_
            refine tr_seq ?_
            obtain ⟨hn56, h⟩ := ite_some h
            obtain ⟨⟨a57, a58, r59⟩, e60, h⟩ := bind_some h
            refine tr_reg hT [(3, .key 9), (4, .call [2, 4, 9] (.tup []) [(10, .own 5 .u8 a58), (2, .blk 90 [.arr .u32 8 a57, .slc 10, .int .i64 r59])])] [.s 0, .s 5, .s 6, .s 7, .h 0, .h 1, .h 2, .h 10, .h 9000] [sO 0 (.slc 9000), sO 5 (.slc 0), sO 6 (.ptr 1 0), sO 7 (.ptr 2 0), hR 0 .u8 m25, hB 1 62 [.arr .u8 32 a6], hB 2 90 [.arr .u32 8 a57, .slc 10, .int .i64 r59], hO 10 5 .u8 a58, hR 9000 .u8 b_0] [0 ≤ at29 ∧ at29 ≤ (↑(List.length m25) : Int) ∧ (↑(List.length m25) : Int) ≤ (↑(List.length m25) : Int), CallOk P 46 [.v (.one (.ptr 2 0)), .v (.one (.slc 9))] [(2, .blk 90 [.arr .u32 8 m26, .slc 4, .int .i64 m28]), (4, .own 5 .u8 m27), (9, .rd .u8 ((m25.take (((↑(List.length m25) : Int)).toNat)).drop at29.toNat))] (.tup []) [(10, .own 5 .u8 a58), (2, .blk 90 [.arr .u32 8 a57, .slc 10, .int .i64 r59])]] (by kernel_rfl) (hcons hn56 (hone ((sha_Sha_Write_ok m26 m27 m28 ((m25.take (((↑(List.length m25) : Int)).toNat)).drop at29.toNat) (a57, a58, r59) e60).tr [(9000, .slc 2), (9001, .slc 4), (9002, .slc 9), (8900, .slc 10)] rfl (by kernel_rfl) ⟨.blk (by kernel_rfl) (by kernel_rfl), .ownrd (e := 5) (by kernel_rfl), .rd (by kernel_rfl), trivial⟩ (by kernel_rfl) (by kernel_rfl) rfl rfl))) ?_
            refine q_k ?_
            refine tr_seq ?_
            obtain ⟨r62, e63, h⟩ := bind_some h
            rcases ite_split h with ⟨hb64, h⟩ | ⟨hb79, h⟩
            · obtain ⟨a65, e66, h⟩ := bind_some h
              rcases ite_split h with ⟨hb67, h⟩ | ⟨hb78, h⟩
              · obtain ⟨a68, e69, h⟩ := bind_some h
                rcases ite_split h with ⟨hb70, h⟩ | ⟨hb77, h⟩
                · obtain ⟨b71, e72, h⟩ := bind_some h
                  rcases ite_split h with ⟨hb73, h⟩ | ⟨hb76, h⟩
                  · obtain ⟨b74, e75, h⟩ := bind_some h
                    refine tr_regd hT hM [(1, .call [2, 10] (.v (.one (.int .i64 r62))) []), (5, .dec true), (7, .call [2, 10] (.v (.agg [.arr .u8 32 a65])) []), (11, .dec true), (13, .call [2, 10] (.v (.agg [.arr .u8 32 a68])) []), (17, .dec true), (20, .call [0, 9000] (.v (.one (.bool b71))) []), (22, .dec true), (23, .call [] (.v (.one (.bool b74))) [])] [.s 4] [sB 4 b74] [CallOk P 47 [.v (.one (.ptr 2 0))] [(2, .blk 90 [.arr .u32 8 a57, .slc 10, .int .i64 r59]), (10, .own 5 .u8 a58)] (.v (.one (.int .i64 r62))) [], (r62 == (↑(List.length b_0) : Int)) = true, CallOk P 48 [.v (.one (.ptr 2 0))] [(2, .blk 90 [.arr .u32 8 a57, .slc 10, .int .i64 r59]), (10, .own 5 .u8 a58)] (.v (.agg [.arr .u8 32 a65])) [], (decide (a65 = a6)) = true, CallOk P 48 [.v (.one (.ptr 2 0))] [(2, .blk 90 [.arr .u32 8 a57, .slc 10, .int .i64 r59]), (10, .own 5 .u8 a58)] (.v (.agg [.arr .u8 32 a68])) [], (decide (a68 = a6)) = true, CallOk P 26 [.v (.one (.slc 0)), .v (.one (.slc 9000))] [(0, .rd .u8 m25), (9000, .rd .u8 b_0)] (.v (.one (.bool b71))) [], b71 = true, CallOk P 44 [] [] (.v (.one (.bool b74))) []] (by kernel_rfl) (hcons ((sha_Sha_Len_ok a57 a58 r59 r62 e63).tr [(9000, .slc 2), (9001, .slc 10)] rfl (by kernel_rfl) ⟨.blkr (by kernel_rfl) (by kernel_rfl), .ownrd (e := 5) (by kernel_rfl), trivial⟩ (by kernel_rfl) (by kernel_rfl) rfl rfl) (hcons hb64 (hcons ((sha_Sha_Sum_ok a57 a58 r59 a65 e66).tr [(9000, .slc 2), (9001, .slc 10)] rfl (by kernel_rfl) ⟨.blkr (by kernel_rfl) (by kernel_rfl), .ownrd (e := 5) (by kernel_rfl), trivial⟩ (by kernel_rfl) (by kernel_rfl) rfl rfl) (hcons hb67 (hcons ((sha_Sha_Sum_ok a57 a58 r59 a68 e69).tr [(9000, .slc 2), (9001, .slc 10)] rfl (by kernel_rfl) ⟨.blkr (by kernel_rfl) (by kernel_rfl), .ownrd (e := 5) (by kernel_rfl), trivial⟩ (by kernel_rfl) (by kernel_rfl) rfl rfl) (hcons hb70 (hcons ((keep_Bytes_ok m25 b_0 b71 e72).tr [(9000, .slc 0), (9001, .slc 9000)] rfl (by kernel_rfl) ⟨.rd (by kernel_rfl), .rd (by kernel_rfl), trivial⟩ (by kernel_rfl) (by kernel_rfl) rfl rfl) (hcons hb73 (hone (law01_wakes_ok  b74 e75)))))))))) ?_
                    refine q_k ?_
                    refine tr_ret ?_
                    have h := Option.some.inj h
                    subst h
                    refine q_less [.s 4] [sB 4 b74] (by kernel_rfl) ?_
                    exact q_ret1 hT (.v (.one (.bool b74))) [] (by kernel_rfl) (by kernel_rfl) (by kernel_rfl)
                  · refine tr_regd hT hM [(1, .call [2, 10] (.v (.one (.int .i64 r62))) []), (5, .dec true), (7, .call [2, 10] (.v (.agg [.arr .u8 32 a65])) []), (11, .dec true), (13, .call [2, 10] (.v (.agg [.arr .u8 32 a68])) []), (17, .dec true), (20, .call [0, 9000] (.v (.one (.bool b71))) []), (22, .dec false)] [.s 4] [sB 4 false] [CallOk P 47 [.v (.one (.ptr 2 0))] [(2, .blk 90 [.arr .u32 8 a57, .slc 10, .int .i64 r59]), (10, .own 5 .u8 a58)] (.v (.one (.int .i64 r62))) [], (r62 == (↑(List.length b_0) : Int)) = true, CallOk P 48 [.v (.one (.ptr 2 0))] [(2, .blk 90 [.arr .u32 8 a57, .slc 10, .int .i64 r59]), (10, .own 5 .u8 a58)] (.v (.agg [.arr .u8 32 a65])) [], (decide (a65 = a6)) = true, CallOk P 48 [.v (.one (.ptr 2 0))] [(2, .blk 90 [.arr .u32 8 a57, .slc 10, .int .i64 r59]), (10, .own 5 .u8 a58)] (.v (.agg [.arr .u8 32 a68])) [], (decide (a68 = a6)) = true, CallOk P 26 [.v (.one (.slc 0)), .v (.one (.slc 9000))] [(0, .rd .u8 m25), (9000, .rd .u8 b_0)] (.v (.one (.bool b71))) [], b71 = false] (by kernel_rfl) (hcons ((sha_Sha_Len_ok a57 a58 r59 r62 e63).tr [(9000, .slc 2), (9001, .slc 10)] rfl (by kernel_rfl) ⟨.blkr (by kernel_rfl) (by kernel_rfl), .ownrd (e := 5) (by kernel_rfl), trivial⟩ (by kernel_rfl) (by kernel_rfl) rfl rfl) (hcons hb64 (hcons ((sha_Sha_Sum_ok a57 a58 r59 a65 e66).tr [(9000, .slc 2), (9001, .slc 10)] rfl (by kernel_rfl) ⟨.blkr (by kernel_rfl) (by kernel_rfl), .ownrd (e := 5) (by kernel_rfl), trivial⟩ (by kernel_rfl) (by kernel_rfl) rfl rfl) (hcons hb67 (hcons ((sha_Sha_Sum_ok a57 a58 r59 a68 e69).tr [(9000, .slc 2), (9001, .slc 10)] rfl (by kernel_rfl) ⟨.blkr (by kernel_rfl) (by kernel_rfl), .ownrd (e := 5) (by kernel_rfl), trivial⟩ (by kernel_rfl) (by kernel_rfl) rfl rfl) (hcons hb70 (hcons ((keep_Bytes_ok m25 b_0 b71 e72).tr [(9000, .slc 0), (9001, .slc 9000)] rfl (by kernel_rfl) ⟨.rd (by kernel_rfl), .rd (by kernel_rfl), trivial⟩ (by kernel_rfl) (by kernel_rfl) rfl rfl) (hone hb76)))))))) ?_
                    refine q_k ?_
                    refine tr_ret ?_
                    have h := Option.some.inj h
                    subst h
                    refine q_less [.s 4] [sB 4 false] (by kernel_rfl) ?_
                    exact q_ret1 hT (.v (.one (.bool false))) [] (by kernel_rfl) (by kernel_rfl) (by kernel_rfl)
                · refine tr_regd hT hM [(1, .call [2, 10] (.v (.one (.int .i64 r62))) []), (5, .dec true), (7, .call [2, 10] (.v (.agg [.arr .u8 32 a65])) []), (11, .dec true), (13, .call [2, 10] (.v (.agg [.arr .u8 32 a68])) []), (17, .dec false)] [.s 4] [sB 4 false] [CallOk P 47 [.v (.one (.ptr 2 0))] [(2, .blk 90 [.arr .u32 8 a57, .slc 10, .int .i64 r59]), (10, .own 5 .u8 a58)] (.v (.one (.int .i64 r62))) [], (r62 == (↑(List.length b_0) : Int)) = true, CallOk P 48 [.v (.one (.ptr 2 0))] [(2, .blk 90 [.arr .u32 8 a57, .slc 10, .int .i64 r59]), (10, .own 5 .u8 a58)] (.v (.agg [.arr .u8 32 a65])) [], (decide (a65 = a6)) = true, CallOk P 48 [.v (.one (.ptr 2 0))] [(2, .blk 90 [.arr .u32 8 a57, .slc 10, .int .i64 r59]), (10, .own 5 .u8 a58)] (.v (.agg [.arr .u8 32 a68])) [], (decide (a68 = a6)) = false] (by kernel_rfl) (hcons ((sha_Sha_Len_ok a57 a58 r59 r62 e63).tr [(9000, .slc 2), (9001, .slc 10)] rfl (by kernel_rfl) ⟨.blkr (by kernel_rfl) (by kernel_rfl), .ownrd (e := 5) (by kernel_rfl), trivial⟩ (by kernel_rfl) (by kernel_rfl) rfl rfl) (hcons hb64 (hcons ((sha_Sha_Sum_ok a57 a58 r59 a65 e66).tr [(9000, .slc 2), (9001, .slc 10)] rfl (by kernel_rfl) ⟨.blkr (by kernel_rfl) (by kernel_rfl), .ownrd (e := 5) (by kernel_rfl), trivial⟩ (by kernel_rfl) (by kernel_rfl) rfl rfl) (hcons hb67 (hcons ((sha_Sha_Sum_ok a57 a58 r59 a68 e69).tr [(9000, .slc 2), (9001, .slc 10)] rfl (by kernel_rfl) ⟨.blkr (by kernel_rfl) (by kernel_rfl), .ownrd (e := 5) (by kernel_rfl), trivial⟩ (by kernel_rfl) (by kernel_rfl) rfl rfl) (hone hb77)))))) ?_
                  refine q_k ?_
                  refine tr_ret ?_
                  have h := Option.some.inj h
                  subst h
                  refine q_less [.s 4] [sB 4 false] (by kernel_rfl) ?_
                  exact q_ret1 hT (.v (.one (.bool false))) [] (by kernel_rfl) (by kernel_rfl) (by kernel_rfl)
              · refine tr_regd hT hM [(1, .call [2, 10] (.v (.one (.int .i64 r62))) []), (5, .dec true), (7, .call [2, 10] (.v (.agg [.arr .u8 32 a65])) []), (11, .dec false)] [.s 4] [sB 4 false] [CallOk P 47 [.v (.one (.ptr 2 0))] [(2, .blk 90 [.arr .u32 8 a57, .slc 10, .int .i64 r59]), (10, .own 5 .u8 a58)] (.v (.one (.int .i64 r62))) [], (r62 == (↑(List.length b_0) : Int)) = true, CallOk P 48 [.v (.one (.ptr 2 0))] [(2, .blk 90 [.arr .u32 8 a57, .slc 10, .int .i64 r59]), (10, .own 5 .u8 a58)] (.v (.agg [.arr .u8 32 a65])) [], (decide (a65 = a6)) = false] (by kernel_rfl) (hcons ((sha_Sha_Len_ok a57 a58 r59 r62 e63).tr [(9000, .slc 2), (9001, .slc 10)] rfl (by kernel_rfl) ⟨.blkr (by kernel_rfl) (by kernel_rfl), .ownrd (e := 5) (by kernel_rfl), trivial⟩ (by kernel_rfl) (by kernel_rfl) rfl rfl) (hcons hb64 (hcons ((sha_Sha_Sum_ok a57 a58 r59 a65 e66).tr [(9000, .slc 2), (9001, .slc 10)] rfl (by kernel_rfl) ⟨.blkr (by kernel_rfl) (by kernel_rfl), .ownrd (e := 5) (by kernel_rfl), trivial⟩ (by kernel_rfl) (by kernel_rfl) rfl rfl) (hone hb78)))) ?_
                refine q_k ?_
                refine tr_ret ?_
                have h := Option.some.inj h
                subst h
                refine q_less [.s 4] [sB 4 false] (by kernel_rfl) ?_
                exact q_ret1 hT (.v (.one (.bool false))) [] (by kernel_rfl) (by kernel_rfl) (by kernel_rfl)
            · refine tr_regd hT hM [(1, .call [2, 10] (.v (.one (.int .i64 r62))) []), (5, .dec false)] [.s 4] [sB 4 false] [CallOk P 47 [.v (.one (.ptr 2 0))] [(2, .blk 90 [.arr .u32 8 a57, .slc 10, .int .i64 r59]), (10, .own 5 .u8 a58)] (.v (.one (.int .i64 r62))) [], (r62 == (↑(List.length b_0) : Int)) = false] (by kernel_rfl) (hcons ((sha_Sha_Len_ok a57 a58 r59 r62 e63).tr [(9000, .slc 2), (9001, .slc 10)] rfl (by kernel_rfl) ⟨.blkr (by kernel_rfl) (by kernel_rfl), .ownrd (e := 5) (by kernel_rfl), trivial⟩ (by kernel_rfl) (by kernel_rfl) rfl rfl) (hone hb79)) ?_
              refine q_k ?_
              refine tr_ret ?_
              have h := Option.some.inj h
              subst h
              refine q_less [.s 4] [sB 4 false] (by kernel_rfl) ?_
              exact q_ret1 hT (.v (.one (.bool false))) [] (by kernel_rfl) (by kernel_rfl) (by kernel_rfl)
          · intro v σ hz hv
            subst hz
            have h := Option.some.inj h
            subst h
            refine q_b_ret ?_
            refine q_k_ret ?_
            exact q_ret1 hT _ _ hv.1 hv.2 (by kernel_rfl)
          · clear h e55
            intro k ih0 hx0 hr0 z h
            rcases z with ⟨m19, m20, m21, m22, at23, i24⟩
            replace h : (if (decide (i24 < (↑(List.length cuts_1) : Int))) = true then if (decide (at23 < (↑(List.length m19) : Int))) = true then if 0 ≤ i24 ∧ i24 < ↑(List.length cuts_1) then if (IntKind.u64.wrap (IntKind.i64.wrap ((IntKind.i64.wrap ((↑(List.length m19) : Int) - at23)) + (1 : Int)))) ≠ 0 then if 0 ≤ at23 ∧ at23 ≤ (IntKind.i64.wrap (at23 + (IntKind.i64.wrap ((IntKind.u64.wrap (cuts_1.getD i24.toNat 0)).tmod (IntKind.u64.wrap (IntKind.i64.wrap ((IntKind.i64.wrap ((↑(List.length m19) : Int) - at23)) + (1 : Int)))))))) ∧ (IntKind.i64.wrap (at23 + (IntKind.i64.wrap ((IntKind.u64.wrap (cuts_1.getD i24.toNat 0)).tmod (IntKind.u64.wrap (IntKind.i64.wrap ((IntKind.i64.wrap ((↑(List.length m19) : Int) - at23)) + (1 : Int)))))))) ≤ (↑(List.length m19) : Int) then (keep_Twin ((m19.take ((IntKind.i64.wrap (at23 + (IntKind.i64.wrap ((IntKind.u64.wrap (cuts_1.getD i24.toNat 0)).tmod (IntKind.u64.wrap (IntKind.i64.wrap ((IntKind.i64.wrap ((↑(List.length m19) : Int) - at23)) + (1 : Int)))))))).toNat)).drop at23.toNat)).bind (fun a35 => (sha_Sha_Write m20 m21 m22 a35).bind (fun (a37, a38, r39) => (keep_SpoilBytes a35).bind (fun a42 => (sha_Sha_Len a37 a38 r39).bind (fun r44 => if (r44 != (IntKind.i64.wrap (at23 + (IntKind.i64.wrap ((IntKind.u64.wrap (cuts_1.getD i24.toNat 0)).tmod (IntKind.u64.wrap (IntKind.i64.wrap ((IntKind.i64.wrap ((↑(List.length m19) : Int) - at23)) + (1 : Int))))))))) = true then some (.inr false) else (sha_Sha_Sum a37 a38 r39).bind (fun a48 => if 0 ≤ (0 : Int) ∧ (0 : Int) ≤ (IntKind.i64.wrap (at23 + (IntKind.i64.wrap ((IntKind.u64.wrap (cuts_1.getD i24.toNat 0)).tmod (IntKind.u64.wrap (IntKind.i64.wrap ((IntKind.i64.wrap ((↑(List.length m19) : Int) - at23)) + (1 : Int)))))))) ∧ (IntKind.i64.wrap (at23 + (IntKind.i64.wrap ((IntKind.u64.wrap (cuts_1.getD i24.toNat 0)).tmod (IntKind.u64.wrap (IntKind.i64.wrap ((IntKind.i64.wrap ((↑(List.length m19) : Int) - at23)) + (1 : Int)))))))) ≤ (↑(List.length b_0) : Int) then (ref01_Sum256 ((b_0.take ((IntKind.i64.wrap (at23 + (IntKind.i64.wrap ((IntKind.u64.wrap (cuts_1.getD i24.toNat 0)).tmod (IntKind.u64.wrap (IntKind.i64.wrap ((IntKind.i64.wrap ((↑(List.length m19) : Int) - at23)) + (1 : Int)))))))).toNat)).drop 0)).bind (fun a51 => if (!(decide (a48 = a51))) = true then some (.inr false) else law01_ShaExact_l0 b_0 cuts_1 a6 k m19 a37 a38 r39 (IntKind.i64.wrap (at23 + (IntKind.i64.wrap ((IntKind.u64.wrap (cuts_1.getD i24.toNat 0)).tmod (IntKind.u64.wrap (IntKind.i64.wrap ((IntKind.i64.wrap ((↑(List.length m19) : Int) - at23)) + (1 : Int)))))))) (IntKind.i64.wrap (i24 + (1 : Int)))) else none))))) else none else none else none else some (.inl (m19, m20, m21, m22, at23)) else some (.inl (m19, m20, m21, m22, at23))) = _ := h
            refine tr_seq ?_
            refine tr_seq ?_
            rcases ite_split h with ⟨hb30, h⟩ | ⟨hb54, h⟩
            · refine tr_reg hT [(4, .dec true)] [.s 0, .s 1, .s 5, .s 6, .s 7, .s 8, .s 9, .s 46, .h 0, .h 1, .h 2, .h 3, .h 9000, .h 9001] [sO 0 (.slc 9000), sO 1 (.slc 9001), sO 5 (.slc 0), sO 6 (.ptr 1 0), sO 7 (.ptr 2 0), sI 8 .i64 at23, sI 9 .i64 i24, sB 46 (decide (at23 < (↑(List.length m19) : Int))), hR 0 .u8 m19, hB 1 62 [.arr .u8 32 a6], hB 2 90 [.arr .u32 8 m20, .slc 3, .int .i64 m22], hO 3 5 .u8 m21, hR 9000 .u8 b_0, hR 9001 .i64 cuts_1] [(decide (i24 < (↑(List.length cuts_1) : Int))) = true] (by kernel_rfl) (hone hb30) ?_
              refine q_k ?_
              rcases ite_split h with ⟨hc31, h⟩ | ⟨hc31, h⟩
              · refine tr_cond_t (decide (at23 < (↑(List.length m19) : Int))) (by kernel_rfl) hc31 ?_
                refine tr_skip ?_
                refine q_k ?_
                refine tr_seq ?_
                refine tr_block ?_
                refine tr_seq ?_
                obtain ⟨hn32, h⟩ := ite_some h
                obtain ⟨hn33, h⟩ := ite_some h
                refine tr_reg hT [] [.s 0, .s 1, .s 5, .s 6, .s 7, .s 8, .s 9, .s 10, .h 0, .h 1, .h 2, .h 3, .h 9000, .h 9001] [sO 0 (.slc 9000), sO 1 (.slc 9001), sO 5 (.slc 0), sO 6 (.ptr 1 0), sO 7 (.ptr 2 0), sI 8 .i64 at23, sI 9 .i64 i24, sI 10 .i64 (IntKind.i64.wrap ((IntKind.u64.wrap (cuts_1.getD i24.toNat 0)).tmod (IntKind.u64.wrap (IntKind.i64.wrap ((IntKind.i64.wrap ((↑(List.length m19) : Int) - at23)) + (1 : Int)))))), hR 0 .u8 m19, hB 1 62 [.arr .u8 32 a6], hB 2 90 [.arr .u32 8 m20, .slc 3, .int .i64 m22], hO 3 5 .u8 m21, hR 9000 .u8 b_0, hR 9001 .i64 cuts_1] [0 ≤ i24 ∧ i24 < ↑(List.length cuts_1), i24 < ↑(List.length cuts_1), (IntKind.u64.wrap (IntKind.i64.wrap ((IntKind.i64.wrap ((↑(List.length m19) : Int) - at23)) + (1 : Int)))) ≠ 0] (by kernel_rfl) (hcons hn32 (hcons hn32.2 (hone hn33))) ?_
                refine q_k ?_
                refine tr_seq ?_
                obtain ⟨hn34, h⟩ := ite_some h
                obtain ⟨a35, e36, h⟩ := bind_some h
                refine tr_reg hT [(5, .key 5), (6, .call [5] (.v (.one (.slc 6))) [(6, .own 5 .u8 a35)])] [.s 0, .s 1, .s 5, .s 6, .s 7, .s 8, .s 9, .s 10, .s 11, .h 0, .h 1, .h 2, .h 3, .h 6, .h 9000, .h 9001] [sO 0 (.slc 9000), sO 1 (.slc 9001), sO 5 (.slc 0), sO 6 (.ptr 1 0), sO 7 (.ptr 2 0), sI 8 .i64 at23, sI 9 .i64 i24, sI 10 .i64 (IntKind.i64.wrap ((IntKind.u64.wrap (cuts_1.getD i24.toNat 0)).tmod (IntKind.u64.wrap (IntKind.i64.wrap ((IntKind.i64.wrap ((↑(List.length m19) : Int) - at23)) + (1 : Int)))))), sO 11 (.slc 6), hR 0 .u8 m19, hB 1 62 [.arr .u8 32 a6], hB 2 90 [.arr .u32 8 m20, .slc 3, .int .i64 m22], hO 3 5 .u8 m21, hO 6 5 .u8 a35, hR 9000 .u8 b_0, hR 9001 .i64 cuts_1] [0 ≤ at23 ∧ at23 ≤ (IntKind.i64.wrap (at23 + (IntKind.i64.wrap ((IntKind.u64.wrap (cuts_1.getD i24.toNat 0)).tmod (IntKind.u64.wrap (IntKind.i64.wrap ((IntKind.i64.wrap ((↑(List.length m19) : Int) - at23)) + (1 : Int)))))))) ∧ (IntKind.i64.wrap (at23 + (IntKind.i64.wrap ((IntKind.u64.wrap (cuts_1.getD i24.toNat 0)).tmod (IntKind.u64.wrap (IntKind.i64.wrap ((IntKind.i64.wrap ((↑(List.length m19) : Int) - at23)) + (1 : Int)))))))) ≤ (↑(List.length m19) : Int), CallOk P 23 [.v (.one (.slc 5))] [(5, .rd .u8 ((m19.take ((IntKind.i64.wrap (at23 + (IntKind.i64.wrap ((IntKind.u64.wrap (cuts_1.getD i24.toNat 0)).tmod (IntKind.u64.wrap (IntKind.i64.wrap ((IntKind.i64.wrap ((↑(List.length m19) : Int) - at23)) + (1 : Int)))))))).toNat)).drop at23.toNat))] (.v (.one (.slc 6))) [(6, .own 5 .u8 a35)]] (by kernel_rfl) (hcons hn34 (hone ((keep_Twin_ok ((m19.take ((IntKind.i64.wrap (at23 + (IntKind.i64.wrap ((IntKind.u64.wrap (cuts_1.getD i24.toNat 0)).tmod (IntKind.u64.wrap (IntKind.i64.wrap ((IntKind.i64.wrap ((↑(List.length m19) : Int) - at23)) + (1 : Int)))))))).toNat)).drop at23.toNat) a35 e36).tr [(9000, .slc 5), (8900, .slc 6)] rfl (by kernel_rfl) ⟨.rd (by kernel_rfl), trivial⟩ (by kernel_rfl) (by kernel_rfl) rfl rfl))) ?_
                refine q_k ?_
                refine tr_seq ?_
                obtain ⟨⟨a37, a38, r39⟩, e40, h⟩ := bind_some h
                refine tr_reg hT [(2, .call [2, 3, 6] (.tup []) [(7, .own 5 .u8 a38), (2, .blk 90 [.arr .u32 8 a37, .slc 7, .int .i64 r39])])] [.s 0, .s 1, .s 5, .s 6, .s 7, .s 8, .s 9, .s 10, .s 11, .h 0, .h 1, .h 2, .h 6, .h 7, .h 9000, .h 9001] [sO 0 (.slc 9000), sO 1 (.slc 9001), sO 5 (.slc 0), sO 6 (.ptr 1 0), sO 7 (.ptr 2 0), sI 8 .i64 at23, sI 9 .i64 i24, sI 10 .i64 (IntKind.i64.wrap ((IntKind.u64.wrap (cuts_1.getD i24.toNat 0)).tmod (IntKind.u64.wrap (IntKind.i64.wrap ((IntKind.i64.wrap ((↑(List.length m19) : Int) - at23)) + (1 : Int)))))), sO 11 (.slc 6), hR 0 .u8 m19, hB 1 62 [.arr .u8 32 a6], hB 2 90 [.arr .u32 8 a37, .slc 7, .int .i64 r39], hO 6 5 .u8 a35, hO 7 5 .u8 a38, hR 9000 .u8 b_0, hR 9001 .i64 cuts_1] [CallOk P 46 [.v (.one (.ptr 2 0)), .v (.one (.slc 6))] [(2, .blk 90 [.arr .u32 8 m20, .slc 3, .int .i64 m22]), (3, .own 5 .u8 m21), (6, .own 5 .u8 a35)] (.tup []) [(7, .own 5 .u8 a38), (2, .blk 90 [.arr .u32 8 a37, .slc 7, .int .i64 r39])]] (by kernel_rfl) (hone ((sha_Sha_Write_ok m20 m21 m22 a35 (a37, a38, r39) e40).tr [(9000, .slc 2), (9001, .slc 3), (9002, .slc 6), (8900, .slc 7)] rfl (by kernel_rfl) ⟨.blk (by kernel_rfl) (by kernel_rfl), .ownrd (e := 5) (by kernel_rfl), .ownrd (e := 5) (by kernel_rfl), trivial⟩ (by kernel_rfl) (by kernel_rfl) rfl rfl)) ?_
                refine q_k ?_
                refine tr_seq ?_
                obtain ⟨a42, e43, h⟩ := bind_some h
                refine tr_reg hT [(1, .call [6] (.tup []) [(6, .own 5 .u8 a42)])] [.s 0, .s 1, .s 5, .s 6, .s 7, .s 8, .s 9, .s 10, .h 0, .h 1, .h 2, .h 7, .h 9000, .h 9001] [sO 0 (.slc 9000), sO 1 (.slc 9001), sO 5 (.slc 0), sO 6 (.ptr 1 0), sO 7 (.ptr 2 0), sI 8 .i64 at23, sI 9 .i64 i24, sI 10 .i64 (IntKind.i64.wrap ((IntKind.u64.wrap (cuts_1.getD i24.toNat 0)).tmod (IntKind.u64.wrap (IntKind.i64.wrap ((IntKind.i64.wrap ((↑(List.length m19) : Int) - at23)) + (1 : Int)))))), hR 0 .u8 m19, hB 1 62 [.arr .u8 32 a6], hB 2 90 [.arr .u32 8 a37, .slc 7, .int .i64 r39], hO 7 5 .u8 a38, hR 9000 .u8 b_0, hR 9001 .i64 cuts_1] [CallOk P 35 [.v (.one (.slc 6))] [(6, .own 5 .u8 a35)] (.tup []) [(6, .own 5 .u8 a42)]] (by kernel_rfl) (hone ((keep_SpoilBytes_ok a35 a42 e43).tr [(9000, .slc 6)] rfl (by kernel_rfl) ⟨.own (by kernel_rfl), trivial⟩ (by kernel_rfl) (by kernel_rfl) rfl rfl)) ?_
                refine q_k ?_
                refine tr_seq ?_
                refine tr_reg hT [] [.s 0, .s 1, .s 5, .s 6, .s 7, .s 8, .s 9, .h 0, .h 1, .h 2, .h 7, .h 9000, .h 9001] [sO 0 (.slc 9000), sO 1 (.slc 9001), sO 5 (.slc 0), sO 6 (.ptr 1 0), sO 7 (.ptr 2 0), sI 8 .i64 (IntKind.i64.wrap (at23 + (IntKind.i64.wrap ((IntKind.u64.wrap (cuts_1.getD i24.toNat 0)).tmod (IntKind.u64.wrap (IntKind.i64.wrap ((IntKind.i64.wrap ((↑(List.length m19) : Int) - at23)) + (1 : Int)))))))), sI 9 .i64 i24, hR 0 .u8 m19, hB 1 62 [.arr .u8 32 a6], hB 2 90 [.arr .u32 8 a37, .slc 7, .int .i64 r39], hO 7 5 .u8 a38, hR 9000 .u8 b_0, hR 9001 .i64 cuts_1] [] (by kernel_rfl) trivial ?_
                refine q_k ?_
                refine tr_seq ?_
                obtain ⟨r44, e45, h⟩ := bind_some h
                rcases ite_split h with ⟨hb46, h⟩ | ⟨hb47, h⟩
                · refine tr_regd hT hM [(1, .call [2, 7] (.v (.one (.int .i64 r44))) []), (4, .dec true)] [.s 0, .s 1, .s 5, .s 6, .s 7, .s 8, .s 9, .s 89, .h 0, .h 1, .h 2, .h 7, .h 9000, .h 9001] [sO 0 (.slc 9000), sO 1 (.slc 9001), sO 5 (.slc 0), sO 6 (.ptr 1 0), sO 7 (.ptr 2 0), sI 8 .i64 (IntKind.i64.wrap (at23 + (IntKind.i64.wrap ((IntKind.u64.wrap (cuts_1.getD i24.toNat 0)).tmod (IntKind.u64.wrap (IntKind.i64.wrap ((IntKind.i64.wrap ((↑(List.length m19) : Int) - at23)) + (1 : Int)))))))), sI 9 .i64 i24, sB 89 true, hR 0 .u8 m19, hB 1 62 [.arr .u8 32 a6], hB 2 90 [.arr .u32 8 a37, .slc 7, .int .i64 r39], hO 7 5 .u8 a38, hR 9000 .u8 b_0, hR 9001 .i64 cuts_1] [CallOk P 47 [.v (.one (.ptr 2 0))] [(2, .blk 90 [.arr .u32 8 a37, .slc 7, .int .i64 r39]), (7, .own 5 .u8 a38)] (.v (.one (.int .i64 r44))) [], (r44 != (IntKind.i64.wrap (at23 + (IntKind.i64.wrap ((IntKind.u64.wrap (cuts_1.getD i24.toNat 0)).tmod (IntKind.u64.wrap (IntKind.i64.wrap ((IntKind.i64.wrap ((↑(List.length m19) : Int) - at23)) + (1 : Int))))))))) = true] (by kernel_rfl) (hcons ((sha_Sha_Len_ok a37 a38 r39 r44 e45).tr [(9000, .slc 2), (9001, .slc 7)] rfl (by kernel_rfl) ⟨.blkr (by kernel_rfl) (by kernel_rfl), .ownrd (e := 5) (by kernel_rfl), trivial⟩ (by kernel_rfl) (by kernel_rfl) rfl rfl) (hone hb46)) ?_
                  refine q_k ?_
                  refine tr_cond_t true (by kernel_rfl) rfl ?_
                  refine tr_seq ?_
                  refine tr_reg hT [] [.s 4] [sB 4 false] [] (by kernel_rfl) trivial ?_
                  refine q_k ?_
                  refine tr_ret ?_
                  refine q_b_ret ?_
                  refine q_k_ret ?_
                  refine q_kr_ret ?_
                  have h := Option.some.inj h
                  subst h
                  exact q_less [.s 4] [sB 4 false] (by kernel_rfl) (hr0 false _ rfl ⟨by kernel_rfl, by kernel_rfl⟩)
                · obtain ⟨a48, e49, h⟩ := bind_some h
                  obtain ⟨hn50, h⟩ := ite_some h
                  obtain ⟨a51, e52, h⟩ := bind_some h
                  refine tr_regd hT hM [(1, .call [2, 7] (.v (.one (.int .i64 r44))) []), (4, .dec false), (6, .call [2, 7] (.v (.agg [.arr .u8 32 a48])) []), (9, .key 8), (10, .call [8] (.v (.agg [.arr .u8 32 a51])) [])] [.s 0, .s 1, .s 5, .s 6, .s 7, .s 8, .s 9, .s 89, .h 0, .h 1, .h 2, .h 7, .h 9000, .h 9001] [sO 0 (.slc 9000), sO 1 (.slc 9001), sO 5 (.slc 0), sO 6 (.ptr 1 0), sO 7 (.ptr 2 0), sI 8 .i64 (IntKind.i64.wrap (at23 + (IntKind.i64.wrap ((IntKind.u64.wrap (cuts_1.getD i24.toNat 0)).tmod (IntKind.u64.wrap (IntKind.i64.wrap ((IntKind.i64.wrap ((↑(List.length m19) : Int) - at23)) + (1 : Int)))))))), sI 9 .i64 i24, sB 89 (!(decide (a48 = a51))), hR 0 .u8 m19, hB 1 62 [.arr .u8 32 a6], hB 2 90 [.arr .u32 8 a37, .slc 7, .int .i64 r39], hO 7 5 .u8 a38, hR 9000 .u8 b_0, hR 9001 .i64 cuts_1] [CallOk P 47 [.v (.one (.ptr 2 0))] [(2, .blk 90 [.arr .u32 8 a37, .slc 7, .int .i64 r39]), (7, .own 5 .u8 a38)] (.v (.one (.int .i64 r44))) [], (r44 != (IntKind.i64.wrap (at23 + (IntKind.i64.wrap ((IntKind.u64.wrap (cuts_1.getD i24.toNat 0)).tmod (IntKind.u64.wrap (IntKind.i64.wrap ((IntKind.i64.wrap ((↑(List.length m19) : Int) - at23)) + (1 : Int))))))))) = false, CallOk P 48 [.v (.one (.ptr 2 0))] [(2, .blk 90 [.arr .u32 8 a37, .slc 7, .int .i64 r39]), (7, .own 5 .u8 a38)] (.v (.agg [.arr .u8 32 a48])) [], 0 ≤ (0 : Int) ∧ (0 : Int) ≤ (IntKind.i64.wrap (at23 + (IntKind.i64.wrap ((IntKind.u64.wrap (cuts_1.getD i24.toNat 0)).tmod (IntKind.u64.wrap (IntKind.i64.wrap ((IntKind.i64.wrap ((↑(List.length m19) : Int) - at23)) + (1 : Int)))))))) ∧ (IntKind.i64.wrap (at23 + (IntKind.i64.wrap ((IntKind.u64.wrap (cuts_1.getD i24.toNat 0)).tmod (IntKind.u64.wrap (IntKind.i64.wrap ((IntKind.i64.wrap ((↑(List.length m19) : Int) - at23)) + (1 : Int)))))))) ≤ (↑(List.length b_0) : Int), CallOk P 43 [.v (.one (.slc 8))] [(8, .rd .u8 ((b_0.take ((IntKind.i64.wrap (at23 + (IntKind.i64.wrap ((IntKind.u64.wrap (cuts_1.getD i24.toNat 0)).tmod (IntKind.u64.wrap (IntKind.i64.wrap ((IntKind.i64.wrap ((↑(List.length m19) : Int) - at23)) + (1 : Int)))))))).toNat)).drop 0))] (.v (.agg [.arr .u8 32 a51])) []] (by kernel_rfl) (hcons ((sha_Sha_Len_ok a37 a38 r39 r44 e45).tr [(9000, .slc 2), (9001, .slc 7)] rfl (by kernel_rfl) ⟨.blkr (by kernel_rfl) (by kernel_rfl), .ownrd (e := 5) (by kernel_rfl), trivial⟩ (by kernel_rfl) (by kernel_rfl) rfl rfl) (hcons hb47 (hcons ((sha_Sha_Sum_ok a37 a38 r39 a48 e49).tr [(9000, .slc 2), (9001, .slc 7)] rfl (by kernel_rfl) ⟨.blkr (by kernel_rfl) (by kernel_rfl), .ownrd (e := 5) (by kernel_rfl), trivial⟩ (by kernel_rfl) (by kernel_rfl) rfl rfl) (hcons hn50 (hone ((ref01_Sum256_ok ((b_0.take ((IntKind.i64.wrap (at23 + (IntKind.i64.wrap ((IntKind.u64.wrap (cuts_1.getD i24.toNat 0)).tmod (IntKind.u64.wrap (IntKind.i64.wrap ((IntKind.i64.wrap ((↑(List.length m19) : Int) - at23)) + (1 : Int)))))))).toNat)).drop 0) a51 e52).tr [(9000, .slc 8)] rfl (by kernel_rfl) ⟨.rd (by kernel_rfl), trivial⟩ (by kernel_rfl) (by kernel_rfl) rfl rfl)))))) ?_
                  refine q_k ?_
                  rcases ite_split h with ⟨hc53, h⟩ | ⟨hc53, h⟩
                  · refine tr_cond_t (!(decide (a48 = a51))) (by kernel_rfl) hc53 ?_
                    refine tr_seq ?_
                    refine tr_reg hT [] [.s 4] [sB 4 false] [] (by kernel_rfl) trivial ?_
                    refine q_k ?_
                    refine tr_ret ?_
                    refine q_b_ret ?_
                    refine q_k_ret ?_
                    refine q_kr_ret ?_
                    have h := Option.some.inj h
                    subst h
                    exact q_less [.s 4] [sB 4 false] (by kernel_rfl) (hr0 false _ rfl ⟨by kernel_rfl, by kernel_rfl⟩)
                  · refine tr_cond_f (!(decide (a48 = a51))) (by kernel_rfl) hc53 ?_
                    refine tr_skip ?_
                    refine q_b 1 ?_
                    refine q_k ?_
                    refine tr_reg hT [] [.s 0, .s 1, .s 5, .s 6, .s 7, .s 8, .s 9, .h 0, .h 1, .h 2, .h 7, .h 9000, .h 9001] [sO 0 (.slc 9000), sO 1 (.slc 9001), sO 5 (.slc 0), sO 6 (.ptr 1 0), sO 7 (.ptr 2 0), sI 8 .i64 (IntKind.i64.wrap (at23 + (IntKind.i64.wrap ((IntKind.u64.wrap (cuts_1.getD i24.toNat 0)).tmod (IntKind.u64.wrap (IntKind.i64.wrap ((IntKind.i64.wrap ((↑(List.length m19) : Int) - at23)) + (1 : Int)))))))), sI 9 .i64 (IntKind.i64.wrap (i24 + (1 : Int))), hR 0 .u8 m19, hB 1 62 [.arr .u8 32 a6], hB 2 90 [.arr .u32 8 a37, .slc 7, .int .i64 r39], hO 7 5 .u8 a38, hR 9000 .u8 b_0, hR 9001 .i64 cuts_1] [] (by kernel_rfl) trivial ?_
                    refine q_kr ?_
                    exact trR_fit [(3, .slc 7)] [sO 0 (.slc 9000), sO 1 (.slc 9001), sO 5 (.slc 0), sO 6 (.ptr 1 0), sO 7 (.ptr 2 0), sI 8 .i64 (IntKind.i64.wrap (at23 + (IntKind.i64.wrap ((IntKind.u64.wrap (cuts_1.getD i24.toNat 0)).tmod (IntKind.u64.wrap (IntKind.i64.wrap ((IntKind.i64.wrap ((↑(List.length m19) : Int) - at23)) + (1 : Int)))))))), sI 9 .i64 (IntKind.i64.wrap (i24 + (1 : Int))), hR 0 .u8 m19, hB 1 62 [.arr .u8 32 a6], hB 2 90 [.arr .u32 8 a37, .slc 3, .int .i64 r39], hO 3 5 .u8 a38, hR 9000 .u8 b_0, hR 9001 .i64 cuts_1] [(0, .rd .u8 m19), (1, .blk 62 [.arr .u8 32 a6]), (2, .blk 90 [.arr .u32 8 a37, .slc 3, .int .i64 r39]), (3, .own 5 .u8 a38), (9000, .rd .u8 b_0), (9001, .rd .i64 cuts_1)] (by kernel_rfl) (by kernel_rfl) (by kernel_rfl) rfl ⟨.rd (by kernel_rfl), .blk (by kernel_rfl) (by kernel_rfl), .blk (by kernel_rfl) (by kernel_rfl), .own (by kernel_rfl), .rd (by kernel_rfl), .rd (by kernel_rfl), trivial⟩ (by kernel_rfl) (ih0 (m19, a37, a38, r39, (IntKind.i64.wrap (at23 + (IntKind.i64.wrap ((IntKind.u64.wrap (cuts_1.getD i24.toNat 0)).tmod (IntKind.u64.wrap (IntKind.i64.wrap ((IntKind.i64.wrap ((↑(List.length m19) : Int) - at23)) + (1 : Int)))))))), (IntKind.i64.wrap (i24 + (1 : Int)))) h)
              · refine tr_cond_f (decide (at23 < (↑(List.length m19) : Int))) (by kernel_rfl) hc31 ?_
                refine tr_exit ?_
                refine q_k_exit ?_
                refine q_kr_exit ?_
                have h := Option.some.inj h
                subst h
                exact q_fit [(4, .slc 3)] [sO 0 (.slc 9000), sO 5 (.slc 0), sO 6 (.ptr 1 0), sO 7 (.ptr 2 0), sI 8 .i64 at23, hR 0 .u8 m19, hB 1 62 [.arr .u8 32 a6], hB 2 90 [.arr .u32 8 m20, .slc 4, .int .i64 m22], hO 4 5 .u8 m21, hR 9000 .u8 b_0] [(0, .rd .u8 m19), (1, .blk 62 [.arr .u8 32 a6]), (2, .blk 90 [.arr .u32 8 m20, .slc 4, .int .i64 m22]), (4, .own 5 .u8 m21), (9000, .rd .u8 b_0)] (by kernel_rfl) (by kernel_rfl) (by kernel_rfl) rfl ⟨.rd (by kernel_rfl), .blk (by kernel_rfl) (by kernel_rfl), .blk (by kernel_rfl) (by kernel_rfl), .own (by kernel_rfl), .rd (by kernel_rfl), trivial⟩ (by kernel_rfl) (hx0 (m19, m20, m21, m22, at23) rfl)
            · refine tr_reg hT [(4, .dec false)] [.s 0, .s 1, .s 5, .s 6, .s 7, .s 8, .s 9, .s 46, .h 0, .h 1, .h 2, .h 3, .h 9000, .h 9001] [sO 0 (.slc 9000), sO 1 (.slc 9001), sO 5 (.slc 0), sO 6 (.ptr 1 0), sO 7 (.ptr 2 0), sI 8 .i64 at23, sI 9 .i64 i24, sB 46 false, hR 0 .u8 m19, hB 1 62 [.arr .u8 32 a6], hB 2 90 [.arr .u32 8 m20, .slc 3, .int .i64 m22], hO 3 5 .u8 m21, hR 9000 .u8 b_0, hR 9001 .i64 cuts_1] [(decide (i24 < (↑(List.length cuts_1) : Int))) = false] (by kernel_rfl) (hone hb54) ?_
              refine q_k ?_
              refine tr_cond_f false (by kernel_rfl) rfl ?_
              refine tr_exit ?_
              refine q_k_exit ?_
              refine q_kr_exit ?_
              have h := Option.some.inj h
              subst h
              exact q_fit [(4, .slc 3)] [sO 0 (.slc 9000), sO 5 (.slc 0), sO 6 (.ptr 1 0), sO 7 (.ptr 2 0), sI 8 .i64 at23, hR 0 .u8 m19, hB 1 62 [.arr .u8 32 a6], hB 2 90 [.arr .u32 8 m20, .slc 4, .int .i64 m22], hO 4 5 .u8 m21, hR 9000 .u8 b_0] [(0, .rd .u8 m19), (1, .blk 62 [.arr .u8 32 a6]), (2, .blk 90 [.arr .u32 8 m20, .slc 4, .int .i64 m22]), (4, .own 5 .u8 m21), (9000, .rd .u8 b_0)] (by kernel_rfl) (by kernel_rfl) (by kernel_rfl) rfl ⟨.rd (by kernel_rfl), .blk (by kernel_rfl) (by kernel_rfl), .blk (by kernel_rfl) (by kernel_rfl), .own (by kernel_rfl), .rd (by kernel_rfl), trivial⟩ (by kernel_rfl) (hx0 (m19, m20, m21, m22, at23) rfl)

end Go.Proofs.Sa
