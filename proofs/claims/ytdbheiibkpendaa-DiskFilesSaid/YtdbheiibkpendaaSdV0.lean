/- Walks, printed by a program of this session (gowalk.py): each Go function comes to its plain function's answer. -/
import Derived.Test.YtdbheiibkpendaaSdA
import Derived.Test.YtdbheiibkpendaaSdD
import Derived.Test.YtdbheiibkpendaaMSdS
namespace Go.Proofs.Sd
open Go Go.Gw D
set_option linter.unusedVariables false
set_option maxRecDepth 20000

theorem disk_New_ok (limit_0 : Int) (r : MV × Int × AH) (h : disk_New limit_0 = some r) : CallOk P 13 [.v (.one (.int .i64 limit_0))] [] (.tup [.one (.slc 8900), .one (.int .i64 r.2.1)]) [(8900, .apt 8901 r.1), (8901, .arena true [] r.2.2)] := by
  refine call1 (N := 14) Try.func13 (by kernel_rfl) rfl rfl rfl [] (by kernel_rfl) ?_
  intro _ B w0
  show Tr P B 14 w0 _ _ (RetQ P Try.f13 (R1 _ _ B w0))
  unfold disk_New at h
  refine tr_seq ?_
  refine tr_rg hT [] [sI 0 .i64 limit_0] hnil ?_
  refine q_k ?_
  refine tr_seq ?_
  refine tr_seq ?_
  rcases ite_split h with ⟨hb1, h⟩ | ⟨hb2, h⟩
  · refine tr_rg hT [(2, .dec true)] [sI 0 .i64 limit_0, sB 9 true] (hone hb1) ?_
    refine q_k ?_
    refine tr_cond_t true (by kernel_rfl) rfl ?_
    refine tr_seq ?_
    refine tr_rg hT [] [sO 2 (.nilp), sI 3 .i64 (1 : Int)] hnil ?_
    refine q_k ?_
    refine tr_ret ?_
    refine q_k_ret ?_
    have h := Option.some.inj h
    subst h
    refine q_ft [(8900, .nilp), (8901, .fn 0)] [sO 2 (.slc 8900), sI 3 .i64 (1 : Int), (.h 8900, .e (.apt 8901 MV.nilp)), (.h 8901, .e (.arena true [] ([] : AH)))] ⟨.aptnil, .arena0, trivial⟩ ?_
    exact q_ret1 hT (.tup [.one (.slc 8900), .one (.int .i64 (1 : Int))]) [(8900, .apt 8901 MV.nilp), (8901, .arena true [] ([] : AH))] (by kernel_rfl) (by kernel_rfl) (by kernel_rfl)
  · refine tr_rg hT [(2, .dec false)] [sI 0 .i64 limit_0, sB 9 (decide (limit_0 > (131072 : Int)))] (hone hb2) ?_
    refine q_k ?_
    rcases ite_split h with ⟨hc3, h⟩ | ⟨hc3, h⟩
    · refine tr_cond_t (decide (limit_0 > (131072 : Int))) (by kernel_rfl) hc3 ?_
      refine tr_seq ?_
      refine tr_rg hT [] [sO 2 (.nilp), sI 3 .i64 (1 : Int)] hnil ?_
      refine q_k ?_
      refine tr_ret ?_
      refine q_k_ret ?_
      have h := Option.some.inj h
      subst h
      refine q_ft [(8900, .nilp), (8901, .fn 0)] [sO 2 (.slc 8900), sI 3 .i64 (1 : Int), (.h 8900, .e (.apt 8901 MV.nilp)), (.h 8901, .e (.arena true [] ([] : AH)))] ⟨.aptnil, .arena0, trivial⟩ ?_
      exact q_ret1 hT (.tup [.one (.slc 8900), .one (.int .i64 (1 : Int))]) [(8900, .apt 8901 MV.nilp), (8901, .arena true [] ([] : AH))] (by kernel_rfl) (by kernel_rfl) (by kernel_rfl)
    · refine tr_cond_f (decide (limit_0 > (131072 : Int))) (by kernel_rfl) hc3 ?_
      refine tr_skip ?_
      refine q_k ?_
      refine tr_seq ?_
      refine tr_rg hT [(1, .arN 0 [1, 2]), (3, .ar 1 [3, 4])] [sO 2 (.slc 4), sI 3 .i64 (0 : Int), (.h 3, .e (.arena true [1, 0] ((([] : AH) ++ [MO.map []]) ++ [MO.cells 70 [MV.int .i64 limit_0, MV.map (List.length ([] : AH)), MV.bool false, MV.int .i64 (0 : Int), MV.nilp]]))), (.h 4, .e (.apt 3 (MV.ptr (List.length (([] : AH) ++ [MO.map []])) 0)))] hnil ?_
      refine q_k ?_
      refine tr_ret ?_
      have h := Option.some.inj h
      subst h
      refine q_ft [(8900, .slc 4), (8901, .slc 3)] [sO 2 (.slc 8900), sI 3 .i64 (0 : Int), (.h 8900, .e (.apt 8901 (MV.ptr (List.length (([] : AH) ++ [MO.map []])) 0))), (.h 8901, .e (.arena true [] ((([] : AH) ++ [MO.map []]) ++ [MO.cells 70 [MV.int .i64 limit_0, MV.map (List.length ([] : AH)), MV.bool false, MV.int .i64 (0 : Int), MV.nilp]])))] ⟨.apt' (κb := 3) (κ0 := 3) (rw := true) (bs := [1, 0]) (D := ((([] : AH) ++ [MO.map []]) ++ [MO.cells 70 [MV.int .i64 limit_0, MV.map (List.length ([] : AH)), MV.bool false, MV.int .i64 (0 : Int), MV.nilp]])), .arena' (bs := [1, 0]), trivial⟩ ?_
      exact q_ret1 hT (.tup [.one (.slc 8900), .one (.int .i64 (0 : Int))]) [(8900, .apt 8901 (MV.ptr (List.length (([] : AH) ++ [MO.map []])) 0)), (8901, .arena true [] ((([] : AH) ++ [MO.map []]) ++ [MO.cells 70 [MV.int .i64 limit_0, MV.map (List.length ([] : AH)), MV.bool false, MV.int .i64 (0 : Int), MV.nilp]]))] (by kernel_rfl) (by kernel_rfl) (by kernel_rfl)

theorem disk_file_settle_ok (H_0 : AH) (f_1 : MV) (r : AH) (h : disk_file_settle H_0 f_1 = some r) : CallOk P 48 [.v (.one (.slc 9001))] [(9000, .arena true [] H_0), (9001, .apt 9000 f_1)] (.tup []) [(8900, .arena true [9000] r), (9000, .dead)] := by
  refine call1 (N := 13) Try.func48 (by kernel_rfl) rfl rfl rfl [(9000, .arena true [] H_0), (9001, .apt 9000 f_1)] (by kernel_rfl) ?_
  intro _ B w0
  show Tr P B 13 w0 _ _ (RetQ P Try.f48 (R1 _ _ B w0))
  unfold disk_file_settle at h
  obtain ⟨hn1, h⟩ := ite_some h
  obtain ⟨hn2, h⟩ := ite_some h
  obtain ⟨hn3, h⟩ := ite_some h
  obtain ⟨hn4, h⟩ := ite_some h
  obtain ⟨hn5, h⟩ := ite_some h
  obtain ⟨hn6, h⟩ := ite_some h
  refine tr_rg hT [(3, .ar 9000 []), (4, .ar 9000 []), (5, .ar 9000 [0]), (6, .ar 9000 []), (7, .ar 9000 []), (8, .ar 9000 []), (9, .ar 9000 [1]), (10, .ar 1 []), (11, .ar 1 []), (12, .ar 1 [2])] [(.h 2, .e (.arena true [1, 9000] (AH.wr (AH.wr H_0 f_1 1 [MV.int .i64 (↑(MV.len (AH.rd H_0 f_1 0)) : Int)]) f_1 2 [MV.nils])))] (hcons hn1 (hcons hn1 (hcons hn2 (hcons hn3 (hcons hn1 (hcons hn1 (hcons hn4 (hcons (show 1 ≤ 1 from by decide) (hcons hn5 (hcons hn5 (hcons hn6 (hone (show 1 ≤ 1 from by decide))))))))))))) ?_
  have h := Option.some.inj h
  subst h
  refine q_ft [(8900, .slc 2)] [(.h 8900, .e (.arena true [9000] (AH.wr (AH.wr H_0 f_1 1 [MV.int .i64 (↑(MV.len (AH.rd H_0 f_1 0)) : Int)]) f_1 2 [MV.nils]))), hD 9000] ⟨.arena' (bs := [1, 9000]), .dead, trivial⟩ ?_
  exact q_end1 hT (.tup []) [(8900, .arena true [9000] (AH.wr (AH.wr H_0 f_1 1 [MV.int .i64 (↑(MV.len (AH.rd H_0 f_1 0)) : Int)]) f_1 2 [MV.nils])), (9000, .dead)] (by kernel_rfl) (by kernel_rfl) (by kernel_rfl)

theorem disk_Disk_Crash_ok (H_0 : AH) (d_1 : MV) (keep_2 : List Bool) (torn_3 : Int) (at_4 : Int) (r : AH) (h : disk_Disk_Crash H_0 d_1 keep_2 torn_3 at_4 = some r) : CallOk P 16 [.v (.one (.slc 9001)), .v (.one (.slc 9002)), .v (.one (.int .i64 torn_3)), .v (.one (.int .i64 at_4))] [(9000, .arena true [] H_0), (9001, .apt 9000 d_1), (9002, .rdb keep_2)] (.tup []) [(8900, .arena true [9000] r), (9000, .dead)] := by
  refine call1 (N := 97) Try.func16 (by kernel_rfl) rfl rfl rfl [(9000, .arena true [] H_0), (9001, .apt 9000 d_1), (9002, .rdb keep_2)] (by kernel_rfl) ?_
  intro _ B w0
  show Tr P B 97 w0 _ _ (RetQ P Try.f16 (R1 _ _ B w0))
  unfold disk_Disk_Crash at h
  refine tr_seq ?_
  refine tr_seq ?_
  obtain ⟨hn1, h⟩ := ite_some h
  obtain ⟨hn2, h⟩ := ite_some h
  obtain ⟨hn3, h⟩ := ite_some h
  refine tr_rg hT [(1, .ar 9000 []), (2, .ar 9000 []), (3, .ar 9000 [])] [sO 0 (.slc 9001), sO 1 (.slc 9002), sI 2 .i64 torn_3, sI 3 .i64 at_4, sB 19 (MV.tr (AH.rd H_0 d_1 2)), (.h 9000, .e (.arena true [] H_0)), (.h 9001, .e (.apt 9000 d_1)), (.h 9002, .e (.rdb keep_2))] (hcons hn1 (hcons hn1 (hcons hn2 (hone hn3)))) ?_
  refine q_k ?_
  rcases ite_split h with ⟨hc4, h⟩ | ⟨hc4, h⟩
  · refine tr_cond_t (MV.tr (AH.rd H_0 d_1 2)) (by kernel_rfl) hc4 ?_
    refine tr_ret ?_
    refine q_k_ret ?_
    have h := Option.some.inj h
    subst h
    refine q_ft [(8900, .slc 9000)] [(.h 8900, .e (.arena true [9000] H_0)), hD 9000] ⟨.arena' (bs := []), .dead, trivial⟩ ?_
    exact q_ret1 hT (.tup []) [(8900, .arena true [9000] H_0), (9000, .dead)] (by kernel_rfl) (by kernel_rfl) (by kernel_rfl)
  · refine tr_cond_f (MV.tr (AH.rd H_0 d_1 2)) (by kernel_rfl) hc4 ?_
    refine tr_skip ?_
    refine q_k ?_
    refine tr_seq ?_
    refine tr_rg hT [] [sO 0 (.slc 9001), sO 1 (.slc 9002), sI 2 .i64 torn_3, sI 3 .i64 at_4, sI 8 .i64 (0 : Int), (.h 9000, .e (.arena true [] H_0)), (.h 9001, .e (.apt 9000 d_1)), (.h 9002, .e (.rdb keep_2))] hnil ?_
    refine q_k ?_
    refine tr_seq ?_
    refine tr_seq ?_
    obtain ⟨a5, e6, h⟩ := bind_some h
    refine tr_rg hT [(1, .callA [(9000, .ro), (9001, .apt 9000)] (.v (.one (.slc 0))) [(0, .own 3 .i64 a5)])] [sO 0 (.slc 9001), sO 1 (.slc 9002), sI 2 .i64 torn_3, sI 3 .i64 at_4, sI 8 .i64 (0 : Int), sO 21 (.slc 0), sI 22 .i64 (↑(List.length a5) : Int), sI 23 .i64 (0 : Int), hO 0 3 .i64 a5, (.h 9000, .e (.arena true [] H_0)), (.h 9001, .e (.apt 9000 d_1)), (.h 9002, .e (.rdb keep_2))] (hone ((disk_Disk_Files_ok H_0 d_1 a5 e6).tr1 [(9001, .slc 9001), (9000, .slc 9000), (8900, .slc 0)] [(9000, .arena false [] H_0), (9001, .apt 9000 d_1)] ⟨.arena' (bs := []), .apts' (κb := 9000), trivial⟩)) ?_
    refine q_k ?_
    refine tr_block ?_
    obtain ⟨H10, e51, h⟩ := bind_some h
    refine tr_ft [(1, .slc 9000)] [sO 0 (.slc 9001), sO 1 (.slc 9002), sI 2 .i64 torn_3, sI 3 .i64 at_4, sI 8 .i64 (0 : Int), sO 21 (.slc 0), sI 22 .i64 (↑(List.length a5) : Int), sI 23 .i64 (0 : Int), hO 0 3 .i64 a5, (.h 1, .e (.arena true [9000] H_0)), (.h 9001, .e (.apt 1 d_1)), (.h 9002, .e (.rdb keep_2))] ⟨.own', .arena' (bs := []), .apt' (κb := 9000) (κ0 := 9000) (rw := true) (bs := []) (D := H_0), .rdb', trivial⟩ ?_
    refine tr_loop_fuel (id := 0) (α := AH × Int × Int) (β := AH) (fun z => [sO 0 (.slc 9001), sO 1 (.slc 9002), sI 2 .i64 torn_3, sI 3 .i64 at_4, sI 8 .i64 z.2.1, sO 21 (.slc 0), sI 22 .i64 (↑(List.length a5) : Int), sI 23 .i64 z.2.2, hO 0 3 .i64 a5, (.h 1, .e (.arena true [9000] z.1)), (.h 9001, .e (.apt 1 d_1)), (.h 9002, .e (.rdb keep_2))]) (fun z => [sO 0 (.slc 9001), (.h 2, .e (.arena true [9000] z)), (.h 9001, .e (.apt 2 d_1))]) (fun k z => disk_Disk_Crash_l0 d_1 keep_2 torn_3 at_4 a5 k z.1 z.2.1 z.2.2) H10 (fun _ => rfl) (((↑(List.length a5) : Int) - (0 : Int)).toNat + 1) (H_0, (0 : Int), (0 : Int)) e51 ?_ ?_
    · skip
      replace h : (if MV.isP d_1 = true ∧ AH.ok H10 d_1 0 1 = true then if AH.ok H10 d_1 2 1 = true then if MV.isP d_1 = true ∧ AH.ok (AH.wr H10 d_1 2 [MV.bool true]) d_1 0 1 = true then if AH.ok (AH.wr H10 d_1 2 [MV.bool true]) d_1 4 1 = true then if MV.isP d_1 = true ∧ AH.ok (AH.wr (AH.wr H10 d_1 2 [MV.bool true]) d_1 4 [MV.nilp]) d_1 0 1 = true then if AH.ok (AH.wr (AH.wr H10 d_1 2 [MV.bool true]) d_1 4 [MV.nilp]) d_1 3 1 = true then if MV.isI .i64 (AH.rd (AH.wr (AH.wr H10 d_1 2 [MV.bool true]) d_1 4 [MV.nilp]) d_1 3) = true then some (AH.wr (AH.wr (AH.wr H10 d_1 2 [MV.bool true]) d_1 4 [MV.nilp]) d_1 3 [MV.int .i64 (IntKind.i64.wrap ((MV.num (AH.rd (AH.wr (AH.wr H10 d_1 2 [MV.bool true]) d_1 4 [MV.nilp]) d_1 3)) + (1 : Int)))]) else none else none else none else none else none else none else none) = _ := h
      refine q_b_this ?_
      refine q_k ?_
      refine tr_seq ?_
      obtain ⟨hn52, h⟩ := ite_some h
      obtain ⟨hn53, h⟩ := ite_some h
      obtain ⟨hn54, h⟩ := ite_some h
      obtain ⟨hn55, h⟩ := ite_some h
      refine tr_rg hT [(2, .ar 2 []), (3, .ar 2 []), (4, .ar 2 [56]), (5, .ar 56 []), (6, .ar 56 []), (7, .ar 56 [57])] [sO 0 (.slc 9001), (.h 57, .e (.arena true [56, 2, 9000] (AH.wr (AH.wr H10 d_1 2 [MV.bool true]) d_1 4 [MV.nilp]))), (.h 9001, .e (.apt 2 d_1))] (hcons hn52 (hcons hn52 (hcons hn53 (hcons (show 1 ≤ 1 from by decide) (hcons hn54 (hcons hn54 (hcons hn55 (hone (show 1 ≤ 1 from by decide))))))))) ?_
      refine q_k ?_
      obtain ⟨hn56, h⟩ := ite_some h
      obtain ⟨hn57, h⟩ := ite_some h
      obtain ⟨hn58, h⟩ := ite_some h
      refine tr_rg hT [(1, .ar 57 []), (2, .ar 57 []), (3, .ar 57 []), (5, .ar 57 []), (6, .ar 57 []), (7, .ar 57 [58])] [(.h 58, .e (.arena true [57, 56, 2, 9000] (AH.wr (AH.wr (AH.wr H10 d_1 2 [MV.bool true]) d_1 4 [MV.nilp]) d_1 3 [MV.int .i64 (IntKind.i64.wrap ((MV.num (AH.rd (AH.wr (AH.wr H10 d_1 2 [MV.bool true]) d_1 4 [MV.nilp]) d_1 3)) + (1 : Int)))])))] (hcons hn56 (hcons hn56 (hcons hn57 (hcons hn58 (hcons hn56 (hcons hn56 (hcons hn57 (hone (show 1 ≤ 1 from by decide))))))))) ?_
      have h := Option.some.inj h
      subst h
      refine q_ft [(8900, .slc 58)] [(.h 8900, .e (.arena true [9000] (AH.wr (AH.wr (AH.wr H10 d_1 2 [MV.bool true]) d_1 4 [MV.nilp]) d_1 3 [MV.int .i64 (IntKind.i64.wrap ((MV.num (AH.rd (AH.wr (AH.wr H10 d_1 2 [MV.bool true]) d_1 4 [MV.nilp]) d_1 3)) + (1 : Int)))]))), hD 9000] ⟨.arena' (bs := [57, 56, 2, 9000]), .dead, trivial⟩ ?_
      exact q_end1 hT (.tup []) [(8900, .arena true [9000] (AH.wr (AH.wr (AH.wr H10 d_1 2 [MV.bool true]) d_1 4 [MV.nilp]) d_1 3 [MV.int .i64 (IntKind.i64.wrap ((MV.num (AH.rd (AH.wr (AH.wr H10 d_1 2 [MV.bool true]) d_1 4 [MV.nilp]) d_1 3)) + (1 : Int)))])), (9000, .dead)] (by kernel_rfl) (by kernel_rfl) (by kernel_rfl)
    · clear h e51
      intro k ih0 hx0 z h
      obtain ⟨H7, k8, x9⟩ := z
      replace h : (if (decide (x9 < (↑(List.length a5) : Int))) = true then if 0 ≤ x9 ∧ x9 < ↑(List.length a5) then if MV.isP d_1 = true ∧ AH.ok H7 d_1 0 1 = true then if AH.ok H7 d_1 1 1 = true then if AH.isMap H7 (AH.rd H7 d_1 1) = true then if MV.isP (AH.look H7 (AH.rd H7 d_1 1) (a5.getD x9.toNat 0)) = true ∧ AH.ok H7 (AH.look H7 (AH.rd H7 d_1 1) (a5.getD x9.toNat 0)) 0 1 = true then if AH.ok H7 (AH.look H7 (AH.rd H7 d_1 1) (a5.getD x9.toNat 0)) 1 1 = true then if MV.isI .i64 (AH.rd H7 (AH.look H7 (AH.rd H7 d_1 1) (a5.getD x9.toNat 0)) 1) = true then if AH.ok H7 (AH.look H7 (AH.rd H7 d_1 1) (a5.getD x9.toNat 0)) 2 1 = true then if AH.isRow H7 1 (AH.rd H7 (AH.look H7 (AH.rd H7 d_1 1) (a5.getD x9.toNat 0)) 2) = true then (disk_Disk_Crash_l1 d_1 keep_2 torn_3 at_4 a5 H7 x9 (((↑(MV.len (AH.rd H7 (AH.look H7 (AH.rd H7 d_1 1) (a5.getD x9.toNat 0)) 2)) : Int) - (0 : Int)).toNat + 1) H7 k8 (MV.num (AH.rd H7 (AH.look H7 (AH.rd H7 d_1 1) (a5.getD x9.toNat 0)) 1)) (0 : Int)).bind (fun (H25, k26) => (disk_file_settle H25 (AH.look H7 (AH.rd H7 d_1 1) (a5.getD x9.toNat 0))).bind (fun H49 => disk_Disk_Crash_l0 d_1 keep_2 torn_3 at_4 a5 k H49 k26 (IntKind.i64.wrap (x9 + (1 : Int))))) else none else none else none else none else none else none else none else none else none else some H7) = _ := h
      refine tr_seq ?_
      refine tr_rg hT [] [sO 0 (.slc 9001), sO 1 (.slc 9002), sI 2 .i64 torn_3, sI 3 .i64 at_4, sI 8 .i64 k8, sO 21 (.slc 0), sI 22 .i64 (↑(List.length a5) : Int), sI 23 .i64 x9, sB 24 (decide (x9 < (↑(List.length a5) : Int))), hO 0 3 .i64 a5, (.h 1, .e (.arena true [9000] H7)), (.h 9001, .e (.apt 1 d_1)), (.h 9002, .e (.rdb keep_2))] hnil ?_
      refine q_k ?_
      refine tr_seq ?_
      rcases ite_split h with ⟨hc11, h⟩ | ⟨hc11, h⟩
      · refine tr_cond_t (decide (x9 < (↑(List.length a5) : Int))) (by kernel_rfl) hc11 ?_
        refine tr_skip ?_
        refine q_k ?_
        refine tr_seq ?_
        refine tr_block ?_
        refine tr_seq ?_
        obtain ⟨hn12, h⟩ := ite_some h
        refine tr_rg hT [] [sO 0 (.slc 9001), sO 1 (.slc 9002), sI 2 .i64 torn_3, sI 3 .i64 at_4, sI 8 .i64 k8, sI 10 .i64 (a5.getD x9.toNat 0), sO 21 (.slc 0), sI 22 .i64 (↑(List.length a5) : Int), sI 23 .i64 x9, hO 0 3 .i64 a5, (.h 1, .e (.arena true [9000] H7)), (.h 9001, .e (.apt 1 d_1)), (.h 9002, .e (.rdb keep_2))] (hcons hn12 (hone hn12.2)) ?_
        refine q_k ?_
        refine tr_seq ?_
        obtain ⟨hn13, h⟩ := ite_some h
        obtain ⟨hn14, h⟩ := ite_some h
        obtain ⟨hn15, h⟩ := ite_some h
        refine tr_rg hT [(1, .ar 1 []), (2, .ar 1 []), (3, .ar 1 [3]), (5, .ar 1 [4])] [sO 0 (.slc 9001), sO 1 (.slc 9002), sI 2 .i64 torn_3, sI 3 .i64 at_4, sI 8 .i64 k8, sO 11 (.slc 4), sO 21 (.slc 0), sI 22 .i64 (↑(List.length a5) : Int), sI 23 .i64 x9, hO 0 3 .i64 a5, (.h 1, .e (.arena true [9000] H7)), (.h 4, .e (.apt 1 (AH.look H7 (AH.rd H7 d_1 1) (a5.getD x9.toNat 0)))), (.h 9001, .e (.apt 1 d_1)), (.h 9002, .e (.rdb keep_2))] (hcons hn13 (hcons hn13 (hcons hn14 (hone hn15)))) ?_
        refine q_k ?_
        refine tr_seq ?_
        obtain ⟨hn16, h⟩ := ite_some h
        obtain ⟨hn17, h⟩ := ite_some h
        obtain ⟨hn18, h⟩ := ite_some h
        refine tr_rg hT [(1, .ar 1 []), (2, .ar 1 []), (3, .ar 1 [])] [sO 0 (.slc 9001), sO 1 (.slc 9002), sI 2 .i64 torn_3, sI 3 .i64 at_4, sI 8 .i64 k8, sO 11 (.slc 4), sI 12 .i64 (MV.num (AH.rd H7 (AH.look H7 (AH.rd H7 d_1 1) (a5.getD x9.toNat 0)) 1)), sO 21 (.slc 0), sI 22 .i64 (↑(List.length a5) : Int), sI 23 .i64 x9, hO 0 3 .i64 a5, (.h 1, .e (.arena true [9000] H7)), (.h 4, .e (.apt 1 (AH.look H7 (AH.rd H7 d_1 1) (a5.getD x9.toNat 0)))), (.h 9001, .e (.apt 1 d_1)), (.h 9002, .e (.rdb keep_2))] (hcons hn16 (hcons hn16 (hcons hn17 (hone hn18)))) ?_
        refine q_k ?_
        refine tr_seq ?_
        refine tr_seq ?_
        obtain ⟨hn19, h⟩ := ite_some h
        obtain ⟨hn20, h⟩ := ite_some h
        refine tr_rg hT [(1, .ar 1 []), (2, .ar 1 []), (3, .ar 1 [5]), (4, .ar 1 [])] [sO 0 (.slc 9001), sO 1 (.slc 9002), sI 2 .i64 torn_3, sI 3 .i64 at_4, sI 8 .i64 k8, sO 11 (.slc 4), sI 12 .i64 (MV.num (AH.rd H7 (AH.look H7 (AH.rd H7 d_1 1) (a5.getD x9.toNat 0)) 1)), sO 21 (.slc 0), sI 22 .i64 (↑(List.length a5) : Int), sI 23 .i64 x9, sO 40 (.slc 5), sI 41 .i64 (↑(MV.len (AH.rd H7 (AH.look H7 (AH.rd H7 d_1 1) (a5.getD x9.toNat 0)) 2)) : Int), sI 42 .i64 (0 : Int), hO 0 3 .i64 a5, (.h 1, .e (.arena true [9000] H7)), (.h 4, .e (.apt 1 (AH.look H7 (AH.rd H7 d_1 1) (a5.getD x9.toNat 0)))), (.h 5, .e (.apt 1 (AH.rd H7 (AH.look H7 (AH.rd H7 d_1 1) (a5.getD x9.toNat 0)) 2))), (.h 9001, .e (.apt 1 d_1)), (.h 9002, .e (.rdb keep_2))] (hcons hn16 (hcons hn16 (hcons hn19 (hone hn20)))) ?_
        refine q_k ?_
        refine tr_block ?_
        obtain ⟨rr1, e48, h⟩ := bind_some h
        refine tr_ft [(6, .slc 1)] [sO 0 (.slc 9001), sO 1 (.slc 9002), sI 2 .i64 torn_3, sI 3 .i64 at_4, sI 8 .i64 k8, sO 11 (.slc 4), sI 12 .i64 (MV.num (AH.rd H7 (AH.look H7 (AH.rd H7 d_1 1) (a5.getD x9.toNat 0)) 1)), sO 21 (.slc 0), sI 22 .i64 (↑(List.length a5) : Int), sI 23 .i64 x9, sO 40 (.slc 5), sI 41 .i64 (↑(MV.len (AH.rd H7 (AH.look H7 (AH.rd H7 d_1 1) (a5.getD x9.toNat 0)) 2)) : Int), sI 42 .i64 (0 : Int), hO 0 3 .i64 a5, (.h 4, .e (.apt 6 (AH.look H7 (AH.rd H7 d_1 1) (a5.getD x9.toNat 0)))), (.h 5, .e (.apt 6 (AH.rd H7 (AH.look H7 (AH.rd H7 d_1 1) (a5.getD x9.toNat 0)) 2))), (.h 6, .e (.arena true [9000] H7)), (.h 9001, .e (.apt 6 d_1)), (.h 9002, .e (.rdb keep_2))] ⟨.own', .apt' (κb := 1) (κ0 := 1) (rw := true) (bs := [9000]) (D := H7), .apt' (κb := 1) (κ0 := 1) (rw := true) (bs := [9000]) (D := H7), .arena' (bs := [9000]), .apt' (κb := 1) (κ0 := 1) (rw := true) (bs := [9000]) (D := H7), .rdb', trivial⟩ ?_
        refine tr_loop_fuel (id := 2) (α := AH × Int × Int × Int) (β := AH × Int) (fun z => [sO 0 (.slc 9001), sO 1 (.slc 9002), sI 2 .i64 torn_3, sI 3 .i64 at_4, sI 8 .i64 z.2.1, sO 11 (.slc 4), sI 12 .i64 z.2.2.1, sO 21 (.slc 0), sI 22 .i64 (↑(List.length a5) : Int), sI 23 .i64 x9, sO 40 (.slc 5), sI 41 .i64 (↑(MV.len (AH.rd H7 (AH.look H7 (AH.rd H7 d_1 1) (a5.getD x9.toNat 0)) 2)) : Int), sI 42 .i64 z.2.2.2, hO 0 3 .i64 a5, (.h 4, .e (.apt 6 (AH.look H7 (AH.rd H7 d_1 1) (a5.getD x9.toNat 0)))), (.h 5, .e (.apt 6 (AH.rd H7 (AH.look H7 (AH.rd H7 d_1 1) (a5.getD x9.toNat 0)) 2))), (.h 6, .e (.arena true [9000] z.1)), (.h 9001, .e (.apt 6 d_1)), (.h 9002, .e (.rdb keep_2))]) (fun z => [sO 0 (.slc 9001), sO 1 (.slc 9002), sI 2 .i64 torn_3, sI 3 .i64 at_4, sI 8 .i64 z.2, sO 11 (.slc 4), sO 21 (.slc 0), sI 22 .i64 (↑(List.length a5) : Int), sI 23 .i64 x9, hO 0 3 .i64 a5, (.h 4, .e (.apt 7 (AH.look H7 (AH.rd H7 d_1 1) (a5.getD x9.toNat 0)))), (.h 7, .e (.arena true [9000] z.1)), (.h 9001, .e (.apt 7 d_1)), (.h 9002, .e (.rdb keep_2))]) (fun k z => disk_Disk_Crash_l1 d_1 keep_2 torn_3 at_4 a5 H7 x9 k z.1 z.2.1 z.2.2.1 z.2.2.2) rr1 (fun _ => rfl) (((↑(MV.len (AH.rd H7 (AH.look H7 (AH.rd H7 d_1 1) (a5.getD x9.toNat 0)) 2)) : Int) - (0 : Int)).toNat + 1) (H7, k8, (MV.num (AH.rd H7 (AH.look H7 (AH.rd H7 d_1 1) (a5.getD x9.toNat 0)) 1)), (0 : Int)) e48 ?_ ?_
        · rcases rr1 with ⟨H25, k26⟩
          replace h : ((disk_file_settle H25 (AH.look H7 (AH.rd H7 d_1 1) (a5.getD x9.toNat 0))).bind (fun H49 => disk_Disk_Crash_l0 d_1 keep_2 torn_3 at_4 a5 k H49 k26 (IntKind.i64.wrap (x9 + (1 : Int))))) = _ := h
          refine q_b_this ?_
          refine q_k ?_
          obtain ⟨H49, e50, h⟩ := bind_some h
          refine tr_rg hT [(1, .callA [(7, .rw), (4, .apt 7)] (.tup []) [(55, .arena true [7] H49), (7, .dead)])] [sO 0 (.slc 9001), sO 1 (.slc 9002), sI 2 .i64 torn_3, sI 3 .i64 at_4, sI 8 .i64 k26, sO 21 (.slc 0), sI 22 .i64 (↑(List.length a5) : Int), sI 23 .i64 x9, hO 0 3 .i64 a5, (.h 55, .e (.arena true [7, 9000] H49)), (.h 9001, .e (.apt 7 d_1)), (.h 9002, .e (.rdb keep_2))] (hone ((disk_file_settle_ok H25 (AH.look H7 (AH.rd H7 d_1 1) (a5.getD x9.toNat 0)) H49 e50).tr1 [(9001, .slc 4), (9000, .slc 7), (8900, .slc 55)] [(7, .arena true [] H25), (4, .apt 7 (AH.look H7 (AH.rd H7 d_1 1) (a5.getD x9.toNat 0)))] ⟨.arena' (bs := []), .apts' (κb := 7), trivial⟩)) ?_
          refine q_b 1 ?_
          refine q_k ?_
          refine tr_rg hT [] [sO 0 (.slc 9001), sO 1 (.slc 9002), sI 2 .i64 torn_3, sI 3 .i64 at_4, sI 8 .i64 k26, sO 21 (.slc 0), sI 22 .i64 (↑(List.length a5) : Int), sI 23 .i64 (IntKind.i64.wrap (x9 + (1 : Int))), hO 0 3 .i64 a5, (.h 55, .e (.arena true [7, 9000] H49)), (.h 9001, .e (.apt 7 d_1)), (.h 9002, .e (.rdb keep_2))] hnil ?_
          refine q_kr ?_
          exact trR_ft [(1, .slc 55)] [sO 0 (.slc 9001), sO 1 (.slc 9002), sI 2 .i64 torn_3, sI 3 .i64 at_4, sI 8 .i64 k26, sO 21 (.slc 0), sI 22 .i64 (↑(List.length a5) : Int), sI 23 .i64 (IntKind.i64.wrap (x9 + (1 : Int))), hO 0 3 .i64 a5, (.h 1, .e (.arena true [9000] H49)), (.h 9001, .e (.apt 1 d_1)), (.h 9002, .e (.rdb keep_2))] ⟨.own', .arena' (bs := [7, 9000]), .apt' (κb := 7) (κ0 := 55) (rw := true) (bs := [7, 9000]) (D := H49), .rdb', trivial⟩ (ih0 (H49, k26, (IntKind.i64.wrap (x9 + (1 : Int)))) h)
        · clear h e48
          intro k ih1 hx1 z h
          obtain ⟨H21, k22, from23, x24⟩ := z
          replace h : (if (decide (x24 < (↑(MV.len (AH.rd H7 (AH.look H7 (AH.rd H7 d_1 1) (a5.getD x9.toNat 0)) 2)) : Int))) = true then if (0 ≤ x24 ∧ x24 < (↑(MV.len (AH.rd H7 (AH.look H7 (AH.rd H7 d_1 1) (a5.getD x9.toNat 0)) 2)) : Int)) ∧ AH.isRow H21 1 (AH.rd H7 (AH.look H7 (AH.rd H7 d_1 1) (a5.getD x9.toNat 0)) 2) = true then if AH.ok H21 (AH.rd H7 (AH.look H7 (AH.rd H7 d_1 1) (a5.getD x9.toNat 0)) 2) (x24.toNat * 1 + 0) 1 = true then if MV.isI .i64 (AH.rd H21 (AH.rd H7 (AH.look H7 (AH.rd H7 d_1 1) (a5.getD x9.toNat 0)) 2) (x24.toNat * 1 + 0)) = true then if MV.isP (AH.look H7 (AH.rd H7 d_1 1) (a5.getD x9.toNat 0)) = true ∧ AH.ok H21 (AH.look H7 (AH.rd H7 d_1 1) (a5.getD x9.toNat 0)) 0 1 = true then if AH.ok H21 (AH.look H7 (AH.rd H7 d_1 1) (a5.getD x9.toNat 0)) 0 1 = true then if 0 ≤ from23 ∧ from23 ≤ (MV.num (AH.rd H21 (AH.rd H7 (AH.look H7 (AH.rd H7 d_1 1) (a5.getD x9.toNat 0)) 2) (x24.toNat * 1 + 0))) ∧ (MV.num (AH.rd H21 (AH.rd H7 (AH.look H7 (AH.rd H7 d_1 1) (a5.getD x9.toNat 0)) 2) (x24.toNat * 1 + 0))) ≤ (↑(MV.len (AH.rd H21 (AH.look H7 (AH.rd H7 d_1 1) (a5.getD x9.toNat 0)) 0)) : Int) then if AH.isRow H21 1 (AH.rd H21 (AH.look H7 (AH.rd H7 d_1 1) (a5.getD x9.toNat 0)) 0) = true then if MV.lo (AH.rd H21 (AH.look H7 (AH.rd H7 d_1 1) (a5.getD x9.toNat 0)) 0) = 0 then (show Option (AH) from if (k22 == torn_3) = true then if AH.isRow H21 1 (MV.sub (AH.rd H21 (AH.look H7 (AH.rd H7 d_1 1) (a5.getD x9.toNat 0)) 0) from23.toNat (MV.num (AH.rd H21 (AH.rd H7 (AH.look H7 (AH.rd H7 d_1 1) (a5.getD x9.toNat 0)) 2) (x24.toNat * 1 + 0))).toNat) = true then if 0 ≤ (if (↑(MV.len (MV.sub (AH.rd H21 (AH.look H7 (AH.rd H7 d_1 1) (a5.getD x9.toNat 0)) 0) from23.toNat (MV.num (AH.rd H21 (AH.rd H7 (AH.look H7 (AH.rd H7 d_1 1) (a5.getD x9.toNat 0)) 2) (x24.toNat * 1 + 0))).toNat)) : Int) < (if (0 : Int) > at_4 then (0 : Int) else at_4) then (↑(MV.len (MV.sub (AH.rd H21 (AH.look H7 (AH.rd H7 d_1 1) (a5.getD x9.toNat 0)) 0) from23.toNat (MV.num (AH.rd H21 (AH.rd H7 (AH.look H7 (AH.rd H7 d_1 1) (a5.getD x9.toNat 0)) 2) (x24.toNat * 1 + 0))).toNat)) : Int) else (if (0 : Int) > at_4 then (0 : Int) else at_4)) ∧ (if (↑(MV.len (MV.sub (AH.rd H21 (AH.look H7 (AH.rd H7 d_1 1) (a5.getD x9.toNat 0)) 0) from23.toNat (MV.num (AH.rd H21 (AH.rd H7 (AH.look H7 (AH.rd H7 d_1 1) (a5.getD x9.toNat 0)) 2) (x24.toNat * 1 + 0))).toNat)) : Int) < (if (0 : Int) > at_4 then (0 : Int) else at_4) then (↑(MV.len (MV.sub (AH.rd H21 (AH.look H7 (AH.rd H7 d_1 1) (a5.getD x9.toNat 0)) 0) from23.toNat (MV.num (AH.rd H21 (AH.rd H7 (AH.look H7 (AH.rd H7 d_1 1) (a5.getD x9.toNat 0)) 2) (x24.toNat * 1 + 0))).toNat)) : Int) else (if (0 : Int) > at_4 then (0 : Int) else at_4)) ≤ (↑(MV.len (MV.sub (AH.rd H21 (AH.look H7 (AH.rd H7 d_1 1) (a5.getD x9.toNat 0)) 0) from23.toNat (MV.num (AH.rd H21 (AH.rd H7 (AH.look H7 (AH.rd H7 d_1 1) (a5.getD x9.toNat 0)) 2) (x24.toNat * 1 + 0))).toNat)) : Int) ∧ (↑(MV.len (MV.sub (AH.rd H21 (AH.look H7 (AH.rd H7 d_1 1) (a5.getD x9.toNat 0)) 0) from23.toNat (MV.num (AH.rd H21 (AH.rd H7 (AH.look H7 (AH.rd H7 d_1 1) (a5.getD x9.toNat 0)) 2) (x24.toNat * 1 + 0))).toNat)) : Int) ≤ (↑(MV.len (MV.sub (AH.rd H21 (AH.look H7 (AH.rd H7 d_1 1) (a5.getD x9.toNat 0)) 0) from23.toNat (MV.num (AH.rd H21 (AH.rd H7 (AH.look H7 (AH.rd H7 d_1 1) (a5.getD x9.toNat 0)) 2) (x24.toNat * 1 + 0))).toNat)) : Int) then if AH.isRow H21 1 (MV.sub (MV.sub (AH.rd H21 (AH.look H7 (AH.rd H7 d_1 1) (a5.getD x9.toNat 0)) 0) from23.toNat (MV.num (AH.rd H21 (AH.rd H7 (AH.look H7 (AH.rd H7 d_1 1) (a5.getD x9.toNat 0)) 2) (x24.toNat * 1 + 0))).toNat) (if (↑(MV.len (MV.sub (AH.rd H21 (AH.look H7 (AH.rd H7 d_1 1) (a5.getD x9.toNat 0)) 0) from23.toNat (MV.num (AH.rd H21 (AH.rd H7 (AH.look H7 (AH.rd H7 d_1 1) (a5.getD x9.toNat 0)) 2) (x24.toNat * 1 + 0))).toNat)) : Int) < (if (0 : Int) > at_4 then (0 : Int) else at_4) then (↑(MV.len (MV.sub (AH.rd H21 (AH.look H7 (AH.rd H7 d_1 1) (a5.getD x9.toNat 0)) 0) from23.toNat (MV.num (AH.rd H21 (AH.rd H7 (AH.look H7 (AH.rd H7 d_1 1) (a5.getD x9.toNat 0)) 2) (x24.toNat * 1 + 0))).toNat)) : Int) else (if (0 : Int) > at_4 then (0 : Int) else at_4)).toNat (↑(MV.len (MV.sub (AH.rd H21 (AH.look H7 (AH.rd H7 d_1 1) (a5.getD x9.toNat 0)) 0) from23.toNat (MV.num (AH.rd H21 (AH.rd H7 (AH.look H7 (AH.rd H7 d_1 1) (a5.getD x9.toNat 0)) 2) (x24.toNat * 1 + 0))).toNat)) : Int).toNat) = true then some (AH.clr H21 (MV.sub (MV.sub (AH.rd H21 (AH.look H7 (AH.rd H7 d_1 1) (a5.getD x9.toNat 0)) 0) from23.toNat (MV.num (AH.rd H21 (AH.rd H7 (AH.look H7 (AH.rd H7 d_1 1) (a5.getD x9.toNat 0)) 2) (x24.toNat * 1 + 0))).toNat) (if (↑(MV.len (MV.sub (AH.rd H21 (AH.look H7 (AH.rd H7 d_1 1) (a5.getD x9.toNat 0)) 0) from23.toNat (MV.num (AH.rd H21 (AH.rd H7 (AH.look H7 (AH.rd H7 d_1 1) (a5.getD x9.toNat 0)) 2) (x24.toNat * 1 + 0))).toNat)) : Int) < (if (0 : Int) > at_4 then (0 : Int) else at_4) then (↑(MV.len (MV.sub (AH.rd H21 (AH.look H7 (AH.rd H7 d_1 1) (a5.getD x9.toNat 0)) 0) from23.toNat (MV.num (AH.rd H21 (AH.rd H7 (AH.look H7 (AH.rd H7 d_1 1) (a5.getD x9.toNat 0)) 2) (x24.toNat * 1 + 0))).toNat)) : Int) else (if (0 : Int) > at_4 then (0 : Int) else at_4)).toNat (↑(MV.len (MV.sub (AH.rd H21 (AH.look H7 (AH.rd H7 d_1 1) (a5.getD x9.toNat 0)) 0) from23.toNat (MV.num (AH.rd H21 (AH.rd H7 (AH.look H7 (AH.rd H7 d_1 1) (a5.getD x9.toNat 0)) 2) (x24.toNat * 1 + 0))).toNat)) : Int).toNat) [MV.int .u8 (0 : Int)]) else none else none else none else if (decide (k22 ≥ (↑(List.length keep_2) : Int))) = true then if AH.isRow H21 1 (MV.sub (AH.rd H21 (AH.look H7 (AH.rd H7 d_1 1) (a5.getD x9.toNat 0)) 0) from23.toNat (MV.num (AH.rd H21 (AH.rd H7 (AH.look H7 (AH.rd H7 d_1 1) (a5.getD x9.toNat 0)) 2) (x24.toNat * 1 + 0))).toNat) = true then some (AH.clr H21 (MV.sub (AH.rd H21 (AH.look H7 (AH.rd H7 d_1 1) (a5.getD x9.toNat 0)) 0) from23.toNat (MV.num (AH.rd H21 (AH.rd H7 (AH.look H7 (AH.rd H7 d_1 1) (a5.getD x9.toNat 0)) 2) (x24.toNat * 1 + 0))).toNat) [MV.int .u8 (0 : Int)]) else none else if 0 ≤ k22 ∧ k22 < ↑(List.length keep_2) then if (!(keep_2.getD k22.toNat false)) = true then if AH.isRow H21 1 (MV.sub (AH.rd H21 (AH.look H7 (AH.rd H7 d_1 1) (a5.getD x9.toNat 0)) 0) from23.toNat (MV.num (AH.rd H21 (AH.rd H7 (AH.look H7 (AH.rd H7 d_1 1) (a5.getD x9.toNat 0)) 2) (x24.toNat * 1 + 0))).toNat) = true then some (AH.clr H21 (MV.sub (AH.rd H21 (AH.look H7 (AH.rd H7 d_1 1) (a5.getD x9.toNat 0)) 0) from23.toNat (MV.num (AH.rd H21 (AH.rd H7 (AH.look H7 (AH.rd H7 d_1 1) (a5.getD x9.toNat 0)) 2) (x24.toNat * 1 + 0))).toNat) [MV.int .u8 (0 : Int)]) else none else some H21 else none).bind (fun H36 => disk_Disk_Crash_l1 d_1 keep_2 torn_3 at_4 a5 H7 x9 k H36 (IntKind.i64.wrap (k22 + (1 : Int))) (MV.num (AH.rd H21 (AH.rd H7 (AH.look H7 (AH.rd H7 d_1 1) (a5.getD x9.toNat 0)) 2) (x24.toNat * 1 + 0))) (IntKind.i64.wrap (x24 + (1 : Int)))) else none else none else none else none else none else none else none else none else some (H21, k22)) = _ := h
          refine tr_seq ?_
          refine tr_rg hT [] [sO 0 (.slc 9001), sO 1 (.slc 9002), sI 2 .i64 torn_3, sI 3 .i64 at_4, sI 8 .i64 k22, sO 11 (.slc 4), sI 12 .i64 from23, sO 21 (.slc 0), sI 22 .i64 (↑(List.length a5) : Int), sI 23 .i64 x9, sO 40 (.slc 5), sI 41 .i64 (↑(MV.len (AH.rd H7 (AH.look H7 (AH.rd H7 d_1 1) (a5.getD x9.toNat 0)) 2)) : Int), sI 42 .i64 x24, sB 43 (decide (x24 < (↑(MV.len (AH.rd H7 (AH.look H7 (AH.rd H7 d_1 1) (a5.getD x9.toNat 0)) 2)) : Int))), hO 0 3 .i64 a5, (.h 4, .e (.apt 6 (AH.look H7 (AH.rd H7 d_1 1) (a5.getD x9.toNat 0)))), (.h 5, .e (.apt 6 (AH.rd H7 (AH.look H7 (AH.rd H7 d_1 1) (a5.getD x9.toNat 0)) 2))), (.h 6, .e (.arena true [9000] H21)), (.h 9001, .e (.apt 6 d_1)), (.h 9002, .e (.rdb keep_2))] hnil ?_
          refine q_k ?_
          refine tr_seq ?_
          rcases ite_split h with ⟨hc27, h⟩ | ⟨hc27, h⟩
          · refine tr_cond_t (decide (x24 < (↑(MV.len (AH.rd H7 (AH.look H7 (AH.rd H7 d_1 1) (a5.getD x9.toNat 0)) 2)) : Int))) (by kernel_rfl) hc27 ?_
            refine tr_skip ?_
            refine q_k ?_
            refine tr_seq ?_
            refine tr_block ?_
            refine tr_seq ?_
            obtain ⟨hn28, h⟩ := ite_some h
            obtain ⟨hn29, h⟩ := ite_some h
            obtain ⟨hn30, h⟩ := ite_some h
            refine tr_rg hT [(0, .ar 6 []), (1, .ar 6 [])] [sO 0 (.slc 9001), sO 1 (.slc 9002), sI 2 .i64 torn_3, sI 3 .i64 at_4, sI 8 .i64 k22, sO 11 (.slc 4), sI 12 .i64 from23, sI 14 .i64 (MV.num (AH.rd H21 (AH.rd H7 (AH.look H7 (AH.rd H7 d_1 1) (a5.getD x9.toNat 0)) 2) (x24.toNat * 1 + 0))), sO 21 (.slc 0), sI 22 .i64 (↑(List.length a5) : Int), sI 23 .i64 x9, sO 40 (.slc 5), sI 41 .i64 (↑(MV.len (AH.rd H7 (AH.look H7 (AH.rd H7 d_1 1) (a5.getD x9.toNat 0)) 2)) : Int), sI 42 .i64 x24, hO 0 3 .i64 a5, (.h 4, .e (.apt 6 (AH.look H7 (AH.rd H7 d_1 1) (a5.getD x9.toNat 0)))), (.h 5, .e (.apt 6 (AH.rd H7 (AH.look H7 (AH.rd H7 d_1 1) (a5.getD x9.toNat 0)) 2))), (.h 6, .e (.arena true [9000] H21)), (.h 9001, .e (.apt 6 d_1)), (.h 9002, .e (.rdb keep_2))] (hcons hn28 (hcons hn29 (hone hn30))) ?_
            refine q_k ?_
            refine tr_seq ?_
            refine tr_seq ?_
            obtain ⟨hn31, h⟩ := ite_some h
            obtain ⟨hn32, h⟩ := ite_some h
            obtain ⟨hn33, h⟩ := ite_some h
            obtain ⟨hn34, h⟩ := ite_some h
            obtain ⟨hn35, h⟩ := ite_some h
            refine tr_rg hT [(1, .ar 6 []), (2, .ar 6 []), (3, .ar 6 [8]), (6, .ar 6 [9])] [sO 0 (.slc 9001), sO 1 (.slc 9002), sI 2 .i64 torn_3, sI 3 .i64 at_4, sI 8 .i64 k22, sO 11 (.slc 4), sI 14 .i64 (MV.num (AH.rd H21 (AH.rd H7 (AH.look H7 (AH.rd H7 d_1 1) (a5.getD x9.toNat 0)) 2) (x24.toNat * 1 + 0))), sO 15 (.slc 9), sO 21 (.slc 0), sI 22 .i64 (↑(List.length a5) : Int), sI 23 .i64 x9, sO 40 (.slc 5), sI 41 .i64 (↑(MV.len (AH.rd H7 (AH.look H7 (AH.rd H7 d_1 1) (a5.getD x9.toNat 0)) 2)) : Int), sI 42 .i64 x24, hO 0 3 .i64 a5, (.h 4, .e (.apt 6 (AH.look H7 (AH.rd H7 d_1 1) (a5.getD x9.toNat 0)))), (.h 5, .e (.apt 6 (AH.rd H7 (AH.look H7 (AH.rd H7 d_1 1) (a5.getD x9.toNat 0)) 2))), (.h 6, .e (.arena true [9000] H21)), (.h 9, .e (.apt 6 (MV.sub (AH.rd H21 (AH.look H7 (AH.rd H7 d_1 1) (a5.getD x9.toNat 0)) 0) from23.toNat (MV.num (AH.rd H21 (AH.rd H7 (AH.look H7 (AH.rd H7 d_1 1) (a5.getD x9.toNat 0)) 2) (x24.toNat * 1 + 0))).toNat))), (.h 9001, .e (.apt 6 d_1)), (.h 9002, .e (.rdb keep_2))] (hcons hn31 (hcons hn31 (hcons hn32 (hcons hn33 (hcons hn34 (hone hn35)))))) ?_
            refine q_k ?_
            obtain ⟨H36, e47, h⟩ := bind_some h
            refine tr_join (σ1 := [sO 0 (.slc 9001), sO 1 (.slc 9002), sI 2 .i64 torn_3, sI 3 .i64 at_4, sI 8 .i64 k22, sO 11 (.slc 4), sI 14 .i64 (MV.num (AH.rd H21 (AH.rd H7 (AH.look H7 (AH.rd H7 d_1 1) (a5.getD x9.toNat 0)) 2) (x24.toNat * 1 + 0))), sO 21 (.slc 0), sI 22 .i64 (↑(List.length a5) : Int), sI 23 .i64 x9, sO 40 (.slc 5), sI 41 .i64 (↑(MV.len (AH.rd H7 (AH.look H7 (AH.rd H7 d_1 1) (a5.getD x9.toNat 0)) 2)) : Int), sI 42 .i64 x24, hO 0 3 .i64 a5, (.h 4, .e (.apt 50 (AH.look H7 (AH.rd H7 d_1 1) (a5.getD x9.toNat 0)))), (.h 5, .e (.apt 50 (AH.rd H7 (AH.look H7 (AH.rd H7 d_1 1) (a5.getD x9.toNat 0)) 2))), (.h 50, .e (.arena true [9000] H36)), (.h 9001, .e (.apt 50 d_1)), (.h 9002, .e (.rdb keep_2))]) ?_ ?_
            · skip
              replace h : (disk_Disk_Crash_l1 d_1 keep_2 torn_3 at_4 a5 H7 x9 k H36 (IntKind.i64.wrap (k22 + (1 : Int))) (MV.num (AH.rd H21 (AH.rd H7 (AH.look H7 (AH.rd H7 d_1 1) (a5.getD x9.toNat 0)) 2) (x24.toNat * 1 + 0))) (IntKind.i64.wrap (x24 + (1 : Int)))) = _ := h
              refine q_k ?_
              refine tr_seq ?_
              refine tr_rg hT [] [sO 0 (.slc 9001), sO 1 (.slc 9002), sI 2 .i64 torn_3, sI 3 .i64 at_4, sI 8 .i64 k22, sO 11 (.slc 4), sI 12 .i64 (MV.num (AH.rd H21 (AH.rd H7 (AH.look H7 (AH.rd H7 d_1 1) (a5.getD x9.toNat 0)) 2) (x24.toNat * 1 + 0))), sO 21 (.slc 0), sI 22 .i64 (↑(List.length a5) : Int), sI 23 .i64 x9, sO 40 (.slc 5), sI 41 .i64 (↑(MV.len (AH.rd H7 (AH.look H7 (AH.rd H7 d_1 1) (a5.getD x9.toNat 0)) 2)) : Int), sI 42 .i64 x24, hO 0 3 .i64 a5, (.h 4, .e (.apt 50 (AH.look H7 (AH.rd H7 d_1 1) (a5.getD x9.toNat 0)))), (.h 5, .e (.apt 50 (AH.rd H7 (AH.look H7 (AH.rd H7 d_1 1) (a5.getD x9.toNat 0)) 2))), (.h 50, .e (.arena true [9000] H36)), (.h 9001, .e (.apt 50 d_1)), (.h 9002, .e (.rdb keep_2))] hnil ?_
              refine q_k ?_
              refine tr_rg hT [] [sO 0 (.slc 9001), sO 1 (.slc 9002), sI 2 .i64 torn_3, sI 3 .i64 at_4, sI 8 .i64 (IntKind.i64.wrap (k22 + (1 : Int))), sO 11 (.slc 4), sI 12 .i64 (MV.num (AH.rd H21 (AH.rd H7 (AH.look H7 (AH.rd H7 d_1 1) (a5.getD x9.toNat 0)) 2) (x24.toNat * 1 + 0))), sO 21 (.slc 0), sI 22 .i64 (↑(List.length a5) : Int), sI 23 .i64 x9, sO 40 (.slc 5), sI 41 .i64 (↑(MV.len (AH.rd H7 (AH.look H7 (AH.rd H7 d_1 1) (a5.getD x9.toNat 0)) 2)) : Int), sI 42 .i64 x24, hO 0 3 .i64 a5, (.h 4, .e (.apt 50 (AH.look H7 (AH.rd H7 d_1 1) (a5.getD x9.toNat 0)))), (.h 5, .e (.apt 50 (AH.rd H7 (AH.look H7 (AH.rd H7 d_1 1) (a5.getD x9.toNat 0)) 2))), (.h 50, .e (.arena true [9000] H36)), (.h 9001, .e (.apt 50 d_1)), (.h 9002, .e (.rdb keep_2))] hnil ?_
              refine q_b 3 ?_
              refine q_k ?_
              refine tr_rg hT [] [sO 0 (.slc 9001), sO 1 (.slc 9002), sI 2 .i64 torn_3, sI 3 .i64 at_4, sI 8 .i64 (IntKind.i64.wrap (k22 + (1 : Int))), sO 11 (.slc 4), sI 12 .i64 (MV.num (AH.rd H21 (AH.rd H7 (AH.look H7 (AH.rd H7 d_1 1) (a5.getD x9.toNat 0)) 2) (x24.toNat * 1 + 0))), sO 21 (.slc 0), sI 22 .i64 (↑(List.length a5) : Int), sI 23 .i64 x9, sO 40 (.slc 5), sI 41 .i64 (↑(MV.len (AH.rd H7 (AH.look H7 (AH.rd H7 d_1 1) (a5.getD x9.toNat 0)) 2)) : Int), sI 42 .i64 (IntKind.i64.wrap (x24 + (1 : Int))), hO 0 3 .i64 a5, (.h 4, .e (.apt 50 (AH.look H7 (AH.rd H7 d_1 1) (a5.getD x9.toNat 0)))), (.h 5, .e (.apt 50 (AH.rd H7 (AH.look H7 (AH.rd H7 d_1 1) (a5.getD x9.toNat 0)) 2))), (.h 50, .e (.arena true [9000] H36)), (.h 9001, .e (.apt 50 d_1)), (.h 9002, .e (.rdb keep_2))] hnil ?_
              refine q_kr ?_
              exact trR_ft [(6, .slc 50)] [sO 0 (.slc 9001), sO 1 (.slc 9002), sI 2 .i64 torn_3, sI 3 .i64 at_4, sI 8 .i64 (IntKind.i64.wrap (k22 + (1 : Int))), sO 11 (.slc 4), sI 12 .i64 (MV.num (AH.rd H21 (AH.rd H7 (AH.look H7 (AH.rd H7 d_1 1) (a5.getD x9.toNat 0)) 2) (x24.toNat * 1 + 0))), sO 21 (.slc 0), sI 22 .i64 (↑(List.length a5) : Int), sI 23 .i64 x9, sO 40 (.slc 5), sI 41 .i64 (↑(MV.len (AH.rd H7 (AH.look H7 (AH.rd H7 d_1 1) (a5.getD x9.toNat 0)) 2)) : Int), sI 42 .i64 (IntKind.i64.wrap (x24 + (1 : Int))), hO 0 3 .i64 a5, (.h 4, .e (.apt 6 (AH.look H7 (AH.rd H7 d_1 1) (a5.getD x9.toNat 0)))), (.h 5, .e (.apt 6 (AH.rd H7 (AH.look H7 (AH.rd H7 d_1 1) (a5.getD x9.toNat 0)) 2))), (.h 6, .e (.arena true [9000] H36)), (.h 9001, .e (.apt 6 d_1)), (.h 9002, .e (.rdb keep_2))] ⟨.own', .apt' (κb := 50) (κ0 := 50) (rw := true) (bs := [9000]) (D := H36), .apt' (κb := 50) (κ0 := 50) (rw := true) (bs := [9000]) (D := H36), .arena' (bs := [9000]), .apt' (κb := 50) (κ0 := 50) (rw := true) (bs := [9000]) (D := H36), .rdb', trivial⟩ (ih1 (H36, (IntKind.i64.wrap (k22 + (1 : Int))), (MV.num (AH.rd H21 (AH.rd H7 (AH.look H7 (AH.rd H7 d_1 1) (a5.getD x9.toNat 0)) 2) (x24.toNat * 1 + 0))), (IntKind.i64.wrap (x24 + (1 : Int)))) h)
            · intro hj2
              clear h
              have h := e47
              clear e47
              refine tr_block ?_
              refine tr_seq ?_
              refine tr_rg hT [] [sO 0 (.slc 9001), sO 1 (.slc 9002), sI 2 .i64 torn_3, sI 3 .i64 at_4, sI 8 .i64 k22, sO 11 (.slc 4), sI 14 .i64 (MV.num (AH.rd H21 (AH.rd H7 (AH.look H7 (AH.rd H7 d_1 1) (a5.getD x9.toNat 0)) 2) (x24.toNat * 1 + 0))), sO 15 (.slc 9), sO 21 (.slc 0), sI 22 .i64 (↑(List.length a5) : Int), sI 23 .i64 x9, sO 40 (.slc 5), sI 41 .i64 (↑(MV.len (AH.rd H7 (AH.look H7 (AH.rd H7 d_1 1) (a5.getD x9.toNat 0)) 2)) : Int), sI 42 .i64 x24, sB 53 (k22 == torn_3), hO 0 3 .i64 a5, (.h 4, .e (.apt 6 (AH.look H7 (AH.rd H7 d_1 1) (a5.getD x9.toNat 0)))), (.h 5, .e (.apt 6 (AH.rd H7 (AH.look H7 (AH.rd H7 d_1 1) (a5.getD x9.toNat 0)) 2))), (.h 6, .e (.arena true [9000] H21)), (.h 9, .e (.apt 6 (MV.sub (AH.rd H21 (AH.look H7 (AH.rd H7 d_1 1) (a5.getD x9.toNat 0)) 0) from23.toNat (MV.num (AH.rd H21 (AH.rd H7 (AH.look H7 (AH.rd H7 d_1 1) (a5.getD x9.toNat 0)) 2) (x24.toNat * 1 + 0))).toNat))), (.h 9001, .e (.apt 6 d_1)), (.h 9002, .e (.rdb keep_2))] hnil ?_
              refine q_k ?_
              rcases ite_split h with ⟨hc37, h⟩ | ⟨hc37, h⟩
              · refine tr_cond_t (k22 == torn_3) (by kernel_rfl) hc37 ?_
                obtain ⟨hn38, h⟩ := ite_some h
                obtain ⟨hn39, h⟩ := ite_some h
                obtain ⟨hn40, h⟩ := ite_some h
                refine tr_rg hT [(4, .ar 6 []), (6, .arW 6 [51]), (7, .ar 6 [52])] [sO 0 (.slc 9001), sO 1 (.slc 9002), sI 2 .i64 torn_3, sI 3 .i64 at_4, sI 8 .i64 k22, sO 11 (.slc 4), sI 14 .i64 (MV.num (AH.rd H21 (AH.rd H7 (AH.look H7 (AH.rd H7 d_1 1) (a5.getD x9.toNat 0)) 2) (x24.toNat * 1 + 0))), sO 21 (.slc 0), sI 22 .i64 (↑(List.length a5) : Int), sI 23 .i64 x9, sO 40 (.slc 5), sI 41 .i64 (↑(MV.len (AH.rd H7 (AH.look H7 (AH.rd H7 d_1 1) (a5.getD x9.toNat 0)) 2)) : Int), sI 42 .i64 x24, hO 0 3 .i64 a5, (.h 4, .e (.apt 6 (AH.look H7 (AH.rd H7 d_1 1) (a5.getD x9.toNat 0)))), (.h 5, .e (.apt 6 (AH.rd H7 (AH.look H7 (AH.rd H7 d_1 1) (a5.getD x9.toNat 0)) 2))), (.h 52, .e (.arena true [6, 9000] (AH.clr H21 (MV.sub (MV.sub (AH.rd H21 (AH.look H7 (AH.rd H7 d_1 1) (a5.getD x9.toNat 0)) 0) from23.toNat (MV.num (AH.rd H21 (AH.rd H7 (AH.look H7 (AH.rd H7 d_1 1) (a5.getD x9.toNat 0)) 2) (x24.toNat * 1 + 0))).toNat) (if (↑(MV.len (MV.sub (AH.rd H21 (AH.look H7 (AH.rd H7 d_1 1) (a5.getD x9.toNat 0)) 0) from23.toNat (MV.num (AH.rd H21 (AH.rd H7 (AH.look H7 (AH.rd H7 d_1 1) (a5.getD x9.toNat 0)) 2) (x24.toNat * 1 + 0))).toNat)) : Int) < (if (0 : Int) > at_4 then (0 : Int) else at_4) then (↑(MV.len (MV.sub (AH.rd H21 (AH.look H7 (AH.rd H7 d_1 1) (a5.getD x9.toNat 0)) 0) from23.toNat (MV.num (AH.rd H21 (AH.rd H7 (AH.look H7 (AH.rd H7 d_1 1) (a5.getD x9.toNat 0)) 2) (x24.toNat * 1 + 0))).toNat)) : Int) else (if (0 : Int) > at_4 then (0 : Int) else at_4)).toNat (↑(MV.len (MV.sub (AH.rd H21 (AH.look H7 (AH.rd H7 d_1 1) (a5.getD x9.toNat 0)) 0) from23.toNat (MV.num (AH.rd H21 (AH.rd H7 (AH.look H7 (AH.rd H7 d_1 1) (a5.getD x9.toNat 0)) 2) (x24.toNat * 1 + 0))).toNat)) : Int).toNat) [MV.int .u8 (0 : Int)]))), (.h 9001, .e (.apt 6 d_1)), (.h 9002, .e (.rdb keep_2))] (hcons hn38 (hcons hn39 (hcons hn38 (hone hn40)))) ?_
                refine q_b 4 ?_
                have h := Option.some.inj h
                subst h
                exact q_ft [(50, .slc 52)] [sO 0 (.slc 9001), sO 1 (.slc 9002), sI 2 .i64 torn_3, sI 3 .i64 at_4, sI 8 .i64 k22, sO 11 (.slc 4), sI 14 .i64 (MV.num (AH.rd H21 (AH.rd H7 (AH.look H7 (AH.rd H7 d_1 1) (a5.getD x9.toNat 0)) 2) (x24.toNat * 1 + 0))), sO 21 (.slc 0), sI 22 .i64 (↑(List.length a5) : Int), sI 23 .i64 x9, sO 40 (.slc 5), sI 41 .i64 (↑(MV.len (AH.rd H7 (AH.look H7 (AH.rd H7 d_1 1) (a5.getD x9.toNat 0)) 2)) : Int), sI 42 .i64 x24, hO 0 3 .i64 a5, (.h 4, .e (.apt 50 (AH.look H7 (AH.rd H7 d_1 1) (a5.getD x9.toNat 0)))), (.h 5, .e (.apt 50 (AH.rd H7 (AH.look H7 (AH.rd H7 d_1 1) (a5.getD x9.toNat 0)) 2))), (.h 50, .e (.arena true [9000] (AH.clr H21 (MV.sub (MV.sub (AH.rd H21 (AH.look H7 (AH.rd H7 d_1 1) (a5.getD x9.toNat 0)) 0) from23.toNat (MV.num (AH.rd H21 (AH.rd H7 (AH.look H7 (AH.rd H7 d_1 1) (a5.getD x9.toNat 0)) 2) (x24.toNat * 1 + 0))).toNat) (if (↑(MV.len (MV.sub (AH.rd H21 (AH.look H7 (AH.rd H7 d_1 1) (a5.getD x9.toNat 0)) 0) from23.toNat (MV.num (AH.rd H21 (AH.rd H7 (AH.look H7 (AH.rd H7 d_1 1) (a5.getD x9.toNat 0)) 2) (x24.toNat * 1 + 0))).toNat)) : Int) < (if (0 : Int) > at_4 then (0 : Int) else at_4) then (↑(MV.len (MV.sub (AH.rd H21 (AH.look H7 (AH.rd H7 d_1 1) (a5.getD x9.toNat 0)) 0) from23.toNat (MV.num (AH.rd H21 (AH.rd H7 (AH.look H7 (AH.rd H7 d_1 1) (a5.getD x9.toNat 0)) 2) (x24.toNat * 1 + 0))).toNat)) : Int) else (if (0 : Int) > at_4 then (0 : Int) else at_4)).toNat (↑(MV.len (MV.sub (AH.rd H21 (AH.look H7 (AH.rd H7 d_1 1) (a5.getD x9.toNat 0)) 0) from23.toNat (MV.num (AH.rd H21 (AH.rd H7 (AH.look H7 (AH.rd H7 d_1 1) (a5.getD x9.toNat 0)) 2) (x24.toNat * 1 + 0))).toNat)) : Int).toNat) [MV.int .u8 (0 : Int)]))), (.h 9001, .e (.apt 50 d_1)), (.h 9002, .e (.rdb keep_2))] ⟨.own', .apt' (κb := 6) (κ0 := 52) (rw := true) (bs := [6, 9000]) (D := (AH.clr H21 (MV.sub (MV.sub (AH.rd H21 (AH.look H7 (AH.rd H7 d_1 1) (a5.getD x9.toNat 0)) 0) from23.toNat (MV.num (AH.rd H21 (AH.rd H7 (AH.look H7 (AH.rd H7 d_1 1) (a5.getD x9.toNat 0)) 2) (x24.toNat * 1 + 0))).toNat) (if (↑(MV.len (MV.sub (AH.rd H21 (AH.look H7 (AH.rd H7 d_1 1) (a5.getD x9.toNat 0)) 0) from23.toNat (MV.num (AH.rd H21 (AH.rd H7 (AH.look H7 (AH.rd H7 d_1 1) (a5.getD x9.toNat 0)) 2) (x24.toNat * 1 + 0))).toNat)) : Int) < (if (0 : Int) > at_4 then (0 : Int) else at_4) then (↑(MV.len (MV.sub (AH.rd H21 (AH.look H7 (AH.rd H7 d_1 1) (a5.getD x9.toNat 0)) 0) from23.toNat (MV.num (AH.rd H21 (AH.rd H7 (AH.look H7 (AH.rd H7 d_1 1) (a5.getD x9.toNat 0)) 2) (x24.toNat * 1 + 0))).toNat)) : Int) else (if (0 : Int) > at_4 then (0 : Int) else at_4)).toNat (↑(MV.len (MV.sub (AH.rd H21 (AH.look H7 (AH.rd H7 d_1 1) (a5.getD x9.toNat 0)) 0) from23.toNat (MV.num (AH.rd H21 (AH.rd H7 (AH.look H7 (AH.rd H7 d_1 1) (a5.getD x9.toNat 0)) 2) (x24.toNat * 1 + 0))).toNat)) : Int).toNat) [MV.int .u8 (0 : Int)])), .apt' (κb := 6) (κ0 := 52) (rw := true) (bs := [6, 9000]) (D := (AH.clr H21 (MV.sub (MV.sub (AH.rd H21 (AH.look H7 (AH.rd H7 d_1 1) (a5.getD x9.toNat 0)) 0) from23.toNat (MV.num (AH.rd H21 (AH.rd H7 (AH.look H7 (AH.rd H7 d_1 1) (a5.getD x9.toNat 0)) 2) (x24.toNat * 1 + 0))).toNat) (if (↑(MV.len (MV.sub (AH.rd H21 (AH.look H7 (AH.rd H7 d_1 1) (a5.getD x9.toNat 0)) 0) from23.toNat (MV.num (AH.rd H21 (AH.rd H7 (AH.look H7 (AH.rd H7 d_1 1) (a5.getD x9.toNat 0)) 2) (x24.toNat * 1 + 0))).toNat)) : Int) < (if (0 : Int) > at_4 then (0 : Int) else at_4) then (↑(MV.len (MV.sub (AH.rd H21 (AH.look H7 (AH.rd H7 d_1 1) (a5.getD x9.toNat 0)) 0) from23.toNat (MV.num (AH.rd H21 (AH.rd H7 (AH.look H7 (AH.rd H7 d_1 1) (a5.getD x9.toNat 0)) 2) (x24.toNat * 1 + 0))).toNat)) : Int) else (if (0 : Int) > at_4 then (0 : Int) else at_4)).toNat (↑(MV.len (MV.sub (AH.rd H21 (AH.look H7 (AH.rd H7 d_1 1) (a5.getD x9.toNat 0)) 0) from23.toNat (MV.num (AH.rd H21 (AH.rd H7 (AH.look H7 (AH.rd H7 d_1 1) (a5.getD x9.toNat 0)) 2) (x24.toNat * 1 + 0))).toNat)) : Int).toNat) [MV.int .u8 (0 : Int)])), .arena' (bs := [6, 9000]), .apt' (κb := 6) (κ0 := 52) (rw := true) (bs := [6, 9000]) (D := (AH.clr H21 (MV.sub (MV.sub (AH.rd H21 (AH.look H7 (AH.rd H7 d_1 1) (a5.getD x9.toNat 0)) 0) from23.toNat (MV.num (AH.rd H21 (AH.rd H7 (AH.look H7 (AH.rd H7 d_1 1) (a5.getD x9.toNat 0)) 2) (x24.toNat * 1 + 0))).toNat) (if (↑(MV.len (MV.sub (AH.rd H21 (AH.look H7 (AH.rd H7 d_1 1) (a5.getD x9.toNat 0)) 0) from23.toNat (MV.num (AH.rd H21 (AH.rd H7 (AH.look H7 (AH.rd H7 d_1 1) (a5.getD x9.toNat 0)) 2) (x24.toNat * 1 + 0))).toNat)) : Int) < (if (0 : Int) > at_4 then (0 : Int) else at_4) then (↑(MV.len (MV.sub (AH.rd H21 (AH.look H7 (AH.rd H7 d_1 1) (a5.getD x9.toNat 0)) 0) from23.toNat (MV.num (AH.rd H21 (AH.rd H7 (AH.look H7 (AH.rd H7 d_1 1) (a5.getD x9.toNat 0)) 2) (x24.toNat * 1 + 0))).toNat)) : Int) else (if (0 : Int) > at_4 then (0 : Int) else at_4)).toNat (↑(MV.len (MV.sub (AH.rd H21 (AH.look H7 (AH.rd H7 d_1 1) (a5.getD x9.toNat 0)) 0) from23.toNat (MV.num (AH.rd H21 (AH.rd H7 (AH.look H7 (AH.rd H7 d_1 1) (a5.getD x9.toNat 0)) 2) (x24.toNat * 1 + 0))).toNat)) : Int).toNat) [MV.int .u8 (0 : Int)])), .rdb', trivial⟩ hj2
              · refine tr_cond_f (k22 == torn_3) (by kernel_rfl) hc37 ?_
                refine tr_seq ?_
                rcases ite_split h with ⟨hb41, h⟩ | ⟨hb43, h⟩
                · refine tr_rg hT [(2, .bb []), (4, .dec true)] [sO 0 (.slc 9001), sO 1 (.slc 9002), sI 2 .i64 torn_3, sI 3 .i64 at_4, sI 8 .i64 k22, sO 11 (.slc 4), sI 14 .i64 (MV.num (AH.rd H21 (AH.rd H7 (AH.look H7 (AH.rd H7 d_1 1) (a5.getD x9.toNat 0)) 2) (x24.toNat * 1 + 0))), sO 15 (.slc 9), sO 21 (.slc 0), sI 22 .i64 (↑(List.length a5) : Int), sI 23 .i64 x9, sO 40 (.slc 5), sI 41 .i64 (↑(MV.len (AH.rd H7 (AH.look H7 (AH.rd H7 d_1 1) (a5.getD x9.toNat 0)) 2)) : Int), sI 42 .i64 x24, sB 64 true, hO 0 3 .i64 a5, (.h 4, .e (.apt 6 (AH.look H7 (AH.rd H7 d_1 1) (a5.getD x9.toNat 0)))), (.h 5, .e (.apt 6 (AH.rd H7 (AH.look H7 (AH.rd H7 d_1 1) (a5.getD x9.toNat 0)) 2))), (.h 6, .e (.arena true [9000] H21)), (.h 9, .e (.apt 6 (MV.sub (AH.rd H21 (AH.look H7 (AH.rd H7 d_1 1) (a5.getD x9.toNat 0)) 0) from23.toNat (MV.num (AH.rd H21 (AH.rd H7 (AH.look H7 (AH.rd H7 d_1 1) (a5.getD x9.toNat 0)) 2) (x24.toNat * 1 + 0))).toNat))), (.h 9001, .e (.apt 6 d_1)), (.h 9002, .e (.rdb keep_2))] (hone hb41) ?_
                  refine q_k ?_
                  refine tr_cond_t true (by kernel_rfl) rfl ?_
                  obtain ⟨hn42, h⟩ := ite_some h
                  refine tr_rg hT [(1, .ar 6 [53])] [sO 0 (.slc 9001), sO 1 (.slc 9002), sI 2 .i64 torn_3, sI 3 .i64 at_4, sI 8 .i64 k22, sO 11 (.slc 4), sI 14 .i64 (MV.num (AH.rd H21 (AH.rd H7 (AH.look H7 (AH.rd H7 d_1 1) (a5.getD x9.toNat 0)) 2) (x24.toNat * 1 + 0))), sO 21 (.slc 0), sI 22 .i64 (↑(List.length a5) : Int), sI 23 .i64 x9, sO 40 (.slc 5), sI 41 .i64 (↑(MV.len (AH.rd H7 (AH.look H7 (AH.rd H7 d_1 1) (a5.getD x9.toNat 0)) 2)) : Int), sI 42 .i64 x24, hO 0 3 .i64 a5, (.h 4, .e (.apt 6 (AH.look H7 (AH.rd H7 d_1 1) (a5.getD x9.toNat 0)))), (.h 5, .e (.apt 6 (AH.rd H7 (AH.look H7 (AH.rd H7 d_1 1) (a5.getD x9.toNat 0)) 2))), (.h 53, .e (.arena true [6, 9000] (AH.clr H21 (MV.sub (AH.rd H21 (AH.look H7 (AH.rd H7 d_1 1) (a5.getD x9.toNat 0)) 0) from23.toNat (MV.num (AH.rd H21 (AH.rd H7 (AH.look H7 (AH.rd H7 d_1 1) (a5.getD x9.toNat 0)) 2) (x24.toNat * 1 + 0))).toNat) [MV.int .u8 (0 : Int)]))), (.h 9001, .e (.apt 6 d_1)), (.h 9002, .e (.rdb keep_2))] (hone hn42) ?_
                  refine q_b 4 ?_
                  have h := Option.some.inj h
                  subst h
                  exact q_ft [(50, .slc 53)] [sO 0 (.slc 9001), sO 1 (.slc 9002), sI 2 .i64 torn_3, sI 3 .i64 at_4, sI 8 .i64 k22, sO 11 (.slc 4), sI 14 .i64 (MV.num (AH.rd H21 (AH.rd H7 (AH.look H7 (AH.rd H7 d_1 1) (a5.getD x9.toNat 0)) 2) (x24.toNat * 1 + 0))), sO 21 (.slc 0), sI 22 .i64 (↑(List.length a5) : Int), sI 23 .i64 x9, sO 40 (.slc 5), sI 41 .i64 (↑(MV.len (AH.rd H7 (AH.look H7 (AH.rd H7 d_1 1) (a5.getD x9.toNat 0)) 2)) : Int), sI 42 .i64 x24, hO 0 3 .i64 a5, (.h 4, .e (.apt 50 (AH.look H7 (AH.rd H7 d_1 1) (a5.getD x9.toNat 0)))), (.h 5, .e (.apt 50 (AH.rd H7 (AH.look H7 (AH.rd H7 d_1 1) (a5.getD x9.toNat 0)) 2))), (.h 50, .e (.arena true [9000] (AH.clr H21 (MV.sub (AH.rd H21 (AH.look H7 (AH.rd H7 d_1 1) (a5.getD x9.toNat 0)) 0) from23.toNat (MV.num (AH.rd H21 (AH.rd H7 (AH.look H7 (AH.rd H7 d_1 1) (a5.getD x9.toNat 0)) 2) (x24.toNat * 1 + 0))).toNat) [MV.int .u8 (0 : Int)]))), (.h 9001, .e (.apt 50 d_1)), (.h 9002, .e (.rdb keep_2))] ⟨.own', .apt' (κb := 6) (κ0 := 53) (rw := true) (bs := [6, 9000]) (D := (AH.clr H21 (MV.sub (AH.rd H21 (AH.look H7 (AH.rd H7 d_1 1) (a5.getD x9.toNat 0)) 0) from23.toNat (MV.num (AH.rd H21 (AH.rd H7 (AH.look H7 (AH.rd H7 d_1 1) (a5.getD x9.toNat 0)) 2) (x24.toNat * 1 + 0))).toNat) [MV.int .u8 (0 : Int)])), .apt' (κb := 6) (κ0 := 53) (rw := true) (bs := [6, 9000]) (D := (AH.clr H21 (MV.sub (AH.rd H21 (AH.look H7 (AH.rd H7 d_1 1) (a5.getD x9.toNat 0)) 0) from23.toNat (MV.num (AH.rd H21 (AH.rd H7 (AH.look H7 (AH.rd H7 d_1 1) (a5.getD x9.toNat 0)) 2) (x24.toNat * 1 + 0))).toNat) [MV.int .u8 (0 : Int)])), .arena' (bs := [6, 9000]), .apt' (κb := 6) (κ0 := 53) (rw := true) (bs := [6, 9000]) (D := (AH.clr H21 (MV.sub (AH.rd H21 (AH.look H7 (AH.rd H7 d_1 1) (a5.getD x9.toNat 0)) 0) from23.toNat (MV.num (AH.rd H21 (AH.rd H7 (AH.look H7 (AH.rd H7 d_1 1) (a5.getD x9.toNat 0)) 2) (x24.toNat * 1 + 0))).toNat) [MV.int .u8 (0 : Int)])), .rdb', trivial⟩ hj2
                · obtain ⟨hn44, h⟩ := ite_some h
                  refine tr_rg hT [(2, .bb []), (4, .dec false), (7, .bb []), (8, .bb [])] [sO 0 (.slc 9001), sO 1 (.slc 9002), sI 2 .i64 torn_3, sI 3 .i64 at_4, sI 8 .i64 k22, sO 11 (.slc 4), sI 14 .i64 (MV.num (AH.rd H21 (AH.rd H7 (AH.look H7 (AH.rd H7 d_1 1) (a5.getD x9.toNat 0)) 2) (x24.toNat * 1 + 0))), sO 15 (.slc 9), sO 21 (.slc 0), sI 22 .i64 (↑(List.length a5) : Int), sI 23 .i64 x9, sO 40 (.slc 5), sI 41 .i64 (↑(MV.len (AH.rd H7 (AH.look H7 (AH.rd H7 d_1 1) (a5.getD x9.toNat 0)) 2)) : Int), sI 42 .i64 x24, sB 64 (!(keep_2.getD k22.toNat false)), hO 0 3 .i64 a5, (.h 4, .e (.apt 6 (AH.look H7 (AH.rd H7 d_1 1) (a5.getD x9.toNat 0)))), (.h 5, .e (.apt 6 (AH.rd H7 (AH.look H7 (AH.rd H7 d_1 1) (a5.getD x9.toNat 0)) 2))), (.h 6, .e (.arena true [9000] H21)), (.h 9, .e (.apt 6 (MV.sub (AH.rd H21 (AH.look H7 (AH.rd H7 d_1 1) (a5.getD x9.toNat 0)) 0) from23.toNat (MV.num (AH.rd H21 (AH.rd H7 (AH.look H7 (AH.rd H7 d_1 1) (a5.getD x9.toNat 0)) 2) (x24.toNat * 1 + 0))).toNat))), (.h 9001, .e (.apt 6 d_1)), (.h 9002, .e (.rdb keep_2))] (hcons hb43 (hcons hn44 (hone hn44.2))) ?_
                  refine q_k ?_
                  rcases ite_split h with ⟨hc45, h⟩ | ⟨hc45, h⟩
                  · refine tr_cond_t (!(keep_2.getD k22.toNat false)) (by kernel_rfl) hc45 ?_
                    obtain ⟨hn46, h⟩ := ite_some h
                    refine tr_rg hT [(1, .ar 6 [54])] [sO 0 (.slc 9001), sO 1 (.slc 9002), sI 2 .i64 torn_3, sI 3 .i64 at_4, sI 8 .i64 k22, sO 11 (.slc 4), sI 14 .i64 (MV.num (AH.rd H21 (AH.rd H7 (AH.look H7 (AH.rd H7 d_1 1) (a5.getD x9.toNat 0)) 2) (x24.toNat * 1 + 0))), sO 21 (.slc 0), sI 22 .i64 (↑(List.length a5) : Int), sI 23 .i64 x9, sO 40 (.slc 5), sI 41 .i64 (↑(MV.len (AH.rd H7 (AH.look H7 (AH.rd H7 d_1 1) (a5.getD x9.toNat 0)) 2)) : Int), sI 42 .i64 x24, hO 0 3 .i64 a5, (.h 4, .e (.apt 6 (AH.look H7 (AH.rd H7 d_1 1) (a5.getD x9.toNat 0)))), (.h 5, .e (.apt 6 (AH.rd H7 (AH.look H7 (AH.rd H7 d_1 1) (a5.getD x9.toNat 0)) 2))), (.h 54, .e (.arena true [6, 9000] (AH.clr H21 (MV.sub (AH.rd H21 (AH.look H7 (AH.rd H7 d_1 1) (a5.getD x9.toNat 0)) 0) from23.toNat (MV.num (AH.rd H21 (AH.rd H7 (AH.look H7 (AH.rd H7 d_1 1) (a5.getD x9.toNat 0)) 2) (x24.toNat * 1 + 0))).toNat) [MV.int .u8 (0 : Int)]))), (.h 9001, .e (.apt 6 d_1)), (.h 9002, .e (.rdb keep_2))] (hone hn46) ?_
                    refine q_b 4 ?_
                    have h := Option.some.inj h
                    subst h
                    exact q_ft [(50, .slc 54)] [sO 0 (.slc 9001), sO 1 (.slc 9002), sI 2 .i64 torn_3, sI 3 .i64 at_4, sI 8 .i64 k22, sO 11 (.slc 4), sI 14 .i64 (MV.num (AH.rd H21 (AH.rd H7 (AH.look H7 (AH.rd H7 d_1 1) (a5.getD x9.toNat 0)) 2) (x24.toNat * 1 + 0))), sO 21 (.slc 0), sI 22 .i64 (↑(List.length a5) : Int), sI 23 .i64 x9, sO 40 (.slc 5), sI 41 .i64 (↑(MV.len (AH.rd H7 (AH.look H7 (AH.rd H7 d_1 1) (a5.getD x9.toNat 0)) 2)) : Int), sI 42 .i64 x24, hO 0 3 .i64 a5, (.h 4, .e (.apt 50 (AH.look H7 (AH.rd H7 d_1 1) (a5.getD x9.toNat 0)))), (.h 5, .e (.apt 50 (AH.rd H7 (AH.look H7 (AH.rd H7 d_1 1) (a5.getD x9.toNat 0)) 2))), (.h 50, .e (.arena true [9000] (AH.clr H21 (MV.sub (AH.rd H21 (AH.look H7 (AH.rd H7 d_1 1) (a5.getD x9.toNat 0)) 0) from23.toNat (MV.num (AH.rd H21 (AH.rd H7 (AH.look H7 (AH.rd H7 d_1 1) (a5.getD x9.toNat 0)) 2) (x24.toNat * 1 + 0))).toNat) [MV.int .u8 (0 : Int)]))), (.h 9001, .e (.apt 50 d_1)), (.h 9002, .e (.rdb keep_2))] ⟨.own', .apt' (κb := 6) (κ0 := 54) (rw := true) (bs := [6, 9000]) (D := (AH.clr H21 (MV.sub (AH.rd H21 (AH.look H7 (AH.rd H7 d_1 1) (a5.getD x9.toNat 0)) 0) from23.toNat (MV.num (AH.rd H21 (AH.rd H7 (AH.look H7 (AH.rd H7 d_1 1) (a5.getD x9.toNat 0)) 2) (x24.toNat * 1 + 0))).toNat) [MV.int .u8 (0 : Int)])), .apt' (κb := 6) (κ0 := 54) (rw := true) (bs := [6, 9000]) (D := (AH.clr H21 (MV.sub (AH.rd H21 (AH.look H7 (AH.rd H7 d_1 1) (a5.getD x9.toNat 0)) 0) from23.toNat (MV.num (AH.rd H21 (AH.rd H7 (AH.look H7 (AH.rd H7 d_1 1) (a5.getD x9.toNat 0)) 2) (x24.toNat * 1 + 0))).toNat) [MV.int .u8 (0 : Int)])), .arena' (bs := [6, 9000]), .apt' (κb := 6) (κ0 := 54) (rw := true) (bs := [6, 9000]) (D := (AH.clr H21 (MV.sub (AH.rd H21 (AH.look H7 (AH.rd H7 d_1 1) (a5.getD x9.toNat 0)) 0) from23.toNat (MV.num (AH.rd H21 (AH.rd H7 (AH.look H7 (AH.rd H7 d_1 1) (a5.getD x9.toNat 0)) 2) (x24.toNat * 1 + 0))).toNat) [MV.int .u8 (0 : Int)])), .rdb', trivial⟩ hj2
                  · refine tr_cond_f (!(keep_2.getD k22.toNat false)) (by kernel_rfl) hc45 ?_
                    refine tr_skip ?_
                    refine q_b 4 ?_
                    have h := Option.some.inj h
                    subst h
                    exact q_ft [(50, .slc 6)] [sO 0 (.slc 9001), sO 1 (.slc 9002), sI 2 .i64 torn_3, sI 3 .i64 at_4, sI 8 .i64 k22, sO 11 (.slc 4), sI 14 .i64 (MV.num (AH.rd H21 (AH.rd H7 (AH.look H7 (AH.rd H7 d_1 1) (a5.getD x9.toNat 0)) 2) (x24.toNat * 1 + 0))), sO 21 (.slc 0), sI 22 .i64 (↑(List.length a5) : Int), sI 23 .i64 x9, sO 40 (.slc 5), sI 41 .i64 (↑(MV.len (AH.rd H7 (AH.look H7 (AH.rd H7 d_1 1) (a5.getD x9.toNat 0)) 2)) : Int), sI 42 .i64 x24, hO 0 3 .i64 a5, (.h 4, .e (.apt 50 (AH.look H7 (AH.rd H7 d_1 1) (a5.getD x9.toNat 0)))), (.h 5, .e (.apt 50 (AH.rd H7 (AH.look H7 (AH.rd H7 d_1 1) (a5.getD x9.toNat 0)) 2))), (.h 50, .e (.arena true [9000] H21)), (.h 9001, .e (.apt 50 d_1)), (.h 9002, .e (.rdb keep_2))] ⟨.own', .apt' (κb := 6) (κ0 := 6) (rw := true) (bs := [9000]) (D := H21), .apt' (κb := 6) (κ0 := 6) (rw := true) (bs := [9000]) (D := H21), .arena' (bs := [9000]), .apt' (κb := 6) (κ0 := 6) (rw := true) (bs := [9000]) (D := H21), .rdb', trivial⟩ hj2
          · refine tr_cond_f (decide (x24 < (↑(MV.len (AH.rd H7 (AH.look H7 (AH.rd H7 d_1 1) (a5.getD x9.toNat 0)) 2)) : Int))) (by kernel_rfl) hc27 ?_
            refine tr_exit ?_
            refine q_k_exit ?_
            refine q_kr_exit ?_
            have h := Option.some.inj h
            subst h
            exact q_ft [(7, .slc 6)] [sO 0 (.slc 9001), sO 1 (.slc 9002), sI 2 .i64 torn_3, sI 3 .i64 at_4, sI 8 .i64 k22, sO 11 (.slc 4), sO 21 (.slc 0), sI 22 .i64 (↑(List.length a5) : Int), sI 23 .i64 x9, hO 0 3 .i64 a5, (.h 4, .e (.apt 7 (AH.look H7 (AH.rd H7 d_1 1) (a5.getD x9.toNat 0)))), (.h 7, .e (.arena true [9000] H21)), (.h 9001, .e (.apt 7 d_1)), (.h 9002, .e (.rdb keep_2))] ⟨.own', .apt' (κb := 6) (κ0 := 6) (rw := true) (bs := [9000]) (D := H21), .arena' (bs := [9000]), .apt' (κb := 6) (κ0 := 6) (rw := true) (bs := [9000]) (D := H21), .rdb', trivial⟩ hx1
      · refine tr_cond_f (decide (x9 < (↑(List.length a5) : Int))) (by kernel_rfl) hc11 ?_
        refine tr_exit ?_
        refine q_k_exit ?_
        refine q_kr_exit ?_
        have h := Option.some.inj h
        subst h
        exact q_ft [(2, .slc 1)] [sO 0 (.slc 9001), (.h 2, .e (.arena true [9000] H7)), (.h 9001, .e (.apt 2 d_1))] ⟨.arena' (bs := [9000]), .apt' (κb := 1) (κ0 := 1) (rw := true) (bs := [9000]) (D := H7), trivial⟩ hx0

theorem disk_Disk_Crash_a_ok (H_0 : AH) (d_1 : MV) (keep_2 : MV) (torn_3 : Int) (at_4 : Int) (r : AH) (h : disk_Disk_Crash_a H_0 d_1 keep_2 torn_3 at_4 = some r) : CallOk P 16 [.v (.one (.slc 9001)), .v (.one (.slc 9002)), .v (.one (.int .i64 torn_3)), .v (.one (.int .i64 at_4))] [(9000, .arena true [] H_0), (9001, .apt 9000 d_1), (9002, .apt 9000 keep_2)] (.tup []) [(8900, .arena true [9000] r), (9000, .dead)] := by
  refine call1 (N := 97) Try.func16 (by kernel_rfl) rfl rfl rfl [(9000, .arena true [] H_0), (9001, .apt 9000 d_1), (9002, .apt 9000 keep_2)] (by kernel_rfl) ?_
  intro _ B w0
  show Tr P B 97 w0 _ _ (RetQ P Try.f16 (R1 _ _ B w0))
  unfold disk_Disk_Crash_a at h
  refine tr_seq ?_
  refine tr_seq ?_
  obtain ⟨hn1, h⟩ := ite_some h
  obtain ⟨hn2, h⟩ := ite_some h
  obtain ⟨hn3, h⟩ := ite_some h
  refine tr_rg hT [(1, .ar 9000 []), (2, .ar 9000 []), (3, .ar 9000 [])] [sO 0 (.slc 9001), sO 1 (.slc 9002), sI 2 .i64 torn_3, sI 3 .i64 at_4, sB 19 (MV.tr (AH.rd H_0 d_1 2)), (.h 9000, .e (.arena true [] H_0)), (.h 9001, .e (.apt 9000 d_1)), (.h 9002, .e (.apt 9000 keep_2))] (hcons hn1 (hcons hn1 (hcons hn2 (hone hn3)))) ?_
  refine q_k ?_
  rcases ite_split h with ⟨hc4, h⟩ | ⟨hc4, h⟩
  · refine tr_cond_t (MV.tr (AH.rd H_0 d_1 2)) (by kernel_rfl) hc4 ?_
    refine tr_ret ?_
    refine q_k_ret ?_
    have h := Option.some.inj h
    subst h
    refine q_ft [(8900, .slc 9000)] [(.h 8900, .e (.arena true [9000] H_0)), hD 9000] ⟨.arena' (bs := []), .dead, trivial⟩ ?_
    exact q_ret1 hT (.tup []) [(8900, .arena true [9000] H_0), (9000, .dead)] (by kernel_rfl) (by kernel_rfl) (by kernel_rfl)
  · refine tr_cond_f (MV.tr (AH.rd H_0 d_1 2)) (by kernel_rfl) hc4 ?_
    refine tr_skip ?_
    refine q_k ?_
    refine tr_seq ?_
    refine tr_rg hT [] [sO 0 (.slc 9001), sO 1 (.slc 9002), sI 2 .i64 torn_3, sI 3 .i64 at_4, sI 8 .i64 (0 : Int), (.h 9000, .e (.arena true [] H_0)), (.h 9001, .e (.apt 9000 d_1)), (.h 9002, .e (.apt 9000 keep_2))] hnil ?_
    refine q_k ?_
    refine tr_seq ?_
    refine tr_seq ?_
    obtain ⟨a5, e6, h⟩ := bind_some h
    refine tr_rg hT [(1, .callA [(9000, .ro), (9001, .apt 9000)] (.v (.one (.slc 0))) [(0, .own 3 .i64 a5)])] [sO 0 (.slc 9001), sO 1 (.slc 9002), sI 2 .i64 torn_3, sI 3 .i64 at_4, sI 8 .i64 (0 : Int), sO 21 (.slc 0), sI 22 .i64 (↑(List.length a5) : Int), sI 23 .i64 (0 : Int), hO 0 3 .i64 a5, (.h 9000, .e (.arena true [] H_0)), (.h 9001, .e (.apt 9000 d_1)), (.h 9002, .e (.apt 9000 keep_2))] (hone ((disk_Disk_Files_ok H_0 d_1 a5 e6).tr1 [(9001, .slc 9001), (9000, .slc 9000), (8900, .slc 0)] [(9000, .arena false [] H_0), (9001, .apt 9000 d_1)] ⟨.arena' (bs := []), .apts' (κb := 9000), trivial⟩)) ?_
    refine q_k ?_
    refine tr_block ?_
    obtain ⟨H10, e54, h⟩ := bind_some h
    refine tr_ft [(1, .slc 9000)] [sO 0 (.slc 9001), sO 1 (.slc 9002), sI 2 .i64 torn_3, sI 3 .i64 at_4, sI 8 .i64 (0 : Int), sO 21 (.slc 0), sI 22 .i64 (↑(List.length a5) : Int), sI 23 .i64 (0 : Int), hO 0 3 .i64 a5, (.h 1, .e (.arena true [9000] H_0)), (.h 9001, .e (.apt 1 d_1)), (.h 9002, .e (.apt 1 keep_2))] ⟨.own', .arena' (bs := []), .apt' (κb := 9000) (κ0 := 9000) (rw := true) (bs := []) (D := H_0), .apt' (κb := 9000) (κ0 := 9000) (rw := true) (bs := []) (D := H_0), trivial⟩ ?_
    refine tr_loop_fuel (id := 0) (α := AH × Int × Int) (β := AH) (fun z => [sO 0 (.slc 9001), sO 1 (.slc 9002), sI 2 .i64 torn_3, sI 3 .i64 at_4, sI 8 .i64 z.2.1, sO 21 (.slc 0), sI 22 .i64 (↑(List.length a5) : Int), sI 23 .i64 z.2.2, hO 0 3 .i64 a5, (.h 1, .e (.arena true [9000] z.1)), (.h 9001, .e (.apt 1 d_1)), (.h 9002, .e (.apt 1 keep_2))]) (fun z => [sO 0 (.slc 9001), (.h 2, .e (.arena true [9000] z)), (.h 9001, .e (.apt 2 d_1))]) (fun k z => disk_Disk_Crash_a_l0 d_1 keep_2 torn_3 at_4 a5 k z.1 z.2.1 z.2.2) H10 (fun _ => rfl) (((↑(List.length a5) : Int) - (0 : Int)).toNat + 1) (H_0, (0 : Int), (0 : Int)) e54 ?_ ?_
    · skip
      replace h : (if MV.isP d_1 = true ∧ AH.ok H10 d_1 0 1 = true then if AH.ok H10 d_1 2 1 = true then if MV.isP d_1 = true ∧ AH.ok (AH.wr H10 d_1 2 [MV.bool true]) d_1 0 1 = true then if AH.ok (AH.wr H10 d_1 2 [MV.bool true]) d_1 4 1 = true then if MV.isP d_1 = true ∧ AH.ok (AH.wr (AH.wr H10 d_1 2 [MV.bool true]) d_1 4 [MV.nilp]) d_1 0 1 = true then if AH.ok (AH.wr (AH.wr H10 d_1 2 [MV.bool true]) d_1 4 [MV.nilp]) d_1 3 1 = true then if MV.isI .i64 (AH.rd (AH.wr (AH.wr H10 d_1 2 [MV.bool true]) d_1 4 [MV.nilp]) d_1 3) = true then some (AH.wr (AH.wr (AH.wr H10 d_1 2 [MV.bool true]) d_1 4 [MV.nilp]) d_1 3 [MV.int .i64 (IntKind.i64.wrap ((MV.num (AH.rd (AH.wr (AH.wr H10 d_1 2 [MV.bool true]) d_1 4 [MV.nilp]) d_1 3)) + (1 : Int)))]) else none else none else none else none else none else none else none) = _ := h
      refine q_b_this ?_
      refine q_k ?_
      refine tr_seq ?_
      obtain ⟨hn55, h⟩ := ite_some h
      obtain ⟨hn56, h⟩ := ite_some h
      obtain ⟨hn57, h⟩ := ite_some h
      obtain ⟨hn58, h⟩ := ite_some h
      refine tr_rg hT [(2, .ar 2 []), (3, .ar 2 []), (4, .ar 2 [56]), (5, .ar 56 []), (6, .ar 56 []), (7, .ar 56 [57])] [sO 0 (.slc 9001), (.h 57, .e (.arena true [56, 2, 9000] (AH.wr (AH.wr H10 d_1 2 [MV.bool true]) d_1 4 [MV.nilp]))), (.h 9001, .e (.apt 2 d_1))] (hcons hn55 (hcons hn55 (hcons hn56 (hcons (show 1 ≤ 1 from by decide) (hcons hn57 (hcons hn57 (hcons hn58 (hone (show 1 ≤ 1 from by decide))))))))) ?_
      refine q_k ?_
      obtain ⟨hn59, h⟩ := ite_some h
      obtain ⟨hn60, h⟩ := ite_some h
      obtain ⟨hn61, h⟩ := ite_some h
      refine tr_rg hT [(1, .ar 57 []), (2, .ar 57 []), (3, .ar 57 []), (5, .ar 57 []), (6, .ar 57 []), (7, .ar 57 [58])] [(.h 58, .e (.arena true [57, 56, 2, 9000] (AH.wr (AH.wr (AH.wr H10 d_1 2 [MV.bool true]) d_1 4 [MV.nilp]) d_1 3 [MV.int .i64 (IntKind.i64.wrap ((MV.num (AH.rd (AH.wr (AH.wr H10 d_1 2 [MV.bool true]) d_1 4 [MV.nilp]) d_1 3)) + (1 : Int)))])))] (hcons hn59 (hcons hn59 (hcons hn60 (hcons hn61 (hcons hn59 (hcons hn59 (hcons hn60 (hone (show 1 ≤ 1 from by decide))))))))) ?_
      have h := Option.some.inj h
      subst h
      refine q_ft [(8900, .slc 58)] [(.h 8900, .e (.arena true [9000] (AH.wr (AH.wr (AH.wr H10 d_1 2 [MV.bool true]) d_1 4 [MV.nilp]) d_1 3 [MV.int .i64 (IntKind.i64.wrap ((MV.num (AH.rd (AH.wr (AH.wr H10 d_1 2 [MV.bool true]) d_1 4 [MV.nilp]) d_1 3)) + (1 : Int)))]))), hD 9000] ⟨.arena' (bs := [57, 56, 2, 9000]), .dead, trivial⟩ ?_
      exact q_end1 hT (.tup []) [(8900, .arena true [9000] (AH.wr (AH.wr (AH.wr H10 d_1 2 [MV.bool true]) d_1 4 [MV.nilp]) d_1 3 [MV.int .i64 (IntKind.i64.wrap ((MV.num (AH.rd (AH.wr (AH.wr H10 d_1 2 [MV.bool true]) d_1 4 [MV.nilp]) d_1 3)) + (1 : Int)))])), (9000, .dead)] (by kernel_rfl) (by kernel_rfl) (by kernel_rfl)
    · clear h e54
      intro k ih0 hx0 z h
      obtain ⟨H7, k8, x9⟩ := z
      replace h : (if (decide (x9 < (↑(List.length a5) : Int))) = true then if 0 ≤ x9 ∧ x9 < ↑(List.length a5) then if MV.isP d_1 = true ∧ AH.ok H7 d_1 0 1 = true then if AH.ok H7 d_1 1 1 = true then if AH.isMap H7 (AH.rd H7 d_1 1) = true then if MV.isP (AH.look H7 (AH.rd H7 d_1 1) (a5.getD x9.toNat 0)) = true ∧ AH.ok H7 (AH.look H7 (AH.rd H7 d_1 1) (a5.getD x9.toNat 0)) 0 1 = true then if AH.ok H7 (AH.look H7 (AH.rd H7 d_1 1) (a5.getD x9.toNat 0)) 1 1 = true then if MV.isI .i64 (AH.rd H7 (AH.look H7 (AH.rd H7 d_1 1) (a5.getD x9.toNat 0)) 1) = true then if AH.ok H7 (AH.look H7 (AH.rd H7 d_1 1) (a5.getD x9.toNat 0)) 2 1 = true then if AH.isRow H7 1 (AH.rd H7 (AH.look H7 (AH.rd H7 d_1 1) (a5.getD x9.toNat 0)) 2) = true then (disk_Disk_Crash_a_l1 d_1 keep_2 torn_3 at_4 a5 H7 x9 (((↑(MV.len (AH.rd H7 (AH.look H7 (AH.rd H7 d_1 1) (a5.getD x9.toNat 0)) 2)) : Int) - (0 : Int)).toNat + 1) H7 k8 (MV.num (AH.rd H7 (AH.look H7 (AH.rd H7 d_1 1) (a5.getD x9.toNat 0)) 1)) (0 : Int)).bind (fun (H25, k26) => (disk_file_settle H25 (AH.look H7 (AH.rd H7 d_1 1) (a5.getD x9.toNat 0))).bind (fun H52 => disk_Disk_Crash_a_l0 d_1 keep_2 torn_3 at_4 a5 k H52 k26 (IntKind.i64.wrap (x9 + (1 : Int))))) else none else none else none else none else none else none else none else none else none else some H7) = _ := h
      refine tr_seq ?_
      refine tr_rg hT [] [sO 0 (.slc 9001), sO 1 (.slc 9002), sI 2 .i64 torn_3, sI 3 .i64 at_4, sI 8 .i64 k8, sO 21 (.slc 0), sI 22 .i64 (↑(List.length a5) : Int), sI 23 .i64 x9, sB 24 (decide (x9 < (↑(List.length a5) : Int))), hO 0 3 .i64 a5, (.h 1, .e (.arena true [9000] H7)), (.h 9001, .e (.apt 1 d_1)), (.h 9002, .e (.apt 1 keep_2))] hnil ?_
      refine q_k ?_
      refine tr_seq ?_
      rcases ite_split h with ⟨hc11, h⟩ | ⟨hc11, h⟩
      · refine tr_cond_t (decide (x9 < (↑(List.length a5) : Int))) (by kernel_rfl) hc11 ?_
        refine tr_skip ?_
        refine q_k ?_
        refine tr_seq ?_
        refine tr_block ?_
        refine tr_seq ?_
        obtain ⟨hn12, h⟩ := ite_some h
        refine tr_rg hT [] [sO 0 (.slc 9001), sO 1 (.slc 9002), sI 2 .i64 torn_3, sI 3 .i64 at_4, sI 8 .i64 k8, sI 10 .i64 (a5.getD x9.toNat 0), sO 21 (.slc 0), sI 22 .i64 (↑(List.length a5) : Int), sI 23 .i64 x9, hO 0 3 .i64 a5, (.h 1, .e (.arena true [9000] H7)), (.h 9001, .e (.apt 1 d_1)), (.h 9002, .e (.apt 1 keep_2))] (hcons hn12 (hone hn12.2)) ?_
        refine q_k ?_
        refine tr_seq ?_
        obtain ⟨hn13, h⟩ := ite_some h
        obtain ⟨hn14, h⟩ := ite_some h
        obtain ⟨hn15, h⟩ := ite_some h
        refine tr_rg hT [(1, .ar 1 []), (2, .ar 1 []), (3, .ar 1 [3]), (5, .ar 1 [4])] [sO 0 (.slc 9001), sO 1 (.slc 9002), sI 2 .i64 torn_3, sI 3 .i64 at_4, sI 8 .i64 k8, sO 11 (.slc 4), sO 21 (.slc 0), sI 22 .i64 (↑(List.length a5) : Int), sI 23 .i64 x9, hO 0 3 .i64 a5, (.h 1, .e (.arena true [9000] H7)), (.h 4, .e (.apt 1 (AH.look H7 (AH.rd H7 d_1 1) (a5.getD x9.toNat 0)))), (.h 9001, .e (.apt 1 d_1)), (.h 9002, .e (.apt 1 keep_2))] (hcons hn13 (hcons hn13 (hcons hn14 (hone hn15)))) ?_
        refine q_k ?_
        refine tr_seq ?_
        obtain ⟨hn16, h⟩ := ite_some h
        obtain ⟨hn17, h⟩ := ite_some h
        obtain ⟨hn18, h⟩ := ite_some h
        refine tr_rg hT [(1, .ar 1 []), (2, .ar 1 []), (3, .ar 1 [])] [sO 0 (.slc 9001), sO 1 (.slc 9002), sI 2 .i64 torn_3, sI 3 .i64 at_4, sI 8 .i64 k8, sO 11 (.slc 4), sI 12 .i64 (MV.num (AH.rd H7 (AH.look H7 (AH.rd H7 d_1 1) (a5.getD x9.toNat 0)) 1)), sO 21 (.slc 0), sI 22 .i64 (↑(List.length a5) : Int), sI 23 .i64 x9, hO 0 3 .i64 a5, (.h 1, .e (.arena true [9000] H7)), (.h 4, .e (.apt 1 (AH.look H7 (AH.rd H7 d_1 1) (a5.getD x9.toNat 0)))), (.h 9001, .e (.apt 1 d_1)), (.h 9002, .e (.apt 1 keep_2))] (hcons hn16 (hcons hn16 (hcons hn17 (hone hn18)))) ?_
        refine q_k ?_
        refine tr_seq ?_
        refine tr_seq ?_
        obtain ⟨hn19, h⟩ := ite_some h
        obtain ⟨hn20, h⟩ := ite_some h
        refine tr_rg hT [(1, .ar 1 []), (2, .ar 1 []), (3, .ar 1 [5]), (4, .ar 1 [])] [sO 0 (.slc 9001), sO 1 (.slc 9002), sI 2 .i64 torn_3, sI 3 .i64 at_4, sI 8 .i64 k8, sO 11 (.slc 4), sI 12 .i64 (MV.num (AH.rd H7 (AH.look H7 (AH.rd H7 d_1 1) (a5.getD x9.toNat 0)) 1)), sO 21 (.slc 0), sI 22 .i64 (↑(List.length a5) : Int), sI 23 .i64 x9, sO 40 (.slc 5), sI 41 .i64 (↑(MV.len (AH.rd H7 (AH.look H7 (AH.rd H7 d_1 1) (a5.getD x9.toNat 0)) 2)) : Int), sI 42 .i64 (0 : Int), hO 0 3 .i64 a5, (.h 1, .e (.arena true [9000] H7)), (.h 4, .e (.apt 1 (AH.look H7 (AH.rd H7 d_1 1) (a5.getD x9.toNat 0)))), (.h 5, .e (.apt 1 (AH.rd H7 (AH.look H7 (AH.rd H7 d_1 1) (a5.getD x9.toNat 0)) 2))), (.h 9001, .e (.apt 1 d_1)), (.h 9002, .e (.apt 1 keep_2))] (hcons hn16 (hcons hn16 (hcons hn19 (hone hn20)))) ?_
        refine q_k ?_
        refine tr_block ?_
        obtain ⟨rr1, e51, h⟩ := bind_some h
        refine tr_ft [(6, .slc 1)] [sO 0 (.slc 9001), sO 1 (.slc 9002), sI 2 .i64 torn_3, sI 3 .i64 at_4, sI 8 .i64 k8, sO 11 (.slc 4), sI 12 .i64 (MV.num (AH.rd H7 (AH.look H7 (AH.rd H7 d_1 1) (a5.getD x9.toNat 0)) 1)), sO 21 (.slc 0), sI 22 .i64 (↑(List.length a5) : Int), sI 23 .i64 x9, sO 40 (.slc 5), sI 41 .i64 (↑(MV.len (AH.rd H7 (AH.look H7 (AH.rd H7 d_1 1) (a5.getD x9.toNat 0)) 2)) : Int), sI 42 .i64 (0 : Int), hO 0 3 .i64 a5, (.h 4, .e (.apt 6 (AH.look H7 (AH.rd H7 d_1 1) (a5.getD x9.toNat 0)))), (.h 5, .e (.apt 6 (AH.rd H7 (AH.look H7 (AH.rd H7 d_1 1) (a5.getD x9.toNat 0)) 2))), (.h 6, .e (.arena true [9000] H7)), (.h 9001, .e (.apt 6 d_1)), (.h 9002, .e (.apt 6 keep_2))] ⟨.own', .apt' (κb := 1) (κ0 := 1) (rw := true) (bs := [9000]) (D := H7), .apt' (κb := 1) (κ0 := 1) (rw := true) (bs := [9000]) (D := H7), .arena' (bs := [9000]), .apt' (κb := 1) (κ0 := 1) (rw := true) (bs := [9000]) (D := H7), .apt' (κb := 1) (κ0 := 1) (rw := true) (bs := [9000]) (D := H7), trivial⟩ ?_
        refine tr_loop_fuel (id := 2) (α := AH × Int × Int × Int) (β := AH × Int) (fun z => [sO 0 (.slc 9001), sO 1 (.slc 9002), sI 2 .i64 torn_3, sI 3 .i64 at_4, sI 8 .i64 z.2.1, sO 11 (.slc 4), sI 12 .i64 z.2.2.1, sO 21 (.slc 0), sI 22 .i64 (↑(List.length a5) : Int), sI 23 .i64 x9, sO 40 (.slc 5), sI 41 .i64 (↑(MV.len (AH.rd H7 (AH.look H7 (AH.rd H7 d_1 1) (a5.getD x9.toNat 0)) 2)) : Int), sI 42 .i64 z.2.2.2, hO 0 3 .i64 a5, (.h 4, .e (.apt 6 (AH.look H7 (AH.rd H7 d_1 1) (a5.getD x9.toNat 0)))), (.h 5, .e (.apt 6 (AH.rd H7 (AH.look H7 (AH.rd H7 d_1 1) (a5.getD x9.toNat 0)) 2))), (.h 6, .e (.arena true [9000] z.1)), (.h 9001, .e (.apt 6 d_1)), (.h 9002, .e (.apt 6 keep_2))]) (fun z => [sO 0 (.slc 9001), sO 1 (.slc 9002), sI 2 .i64 torn_3, sI 3 .i64 at_4, sI 8 .i64 z.2, sO 11 (.slc 4), sO 21 (.slc 0), sI 22 .i64 (↑(List.length a5) : Int), sI 23 .i64 x9, hO 0 3 .i64 a5, (.h 4, .e (.apt 7 (AH.look H7 (AH.rd H7 d_1 1) (a5.getD x9.toNat 0)))), (.h 7, .e (.arena true [9000] z.1)), (.h 9001, .e (.apt 7 d_1)), (.h 9002, .e (.apt 7 keep_2))]) (fun k z => disk_Disk_Crash_a_l1 d_1 keep_2 torn_3 at_4 a5 H7 x9 k z.1 z.2.1 z.2.2.1 z.2.2.2) rr1 (fun _ => rfl) (((↑(MV.len (AH.rd H7 (AH.look H7 (AH.rd H7 d_1 1) (a5.getD x9.toNat 0)) 2)) : Int) - (0 : Int)).toNat + 1) (H7, k8, (MV.num (AH.rd H7 (AH.look H7 (AH.rd H7 d_1 1) (a5.getD x9.toNat 0)) 1)), (0 : Int)) e51 ?_ ?_
        · rcases rr1 with ⟨H25, k26⟩
          replace h : ((disk_file_settle H25 (AH.look H7 (AH.rd H7 d_1 1) (a5.getD x9.toNat 0))).bind (fun H52 => disk_Disk_Crash_a_l0 d_1 keep_2 torn_3 at_4 a5 k H52 k26 (IntKind.i64.wrap (x9 + (1 : Int))))) = _ := h
          refine q_b_this ?_
          refine q_k ?_
          obtain ⟨H52, e53, h⟩ := bind_some h
          refine tr_rg hT [(1, .callA [(7, .rw), (4, .apt 7)] (.tup []) [(55, .arena true [7] H52), (7, .dead)])] [sO 0 (.slc 9001), sO 1 (.slc 9002), sI 2 .i64 torn_3, sI 3 .i64 at_4, sI 8 .i64 k26, sO 21 (.slc 0), sI 22 .i64 (↑(List.length a5) : Int), sI 23 .i64 x9, hO 0 3 .i64 a5, (.h 55, .e (.arena true [7, 9000] H52)), (.h 9001, .e (.apt 7 d_1)), (.h 9002, .e (.apt 7 keep_2))] (hone ((disk_file_settle_ok H25 (AH.look H7 (AH.rd H7 d_1 1) (a5.getD x9.toNat 0)) H52 e53).tr1 [(9001, .slc 4), (9000, .slc 7), (8900, .slc 55)] [(7, .arena true [] H25), (4, .apt 7 (AH.look H7 (AH.rd H7 d_1 1) (a5.getD x9.toNat 0)))] ⟨.arena' (bs := []), .apts' (κb := 7), trivial⟩)) ?_
          refine q_b 1 ?_
          refine q_k ?_
          refine tr_rg hT [] [sO 0 (.slc 9001), sO 1 (.slc 9002), sI 2 .i64 torn_3, sI 3 .i64 at_4, sI 8 .i64 k26, sO 21 (.slc 0), sI 22 .i64 (↑(List.length a5) : Int), sI 23 .i64 (IntKind.i64.wrap (x9 + (1 : Int))), hO 0 3 .i64 a5, (.h 55, .e (.arena true [7, 9000] H52)), (.h 9001, .e (.apt 7 d_1)), (.h 9002, .e (.apt 7 keep_2))] hnil ?_
          refine q_kr ?_
          exact trR_ft [(1, .slc 55)] [sO 0 (.slc 9001), sO 1 (.slc 9002), sI 2 .i64 torn_3, sI 3 .i64 at_4, sI 8 .i64 k26, sO 21 (.slc 0), sI 22 .i64 (↑(List.length a5) : Int), sI 23 .i64 (IntKind.i64.wrap (x9 + (1 : Int))), hO 0 3 .i64 a5, (.h 1, .e (.arena true [9000] H52)), (.h 9001, .e (.apt 1 d_1)), (.h 9002, .e (.apt 1 keep_2))] ⟨.own', .arena' (bs := [7, 9000]), .apt' (κb := 7) (κ0 := 55) (rw := true) (bs := [7, 9000]) (D := H52), .apt' (κb := 7) (κ0 := 55) (rw := true) (bs := [7, 9000]) (D := H52), trivial⟩ (ih0 (H52, k26, (IntKind.i64.wrap (x9 + (1 : Int)))) h)
        · clear h e51
          intro k ih1 hx1 z h
          obtain ⟨H21, k22, from23, x24⟩ := z
          replace h : (if (decide (x24 < (↑(MV.len (AH.rd H7 (AH.look H7 (AH.rd H7 d_1 1) (a5.getD x9.toNat 0)) 2)) : Int))) = true then if (0 ≤ x24 ∧ x24 < (↑(MV.len (AH.rd H7 (AH.look H7 (AH.rd H7 d_1 1) (a5.getD x9.toNat 0)) 2)) : Int)) ∧ AH.isRow H21 1 (AH.rd H7 (AH.look H7 (AH.rd H7 d_1 1) (a5.getD x9.toNat 0)) 2) = true then if AH.ok H21 (AH.rd H7 (AH.look H7 (AH.rd H7 d_1 1) (a5.getD x9.toNat 0)) 2) (x24.toNat * 1 + 0) 1 = true then if MV.isI .i64 (AH.rd H21 (AH.rd H7 (AH.look H7 (AH.rd H7 d_1 1) (a5.getD x9.toNat 0)) 2) (x24.toNat * 1 + 0)) = true then if MV.isP (AH.look H7 (AH.rd H7 d_1 1) (a5.getD x9.toNat 0)) = true ∧ AH.ok H21 (AH.look H7 (AH.rd H7 d_1 1) (a5.getD x9.toNat 0)) 0 1 = true then if AH.ok H21 (AH.look H7 (AH.rd H7 d_1 1) (a5.getD x9.toNat 0)) 0 1 = true then if 0 ≤ from23 ∧ from23 ≤ (MV.num (AH.rd H21 (AH.rd H7 (AH.look H7 (AH.rd H7 d_1 1) (a5.getD x9.toNat 0)) 2) (x24.toNat * 1 + 0))) ∧ (MV.num (AH.rd H21 (AH.rd H7 (AH.look H7 (AH.rd H7 d_1 1) (a5.getD x9.toNat 0)) 2) (x24.toNat * 1 + 0))) ≤ (↑(MV.len (AH.rd H21 (AH.look H7 (AH.rd H7 d_1 1) (a5.getD x9.toNat 0)) 0)) : Int) then if AH.isRow H21 1 (AH.rd H21 (AH.look H7 (AH.rd H7 d_1 1) (a5.getD x9.toNat 0)) 0) = true then if MV.lo (AH.rd H21 (AH.look H7 (AH.rd H7 d_1 1) (a5.getD x9.toNat 0)) 0) = 0 then (show Option (AH) from if (k22 == torn_3) = true then if AH.isRow H21 1 (MV.sub (AH.rd H21 (AH.look H7 (AH.rd H7 d_1 1) (a5.getD x9.toNat 0)) 0) from23.toNat (MV.num (AH.rd H21 (AH.rd H7 (AH.look H7 (AH.rd H7 d_1 1) (a5.getD x9.toNat 0)) 2) (x24.toNat * 1 + 0))).toNat) = true then if 0 ≤ (if (↑(MV.len (MV.sub (AH.rd H21 (AH.look H7 (AH.rd H7 d_1 1) (a5.getD x9.toNat 0)) 0) from23.toNat (MV.num (AH.rd H21 (AH.rd H7 (AH.look H7 (AH.rd H7 d_1 1) (a5.getD x9.toNat 0)) 2) (x24.toNat * 1 + 0))).toNat)) : Int) < (if (0 : Int) > at_4 then (0 : Int) else at_4) then (↑(MV.len (MV.sub (AH.rd H21 (AH.look H7 (AH.rd H7 d_1 1) (a5.getD x9.toNat 0)) 0) from23.toNat (MV.num (AH.rd H21 (AH.rd H7 (AH.look H7 (AH.rd H7 d_1 1) (a5.getD x9.toNat 0)) 2) (x24.toNat * 1 + 0))).toNat)) : Int) else (if (0 : Int) > at_4 then (0 : Int) else at_4)) ∧ (if (↑(MV.len (MV.sub (AH.rd H21 (AH.look H7 (AH.rd H7 d_1 1) (a5.getD x9.toNat 0)) 0) from23.toNat (MV.num (AH.rd H21 (AH.rd H7 (AH.look H7 (AH.rd H7 d_1 1) (a5.getD x9.toNat 0)) 2) (x24.toNat * 1 + 0))).toNat)) : Int) < (if (0 : Int) > at_4 then (0 : Int) else at_4) then (↑(MV.len (MV.sub (AH.rd H21 (AH.look H7 (AH.rd H7 d_1 1) (a5.getD x9.toNat 0)) 0) from23.toNat (MV.num (AH.rd H21 (AH.rd H7 (AH.look H7 (AH.rd H7 d_1 1) (a5.getD x9.toNat 0)) 2) (x24.toNat * 1 + 0))).toNat)) : Int) else (if (0 : Int) > at_4 then (0 : Int) else at_4)) ≤ (↑(MV.len (MV.sub (AH.rd H21 (AH.look H7 (AH.rd H7 d_1 1) (a5.getD x9.toNat 0)) 0) from23.toNat (MV.num (AH.rd H21 (AH.rd H7 (AH.look H7 (AH.rd H7 d_1 1) (a5.getD x9.toNat 0)) 2) (x24.toNat * 1 + 0))).toNat)) : Int) ∧ (↑(MV.len (MV.sub (AH.rd H21 (AH.look H7 (AH.rd H7 d_1 1) (a5.getD x9.toNat 0)) 0) from23.toNat (MV.num (AH.rd H21 (AH.rd H7 (AH.look H7 (AH.rd H7 d_1 1) (a5.getD x9.toNat 0)) 2) (x24.toNat * 1 + 0))).toNat)) : Int) ≤ (↑(MV.len (MV.sub (AH.rd H21 (AH.look H7 (AH.rd H7 d_1 1) (a5.getD x9.toNat 0)) 0) from23.toNat (MV.num (AH.rd H21 (AH.rd H7 (AH.look H7 (AH.rd H7 d_1 1) (a5.getD x9.toNat 0)) 2) (x24.toNat * 1 + 0))).toNat)) : Int) then if AH.isRow H21 1 (MV.sub (MV.sub (AH.rd H21 (AH.look H7 (AH.rd H7 d_1 1) (a5.getD x9.toNat 0)) 0) from23.toNat (MV.num (AH.rd H21 (AH.rd H7 (AH.look H7 (AH.rd H7 d_1 1) (a5.getD x9.toNat 0)) 2) (x24.toNat * 1 + 0))).toNat) (if (↑(MV.len (MV.sub (AH.rd H21 (AH.look H7 (AH.rd H7 d_1 1) (a5.getD x9.toNat 0)) 0) from23.toNat (MV.num (AH.rd H21 (AH.rd H7 (AH.look H7 (AH.rd H7 d_1 1) (a5.getD x9.toNat 0)) 2) (x24.toNat * 1 + 0))).toNat)) : Int) < (if (0 : Int) > at_4 then (0 : Int) else at_4) then (↑(MV.len (MV.sub (AH.rd H21 (AH.look H7 (AH.rd H7 d_1 1) (a5.getD x9.toNat 0)) 0) from23.toNat (MV.num (AH.rd H21 (AH.rd H7 (AH.look H7 (AH.rd H7 d_1 1) (a5.getD x9.toNat 0)) 2) (x24.toNat * 1 + 0))).toNat)) : Int) else (if (0 : Int) > at_4 then (0 : Int) else at_4)).toNat (↑(MV.len (MV.sub (AH.rd H21 (AH.look H7 (AH.rd H7 d_1 1) (a5.getD x9.toNat 0)) 0) from23.toNat (MV.num (AH.rd H21 (AH.rd H7 (AH.look H7 (AH.rd H7 d_1 1) (a5.getD x9.toNat 0)) 2) (x24.toNat * 1 + 0))).toNat)) : Int).toNat) = true then some (AH.clr H21 (MV.sub (MV.sub (AH.rd H21 (AH.look H7 (AH.rd H7 d_1 1) (a5.getD x9.toNat 0)) 0) from23.toNat (MV.num (AH.rd H21 (AH.rd H7 (AH.look H7 (AH.rd H7 d_1 1) (a5.getD x9.toNat 0)) 2) (x24.toNat * 1 + 0))).toNat) (if (↑(MV.len (MV.sub (AH.rd H21 (AH.look H7 (AH.rd H7 d_1 1) (a5.getD x9.toNat 0)) 0) from23.toNat (MV.num (AH.rd H21 (AH.rd H7 (AH.look H7 (AH.rd H7 d_1 1) (a5.getD x9.toNat 0)) 2) (x24.toNat * 1 + 0))).toNat)) : Int) < (if (0 : Int) > at_4 then (0 : Int) else at_4) then (↑(MV.len (MV.sub (AH.rd H21 (AH.look H7 (AH.rd H7 d_1 1) (a5.getD x9.toNat 0)) 0) from23.toNat (MV.num (AH.rd H21 (AH.rd H7 (AH.look H7 (AH.rd H7 d_1 1) (a5.getD x9.toNat 0)) 2) (x24.toNat * 1 + 0))).toNat)) : Int) else (if (0 : Int) > at_4 then (0 : Int) else at_4)).toNat (↑(MV.len (MV.sub (AH.rd H21 (AH.look H7 (AH.rd H7 d_1 1) (a5.getD x9.toNat 0)) 0) from23.toNat (MV.num (AH.rd H21 (AH.rd H7 (AH.look H7 (AH.rd H7 d_1 1) (a5.getD x9.toNat 0)) 2) (x24.toNat * 1 + 0))).toNat)) : Int).toNat) [MV.int .u8 (0 : Int)]) else none else none else none else if AH.isRow H21 1 keep_2 = true then if (decide (k22 ≥ (↑(MV.len keep_2) : Int))) = true then if AH.isRow H21 1 (MV.sub (AH.rd H21 (AH.look H7 (AH.rd H7 d_1 1) (a5.getD x9.toNat 0)) 0) from23.toNat (MV.num (AH.rd H21 (AH.rd H7 (AH.look H7 (AH.rd H7 d_1 1) (a5.getD x9.toNat 0)) 2) (x24.toNat * 1 + 0))).toNat) = true then some (AH.clr H21 (MV.sub (AH.rd H21 (AH.look H7 (AH.rd H7 d_1 1) (a5.getD x9.toNat 0)) 0) from23.toNat (MV.num (AH.rd H21 (AH.rd H7 (AH.look H7 (AH.rd H7 d_1 1) (a5.getD x9.toNat 0)) 2) (x24.toNat * 1 + 0))).toNat) [MV.int .u8 (0 : Int)]) else none else if (0 ≤ k22 ∧ k22 < (↑(MV.len keep_2) : Int)) ∧ AH.isRow H21 1 keep_2 = true then if AH.ok H21 keep_2 (k22.toNat * 1 + 0) 1 = true then if MV.isB (AH.rd H21 keep_2 (k22.toNat * 1 + 0)) = true then if (!(MV.tr (AH.rd H21 keep_2 (k22.toNat * 1 + 0)))) = true then if AH.isRow H21 1 (MV.sub (AH.rd H21 (AH.look H7 (AH.rd H7 d_1 1) (a5.getD x9.toNat 0)) 0) from23.toNat (MV.num (AH.rd H21 (AH.rd H7 (AH.look H7 (AH.rd H7 d_1 1) (a5.getD x9.toNat 0)) 2) (x24.toNat * 1 + 0))).toNat) = true then some (AH.clr H21 (MV.sub (AH.rd H21 (AH.look H7 (AH.rd H7 d_1 1) (a5.getD x9.toNat 0)) 0) from23.toNat (MV.num (AH.rd H21 (AH.rd H7 (AH.look H7 (AH.rd H7 d_1 1) (a5.getD x9.toNat 0)) 2) (x24.toNat * 1 + 0))).toNat) [MV.int .u8 (0 : Int)]) else none else some H21 else none else none else none else none).bind (fun H36 => disk_Disk_Crash_a_l1 d_1 keep_2 torn_3 at_4 a5 H7 x9 k H36 (IntKind.i64.wrap (k22 + (1 : Int))) (MV.num (AH.rd H21 (AH.rd H7 (AH.look H7 (AH.rd H7 d_1 1) (a5.getD x9.toNat 0)) 2) (x24.toNat * 1 + 0))) (IntKind.i64.wrap (x24 + (1 : Int)))) else none else none else none else none else none else none else none else none else some (H21, k22)) = _ := h
          refine tr_seq ?_
          refine tr_rg hT [] [sO 0 (.slc 9001), sO 1 (.slc 9002), sI 2 .i64 torn_3, sI 3 .i64 at_4, sI 8 .i64 k22, sO 11 (.slc 4), sI 12 .i64 from23, sO 21 (.slc 0), sI 22 .i64 (↑(List.length a5) : Int), sI 23 .i64 x9, sO 40 (.slc 5), sI 41 .i64 (↑(MV.len (AH.rd H7 (AH.look H7 (AH.rd H7 d_1 1) (a5.getD x9.toNat 0)) 2)) : Int), sI 42 .i64 x24, sB 43 (decide (x24 < (↑(MV.len (AH.rd H7 (AH.look H7 (AH.rd H7 d_1 1) (a5.getD x9.toNat 0)) 2)) : Int))), hO 0 3 .i64 a5, (.h 4, .e (.apt 6 (AH.look H7 (AH.rd H7 d_1 1) (a5.getD x9.toNat 0)))), (.h 5, .e (.apt 6 (AH.rd H7 (AH.look H7 (AH.rd H7 d_1 1) (a5.getD x9.toNat 0)) 2))), (.h 6, .e (.arena true [9000] H21)), (.h 9001, .e (.apt 6 d_1)), (.h 9002, .e (.apt 6 keep_2))] hnil ?_
          refine q_k ?_
          refine tr_seq ?_
          rcases ite_split h with ⟨hc27, h⟩ | ⟨hc27, h⟩
          · refine tr_cond_t (decide (x24 < (↑(MV.len (AH.rd H7 (AH.look H7 (AH.rd H7 d_1 1) (a5.getD x9.toNat 0)) 2)) : Int))) (by kernel_rfl) hc27 ?_
            refine tr_skip ?_
            refine q_k ?_
            refine tr_seq ?_
            refine tr_block ?_
            refine tr_seq ?_
            obtain ⟨hn28, h⟩ := ite_some h
            obtain ⟨hn29, h⟩ := ite_some h
            obtain ⟨hn30, h⟩ := ite_some h
            refine tr_rg hT [(0, .ar 6 []), (1, .ar 6 [])] [sO 0 (.slc 9001), sO 1 (.slc 9002), sI 2 .i64 torn_3, sI 3 .i64 at_4, sI 8 .i64 k22, sO 11 (.slc 4), sI 12 .i64 from23, sI 14 .i64 (MV.num (AH.rd H21 (AH.rd H7 (AH.look H7 (AH.rd H7 d_1 1) (a5.getD x9.toNat 0)) 2) (x24.toNat * 1 + 0))), sO 21 (.slc 0), sI 22 .i64 (↑(List.length a5) : Int), sI 23 .i64 x9, sO 40 (.slc 5), sI 41 .i64 (↑(MV.len (AH.rd H7 (AH.look H7 (AH.rd H7 d_1 1) (a5.getD x9.toNat 0)) 2)) : Int), sI 42 .i64 x24, hO 0 3 .i64 a5, (.h 4, .e (.apt 6 (AH.look H7 (AH.rd H7 d_1 1) (a5.getD x9.toNat 0)))), (.h 5, .e (.apt 6 (AH.rd H7 (AH.look H7 (AH.rd H7 d_1 1) (a5.getD x9.toNat 0)) 2))), (.h 6, .e (.arena true [9000] H21)), (.h 9001, .e (.apt 6 d_1)), (.h 9002, .e (.apt 6 keep_2))] (hcons hn28 (hcons hn29 (hone hn30))) ?_
            refine q_k ?_
            refine tr_seq ?_
            refine tr_seq ?_
            obtain ⟨hn31, h⟩ := ite_some h
            obtain ⟨hn32, h⟩ := ite_some h
            obtain ⟨hn33, h⟩ := ite_some h
            obtain ⟨hn34, h⟩ := ite_some h
            obtain ⟨hn35, h⟩ := ite_some h
            refine tr_rg hT [(1, .ar 6 []), (2, .ar 6 []), (3, .ar 6 [8]), (6, .ar 6 [9])] [sO 0 (.slc 9001), sO 1 (.slc 9002), sI 2 .i64 torn_3, sI 3 .i64 at_4, sI 8 .i64 k22, sO 11 (.slc 4), sI 14 .i64 (MV.num (AH.rd H21 (AH.rd H7 (AH.look H7 (AH.rd H7 d_1 1) (a5.getD x9.toNat 0)) 2) (x24.toNat * 1 + 0))), sO 15 (.slc 9), sO 21 (.slc 0), sI 22 .i64 (↑(List.length a5) : Int), sI 23 .i64 x9, sO 40 (.slc 5), sI 41 .i64 (↑(MV.len (AH.rd H7 (AH.look H7 (AH.rd H7 d_1 1) (a5.getD x9.toNat 0)) 2)) : Int), sI 42 .i64 x24, hO 0 3 .i64 a5, (.h 4, .e (.apt 6 (AH.look H7 (AH.rd H7 d_1 1) (a5.getD x9.toNat 0)))), (.h 5, .e (.apt 6 (AH.rd H7 (AH.look H7 (AH.rd H7 d_1 1) (a5.getD x9.toNat 0)) 2))), (.h 6, .e (.arena true [9000] H21)), (.h 9, .e (.apt 6 (MV.sub (AH.rd H21 (AH.look H7 (AH.rd H7 d_1 1) (a5.getD x9.toNat 0)) 0) from23.toNat (MV.num (AH.rd H21 (AH.rd H7 (AH.look H7 (AH.rd H7 d_1 1) (a5.getD x9.toNat 0)) 2) (x24.toNat * 1 + 0))).toNat))), (.h 9001, .e (.apt 6 d_1)), (.h 9002, .e (.apt 6 keep_2))] (hcons hn31 (hcons hn31 (hcons hn32 (hcons hn33 (hcons hn34 (hone hn35)))))) ?_
            refine q_k ?_
            obtain ⟨H36, e50, h⟩ := bind_some h
            refine tr_join (σ1 := [sO 0 (.slc 9001), sO 1 (.slc 9002), sI 2 .i64 torn_3, sI 3 .i64 at_4, sI 8 .i64 k22, sO 11 (.slc 4), sI 14 .i64 (MV.num (AH.rd H21 (AH.rd H7 (AH.look H7 (AH.rd H7 d_1 1) (a5.getD x9.toNat 0)) 2) (x24.toNat * 1 + 0))), sO 21 (.slc 0), sI 22 .i64 (↑(List.length a5) : Int), sI 23 .i64 x9, sO 40 (.slc 5), sI 41 .i64 (↑(MV.len (AH.rd H7 (AH.look H7 (AH.rd H7 d_1 1) (a5.getD x9.toNat 0)) 2)) : Int), sI 42 .i64 x24, hO 0 3 .i64 a5, (.h 4, .e (.apt 50 (AH.look H7 (AH.rd H7 d_1 1) (a5.getD x9.toNat 0)))), (.h 5, .e (.apt 50 (AH.rd H7 (AH.look H7 (AH.rd H7 d_1 1) (a5.getD x9.toNat 0)) 2))), (.h 50, .e (.arena true [9000] H36)), (.h 9001, .e (.apt 50 d_1)), (.h 9002, .e (.apt 50 keep_2))]) ?_ ?_
            · skip
              replace h : (disk_Disk_Crash_a_l1 d_1 keep_2 torn_3 at_4 a5 H7 x9 k H36 (IntKind.i64.wrap (k22 + (1 : Int))) (MV.num (AH.rd H21 (AH.rd H7 (AH.look H7 (AH.rd H7 d_1 1) (a5.getD x9.toNat 0)) 2) (x24.toNat * 1 + 0))) (IntKind.i64.wrap (x24 + (1 : Int)))) = _ := h
              refine q_k ?_
              refine tr_seq ?_
              refine tr_rg hT [] [sO 0 (.slc 9001), sO 1 (.slc 9002), sI 2 .i64 torn_3, sI 3 .i64 at_4, sI 8 .i64 k22, sO 11 (.slc 4), sI 12 .i64 (MV.num (AH.rd H21 (AH.rd H7 (AH.look H7 (AH.rd H7 d_1 1) (a5.getD x9.toNat 0)) 2) (x24.toNat * 1 + 0))), sO 21 (.slc 0), sI 22 .i64 (↑(List.length a5) : Int), sI 23 .i64 x9, sO 40 (.slc 5), sI 41 .i64 (↑(MV.len (AH.rd H7 (AH.look H7 (AH.rd H7 d_1 1) (a5.getD x9.toNat 0)) 2)) : Int), sI 42 .i64 x24, hO 0 3 .i64 a5, (.h 4, .e (.apt 50 (AH.look H7 (AH.rd H7 d_1 1) (a5.getD x9.toNat 0)))), (.h 5, .e (.apt 50 (AH.rd H7 (AH.look H7 (AH.rd H7 d_1 1) (a5.getD x9.toNat 0)) 2))), (.h 50, .e (.arena true [9000] H36)), (.h 9001, .e (.apt 50 d_1)), (.h 9002, .e (.apt 50 keep_2))] hnil ?_
              refine q_k ?_
              refine tr_rg hT [] [sO 0 (.slc 9001), sO 1 (.slc 9002), sI 2 .i64 torn_3, sI 3 .i64 at_4, sI 8 .i64 (IntKind.i64.wrap (k22 + (1 : Int))), sO 11 (.slc 4), sI 12 .i64 (MV.num (AH.rd H21 (AH.rd H7 (AH.look H7 (AH.rd H7 d_1 1) (a5.getD x9.toNat 0)) 2) (x24.toNat * 1 + 0))), sO 21 (.slc 0), sI 22 .i64 (↑(List.length a5) : Int), sI 23 .i64 x9, sO 40 (.slc 5), sI 41 .i64 (↑(MV.len (AH.rd H7 (AH.look H7 (AH.rd H7 d_1 1) (a5.getD x9.toNat 0)) 2)) : Int), sI 42 .i64 x24, hO 0 3 .i64 a5, (.h 4, .e (.apt 50 (AH.look H7 (AH.rd H7 d_1 1) (a5.getD x9.toNat 0)))), (.h 5, .e (.apt 50 (AH.rd H7 (AH.look H7 (AH.rd H7 d_1 1) (a5.getD x9.toNat 0)) 2))), (.h 50, .e (.arena true [9000] H36)), (.h 9001, .e (.apt 50 d_1)), (.h 9002, .e (.apt 50 keep_2))] hnil ?_
              refine q_b 3 ?_
              refine q_k ?_
              refine tr_rg hT [] [sO 0 (.slc 9001), sO 1 (.slc 9002), sI 2 .i64 torn_3, sI 3 .i64 at_4, sI 8 .i64 (IntKind.i64.wrap (k22 + (1 : Int))), sO 11 (.slc 4), sI 12 .i64 (MV.num (AH.rd H21 (AH.rd H7 (AH.look H7 (AH.rd H7 d_1 1) (a5.getD x9.toNat 0)) 2) (x24.toNat * 1 + 0))), sO 21 (.slc 0), sI 22 .i64 (↑(List.length a5) : Int), sI 23 .i64 x9, sO 40 (.slc 5), sI 41 .i64 (↑(MV.len (AH.rd H7 (AH.look H7 (AH.rd H7 d_1 1) (a5.getD x9.toNat 0)) 2)) : Int), sI 42 .i64 (IntKind.i64.wrap (x24 + (1 : Int))), hO 0 3 .i64 a5, (.h 4, .e (.apt 50 (AH.look H7 (AH.rd H7 d_1 1) (a5.getD x9.toNat 0)))), (.h 5, .e (.apt 50 (AH.rd H7 (AH.look H7 (AH.rd H7 d_1 1) (a5.getD x9.toNat 0)) 2))), (.h 50, .e (.arena true [9000] H36)), (.h 9001, .e (.apt 50 d_1)), (.h 9002, .e (.apt 50 keep_2))] hnil ?_
              refine q_kr ?_
              exact trR_ft [(6, .slc 50)] [sO 0 (.slc 9001), sO 1 (.slc 9002), sI 2 .i64 torn_3, sI 3 .i64 at_4, sI 8 .i64 (IntKind.i64.wrap (k22 + (1 : Int))), sO 11 (.slc 4), sI 12 .i64 (MV.num (AH.rd H21 (AH.rd H7 (AH.look H7 (AH.rd H7 d_1 1) (a5.getD x9.toNat 0)) 2) (x24.toNat * 1 + 0))), sO 21 (.slc 0), sI 22 .i64 (↑(List.length a5) : Int), sI 23 .i64 x9, sO 40 (.slc 5), sI 41 .i64 (↑(MV.len (AH.rd H7 (AH.look H7 (AH.rd H7 d_1 1) (a5.getD x9.toNat 0)) 2)) : Int), sI 42 .i64 (IntKind.i64.wrap (x24 + (1 : Int))), hO 0 3 .i64 a5, (.h 4, .e (.apt 6 (AH.look H7 (AH.rd H7 d_1 1) (a5.getD x9.toNat 0)))), (.h 5, .e (.apt 6 (AH.rd H7 (AH.look H7 (AH.rd H7 d_1 1) (a5.getD x9.toNat 0)) 2))), (.h 6, .e (.arena true [9000] H36)), (.h 9001, .e (.apt 6 d_1)), (.h 9002, .e (.apt 6 keep_2))] ⟨.own', .apt' (κb := 50) (κ0 := 50) (rw := true) (bs := [9000]) (D := H36), .apt' (κb := 50) (κ0 := 50) (rw := true) (bs := [9000]) (D := H36), .arena' (bs := [9000]), .apt' (κb := 50) (κ0 := 50) (rw := true) (bs := [9000]) (D := H36), .apt' (κb := 50) (κ0 := 50) (rw := true) (bs := [9000]) (D := H36), trivial⟩ (ih1 (H36, (IntKind.i64.wrap (k22 + (1 : Int))), (MV.num (AH.rd H21 (AH.rd H7 (AH.look H7 (AH.rd H7 d_1 1) (a5.getD x9.toNat 0)) 2) (x24.toNat * 1 + 0))), (IntKind.i64.wrap (x24 + (1 : Int)))) h)
            · intro hj2
              clear h
              have h := e50
              clear e50
              refine tr_block ?_
              refine tr_seq ?_
              refine tr_rg hT [] [sO 0 (.slc 9001), sO 1 (.slc 9002), sI 2 .i64 torn_3, sI 3 .i64 at_4, sI 8 .i64 k22, sO 11 (.slc 4), sI 14 .i64 (MV.num (AH.rd H21 (AH.rd H7 (AH.look H7 (AH.rd H7 d_1 1) (a5.getD x9.toNat 0)) 2) (x24.toNat * 1 + 0))), sO 15 (.slc 9), sO 21 (.slc 0), sI 22 .i64 (↑(List.length a5) : Int), sI 23 .i64 x9, sO 40 (.slc 5), sI 41 .i64 (↑(MV.len (AH.rd H7 (AH.look H7 (AH.rd H7 d_1 1) (a5.getD x9.toNat 0)) 2)) : Int), sI 42 .i64 x24, sB 53 (k22 == torn_3), hO 0 3 .i64 a5, (.h 4, .e (.apt 6 (AH.look H7 (AH.rd H7 d_1 1) (a5.getD x9.toNat 0)))), (.h 5, .e (.apt 6 (AH.rd H7 (AH.look H7 (AH.rd H7 d_1 1) (a5.getD x9.toNat 0)) 2))), (.h 6, .e (.arena true [9000] H21)), (.h 9, .e (.apt 6 (MV.sub (AH.rd H21 (AH.look H7 (AH.rd H7 d_1 1) (a5.getD x9.toNat 0)) 0) from23.toNat (MV.num (AH.rd H21 (AH.rd H7 (AH.look H7 (AH.rd H7 d_1 1) (a5.getD x9.toNat 0)) 2) (x24.toNat * 1 + 0))).toNat))), (.h 9001, .e (.apt 6 d_1)), (.h 9002, .e (.apt 6 keep_2))] hnil ?_
              refine q_k ?_
              rcases ite_split h with ⟨hc37, h⟩ | ⟨hc37, h⟩
              · refine tr_cond_t (k22 == torn_3) (by kernel_rfl) hc37 ?_
                obtain ⟨hn38, h⟩ := ite_some h
                obtain ⟨hn39, h⟩ := ite_some h
                obtain ⟨hn40, h⟩ := ite_some h
                refine tr_rg hT [(4, .ar 6 []), (6, .arW 6 [51]), (7, .ar 6 [52])] [sO 0 (.slc 9001), sO 1 (.slc 9002), sI 2 .i64 torn_3, sI 3 .i64 at_4, sI 8 .i64 k22, sO 11 (.slc 4), sI 14 .i64 (MV.num (AH.rd H21 (AH.rd H7 (AH.look H7 (AH.rd H7 d_1 1) (a5.getD x9.toNat 0)) 2) (x24.toNat * 1 + 0))), sO 21 (.slc 0), sI 22 .i64 (↑(List.length a5) : Int), sI 23 .i64 x9, sO 40 (.slc 5), sI 41 .i64 (↑(MV.len (AH.rd H7 (AH.look H7 (AH.rd H7 d_1 1) (a5.getD x9.toNat 0)) 2)) : Int), sI 42 .i64 x24, hO 0 3 .i64 a5, (.h 4, .e (.apt 6 (AH.look H7 (AH.rd H7 d_1 1) (a5.getD x9.toNat 0)))), (.h 5, .e (.apt 6 (AH.rd H7 (AH.look H7 (AH.rd H7 d_1 1) (a5.getD x9.toNat 0)) 2))), (.h 52, .e (.arena true [6, 9000] (AH.clr H21 (MV.sub (MV.sub (AH.rd H21 (AH.look H7 (AH.rd H7 d_1 1) (a5.getD x9.toNat 0)) 0) from23.toNat (MV.num (AH.rd H21 (AH.rd H7 (AH.look H7 (AH.rd H7 d_1 1) (a5.getD x9.toNat 0)) 2) (x24.toNat * 1 + 0))).toNat) (if (↑(MV.len (MV.sub (AH.rd H21 (AH.look H7 (AH.rd H7 d_1 1) (a5.getD x9.toNat 0)) 0) from23.toNat (MV.num (AH.rd H21 (AH.rd H7 (AH.look H7 (AH.rd H7 d_1 1) (a5.getD x9.toNat 0)) 2) (x24.toNat * 1 + 0))).toNat)) : Int) < (if (0 : Int) > at_4 then (0 : Int) else at_4) then (↑(MV.len (MV.sub (AH.rd H21 (AH.look H7 (AH.rd H7 d_1 1) (a5.getD x9.toNat 0)) 0) from23.toNat (MV.num (AH.rd H21 (AH.rd H7 (AH.look H7 (AH.rd H7 d_1 1) (a5.getD x9.toNat 0)) 2) (x24.toNat * 1 + 0))).toNat)) : Int) else (if (0 : Int) > at_4 then (0 : Int) else at_4)).toNat (↑(MV.len (MV.sub (AH.rd H21 (AH.look H7 (AH.rd H7 d_1 1) (a5.getD x9.toNat 0)) 0) from23.toNat (MV.num (AH.rd H21 (AH.rd H7 (AH.look H7 (AH.rd H7 d_1 1) (a5.getD x9.toNat 0)) 2) (x24.toNat * 1 + 0))).toNat)) : Int).toNat) [MV.int .u8 (0 : Int)]))), (.h 9001, .e (.apt 6 d_1)), (.h 9002, .e (.apt 6 keep_2))] (hcons hn38 (hcons hn39 (hcons hn38 (hone hn40)))) ?_
                refine q_b 4 ?_
                have h := Option.some.inj h
                subst h
                exact q_ft [(50, .slc 52)] [sO 0 (.slc 9001), sO 1 (.slc 9002), sI 2 .i64 torn_3, sI 3 .i64 at_4, sI 8 .i64 k22, sO 11 (.slc 4), sI 14 .i64 (MV.num (AH.rd H21 (AH.rd H7 (AH.look H7 (AH.rd H7 d_1 1) (a5.getD x9.toNat 0)) 2) (x24.toNat * 1 + 0))), sO 21 (.slc 0), sI 22 .i64 (↑(List.length a5) : Int), sI 23 .i64 x9, sO 40 (.slc 5), sI 41 .i64 (↑(MV.len (AH.rd H7 (AH.look H7 (AH.rd H7 d_1 1) (a5.getD x9.toNat 0)) 2)) : Int), sI 42 .i64 x24, hO 0 3 .i64 a5, (.h 4, .e (.apt 50 (AH.look H7 (AH.rd H7 d_1 1) (a5.getD x9.toNat 0)))), (.h 5, .e (.apt 50 (AH.rd H7 (AH.look H7 (AH.rd H7 d_1 1) (a5.getD x9.toNat 0)) 2))), (.h 50, .e (.arena true [9000] (AH.clr H21 (MV.sub (MV.sub (AH.rd H21 (AH.look H7 (AH.rd H7 d_1 1) (a5.getD x9.toNat 0)) 0) from23.toNat (MV.num (AH.rd H21 (AH.rd H7 (AH.look H7 (AH.rd H7 d_1 1) (a5.getD x9.toNat 0)) 2) (x24.toNat * 1 + 0))).toNat) (if (↑(MV.len (MV.sub (AH.rd H21 (AH.look H7 (AH.rd H7 d_1 1) (a5.getD x9.toNat 0)) 0) from23.toNat (MV.num (AH.rd H21 (AH.rd H7 (AH.look H7 (AH.rd H7 d_1 1) (a5.getD x9.toNat 0)) 2) (x24.toNat * 1 + 0))).toNat)) : Int) < (if (0 : Int) > at_4 then (0 : Int) else at_4) then (↑(MV.len (MV.sub (AH.rd H21 (AH.look H7 (AH.rd H7 d_1 1) (a5.getD x9.toNat 0)) 0) from23.toNat (MV.num (AH.rd H21 (AH.rd H7 (AH.look H7 (AH.rd H7 d_1 1) (a5.getD x9.toNat 0)) 2) (x24.toNat * 1 + 0))).toNat)) : Int) else (if (0 : Int) > at_4 then (0 : Int) else at_4)).toNat (↑(MV.len (MV.sub (AH.rd H21 (AH.look H7 (AH.rd H7 d_1 1) (a5.getD x9.toNat 0)) 0) from23.toNat (MV.num (AH.rd H21 (AH.rd H7 (AH.look H7 (AH.rd H7 d_1 1) (a5.getD x9.toNat 0)) 2) (x24.toNat * 1 + 0))).toNat)) : Int).toNat) [MV.int .u8 (0 : Int)]))), (.h 9001, .e (.apt 50 d_1)), (.h 9002, .e (.apt 50 keep_2))] ⟨.own', .apt' (κb := 6) (κ0 := 52) (rw := true) (bs := [6, 9000]) (D := (AH.clr H21 (MV.sub (MV.sub (AH.rd H21 (AH.look H7 (AH.rd H7 d_1 1) (a5.getD x9.toNat 0)) 0) from23.toNat (MV.num (AH.rd H21 (AH.rd H7 (AH.look H7 (AH.rd H7 d_1 1) (a5.getD x9.toNat 0)) 2) (x24.toNat * 1 + 0))).toNat) (if (↑(MV.len (MV.sub (AH.rd H21 (AH.look H7 (AH.rd H7 d_1 1) (a5.getD x9.toNat 0)) 0) from23.toNat (MV.num (AH.rd H21 (AH.rd H7 (AH.look H7 (AH.rd H7 d_1 1) (a5.getD x9.toNat 0)) 2) (x24.toNat * 1 + 0))).toNat)) : Int) < (if (0 : Int) > at_4 then (0 : Int) else at_4) then (↑(MV.len (MV.sub (AH.rd H21 (AH.look H7 (AH.rd H7 d_1 1) (a5.getD x9.toNat 0)) 0) from23.toNat (MV.num (AH.rd H21 (AH.rd H7 (AH.look H7 (AH.rd H7 d_1 1) (a5.getD x9.toNat 0)) 2) (x24.toNat * 1 + 0))).toNat)) : Int) else (if (0 : Int) > at_4 then (0 : Int) else at_4)).toNat (↑(MV.len (MV.sub (AH.rd H21 (AH.look H7 (AH.rd H7 d_1 1) (a5.getD x9.toNat 0)) 0) from23.toNat (MV.num (AH.rd H21 (AH.rd H7 (AH.look H7 (AH.rd H7 d_1 1) (a5.getD x9.toNat 0)) 2) (x24.toNat * 1 + 0))).toNat)) : Int).toNat) [MV.int .u8 (0 : Int)])), .apt' (κb := 6) (κ0 := 52) (rw := true) (bs := [6, 9000]) (D := (AH.clr H21 (MV.sub (MV.sub (AH.rd H21 (AH.look H7 (AH.rd H7 d_1 1) (a5.getD x9.toNat 0)) 0) from23.toNat (MV.num (AH.rd H21 (AH.rd H7 (AH.look H7 (AH.rd H7 d_1 1) (a5.getD x9.toNat 0)) 2) (x24.toNat * 1 + 0))).toNat) (if (↑(MV.len (MV.sub (AH.rd H21 (AH.look H7 (AH.rd H7 d_1 1) (a5.getD x9.toNat 0)) 0) from23.toNat (MV.num (AH.rd H21 (AH.rd H7 (AH.look H7 (AH.rd H7 d_1 1) (a5.getD x9.toNat 0)) 2) (x24.toNat * 1 + 0))).toNat)) : Int) < (if (0 : Int) > at_4 then (0 : Int) else at_4) then (↑(MV.len (MV.sub (AH.rd H21 (AH.look H7 (AH.rd H7 d_1 1) (a5.getD x9.toNat 0)) 0) from23.toNat (MV.num (AH.rd H21 (AH.rd H7 (AH.look H7 (AH.rd H7 d_1 1) (a5.getD x9.toNat 0)) 2) (x24.toNat * 1 + 0))).toNat)) : Int) else (if (0 : Int) > at_4 then (0 : Int) else at_4)).toNat (↑(MV.len (MV.sub (AH.rd H21 (AH.look H7 (AH.rd H7 d_1 1) (a5.getD x9.toNat 0)) 0) from23.toNat (MV.num (AH.rd H21 (AH.rd H7 (AH.look H7 (AH.rd H7 d_1 1) (a5.getD x9.toNat 0)) 2) (x24.toNat * 1 + 0))).toNat)) : Int).toNat) [MV.int .u8 (0 : Int)])), .arena' (bs := [6, 9000]), .apt' (κb := 6) (κ0 := 52) (rw := true) (bs := [6, 9000]) (D := (AH.clr H21 (MV.sub (MV.sub (AH.rd H21 (AH.look H7 (AH.rd H7 d_1 1) (a5.getD x9.toNat 0)) 0) from23.toNat (MV.num (AH.rd H21 (AH.rd H7 (AH.look H7 (AH.rd H7 d_1 1) (a5.getD x9.toNat 0)) 2) (x24.toNat * 1 + 0))).toNat) (if (↑(MV.len (MV.sub (AH.rd H21 (AH.look H7 (AH.rd H7 d_1 1) (a5.getD x9.toNat 0)) 0) from23.toNat (MV.num (AH.rd H21 (AH.rd H7 (AH.look H7 (AH.rd H7 d_1 1) (a5.getD x9.toNat 0)) 2) (x24.toNat * 1 + 0))).toNat)) : Int) < (if (0 : Int) > at_4 then (0 : Int) else at_4) then (↑(MV.len (MV.sub (AH.rd H21 (AH.look H7 (AH.rd H7 d_1 1) (a5.getD x9.toNat 0)) 0) from23.toNat (MV.num (AH.rd H21 (AH.rd H7 (AH.look H7 (AH.rd H7 d_1 1) (a5.getD x9.toNat 0)) 2) (x24.toNat * 1 + 0))).toNat)) : Int) else (if (0 : Int) > at_4 then (0 : Int) else at_4)).toNat (↑(MV.len (MV.sub (AH.rd H21 (AH.look H7 (AH.rd H7 d_1 1) (a5.getD x9.toNat 0)) 0) from23.toNat (MV.num (AH.rd H21 (AH.rd H7 (AH.look H7 (AH.rd H7 d_1 1) (a5.getD x9.toNat 0)) 2) (x24.toNat * 1 + 0))).toNat)) : Int).toNat) [MV.int .u8 (0 : Int)])), .apt' (κb := 6) (κ0 := 52) (rw := true) (bs := [6, 9000]) (D := (AH.clr H21 (MV.sub (MV.sub (AH.rd H21 (AH.look H7 (AH.rd H7 d_1 1) (a5.getD x9.toNat 0)) 0) from23.toNat (MV.num (AH.rd H21 (AH.rd H7 (AH.look H7 (AH.rd H7 d_1 1) (a5.getD x9.toNat 0)) 2) (x24.toNat * 1 + 0))).toNat) (if (↑(MV.len (MV.sub (AH.rd H21 (AH.look H7 (AH.rd H7 d_1 1) (a5.getD x9.toNat 0)) 0) from23.toNat (MV.num (AH.rd H21 (AH.rd H7 (AH.look H7 (AH.rd H7 d_1 1) (a5.getD x9.toNat 0)) 2) (x24.toNat * 1 + 0))).toNat)) : Int) < (if (0 : Int) > at_4 then (0 : Int) else at_4) then (↑(MV.len (MV.sub (AH.rd H21 (AH.look H7 (AH.rd H7 d_1 1) (a5.getD x9.toNat 0)) 0) from23.toNat (MV.num (AH.rd H21 (AH.rd H7 (AH.look H7 (AH.rd H7 d_1 1) (a5.getD x9.toNat 0)) 2) (x24.toNat * 1 + 0))).toNat)) : Int) else (if (0 : Int) > at_4 then (0 : Int) else at_4)).toNat (↑(MV.len (MV.sub (AH.rd H21 (AH.look H7 (AH.rd H7 d_1 1) (a5.getD x9.toNat 0)) 0) from23.toNat (MV.num (AH.rd H21 (AH.rd H7 (AH.look H7 (AH.rd H7 d_1 1) (a5.getD x9.toNat 0)) 2) (x24.toNat * 1 + 0))).toNat)) : Int).toNat) [MV.int .u8 (0 : Int)])), trivial⟩ hj2
              · refine tr_cond_f (k22 == torn_3) (by kernel_rfl) hc37 ?_
                refine tr_seq ?_
                obtain ⟨hn41, h⟩ := ite_some h
                rcases ite_split h with ⟨hb42, h⟩ | ⟨hb44, h⟩
                · refine tr_rg hT [(2, .ar 6 []), (4, .dec true)] [sO 0 (.slc 9001), sO 1 (.slc 9002), sI 2 .i64 torn_3, sI 3 .i64 at_4, sI 8 .i64 k22, sO 11 (.slc 4), sI 14 .i64 (MV.num (AH.rd H21 (AH.rd H7 (AH.look H7 (AH.rd H7 d_1 1) (a5.getD x9.toNat 0)) 2) (x24.toNat * 1 + 0))), sO 15 (.slc 9), sO 21 (.slc 0), sI 22 .i64 (↑(List.length a5) : Int), sI 23 .i64 x9, sO 40 (.slc 5), sI 41 .i64 (↑(MV.len (AH.rd H7 (AH.look H7 (AH.rd H7 d_1 1) (a5.getD x9.toNat 0)) 2)) : Int), sI 42 .i64 x24, sB 64 true, hO 0 3 .i64 a5, (.h 4, .e (.apt 6 (AH.look H7 (AH.rd H7 d_1 1) (a5.getD x9.toNat 0)))), (.h 5, .e (.apt 6 (AH.rd H7 (AH.look H7 (AH.rd H7 d_1 1) (a5.getD x9.toNat 0)) 2))), (.h 6, .e (.arena true [9000] H21)), (.h 9, .e (.apt 6 (MV.sub (AH.rd H21 (AH.look H7 (AH.rd H7 d_1 1) (a5.getD x9.toNat 0)) 0) from23.toNat (MV.num (AH.rd H21 (AH.rd H7 (AH.look H7 (AH.rd H7 d_1 1) (a5.getD x9.toNat 0)) 2) (x24.toNat * 1 + 0))).toNat))), (.h 9001, .e (.apt 6 d_1)), (.h 9002, .e (.apt 6 keep_2))] (hcons hn41 (hone hb42)) ?_
                  refine q_k ?_
                  refine tr_cond_t true (by kernel_rfl) rfl ?_
                  obtain ⟨hn43, h⟩ := ite_some h
                  refine tr_rg hT [(1, .ar 6 [53])] [sO 0 (.slc 9001), sO 1 (.slc 9002), sI 2 .i64 torn_3, sI 3 .i64 at_4, sI 8 .i64 k22, sO 11 (.slc 4), sI 14 .i64 (MV.num (AH.rd H21 (AH.rd H7 (AH.look H7 (AH.rd H7 d_1 1) (a5.getD x9.toNat 0)) 2) (x24.toNat * 1 + 0))), sO 21 (.slc 0), sI 22 .i64 (↑(List.length a5) : Int), sI 23 .i64 x9, sO 40 (.slc 5), sI 41 .i64 (↑(MV.len (AH.rd H7 (AH.look H7 (AH.rd H7 d_1 1) (a5.getD x9.toNat 0)) 2)) : Int), sI 42 .i64 x24, hO 0 3 .i64 a5, (.h 4, .e (.apt 6 (AH.look H7 (AH.rd H7 d_1 1) (a5.getD x9.toNat 0)))), (.h 5, .e (.apt 6 (AH.rd H7 (AH.look H7 (AH.rd H7 d_1 1) (a5.getD x9.toNat 0)) 2))), (.h 53, .e (.arena true [6, 9000] (AH.clr H21 (MV.sub (AH.rd H21 (AH.look H7 (AH.rd H7 d_1 1) (a5.getD x9.toNat 0)) 0) from23.toNat (MV.num (AH.rd H21 (AH.rd H7 (AH.look H7 (AH.rd H7 d_1 1) (a5.getD x9.toNat 0)) 2) (x24.toNat * 1 + 0))).toNat) [MV.int .u8 (0 : Int)]))), (.h 9001, .e (.apt 6 d_1)), (.h 9002, .e (.apt 6 keep_2))] (hone hn43) ?_
                  refine q_b 4 ?_
                  have h := Option.some.inj h
                  subst h
                  exact q_ft [(50, .slc 53)] [sO 0 (.slc 9001), sO 1 (.slc 9002), sI 2 .i64 torn_3, sI 3 .i64 at_4, sI 8 .i64 k22, sO 11 (.slc 4), sI 14 .i64 (MV.num (AH.rd H21 (AH.rd H7 (AH.look H7 (AH.rd H7 d_1 1) (a5.getD x9.toNat 0)) 2) (x24.toNat * 1 + 0))), sO 21 (.slc 0), sI 22 .i64 (↑(List.length a5) : Int), sI 23 .i64 x9, sO 40 (.slc 5), sI 41 .i64 (↑(MV.len (AH.rd H7 (AH.look H7 (AH.rd H7 d_1 1) (a5.getD x9.toNat 0)) 2)) : Int), sI 42 .i64 x24, hO 0 3 .i64 a5, (.h 4, .e (.apt 50 (AH.look H7 (AH.rd H7 d_1 1) (a5.getD x9.toNat 0)))), (.h 5, .e (.apt 50 (AH.rd H7 (AH.look H7 (AH.rd H7 d_1 1) (a5.getD x9.toNat 0)) 2))), (.h 50, .e (.arena true [9000] (AH.clr H21 (MV.sub (AH.rd H21 (AH.look H7 (AH.rd H7 d_1 1) (a5.getD x9.toNat 0)) 0) from23.toNat (MV.num (AH.rd H21 (AH.rd H7 (AH.look H7 (AH.rd H7 d_1 1) (a5.getD x9.toNat 0)) 2) (x24.toNat * 1 + 0))).toNat) [MV.int .u8 (0 : Int)]))), (.h 9001, .e (.apt 50 d_1)), (.h 9002, .e (.apt 50 keep_2))] ⟨.own', .apt' (κb := 6) (κ0 := 53) (rw := true) (bs := [6, 9000]) (D := (AH.clr H21 (MV.sub (AH.rd H21 (AH.look H7 (AH.rd H7 d_1 1) (a5.getD x9.toNat 0)) 0) from23.toNat (MV.num (AH.rd H21 (AH.rd H7 (AH.look H7 (AH.rd H7 d_1 1) (a5.getD x9.toNat 0)) 2) (x24.toNat * 1 + 0))).toNat) [MV.int .u8 (0 : Int)])), .apt' (κb := 6) (κ0 := 53) (rw := true) (bs := [6, 9000]) (D := (AH.clr H21 (MV.sub (AH.rd H21 (AH.look H7 (AH.rd H7 d_1 1) (a5.getD x9.toNat 0)) 0) from23.toNat (MV.num (AH.rd H21 (AH.rd H7 (AH.look H7 (AH.rd H7 d_1 1) (a5.getD x9.toNat 0)) 2) (x24.toNat * 1 + 0))).toNat) [MV.int .u8 (0 : Int)])), .arena' (bs := [6, 9000]), .apt' (κb := 6) (κ0 := 53) (rw := true) (bs := [6, 9000]) (D := (AH.clr H21 (MV.sub (AH.rd H21 (AH.look H7 (AH.rd H7 d_1 1) (a5.getD x9.toNat 0)) 0) from23.toNat (MV.num (AH.rd H21 (AH.rd H7 (AH.look H7 (AH.rd H7 d_1 1) (a5.getD x9.toNat 0)) 2) (x24.toNat * 1 + 0))).toNat) [MV.int .u8 (0 : Int)])), .apt' (κb := 6) (κ0 := 53) (rw := true) (bs := [6, 9000]) (D := (AH.clr H21 (MV.sub (AH.rd H21 (AH.look H7 (AH.rd H7 d_1 1) (a5.getD x9.toNat 0)) 0) from23.toNat (MV.num (AH.rd H21 (AH.rd H7 (AH.look H7 (AH.rd H7 d_1 1) (a5.getD x9.toNat 0)) 2) (x24.toNat * 1 + 0))).toNat) [MV.int .u8 (0 : Int)])), trivial⟩ hj2
                · obtain ⟨hn45, h⟩ := ite_some h
                  obtain ⟨hn46, h⟩ := ite_some h
                  obtain ⟨hn47, h⟩ := ite_some h
                  refine tr_rg hT [(2, .ar 6 []), (4, .dec false), (7, .ar 6 []), (8, .ar 6 [])] [sO 0 (.slc 9001), sO 1 (.slc 9002), sI 2 .i64 torn_3, sI 3 .i64 at_4, sI 8 .i64 k22, sO 11 (.slc 4), sI 14 .i64 (MV.num (AH.rd H21 (AH.rd H7 (AH.look H7 (AH.rd H7 d_1 1) (a5.getD x9.toNat 0)) 2) (x24.toNat * 1 + 0))), sO 15 (.slc 9), sO 21 (.slc 0), sI 22 .i64 (↑(List.length a5) : Int), sI 23 .i64 x9, sO 40 (.slc 5), sI 41 .i64 (↑(MV.len (AH.rd H7 (AH.look H7 (AH.rd H7 d_1 1) (a5.getD x9.toNat 0)) 2)) : Int), sI 42 .i64 x24, sB 64 (!(MV.tr (AH.rd H21 keep_2 (k22.toNat * 1 + 0)))), hO 0 3 .i64 a5, (.h 4, .e (.apt 6 (AH.look H7 (AH.rd H7 d_1 1) (a5.getD x9.toNat 0)))), (.h 5, .e (.apt 6 (AH.rd H7 (AH.look H7 (AH.rd H7 d_1 1) (a5.getD x9.toNat 0)) 2))), (.h 6, .e (.arena true [9000] H21)), (.h 9, .e (.apt 6 (MV.sub (AH.rd H21 (AH.look H7 (AH.rd H7 d_1 1) (a5.getD x9.toNat 0)) 0) from23.toNat (MV.num (AH.rd H21 (AH.rd H7 (AH.look H7 (AH.rd H7 d_1 1) (a5.getD x9.toNat 0)) 2) (x24.toNat * 1 + 0))).toNat))), (.h 9001, .e (.apt 6 d_1)), (.h 9002, .e (.apt 6 keep_2))] (hcons hn41 (hcons hb44 (hcons hn45 (hcons hn46 (hone hn47))))) ?_
                  refine q_k ?_
                  rcases ite_split h with ⟨hc48, h⟩ | ⟨hc48, h⟩
                  · refine tr_cond_t (!(MV.tr (AH.rd H21 keep_2 (k22.toNat * 1 + 0)))) (by kernel_rfl) hc48 ?_
                    obtain ⟨hn49, h⟩ := ite_some h
                    refine tr_rg hT [(1, .ar 6 [54])] [sO 0 (.slc 9001), sO 1 (.slc 9002), sI 2 .i64 torn_3, sI 3 .i64 at_4, sI 8 .i64 k22, sO 11 (.slc 4), sI 14 .i64 (MV.num (AH.rd H21 (AH.rd H7 (AH.look H7 (AH.rd H7 d_1 1) (a5.getD x9.toNat 0)) 2) (x24.toNat * 1 + 0))), sO 21 (.slc 0), sI 22 .i64 (↑(List.length a5) : Int), sI 23 .i64 x9, sO 40 (.slc 5), sI 41 .i64 (↑(MV.len (AH.rd H7 (AH.look H7 (AH.rd H7 d_1 1) (a5.getD x9.toNat 0)) 2)) : Int), sI 42 .i64 x24, hO 0 3 .i64 a5, (.h 4, .e (.apt 6 (AH.look H7 (AH.rd H7 d_1 1) (a5.getD x9.toNat 0)))), (.h 5, .e (.apt 6 (AH.rd H7 (AH.look H7 (AH.rd H7 d_1 1) (a5.getD x9.toNat 0)) 2))), (.h 54, .e (.arena true [6, 9000] (AH.clr H21 (MV.sub (AH.rd H21 (AH.look H7 (AH.rd H7 d_1 1) (a5.getD x9.toNat 0)) 0) from23.toNat (MV.num (AH.rd H21 (AH.rd H7 (AH.look H7 (AH.rd H7 d_1 1) (a5.getD x9.toNat 0)) 2) (x24.toNat * 1 + 0))).toNat) [MV.int .u8 (0 : Int)]))), (.h 9001, .e (.apt 6 d_1)), (.h 9002, .e (.apt 6 keep_2))] (hone hn49) ?_
                    refine q_b 4 ?_
                    have h := Option.some.inj h
                    subst h
                    exact q_ft [(50, .slc 54)] [sO 0 (.slc 9001), sO 1 (.slc 9002), sI 2 .i64 torn_3, sI 3 .i64 at_4, sI 8 .i64 k22, sO 11 (.slc 4), sI 14 .i64 (MV.num (AH.rd H21 (AH.rd H7 (AH.look H7 (AH.rd H7 d_1 1) (a5.getD x9.toNat 0)) 2) (x24.toNat * 1 + 0))), sO 21 (.slc 0), sI 22 .i64 (↑(List.length a5) : Int), sI 23 .i64 x9, sO 40 (.slc 5), sI 41 .i64 (↑(MV.len (AH.rd H7 (AH.look H7 (AH.rd H7 d_1 1) (a5.getD x9.toNat 0)) 2)) : Int), sI 42 .i64 x24, hO 0 3 .i64 a5, (.h 4, .e (.apt 50 (AH.look H7 (AH.rd H7 d_1 1) (a5.getD x9.toNat 0)))), (.h 5, .e (.apt 50 (AH.rd H7 (AH.look H7 (AH.rd H7 d_1 1) (a5.getD x9.toNat 0)) 2))), (.h 50, .e (.arena true [9000] (AH.clr H21 (MV.sub (AH.rd H21 (AH.look H7 (AH.rd H7 d_1 1) (a5.getD x9.toNat 0)) 0) from23.toNat (MV.num (AH.rd H21 (AH.rd H7 (AH.look H7 (AH.rd H7 d_1 1) (a5.getD x9.toNat 0)) 2) (x24.toNat * 1 + 0))).toNat) [MV.int .u8 (0 : Int)]))), (.h 9001, .e (.apt 50 d_1)), (.h 9002, .e (.apt 50 keep_2))] ⟨.own', .apt' (κb := 6) (κ0 := 54) (rw := true) (bs := [6, 9000]) (D := (AH.clr H21 (MV.sub (AH.rd H21 (AH.look H7 (AH.rd H7 d_1 1) (a5.getD x9.toNat 0)) 0) from23.toNat (MV.num (AH.rd H21 (AH.rd H7 (AH.look H7 (AH.rd H7 d_1 1) (a5.getD x9.toNat 0)) 2) (x24.toNat * 1 + 0))).toNat) [MV.int .u8 (0 : Int)])), .apt' (κb := 6) (κ0 := 54) (rw := true) (bs := [6, 9000]) (D := (AH.clr H21 (MV.sub (AH.rd H21 (AH.look H7 (AH.rd H7 d_1 1) (a5.getD x9.toNat 0)) 0) from23.toNat (MV.num (AH.rd H21 (AH.rd H7 (AH.look H7 (AH.rd H7 d_1 1) (a5.getD x9.toNat 0)) 2) (x24.toNat * 1 + 0))).toNat) [MV.int .u8 (0 : Int)])), .arena' (bs := [6, 9000]), .apt' (κb := 6) (κ0 := 54) (rw := true) (bs := [6, 9000]) (D := (AH.clr H21 (MV.sub (AH.rd H21 (AH.look H7 (AH.rd H7 d_1 1) (a5.getD x9.toNat 0)) 0) from23.toNat (MV.num (AH.rd H21 (AH.rd H7 (AH.look H7 (AH.rd H7 d_1 1) (a5.getD x9.toNat 0)) 2) (x24.toNat * 1 + 0))).toNat) [MV.int .u8 (0 : Int)])), .apt' (κb := 6) (κ0 := 54) (rw := true) (bs := [6, 9000]) (D := (AH.clr H21 (MV.sub (AH.rd H21 (AH.look H7 (AH.rd H7 d_1 1) (a5.getD x9.toNat 0)) 0) from23.toNat (MV.num (AH.rd H21 (AH.rd H7 (AH.look H7 (AH.rd H7 d_1 1) (a5.getD x9.toNat 0)) 2) (x24.toNat * 1 + 0))).toNat) [MV.int .u8 (0 : Int)])), trivial⟩ hj2
                  · refine tr_cond_f (!(MV.tr (AH.rd H21 keep_2 (k22.toNat * 1 + 0)))) (by kernel_rfl) hc48 ?_
                    refine tr_skip ?_
                    refine q_b 4 ?_
                    have h := Option.some.inj h
                    subst h
                    exact q_ft [(50, .slc 6)] [sO 0 (.slc 9001), sO 1 (.slc 9002), sI 2 .i64 torn_3, sI 3 .i64 at_4, sI 8 .i64 k22, sO 11 (.slc 4), sI 14 .i64 (MV.num (AH.rd H21 (AH.rd H7 (AH.look H7 (AH.rd H7 d_1 1) (a5.getD x9.toNat 0)) 2) (x24.toNat * 1 + 0))), sO 21 (.slc 0), sI 22 .i64 (↑(List.length a5) : Int), sI 23 .i64 x9, sO 40 (.slc 5), sI 41 .i64 (↑(MV.len (AH.rd H7 (AH.look H7 (AH.rd H7 d_1 1) (a5.getD x9.toNat 0)) 2)) : Int), sI 42 .i64 x24, hO 0 3 .i64 a5, (.h 4, .e (.apt 50 (AH.look H7 (AH.rd H7 d_1 1) (a5.getD x9.toNat 0)))), (.h 5, .e (.apt 50 (AH.rd H7 (AH.look H7 (AH.rd H7 d_1 1) (a5.getD x9.toNat 0)) 2))), (.h 50, .e (.arena true [9000] H21)), (.h 9001, .e (.apt 50 d_1)), (.h 9002, .e (.apt 50 keep_2))] ⟨.own', .apt' (κb := 6) (κ0 := 6) (rw := true) (bs := [9000]) (D := H21), .apt' (κb := 6) (κ0 := 6) (rw := true) (bs := [9000]) (D := H21), .arena' (bs := [9000]), .apt' (κb := 6) (κ0 := 6) (rw := true) (bs := [9000]) (D := H21), .apt' (κb := 6) (κ0 := 6) (rw := true) (bs := [9000]) (D := H21), trivial⟩ hj2
          · refine tr_cond_f (decide (x24 < (↑(MV.len (AH.rd H7 (AH.look H7 (AH.rd H7 d_1 1) (a5.getD x9.toNat 0)) 2)) : Int))) (by kernel_rfl) hc27 ?_
            refine tr_exit ?_
            refine q_k_exit ?_
            refine q_kr_exit ?_
            have h := Option.some.inj h
            subst h
            exact q_ft [(7, .slc 6)] [sO 0 (.slc 9001), sO 1 (.slc 9002), sI 2 .i64 torn_3, sI 3 .i64 at_4, sI 8 .i64 k22, sO 11 (.slc 4), sO 21 (.slc 0), sI 22 .i64 (↑(List.length a5) : Int), sI 23 .i64 x9, hO 0 3 .i64 a5, (.h 4, .e (.apt 7 (AH.look H7 (AH.rd H7 d_1 1) (a5.getD x9.toNat 0)))), (.h 7, .e (.arena true [9000] H21)), (.h 9001, .e (.apt 7 d_1)), (.h 9002, .e (.apt 7 keep_2))] ⟨.own', .apt' (κb := 6) (κ0 := 6) (rw := true) (bs := [9000]) (D := H21), .arena' (bs := [9000]), .apt' (κb := 6) (κ0 := 6) (rw := true) (bs := [9000]) (D := H21), .apt' (κb := 6) (κ0 := 6) (rw := true) (bs := [9000]) (D := H21), trivial⟩ hx1
      · refine tr_cond_f (decide (x9 < (↑(List.length a5) : Int))) (by kernel_rfl) hc11 ?_
        refine tr_exit ?_
        refine q_k_exit ?_
        refine q_kr_exit ?_
        have h := Option.some.inj h
        subst h
        exact q_ft [(2, .slc 1)] [sO 0 (.slc 9001), (.h 2, .e (.arena true [9000] H7)), (.h 9001, .e (.apt 2 d_1))] ⟨.arena' (bs := [9000]), .apt' (κb := 1) (κ0 := 1) (rw := true) (bs := [9000]) (D := H7), trivial⟩ hx0

theorem disk_Disk_spend_ok (H_0 : AH) (d_1 : MV) (r : Int × AH) (h : disk_Disk_spend H_0 d_1 = some r) : CallOk P 44 [.v (.one (.slc 9001))] [(9000, .arena true [] H_0), (9001, .apt 9000 d_1)] (.v (.one (.int .i64 r.1))) [(8900, .arena true [9000] r.2), (9000, .dead)] := by
  refine call1 (N := 49) Try.func44 (by kernel_rfl) rfl rfl rfl [(9000, .arena true [] H_0), (9001, .apt 9000 d_1)] (by kernel_rfl) ?_
  intro _ B w0
  show Tr P B 49 w0 _ _ (RetQ P Try.f44 (R1 _ _ B w0))
  unfold disk_Disk_spend at h
  refine tr_seq ?_
  refine tr_rg hT [] [sO 0 (.slc 9001), (.h 9000, .e (.arena true [] H_0)), (.h 9001, .e (.apt 9000 d_1))] hnil ?_
  refine q_k ?_
  refine tr_seq ?_
  refine tr_seq ?_
  obtain ⟨hn1, h⟩ := ite_some h
  obtain ⟨hn2, h⟩ := ite_some h
  obtain ⟨hn3, h⟩ := ite_some h
  refine tr_rg hT [(1, .ar 9000 []), (2, .ar 9000 []), (3, .ar 9000 [0]), (4, .ar 9000 [])] [sO 0 (.slc 9001), sB 7 (MV.isN (AH.rd H_0 d_1 4)), (.h 9000, .e (.arena true [] H_0)), (.h 9001, .e (.apt 9000 d_1))] (hcons hn1 (hcons hn1 (hcons hn2 (hone hn3)))) ?_
  refine q_k ?_
  rcases ite_split h with ⟨hc4, h⟩ | ⟨hc4, h⟩
  · refine tr_cond_t (MV.isN (AH.rd H_0 d_1 4)) (by kernel_rfl) hc4 ?_
    refine tr_seq ?_
    refine tr_rg hT [] [sI 2 .i64 (0 : Int), (.h 9000, .e (.arena true [] H_0))] hnil ?_
    refine q_k ?_
    refine tr_ret ?_
    refine q_k_ret ?_
    have h := Option.some.inj h
    subst h
    refine q_ft [(8900, .slc 9000)] [sI 2 .i64 (0 : Int), (.h 8900, .e (.arena true [9000] H_0)), hD 9000] ⟨.arena' (bs := []), .dead, trivial⟩ ?_
    exact q_ret1 hT (.v (.one (.int .i64 (0 : Int)))) [(8900, .arena true [9000] H_0), (9000, .dead)] (by kernel_rfl) (by kernel_rfl) (by kernel_rfl)
  · refine tr_cond_f (MV.isN (AH.rd H_0 d_1 4)) (by kernel_rfl) hc4 ?_
    refine tr_skip ?_
    refine q_k ?_
    refine tr_seq ?_
    obtain ⟨hn5, h⟩ := ite_some h
    obtain ⟨hn6, h⟩ := ite_some h
    obtain ⟨hn7, h⟩ := ite_some h
    refine tr_rg hT [(1, .ar 9000 []), (2, .ar 9000 []), (3, .ar 9000 [1]), (4, .ar 9000 []), (5, .ar 9000 []), (6, .ar 9000 []), (8, .ar 9000 []), (9, .ar 9000 []), (10, .ar 9000 [2])] [sO 0 (.slc 9001), (.h 2, .e (.arena true [9000] (AH.wr H_0 (AH.rd H_0 d_1 4) 0 [MV.int .i64 (IntKind.i64.wrap ((MV.num (AH.rd H_0 (AH.rd H_0 d_1 4) 0)) - (1 : Int)))]))), (.h 9001, .e (.apt 9000 d_1))] (hcons hn1 (hcons hn1 (hcons hn2 (hcons hn5 (hcons hn5 (hcons hn6 (hcons hn7 (hcons hn5 (hcons hn5 (hcons hn6 (hone (show 1 ≤ 1 from by decide)))))))))))) ?_
    refine q_k ?_
    refine tr_seq ?_
    refine tr_seq ?_
    obtain ⟨hn8, h⟩ := ite_some h
    obtain ⟨hn9, h⟩ := ite_some h
    obtain ⟨hn10, h⟩ := ite_some h
    obtain ⟨hn11, h⟩ := ite_some h
    obtain ⟨hn12, h⟩ := ite_some h
    refine tr_rg hT [(1, .ar 2 []), (2, .ar 2 []), (3, .ar 2 [3]), (4, .ar 2 []), (5, .ar 2 []), (6, .ar 2 [])] [sO 0 (.slc 9001), sB 25 (decide ((MV.num (AH.rd (AH.wr H_0 (AH.rd H_0 d_1 4) 0 [MV.int .i64 (IntKind.i64.wrap ((MV.num (AH.rd H_0 (AH.rd H_0 d_1 4) 0)) - (1 : Int)))]) (AH.rd (AH.wr H_0 (AH.rd H_0 d_1 4) 0 [MV.int .i64 (IntKind.i64.wrap ((MV.num (AH.rd H_0 (AH.rd H_0 d_1 4) 0)) - (1 : Int)))]) d_1 4) 0)) > (0 : Int))), (.h 2, .e (.arena true [9000] (AH.wr H_0 (AH.rd H_0 d_1 4) 0 [MV.int .i64 (IntKind.i64.wrap ((MV.num (AH.rd H_0 (AH.rd H_0 d_1 4) 0)) - (1 : Int)))]))), (.h 9001, .e (.apt 9000 d_1))] (hcons hn8 (hcons hn8 (hcons hn9 (hcons hn10 (hcons hn10 (hcons hn11 (hone hn12))))))) ?_
    refine q_k ?_
    rcases ite_split h with ⟨hc13, h⟩ | ⟨hc13, h⟩
    · refine tr_cond_t (decide ((MV.num (AH.rd (AH.wr H_0 (AH.rd H_0 d_1 4) 0 [MV.int .i64 (IntKind.i64.wrap ((MV.num (AH.rd H_0 (AH.rd H_0 d_1 4) 0)) - (1 : Int)))]) (AH.rd (AH.wr H_0 (AH.rd H_0 d_1 4) 0 [MV.int .i64 (IntKind.i64.wrap ((MV.num (AH.rd H_0 (AH.rd H_0 d_1 4) 0)) - (1 : Int)))]) d_1 4) 0)) > (0 : Int))) (by kernel_rfl) hc13 ?_
      refine tr_seq ?_
      refine tr_rg hT [] [sI 2 .i64 (0 : Int), (.h 2, .e (.arena true [9000] (AH.wr H_0 (AH.rd H_0 d_1 4) 0 [MV.int .i64 (IntKind.i64.wrap ((MV.num (AH.rd H_0 (AH.rd H_0 d_1 4) 0)) - (1 : Int)))])))] hnil ?_
      refine q_k ?_
      refine tr_ret ?_
      refine q_k_ret ?_
      have h := Option.some.inj h
      subst h
      refine q_ft [(8900, .slc 2)] [sI 2 .i64 (0 : Int), (.h 8900, .e (.arena true [9000] (AH.wr H_0 (AH.rd H_0 d_1 4) 0 [MV.int .i64 (IntKind.i64.wrap ((MV.num (AH.rd H_0 (AH.rd H_0 d_1 4) 0)) - (1 : Int)))]))), hD 9000] ⟨.arena' (bs := [9000]), .dead, trivial⟩ ?_
      exact q_ret1 hT (.v (.one (.int .i64 (0 : Int)))) [(8900, .arena true [9000] (AH.wr H_0 (AH.rd H_0 d_1 4) 0 [MV.int .i64 (IntKind.i64.wrap ((MV.num (AH.rd H_0 (AH.rd H_0 d_1 4) 0)) - (1 : Int)))])), (9000, .dead)] (by kernel_rfl) (by kernel_rfl) (by kernel_rfl)
    · refine tr_cond_f (decide ((MV.num (AH.rd (AH.wr H_0 (AH.rd H_0 d_1 4) 0 [MV.int .i64 (IntKind.i64.wrap ((MV.num (AH.rd H_0 (AH.rd H_0 d_1 4) 0)) - (1 : Int)))]) (AH.rd (AH.wr H_0 (AH.rd H_0 d_1 4) 0 [MV.int .i64 (IntKind.i64.wrap ((MV.num (AH.rd H_0 (AH.rd H_0 d_1 4) 0)) - (1 : Int)))]) d_1 4) 0)) > (0 : Int))) (by kernel_rfl) hc13 ?_
      refine tr_skip ?_
      refine q_k ?_
      refine tr_seq ?_
      obtain ⟨hn14, h⟩ := ite_some h
      obtain ⟨hn15, h⟩ := ite_some h
      obtain ⟨hn16, h⟩ := ite_some h
      obtain ⟨hn17, h⟩ := ite_some h
      obtain ⟨hn18, h⟩ := ite_some h
      obtain ⟨H19, e20, h⟩ := bind_some h
      refine tr_rgd hT hM [(2, .ar 2 []), (3, .ar 2 []), (4, .ar 2 [4]), (5, .ar 2 []), (6, .ar 2 []), (7, .ar 2 [5]), (9, .ar 2 []), (10, .ar 2 []), (11, .ar 2 [6]), (12, .ar 2 []), (13, .ar 2 []), (14, .ar 2 []), (16, .ar 2 []), (17, .ar 2 []), (18, .ar 2 [7]), (19, .ar 2 []), (20, .ar 2 []), (21, .ar 2 []), (22, .callA [(2, .rw), (9001, .apt 2), (5, .apt 2)] (.tup []) [(8, .arena true [2] H19), (2, .dead)])] [(.h 8, .e (.arena true [2, 9000] H19))] (hcons hn8 (hcons hn8 (hcons hn9 (hcons hn10 (hcons hn10 (hcons hn14 (hcons hn8 (hcons hn8 (hcons hn9 (hcons hn10 (hcons hn10 (hcons hn15 (hcons hn16 (hcons hn8 (hcons hn8 (hcons hn9 (hcons hn10 (hcons hn10 (hcons hn17 (hcons hn18 (hone ((disk_Disk_Crash_a_ok (AH.wr H_0 (AH.rd H_0 d_1 4) 0 [MV.int .i64 (IntKind.i64.wrap ((MV.num (AH.rd H_0 (AH.rd H_0 d_1 4) 0)) - (1 : Int)))]) d_1 (AH.rd (AH.wr H_0 (AH.rd H_0 d_1 4) 0 [MV.int .i64 (IntKind.i64.wrap ((MV.num (AH.rd H_0 (AH.rd H_0 d_1 4) 0)) - (1 : Int)))]) (AH.rd (AH.wr H_0 (AH.rd H_0 d_1 4) 0 [MV.int .i64 (IntKind.i64.wrap ((MV.num (AH.rd H_0 (AH.rd H_0 d_1 4) 0)) - (1 : Int)))]) d_1 4) 1) (MV.num (AH.rd (AH.wr H_0 (AH.rd H_0 d_1 4) 0 [MV.int .i64 (IntKind.i64.wrap ((MV.num (AH.rd H_0 (AH.rd H_0 d_1 4) 0)) - (1 : Int)))]) (AH.rd (AH.wr H_0 (AH.rd H_0 d_1 4) 0 [MV.int .i64 (IntKind.i64.wrap ((MV.num (AH.rd H_0 (AH.rd H_0 d_1 4) 0)) - (1 : Int)))]) d_1 4) 2)) (MV.num (AH.rd (AH.wr H_0 (AH.rd H_0 d_1 4) 0 [MV.int .i64 (IntKind.i64.wrap ((MV.num (AH.rd H_0 (AH.rd H_0 d_1 4) 0)) - (1 : Int)))]) (AH.rd (AH.wr H_0 (AH.rd H_0 d_1 4) 0 [MV.int .i64 (IntKind.i64.wrap ((MV.num (AH.rd H_0 (AH.rd H_0 d_1 4) 0)) - (1 : Int)))]) d_1 4) 3)) H19 e20).tr1 [(9001, .slc 9001), (9002, .slc 5), (9000, .slc 2), (8900, .slc 8)] [(2, .arena true [] (AH.wr H_0 (AH.rd H_0 d_1 4) 0 [MV.int .i64 (IntKind.i64.wrap ((MV.num (AH.rd H_0 (AH.rd H_0 d_1 4) 0)) - (1 : Int)))])), (9001, .apt 2 d_1), (5, .apt 2 (AH.rd (AH.wr H_0 (AH.rd H_0 d_1 4) 0 [MV.int .i64 (IntKind.i64.wrap ((MV.num (AH.rd H_0 (AH.rd H_0 d_1 4) 0)) - (1 : Int)))]) (AH.rd (AH.wr H_0 (AH.rd H_0 d_1 4) 0 [MV.int .i64 (IntKind.i64.wrap ((MV.num (AH.rd H_0 (AH.rd H_0 d_1 4) 0)) - (1 : Int)))]) d_1 4) 1))] ⟨.arena' (bs := []), .apts' (κb := 2), .apts' (κb := 2), trivial⟩)))))))))))))))))))))) ?_
      refine q_k ?_
      refine tr_seq ?_
      refine tr_rg hT [] [sI 2 .i64 (8 : Int), (.h 8, .e (.arena true [2, 9000] H19))] hnil ?_
      refine q_k ?_
      refine tr_ret ?_
      have h := Option.some.inj h
      subst h
      refine q_ft [(8900, .slc 8)] [sI 2 .i64 (8 : Int), (.h 8900, .e (.arena true [9000] H19)), hD 9000] ⟨.arena' (bs := [2, 9000]), .dead, trivial⟩ ?_
      exact q_ret1 hT (.v (.one (.int .i64 (8 : Int)))) [(8900, .arena true [9000] H19), (9000, .dead)] (by kernel_rfl) (by kernel_rfl) (by kernel_rfl)

theorem disk_Disk_Create_ok (H_0 : AH) (d_1 : MV) (n_2 : Int) (r : Int × AH) (h : disk_Disk_Create H_0 d_1 n_2 = some r) : CallOk P 14 [.v (.one (.slc 9001)), .v (.one (.int .i64 n_2))] [(9000, .arena true [] H_0), (9001, .apt 9000 d_1)] (.v (.one (.int .i64 r.1))) [(8900, .arena true [9000] r.2), (9000, .dead)] := by
  refine call1 (N := 38) Try.func14 (by kernel_rfl) rfl rfl rfl [(9000, .arena true [] H_0), (9001, .apt 9000 d_1)] (by kernel_rfl) ?_
  intro _ B w0
  show Tr P B 38 w0 _ _ (RetQ P Try.f14 (R1 _ _ B w0))
  unfold disk_Disk_Create at h
  refine tr_seq ?_
  refine tr_rg hT [] [sO 0 (.slc 9001), sI 1 .i64 n_2, (.h 9000, .e (.arena true [] H_0)), (.h 9001, .e (.apt 9000 d_1))] hnil ?_
  refine q_k ?_
  refine tr_seq ?_
  refine tr_block ?_
  refine tr_seq ?_
  obtain ⟨hn1, h⟩ := ite_some h
  obtain ⟨hn2, h⟩ := ite_some h
  obtain ⟨hn3, h⟩ := ite_some h
  refine tr_rg hT [(1, .ar 9000 []), (2, .ar 9000 []), (3, .ar 9000 [])] [sO 0 (.slc 9001), sI 1 .i64 n_2, sB 6 (MV.tr (AH.rd H_0 d_1 2)), (.h 9000, .e (.arena true [] H_0)), (.h 9001, .e (.apt 9000 d_1))] (hcons hn1 (hcons hn1 (hcons hn2 (hone hn3)))) ?_
  refine q_k ?_
  rcases ite_split h with ⟨hc4, h⟩ | ⟨hc4, h⟩
  · refine tr_cond_t (MV.tr (AH.rd H_0 d_1 2)) (by kernel_rfl) hc4 ?_
    refine tr_seq ?_
    refine tr_rg hT [] [sI 4 .i64 (8 : Int), (.h 9000, .e (.arena true [] H_0))] hnil ?_
    refine q_k ?_
    refine tr_ret ?_
    refine q_b_ret ?_
    refine q_k_ret ?_
    have h := Option.some.inj h
    subst h
    refine q_ft [(8900, .slc 9000)] [sI 4 .i64 (8 : Int), (.h 8900, .e (.arena true [9000] H_0)), hD 9000] ⟨.arena' (bs := []), .dead, trivial⟩ ?_
    exact q_ret1 hT (.v (.one (.int .i64 (8 : Int)))) [(8900, .arena true [9000] H_0), (9000, .dead)] (by kernel_rfl) (by kernel_rfl) (by kernel_rfl)
  · refine tr_cond_f (MV.tr (AH.rd H_0 d_1 2)) (by kernel_rfl) hc4 ?_
    refine tr_seq ?_
    rcases ite_split h with ⟨hb5, h⟩ | ⟨hb6, h⟩
    · refine tr_rg hT [(2, .dec true)] [sO 0 (.slc 9001), sI 1 .i64 n_2, sB 11 true, (.h 9000, .e (.arena true [] H_0)), (.h 9001, .e (.apt 9000 d_1))] (hone hb5) ?_
      refine q_k ?_
      refine tr_cond_t true (by kernel_rfl) rfl ?_
      refine tr_seq ?_
      refine tr_rg hT [] [sI 4 .i64 (1 : Int), (.h 9000, .e (.arena true [] H_0))] hnil ?_
      refine q_k ?_
      refine tr_ret ?_
      refine q_b_ret ?_
      refine q_k_ret ?_
      have h := Option.some.inj h
      subst h
      refine q_ft [(8900, .slc 9000)] [sI 4 .i64 (1 : Int), (.h 8900, .e (.arena true [9000] H_0)), hD 9000] ⟨.arena' (bs := []), .dead, trivial⟩ ?_
      exact q_ret1 hT (.v (.one (.int .i64 (1 : Int)))) [(8900, .arena true [9000] H_0), (9000, .dead)] (by kernel_rfl) (by kernel_rfl) (by kernel_rfl)
    · refine tr_rg hT [(2, .dec false)] [sO 0 (.slc 9001), sI 1 .i64 n_2, sB 11 (decide (n_2 ≥ (64 : Int))), (.h 9000, .e (.arena true [] H_0)), (.h 9001, .e (.apt 9000 d_1))] (hone hb6) ?_
      refine q_k ?_
      rcases ite_split h with ⟨hc7, h⟩ | ⟨hc7, h⟩
      · refine tr_cond_t (decide (n_2 ≥ (64 : Int))) (by kernel_rfl) hc7 ?_
        refine tr_seq ?_
        refine tr_rg hT [] [sI 4 .i64 (1 : Int), (.h 9000, .e (.arena true [] H_0))] hnil ?_
        refine q_k ?_
        refine tr_ret ?_
        refine q_b_ret ?_
        refine q_k_ret ?_
        have h := Option.some.inj h
        subst h
        refine q_ft [(8900, .slc 9000)] [sI 4 .i64 (1 : Int), (.h 8900, .e (.arena true [9000] H_0)), hD 9000] ⟨.arena' (bs := []), .dead, trivial⟩ ?_
        exact q_ret1 hT (.v (.one (.int .i64 (1 : Int)))) [(8900, .arena true [9000] H_0), (9000, .dead)] (by kernel_rfl) (by kernel_rfl) (by kernel_rfl)
      · refine tr_cond_f (decide (n_2 ≥ (64 : Int))) (by kernel_rfl) hc7 ?_
        refine tr_seq ?_
        obtain ⟨hn8, h⟩ := ite_some h
        obtain ⟨hn9, h⟩ := ite_some h
        obtain ⟨hn10, h⟩ := ite_some h
        refine tr_rg hT [(1, .ar 9000 []), (2, .ar 9000 []), (3, .ar 9000 [0]), (5, .ar 9000 [1]), (6, .ar 9000 [])] [sO 0 (.slc 9001), sI 1 .i64 n_2, sB 18 (!(MV.isN (AH.look H_0 (AH.rd H_0 d_1 1) n_2))), (.h 9000, .e (.arena true [] H_0)), (.h 9001, .e (.apt 9000 d_1))] (hcons hn1 (hcons hn1 (hcons hn8 (hcons hn9 (hone hn10))))) ?_
        refine q_k ?_
        rcases ite_split h with ⟨hc11, h⟩ | ⟨hc11, h⟩
        · refine tr_cond_t (!(MV.isN (AH.look H_0 (AH.rd H_0 d_1 1) n_2))) (by kernel_rfl) hc11 ?_
          refine tr_seq ?_
          refine tr_rg hT [] [sI 4 .i64 (11 : Int), (.h 9000, .e (.arena true [] H_0))] hnil ?_
          refine q_k ?_
          refine tr_ret ?_
          refine q_b_ret ?_
          refine q_k_ret ?_
          have h := Option.some.inj h
          subst h
          refine q_ft [(8900, .slc 9000)] [sI 4 .i64 (11 : Int), (.h 8900, .e (.arena true [9000] H_0)), hD 9000] ⟨.arena' (bs := []), .dead, trivial⟩ ?_
          exact q_ret1 hT (.v (.one (.int .i64 (11 : Int)))) [(8900, .arena true [9000] H_0), (9000, .dead)] (by kernel_rfl) (by kernel_rfl) (by kernel_rfl)
        · refine tr_cond_f (!(MV.isN (AH.look H_0 (AH.rd H_0 d_1 1) n_2))) (by kernel_rfl) hc11 ?_
          refine tr_skip ?_
          refine q_b 0 ?_
          refine q_k ?_
          refine tr_seq ?_
          obtain ⟨⟨r12, H13⟩, e14, h⟩ := bind_some h
          refine tr_rg hT [(1, .callA [(9000, .rw), (9001, .apt 9000)] (.v (.one (.int .i64 r12))) [(2, .arena true [9000] H13), (9000, .dead)])] [sO 0 (.slc 9001), sI 1 .i64 n_2, sI 5 .i64 r12, (.h 2, .e (.arena true [9000] H13)), (.h 9001, .e (.apt 9000 d_1))] (hone ((disk_Disk_spend_ok H_0 d_1 (r12, H13) e14).tr1 [(9001, .slc 9001), (9000, .slc 9000), (8900, .slc 2)] [(9000, .arena true [] H_0), (9001, .apt 9000 d_1)] ⟨.arena' (bs := []), .apts' (κb := 9000), trivial⟩)) ?_
          refine q_k ?_
          refine tr_seq ?_
          refine tr_seq ?_
          refine tr_rg hT [] [sO 0 (.slc 9001), sI 1 .i64 n_2, sI 5 .i64 r12, sB 29 (r12 == (0 : Int)), (.h 2, .e (.arena true [9000] H13)), (.h 9001, .e (.apt 9000 d_1))] hnil ?_
          refine q_k ?_
          obtain ⟨H15, e20, h⟩ := bind_some h
          refine tr_join (σ1 := [sI 5 .i64 r12, (.h 43, .e (.arena true [9000] H15))]) ?_ ?_
          · skip
            replace h : (some (r12, H15)) = _ := h
            refine q_k ?_
            refine tr_seq ?_
            refine tr_rg hT [] [sI 4 .i64 r12, (.h 43, .e (.arena true [9000] H15))] hnil ?_
            refine q_k ?_
            refine tr_ret ?_
            have h := Option.some.inj h
            subst h
            refine q_ft [(8900, .slc 43)] [sI 4 .i64 r12, (.h 8900, .e (.arena true [9000] H15)), hD 9000] ⟨.arena' (bs := [9000]), .dead, trivial⟩ ?_
            exact q_ret1 hT (.v (.one (.int .i64 r12))) [(8900, .arena true [9000] H15), (9000, .dead)] (by kernel_rfl) (by kernel_rfl) (by kernel_rfl)
          · intro hj0
            clear h
            have h := e20
            clear e20
            rcases ite_split h with ⟨hc16, h⟩ | ⟨hc16, h⟩
            · refine tr_cond_t (r12 == (0 : Int)) (by kernel_rfl) hc16 ?_
              obtain ⟨hn17, h⟩ := ite_some h
              obtain ⟨hn18, h⟩ := ite_some h
              obtain ⟨hn19, h⟩ := ite_some h
              refine tr_rg hT [(1, .ar 2 []), (2, .ar 2 []), (3, .ar 2 [44]), (6, .ar 2 [45, 46]), (7, .ar 45 [47])] [sI 5 .i64 r12, (.h 47, .e (.arena true [45, 2, 9000] (AH.mset (H13 ++ [MO.cells 74 [MV.nils, MV.int .i64 (0 : Int), MV.nils]]) (AH.rd H13 d_1 1) n_2 (MV.ptr (List.length H13) 0))))] (hcons hn17 (hcons hn17 (hcons hn18 (hone hn19)))) ?_
              have h := Option.some.inj h
              subst h
              exact q_ft [(43, .slc 47)] [sI 5 .i64 r12, (.h 43, .e (.arena true [9000] (AH.mset (H13 ++ [MO.cells 74 [MV.nils, MV.int .i64 (0 : Int), MV.nils]]) (AH.rd H13 d_1 1) n_2 (MV.ptr (List.length H13) 0))))] ⟨.arena' (bs := [45, 2, 9000]), trivial⟩ hj0
            · refine tr_cond_f (r12 == (0 : Int)) (by kernel_rfl) hc16 ?_
              refine tr_skip ?_
              have h := Option.some.inj h
              subst h
              exact q_ft [(43, .slc 2)] [sI 5 .i64 r12, (.h 43, .e (.arena true [9000] H13))] ⟨.arena' (bs := [9000]), trivial⟩ hj0

theorem disk_Disk_find_ok (H_0 : AH) (d_1 : MV) (n_2 : Int) (r : MV × Int) (h : disk_Disk_find H_0 d_1 n_2 = some r) : CallOk P 45 [.v (.one (.slc 9001)), .v (.one (.int .i64 n_2))] [(9000, .arena false [] H_0), (9001, .apt 9000 d_1)] (.tup [.one (.slc 8900), .one (.int .i64 r.2)]) [(8900, .apt 9000 r.1)] := by
  refine call1 (N := 22) Try.func45 (by kernel_rfl) rfl rfl rfl [(9000, .arena false [] H_0), (9001, .apt 9000 d_1)] (by kernel_rfl) ?_
  intro _ B w0
  show Tr P B 22 w0 _ _ (RetQ P Try.f45 (R1 _ _ B w0))
  unfold disk_Disk_find at h
  refine tr_seq ?_
  refine tr_rg hT [] [sO 0 (.slc 9001), sI 1 .i64 n_2, (.h 9000, .e (.arena false [] H_0)), (.h 9001, .e (.apt 9000 d_1))] hnil ?_
  refine q_k ?_
  refine tr_seq ?_
  obtain ⟨hn1, h⟩ := ite_some h
  obtain ⟨hn2, h⟩ := ite_some h
  obtain ⟨hn3, h⟩ := ite_some h
  refine tr_rg hT [(1, .ar 9000 []), (2, .ar 9000 []), (3, .ar 9000 [0]), (5, .ar 9000 [1])] [sO 0 (.slc 9001), sO 6 (.slc 1), (.h 1, .e (.apt 9000 (AH.look H_0 (AH.rd H_0 d_1 1) n_2))), (.h 9000, .e (.arena false [] H_0)), (.h 9001, .e (.apt 9000 d_1))] (hcons hn1 (hcons hn1 (hcons hn2 (hone hn3)))) ?_
  refine q_k ?_
  refine tr_seq ?_
  refine tr_block ?_
  refine tr_seq ?_
  obtain ⟨hn4, h⟩ := ite_some h
  obtain ⟨hn5, h⟩ := ite_some h
  refine tr_rg hT [(1, .ar 9000 []), (2, .ar 9000 []), (3, .ar 9000 [])] [sO 6 (.slc 1), sB 13 (MV.tr (AH.rd H_0 d_1 2)), (.h 1, .e (.apt 9000 (AH.look H_0 (AH.rd H_0 d_1 1) n_2))), (.h 9000, .e (.arena false [] H_0))] (hcons hn1 (hcons hn1 (hcons hn4 (hone hn5)))) ?_
  refine q_k ?_
  rcases ite_split h with ⟨hc6, h⟩ | ⟨hc6, h⟩
  · refine tr_cond_t (MV.tr (AH.rd H_0 d_1 2)) (by kernel_rfl) hc6 ?_
    refine tr_seq ?_
    refine tr_rg hT [] [sO 4 (.nilp), sI 5 .i64 (8 : Int), (.h 9000, .e (.arena false [] H_0))] hnil ?_
    refine q_k ?_
    refine tr_ret ?_
    refine q_b_ret ?_
    refine q_k_ret ?_
    have h := Option.some.inj h
    subst h
    refine q_ft [(8900, .nilp)] [sO 4 (.slc 8900), sI 5 .i64 (8 : Int), (.h 8900, .e (.apt 9000 MV.nilp)), (.h 9000, .e (.arena false [] H_0))] ⟨.aptnil, .arena' (bs := []), trivial⟩ ?_
    exact q_ret1 hT (.tup [.one (.slc 8900), .one (.int .i64 (8 : Int))]) [(8900, .apt 9000 MV.nilp)] (by kernel_rfl) (by kernel_rfl) (by kernel_rfl)
  · refine tr_cond_f (MV.tr (AH.rd H_0 d_1 2)) (by kernel_rfl) hc6 ?_
    refine tr_seq ?_
    obtain ⟨hn7, h⟩ := ite_some h
    refine tr_rg hT [(1, .ar 9000 [])] [sO 6 (.slc 1), sB 18 (MV.isN (AH.look H_0 (AH.rd H_0 d_1 1) n_2)), (.h 1, .e (.apt 9000 (AH.look H_0 (AH.rd H_0 d_1 1) n_2))), (.h 9000, .e (.arena false [] H_0))] (hone hn7) ?_
    refine q_k ?_
    rcases ite_split h with ⟨hc8, h⟩ | ⟨hc8, h⟩
    · refine tr_cond_t (MV.isN (AH.look H_0 (AH.rd H_0 d_1 1) n_2)) (by kernel_rfl) hc8 ?_
      refine tr_seq ?_
      refine tr_rg hT [] [sO 4 (.nilp), sI 5 .i64 (10 : Int), (.h 9000, .e (.arena false [] H_0))] hnil ?_
      refine q_k ?_
      refine tr_ret ?_
      refine q_b_ret ?_
      refine q_k_ret ?_
      have h := Option.some.inj h
      subst h
      refine q_ft [(8900, .nilp)] [sO 4 (.slc 8900), sI 5 .i64 (10 : Int), (.h 8900, .e (.apt 9000 MV.nilp)), (.h 9000, .e (.arena false [] H_0))] ⟨.aptnil, .arena' (bs := []), trivial⟩ ?_
      exact q_ret1 hT (.tup [.one (.slc 8900), .one (.int .i64 (10 : Int))]) [(8900, .apt 9000 MV.nilp)] (by kernel_rfl) (by kernel_rfl) (by kernel_rfl)
    · refine tr_cond_f (MV.isN (AH.look H_0 (AH.rd H_0 d_1 1) n_2)) (by kernel_rfl) hc8 ?_
      refine tr_skip ?_
      refine q_b 0 ?_
      refine q_k ?_
      refine tr_seq ?_
      refine tr_rg hT [] [sO 4 (.slc 1), sI 5 .i64 (0 : Int), (.h 1, .e (.apt 9000 (AH.look H_0 (AH.rd H_0 d_1 1) n_2))), (.h 9000, .e (.arena false [] H_0))] hnil ?_
      refine q_k ?_
      refine tr_ret ?_
      have h := Option.some.inj h
      subst h
      refine q_ft [(8900, .slc 1)] [sO 4 (.slc 8900), sI 5 .i64 (0 : Int), (.h 8900, .e (.apt 9000 (AH.look H_0 (AH.rd H_0 d_1 1) n_2))), (.h 9000, .e (.arena false [] H_0))] ⟨.apts' (κb := 9000), .arena' (bs := []), trivial⟩ ?_
      exact q_ret1 hT (.tup [.one (.slc 8900), .one (.int .i64 (0 : Int))]) [(8900, .apt 9000 (AH.look H_0 (AH.rd H_0 d_1 1) n_2))] (by kernel_rfl) (by kernel_rfl) (by kernel_rfl)

theorem slices_Grow_byte_byte_ok (n_0 : Int) (r : List Int) (h : slices_Grow_byte_byte n_0 = some r) : CallOk P 56 [.v (.one (.nils)), .v (.one (.int .i64 n_0))] [] (.v (.one (.slc 8900))) [(8900, .own 5 .u8 r)] := by
  refine call1 (N := 27) Try.func56 (by kernel_rfl) rfl rfl rfl [] (by kernel_rfl) ?_
  intro _ B w0
  show Tr P B 27 w0 _ _ (RetQ P Try.f56 (R1 _ _ B w0))
  unfold slices_Grow_byte_byte at h
  refine tr_seq ?_
  refine tr_rg hT [] [sO 0 (.nils), sI 1 .i64 n_0] hnil ?_
  refine q_k ?_
  refine tr_seq ?_
  refine tr_seq ?_
  refine tr_rg hT [] [sO 0 (.nils), sI 1 .i64 n_0, sB 6 (decide (n_0 < (0 : Int)))] hnil ?_
  refine q_k ?_
  obtain ⟨rj0, e7, h⟩ := bind_some h
  refine tr_join (σ1 := [sO 0 (.nils), sI 1 .i64 n_0]) ?_ ?_
  · rcases rj0 with _
    replace h : ((show Option (List Int) from if (decide ((IntKind.i64.wrap (n_0 - (0 : Int))) > (0 : Int))) = true then if 0 < (IntKind.i64.wrap (n_0 - (0 : Int))) ∧ (IntKind.i64.wrap (n_0 - (0 : Int))) ≤ (↑maxN : Int) then if 0 ≤ (0 : Int) ∧ (0 : Int) ≤ (↑(List.length (List.replicate (IntKind.i64.wrap (n_0 - (0 : Int))).toNat (0 : Int))) : Int) then some ((List.replicate (IntKind.i64.wrap (n_0 - (0 : Int))).toNat (0 : Int)).take (0)) else none else none else some []).bind (fun s2 => some s2)) = _ := h
    refine q_k ?_
    refine tr_seq ?_
    refine tr_seq ?_
    refine tr_rg hT [] [sO 0 (.nils), sI 1 .i64 (IntKind.i64.wrap (n_0 - (0 : Int)))] hnil ?_
    refine q_k ?_
    refine tr_seq ?_
    refine tr_rg hT [] [sO 0 (.nils), sI 1 .i64 (IntKind.i64.wrap (n_0 - (0 : Int))), sB 16 (decide ((IntKind.i64.wrap (n_0 - (0 : Int))) > (0 : Int)))] hnil ?_
    refine q_k ?_
    obtain ⟨s2, e6, h⟩ := bind_some h
    refine tr_join (σ1 := [sO 0 (.slc 80), hO 80 5 .u8 s2]) ?_ ?_
    · skip
      replace h : (some s2) = _ := h
      refine q_k ?_
      refine tr_seq ?_
      refine tr_rg hT [] [sO 4 (.slc 80), hO 80 5 .u8 s2] hnil ?_
      refine q_k ?_
      refine tr_ret ?_
      have h := Option.some.inj h
      subst h
      refine q_ft [(8900, .slc 80)] [sO 4 (.slc 8900), hO 8900 5 .u8 s2] ⟨.own', trivial⟩ ?_
      exact q_ret1 hT (.v (.one (.slc 8900))) [(8900, .own 5 .u8 s2)] (by kernel_rfl) (by kernel_rfl) (by kernel_rfl)
    · intro hj1
      clear h
      have h := e6
      clear e6
      rcases ite_split h with ⟨hc3, h⟩ | ⟨hc3, h⟩
      · refine tr_cond_t (decide ((IntKind.i64.wrap (n_0 - (0 : Int))) > (0 : Int))) (by kernel_rfl) hc3 ?_
        obtain ⟨hn4, h⟩ := ite_some h
        obtain ⟨hn5, h⟩ := ite_some h
        refine tr_rg hT [(5, .key 81), (8, .key 82)] [sO 0 (.slc 82), hO 82 5 .u8 ((List.replicate (IntKind.i64.wrap (n_0 - (0 : Int))).toNat (0 : Int)).take (0))] (hcons (show (0 : Int) = 0 ∧ (0 : Int) = 0 from by decide) (hcons hn4 (hone hn5))) ?_
        have h := Option.some.inj h
        subst h
        exact q_ft [(80, .slc 82)] [sO 0 (.slc 80), hO 80 5 .u8 ((List.replicate (IntKind.i64.wrap (n_0 - (0 : Int))).toNat (0 : Int)).take (0))] ⟨.own', trivial⟩ hj1
      · refine tr_cond_f (decide ((IntKind.i64.wrap (n_0 - (0 : Int))) > (0 : Int))) (by kernel_rfl) hc3 ?_
        refine tr_skip ?_
        have h := Option.some.inj h
        subst h
        exact q_ft [(80, .nils)] [sO 0 (.slc 80), hO 80 5 .u8 []] ⟨.nilown, trivial⟩ hj1
  · intro hj0
    clear h
    have h := e7
    clear e7
    rcases ite_split h with ⟨hc1, h⟩ | ⟨hc1, h⟩
    · refine tr_cond_t (decide (n_0 < (0 : Int))) (by kernel_rfl) hc1 ?_
      cases h
    · refine tr_cond_f (decide (n_0 < (0 : Int))) (by kernel_rfl) hc1 ?_
      refine tr_skip ?_
      have h := Option.some.inj h
      subst h
      exact q_ls [sO 0 (.nils), sI 1 .i64 n_0] hj0

theorem slices_Concat_byte_byte_ok (slices_0 : List (List Int)) (r : List Int) (h : slices_Concat_byte_byte slices_0 = some r) : CallOk P 47 [.v (.one (.slc 9000))] [(9000, .rows (.bs .u8 slices_0))] (.v (.one (.slc 8900))) [(8900, .own 5 .u8 r)] := by
  refine call1 (N := 36) Try.func47 (by kernel_rfl) rfl rfl rfl [(9000, .rows (.bs .u8 slices_0))] (by kernel_rfl) ?_
  intro _ B w0
  show Tr P B 36 w0 _ _ (RetQ P Try.f47 (R1 _ _ B w0))
  unfold slices_Concat_byte_byte at h
  refine tr_seq ?_
  refine tr_rg hT [] [sO 0 (.slc 9000), hW 9000 (.bs .u8 slices_0)] hnil ?_
  refine q_k ?_
  refine tr_seq ?_
  refine tr_rg hT [] [sO 0 (.slc 9000), sI 3 .i64 (0 : Int), hW 9000 (.bs .u8 slices_0)] hnil ?_
  refine q_k ?_
  refine tr_seq ?_
  refine tr_seq ?_
  refine tr_rg hT [] [sO 0 (.slc 9000), sI 3 .i64 (0 : Int), sO 9 (.slc 9000), sI 10 .i64 (↑(List.length slices_0) : Int), sI 11 .i64 (0 : Int), hW 9000 (.bs .u8 slices_0)] hnil ?_
  refine q_k ?_
  refine tr_block ?_
  obtain ⟨size3, e8, h⟩ := bind_some h
  refine tr_ft [] [sO 0 (.slc 9000), sI 3 .i64 (0 : Int), sO 9 (.slc 9000), sI 10 .i64 (↑(List.length slices_0) : Int), sI 11 .i64 (0 : Int), hW 9000 (.bs .u8 slices_0)] ⟨.rows', trivial⟩ ?_
  refine tr_loop_fuel (id := 0) (α := Int × Int) (β := Int) (fun z => [sO 0 (.slc 9000), sI 3 .i64 z.1, sO 9 (.slc 9000), sI 10 .i64 (↑(List.length slices_0) : Int), sI 11 .i64 z.2, hW 9000 (.bs .u8 slices_0)]) (fun z => [sO 0 (.slc 9000), sI 3 .i64 z, hW 9000 (.bs .u8 slices_0)]) (fun k z => slices_Concat_byte_byte_l0 slices_0 k z.1 z.2) size3 (fun _ => rfl) (((↑(List.length slices_0) : Int) - (0 : Int)).toNat + 1) ((0 : Int), (0 : Int)) e8 ?_ ?_
  · skip
    replace h : ((slices_Grow_byte_byte size3).bind (fun a9 => (slices_Concat_byte_byte_l2 slices_0 (((↑(List.length slices_0) : Int) - (0 : Int)).toNat + 1) a9 (0 : Int)).bind (fun newslice13 => some newslice13))) = _ := h
    refine q_b_this ?_
    refine q_k ?_
    refine tr_seq ?_
    obtain ⟨a9, e10, h⟩ := bind_some h
    refine tr_rg hT [(1, .call [] (.v (.one (.slc 41))) [(41, .own 5 .u8 a9)])] [sO 0 (.slc 9000), sO 6 (.slc 41), hO 41 5 .u8 a9, hW 9000 (.bs .u8 slices_0)] (hone ((slices_Grow_byte_byte_ok size3 a9 e10).tr1 [(8900, .slc 41)] [] trivial)) ?_
    refine q_k ?_
    refine tr_seq ?_
    refine tr_seq ?_
    refine tr_rg hT [] [sO 6 (.slc 41), sO 25 (.slc 9000), sI 26 .i64 (↑(List.length slices_0) : Int), sI 27 .i64 (0 : Int), hO 41 5 .u8 a9, hW 9000 (.bs .u8 slices_0)] hnil ?_
    refine q_k ?_
    refine tr_block ?_
    obtain ⟨newslice13, e17, h⟩ := bind_some h
    refine tr_ft [(42, .slc 41)] [sO 6 (.slc 42), sO 25 (.slc 9000), sI 26 .i64 (↑(List.length slices_0) : Int), sI 27 .i64 (0 : Int), hO 42 5 .u8 a9, hW 9000 (.bs .u8 slices_0)] ⟨.own', .rows', trivial⟩ ?_
    refine tr_loop_fuel (id := 2) (α := List Int × Int) (β := List Int) (fun z => [sO 6 (.slc 42), sO 25 (.slc 9000), sI 26 .i64 (↑(List.length slices_0) : Int), sI 27 .i64 z.2, hO 42 5 .u8 z.1, hW 9000 (.bs .u8 slices_0)]) (fun z => [sO 6 (.slc 43), hO 43 5 .u8 z]) (fun k z => slices_Concat_byte_byte_l2 slices_0 k z.1 z.2) newslice13 (fun _ => rfl) (((↑(List.length slices_0) : Int) - (0 : Int)).toNat + 1) (a9, (0 : Int)) e17 ?_ ?_
    · skip
      replace h : (some newslice13) = _ := h
      refine q_b_this ?_
      refine q_k ?_
      refine tr_seq ?_
      refine tr_rg hT [] [sO 2 (.slc 43), hO 43 5 .u8 newslice13] hnil ?_
      refine q_k ?_
      refine tr_ret ?_
      have h := Option.some.inj h
      subst h
      refine q_ft [(8900, .slc 43)] [sO 2 (.slc 8900), hO 8900 5 .u8 newslice13] ⟨.own', trivial⟩ ?_
      exact q_ret1 hT (.v (.one (.slc 8900))) [(8900, .own 5 .u8 newslice13)] (by kernel_rfl) (by kernel_rfl) (by kernel_rfl)
    · clear h e17
      intro k ih2 hx2 z h
      obtain ⟨newslice11, x12⟩ := z
      replace h : (if (decide (x12 < (↑(List.length slices_0) : Int))) = true then if 0 ≤ x12 ∧ x12 < ↑(List.length slices_0) then if List.length (newslice11 ++ (slices_0.getD x12.toNat [])) ≤ maxN then slices_Concat_byte_byte_l2 slices_0 k (newslice11 ++ (slices_0.getD x12.toNat [])) (IntKind.i64.wrap (x12 + (1 : Int))) else none else none else some newslice11) = _ := h
      refine tr_seq ?_
      refine tr_rg hT [] [sO 6 (.slc 42), sO 25 (.slc 9000), sI 26 .i64 (↑(List.length slices_0) : Int), sI 27 .i64 x12, sB 28 (decide (x12 < (↑(List.length slices_0) : Int))), hO 42 5 .u8 newslice11, hW 9000 (.bs .u8 slices_0)] hnil ?_
      refine q_k ?_
      refine tr_seq ?_
      rcases ite_split h with ⟨hc14, h⟩ | ⟨hc14, h⟩
      · refine tr_cond_t (decide (x12 < (↑(List.length slices_0) : Int))) (by kernel_rfl) hc14 ?_
        refine tr_skip ?_
        refine q_k ?_
        refine tr_seq ?_
        refine tr_block ?_
        refine tr_seq ?_
        obtain ⟨hn15, h⟩ := ite_some h
        refine tr_rg hT [(1, .key 44)] [sO 6 (.slc 42), sO 8 (.slc 44), sO 25 (.slc 9000), sI 26 .i64 (↑(List.length slices_0) : Int), sI 27 .i64 x12, hO 42 5 .u8 newslice11, hR 44 .u8 (slices_0.getD x12.toNat []), hW 9000 (.bs .u8 slices_0)] (hcons hn15 (hone hn15.2)) ?_
        refine q_k ?_
        obtain ⟨hn16, h⟩ := ite_some h
        refine tr_rg hT [(2, .key 45)] [sO 6 (.slc 45), sO 25 (.slc 9000), sI 26 .i64 (↑(List.length slices_0) : Int), sI 27 .i64 x12, hO 45 5 .u8 (newslice11 ++ (slices_0.getD x12.toNat [])), hW 9000 (.bs .u8 slices_0)] (hone hn16) ?_
        refine q_b 3 ?_
        refine q_k ?_
        refine tr_rg hT [] [sO 6 (.slc 45), sO 25 (.slc 9000), sI 26 .i64 (↑(List.length slices_0) : Int), sI 27 .i64 (IntKind.i64.wrap (x12 + (1 : Int))), hO 45 5 .u8 (newslice11 ++ (slices_0.getD x12.toNat [])), hW 9000 (.bs .u8 slices_0)] hnil ?_
        refine q_kr ?_
        exact trR_ft [(42, .slc 45)] [sO 6 (.slc 42), sO 25 (.slc 9000), sI 26 .i64 (↑(List.length slices_0) : Int), sI 27 .i64 (IntKind.i64.wrap (x12 + (1 : Int))), hO 42 5 .u8 (newslice11 ++ (slices_0.getD x12.toNat [])), hW 9000 (.bs .u8 slices_0)] ⟨.own', .rows', trivial⟩ (ih2 ((newslice11 ++ (slices_0.getD x12.toNat [])), (IntKind.i64.wrap (x12 + (1 : Int)))) h)
      · refine tr_cond_f (decide (x12 < (↑(List.length slices_0) : Int))) (by kernel_rfl) hc14 ?_
        refine tr_exit ?_
        refine q_k_exit ?_
        refine q_kr_exit ?_
        have h := Option.some.inj h
        subst h
        exact q_ft [(43, .slc 42)] [sO 6 (.slc 43), hO 43 5 .u8 newslice11] ⟨.own', trivial⟩ hx2
  · clear h e8
    intro k ih0 hx0 z h
    obtain ⟨size1, x2⟩ := z
    replace h : (if (decide (x2 < (↑(List.length slices_0) : Int))) = true then (show Option (Unit) from if 0 ≤ x2 ∧ x2 < ↑(List.length slices_0) then if (decide ((IntKind.i64.wrap (size1 + (↑(List.length (slices_0.getD x2.toNat [])) : Int))) < (0 : Int))) = true then none else some () else none).bind (fun _ => slices_Concat_byte_byte_l0 slices_0 k (IntKind.i64.wrap (size1 + (↑(List.length (slices_0.getD x2.toNat [])) : Int))) (IntKind.i64.wrap (x2 + (1 : Int)))) else some size1) = _ := h
    refine tr_seq ?_
    refine tr_rg hT [] [sO 0 (.slc 9000), sI 3 .i64 size1, sO 9 (.slc 9000), sI 10 .i64 (↑(List.length slices_0) : Int), sI 11 .i64 x2, sB 12 (decide (x2 < (↑(List.length slices_0) : Int))), hW 9000 (.bs .u8 slices_0)] hnil ?_
    refine q_k ?_
    refine tr_seq ?_
    rcases ite_split h with ⟨hc4, h⟩ | ⟨hc4, h⟩
    · refine tr_cond_t (decide (x2 < (↑(List.length slices_0) : Int))) (by kernel_rfl) hc4 ?_
      refine tr_skip ?_
      refine q_k ?_
      refine tr_seq ?_
      obtain ⟨rj1, e7, h⟩ := bind_some h
      refine tr_join (σ1 := [sO 0 (.slc 9000), sI 3 .i64 (IntKind.i64.wrap (size1 + (↑(List.length (slices_0.getD x2.toNat [])) : Int))), sO 9 (.slc 9000), sI 10 .i64 (↑(List.length slices_0) : Int), sI 11 .i64 x2, hW 9000 (.bs .u8 slices_0)]) ?_ ?_
      · rcases rj1 with _
        replace h : (slices_Concat_byte_byte_l0 slices_0 k (IntKind.i64.wrap (size1 + (↑(List.length (slices_0.getD x2.toNat [])) : Int))) (IntKind.i64.wrap (x2 + (1 : Int)))) = _ := h
        refine q_k ?_
        refine tr_rg hT [] [sO 0 (.slc 9000), sI 3 .i64 (IntKind.i64.wrap (size1 + (↑(List.length (slices_0.getD x2.toNat [])) : Int))), sO 9 (.slc 9000), sI 10 .i64 (↑(List.length slices_0) : Int), sI 11 .i64 (IntKind.i64.wrap (x2 + (1 : Int))), hW 9000 (.bs .u8 slices_0)] hnil ?_
        refine q_kr ?_
        exact trR_ls [sO 0 (.slc 9000), sI 3 .i64 (IntKind.i64.wrap (size1 + (↑(List.length (slices_0.getD x2.toNat [])) : Int))), sO 9 (.slc 9000), sI 10 .i64 (↑(List.length slices_0) : Int), sI 11 .i64 (IntKind.i64.wrap (x2 + (1 : Int))), hW 9000 (.bs .u8 slices_0)] (ih0 ((IntKind.i64.wrap (size1 + (↑(List.length (slices_0.getD x2.toNat [])) : Int))), (IntKind.i64.wrap (x2 + (1 : Int)))) h)
      · intro hj1
        clear h
        have h := e7
        clear e7
        refine tr_block ?_
        refine tr_seq ?_
        obtain ⟨hn5, h⟩ := ite_some h
        refine tr_rg hT [(1, .key 40)] [sO 0 (.slc 9000), sI 3 .i64 size1, sO 5 (.slc 40), sO 9 (.slc 9000), sI 10 .i64 (↑(List.length slices_0) : Int), sI 11 .i64 x2, hR 40 .u8 (slices_0.getD x2.toNat []), hW 9000 (.bs .u8 slices_0)] (hcons hn5 (hone hn5.2)) ?_
        refine q_k ?_
        refine tr_seq ?_
        refine tr_rg hT [] [sO 0 (.slc 9000), sI 3 .i64 (IntKind.i64.wrap (size1 + (↑(List.length (slices_0.getD x2.toNat [])) : Int))), sO 9 (.slc 9000), sI 10 .i64 (↑(List.length slices_0) : Int), sI 11 .i64 x2, hW 9000 (.bs .u8 slices_0)] hnil ?_
        refine q_k ?_
        refine tr_seq ?_
        refine tr_rg hT [] [sO 0 (.slc 9000), sI 3 .i64 (IntKind.i64.wrap (size1 + (↑(List.length (slices_0.getD x2.toNat [])) : Int))), sO 9 (.slc 9000), sI 10 .i64 (↑(List.length slices_0) : Int), sI 11 .i64 x2, sB 20 (decide ((IntKind.i64.wrap (size1 + (↑(List.length (slices_0.getD x2.toNat [])) : Int))) < (0 : Int))), hW 9000 (.bs .u8 slices_0)] hnil ?_
        refine q_k ?_
        rcases ite_split h with ⟨hc6, h⟩ | ⟨hc6, h⟩
        · refine tr_cond_t (decide ((IntKind.i64.wrap (size1 + (↑(List.length (slices_0.getD x2.toNat [])) : Int))) < (0 : Int))) (by kernel_rfl) hc6 ?_
          cases h
        · refine tr_cond_f (decide ((IntKind.i64.wrap (size1 + (↑(List.length (slices_0.getD x2.toNat [])) : Int))) < (0 : Int))) (by kernel_rfl) hc6 ?_
          refine tr_skip ?_
          refine q_b 1 ?_
          have h := Option.some.inj h
          subst h
          exact q_ls [sO 0 (.slc 9000), sI 3 .i64 (IntKind.i64.wrap (size1 + (↑(List.length (slices_0.getD x2.toNat [])) : Int))), sO 9 (.slc 9000), sI 10 .i64 (↑(List.length slices_0) : Int), sI 11 .i64 x2, hW 9000 (.bs .u8 slices_0)] hj1
    · refine tr_cond_f (decide (x2 < (↑(List.length slices_0) : Int))) (by kernel_rfl) hc4 ?_
      refine tr_exit ?_
      refine q_k_exit ?_
      refine q_kr_exit ?_
      have h := Option.some.inj h
      subst h
      exact q_ls [sO 0 (.slc 9000), sI 3 .i64 size1, hW 9000 (.bs .u8 slices_0)] hx0

end Go.Proofs.Sd
