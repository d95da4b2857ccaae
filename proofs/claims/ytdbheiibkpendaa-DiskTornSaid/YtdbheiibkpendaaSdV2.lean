/- Walks, printed by a program of this session (gowalk.py): each Go function comes to its plain function's answer. -/
import Derived.Test.YtdbheiibkpendaaSdA
import Derived.Test.YtdbheiibkpendaaSdD
import Derived.Test.YtdbheiibkpendaaMSdS
import Derived.Test.YtdbheiibkpendaaSdV0
import Derived.Test.YtdbheiibkpendaaSdV1
namespace Go.Proofs.Sd
open Go Go.Gw D
set_option linter.unusedVariables false
set_option maxRecDepth 20000

theorem law14_DiskTorn_ok (l_0 : List (List Int)) (torn_1 : Int) (at_2 : Int) (r : Bool) (h : law14_DiskTorn l_0 torn_1 at_2 = some r) : CallOk P 4 [.v (.one (.slc 9000)), .v (.one (.int .i64 torn_1)), .v (.one (.int .i64 at_2))] [(9000, .rows (.bs .u8 l_0))] (.v (.one (.bool r))) [] := by
  refine call1 (N := 141) Try.func4 (by kernel_rfl) rfl rfl rfl [(9000, .rows (.bs .u8 l_0))] (by kernel_rfl) ?_
  intro _ B w0
  show Tr P B 141 w0 _ _ (RetQ P Try.f4 (R1 _ _ B w0))
  unfold law14_DiskTorn at h
  refine tr_seq ?_
  refine tr_rg hT [] [sO 0 (.slc 9000), sI 1 .i64 torn_1, sI 2 .i64 at_2, hW 9000 (.bs .u8 l_0)] hnil ?_
  refine q_k ?_
  refine tr_seq ?_
  refine tr_seq ?_
  refine tr_rg hT [] [sO 0 (.slc 9000), sI 1 .i64 torn_1, sI 2 .i64 at_2, sB 20 (decide ((↑(List.length l_0) : Int) > (20 : Int))), hW 9000 (.bs .u8 l_0)] hnil ?_
  refine q_k ?_
  rcases ite_split h with ⟨hc1, h⟩ | ⟨hc1, h⟩
  · refine tr_cond_t (decide ((↑(List.length l_0) : Int) > (20 : Int))) (by kernel_rfl) hc1 ?_
    refine tr_seq ?_
    refine tr_rg hT [] [sB 6 true] hnil ?_
    refine q_k ?_
    refine tr_ret ?_
    refine q_k_ret ?_
    have h := Option.some.inj h
    subst h
    refine q_ls [sB 6 true] ?_
    exact q_ret1 hT (.v (.one (.bool true))) [] (by kernel_rfl) (by kernel_rfl) (by kernel_rfl)
  · refine tr_cond_f (decide ((↑(List.length l_0) : Int) > (20 : Int))) (by kernel_rfl) hc1 ?_
    refine tr_skip ?_
    refine q_k ?_
    refine tr_seq ?_
    obtain ⟨⟨p2, r3, H4⟩, e5, h⟩ := bind_some h
    refine tr_rg hT [(0, .callA [] (.tup [.one (.slc 1), .one (.int .i64 r3)]) [(1, .apt 0 p2), (0, .arena true [] H4)])] [sO 0 (.slc 9000), sI 1 .i64 torn_1, sI 2 .i64 at_2, sO 7 (.slc 1), sI 8 .i64 r3, (.h 0, .e (.arena true [] H4)), (.h 1, .e (.apt 0 p2)), hW 9000 (.bs .u8 l_0)] (hone ((disk_New_ok (131072 : Int) (p2, r3, H4) e5).tr1 [(8901, .slc 0), (8900, .slc 1)] [] trivial)) ?_
    refine q_k ?_
    refine tr_seq ?_
    refine tr_seq ?_
    rcases ite_split h with ⟨hb6, h⟩ | ⟨hb7, h⟩
    · refine tr_rg hT [(2, .dec true)] [sO 0 (.slc 9000), sI 1 .i64 torn_1, sI 2 .i64 at_2, sO 7 (.slc 1), sB 35 true, (.h 0, .e (.arena true [] H4)), (.h 1, .e (.apt 0 p2)), hW 9000 (.bs .u8 l_0)] (hone hb6) ?_
      refine q_k ?_
      refine tr_cond_t true (by kernel_rfl) rfl ?_
      refine tr_seq ?_
      refine tr_rg hT [] [sB 6 false] hnil ?_
      refine q_k ?_
      refine tr_ret ?_
      refine q_k_ret ?_
      have h := Option.some.inj h
      subst h
      refine q_ls [sB 6 false] ?_
      exact q_ret1 hT (.v (.one (.bool false))) [] (by kernel_rfl) (by kernel_rfl) (by kernel_rfl)
    · obtain ⟨hn8, h⟩ := ite_some h
      rcases ite_split h with ⟨hb9, h⟩ | ⟨hb10, h⟩
      · refine tr_rg hT [(2, .dec false), (4, .ar 0 []), (6, .dec true)] [sO 0 (.slc 9000), sI 1 .i64 torn_1, sI 2 .i64 at_2, sO 7 (.slc 1), sB 35 true, (.h 0, .e (.arena true [] H4)), (.h 1, .e (.apt 0 p2)), hW 9000 (.bs .u8 l_0)] (hcons hb7 (hcons hn8 (hone hb9))) ?_
        refine q_k ?_
        refine tr_cond_t true (by kernel_rfl) rfl ?_
        refine tr_seq ?_
        refine tr_rg hT [] [sB 6 false] hnil ?_
        refine q_k ?_
        refine tr_ret ?_
        refine q_k_ret ?_
        have h := Option.some.inj h
        subst h
        refine q_ls [sB 6 false] ?_
        exact q_ret1 hT (.v (.one (.bool false))) [] (by kernel_rfl) (by kernel_rfl) (by kernel_rfl)
      · obtain ⟨⟨r11, H12⟩, e13, h⟩ := bind_some h
        refine tr_rg hT [(2, .dec false), (4, .ar 0 []), (6, .dec false), (8, .callA [(0, .rw), (1, .apt 0)] (.v (.one (.int .i64 r11))) [(2, .arena true [0] H12), (0, .dead)])] [sO 0 (.slc 9000), sI 1 .i64 torn_1, sI 2 .i64 at_2, sO 7 (.slc 1), sB 35 (r11 != (0 : Int)), (.h 1, .e (.apt 0 p2)), (.h 2, .e (.arena true [0] H12)), hW 9000 (.bs .u8 l_0)] (hcons hb7 (hcons hn8 (hcons hb10 (hone ((disk_Disk_Create_ok H4 p2 (2 : Int) (r11, H12) e13).tr1 [(9001, .slc 1), (9000, .slc 0), (8900, .slc 2)] [(0, .arena true [] H4), (1, .apt 0 p2)] ⟨.arena' (bs := []), .apts' (κb := 0), trivial⟩))))) ?_
        refine q_k ?_
        rcases ite_split h with ⟨hc14, h⟩ | ⟨hc14, h⟩
        · refine tr_cond_t (r11 != (0 : Int)) (by kernel_rfl) hc14 ?_
          refine tr_seq ?_
          refine tr_rg hT [] [sB 6 false] hnil ?_
          refine q_k ?_
          refine tr_ret ?_
          refine q_k_ret ?_
          have h := Option.some.inj h
          subst h
          refine q_ls [sB 6 false] ?_
          exact q_ret1 hT (.v (.one (.bool false))) [] (by kernel_rfl) (by kernel_rfl) (by kernel_rfl)
        · refine tr_cond_f (r11 != (0 : Int)) (by kernel_rfl) hc14 ?_
          refine tr_skip ?_
          refine q_k ?_
          refine tr_seq ?_
          refine tr_rg hT [] [sO 0 (.slc 9000), sI 1 .i64 torn_1, sI 2 .i64 at_2, sO 7 (.slc 1), sO 9 (.nils), (.h 1, .e (.apt 0 p2)), (.h 2, .e (.arena true [0] H12)), hW 9000 (.bs .u8 l_0)] hnil ?_
          refine q_k ?_
          refine tr_seq ?_
          refine tr_rg hT [(0, .arN 3 [4, 5])] [sO 0 (.slc 9000), sI 1 .i64 torn_1, sI 2 .i64 at_2, sO 7 (.slc 1), sO 9 (.nils), sO 10 (.slc 5), (.h 1, .e (.apt 0 p2)), (.h 2, .e (.arena true [0] H12)), (.h 4, .e (.arena true [3] (([] : AH) ++ [MO.row 4 1 (List.replicate 30 (MV.bool false))]))), (.h 5, .e (.apt 4 (MV.slc (List.length ([] : AH)) 1 0 30))), hW 9000 (.bs .u8 l_0)] (hcons (show (30 : Int) = (30 : Int) from rfl) (hone (show 0 ≤ (30 : Int) ∧ (30 : Int) ≤ (↑maxR : Int) from by decide))) ?_
          refine q_k ?_
          refine tr_seq ?_
          refine tr_seq ?_
          refine tr_rg hT [] [sO 0 (.slc 9000), sI 1 .i64 torn_1, sI 2 .i64 at_2, sO 7 (.slc 1), sO 9 (.nils), sO 10 (.slc 5), sI 11 .i64 (0 : Int), (.h 1, .e (.apt 0 p2)), (.h 2, .e (.arena true [0] H12)), (.h 4, .e (.arena true [3] (([] : AH) ++ [MO.row 4 1 (List.replicate 30 (MV.bool false))]))), (.h 5, .e (.apt 4 (MV.slc (List.length ([] : AH)) 1 0 30))), hW 9000 (.bs .u8 l_0)] hnil ?_
          refine q_k ?_
          refine tr_block ?_
          obtain ⟨rr0, e56, h⟩ := bind_some h
          refine tr_ft [(6, .slc 4), (7, .slc 2), (8, .nils)] [sO 0 (.slc 9000), sI 1 .i64 torn_1, sI 2 .i64 at_2, sO 7 (.slc 1), sO 9 (.slc 8), sO 10 (.slc 5), sI 11 .i64 (0 : Int), (.h 1, .e (.apt 7 p2)), (.h 5, .e (.apt 6 (MV.slc (List.length ([] : AH)) 1 0 30))), (.h 6, .e (.arena true [] (([] : AH) ++ [MO.row 4 1 (List.replicate 30 (MV.bool false))]))), (.h 7, .e (.arena true [] H12)), hO 8 5 .u8 [], hW 9000 (.bs .u8 l_0)] ⟨.apt' (κb := 0) (κ0 := 2) (rw := true) (bs := [0]) (D := H12), .apt' (κb := 4) (κ0 := 4) (rw := true) (bs := [3]) (D := (([] : AH) ++ [MO.row 4 1 (List.replicate 30 (MV.bool false))])), .arena' (bs := [3]), .arena' (bs := [0]), .nilown, .rows', trivial⟩ ?_
          refine tr_loop_ret (id := 0) (α := AH × AH × List Int × Int) (β := AH × AH × List Int) (ρ := Bool) (fun z => [sO 0 (.slc 9000), sI 1 .i64 torn_1, sI 2 .i64 at_2, sO 7 (.slc 1), sO 9 (.slc 8), sO 10 (.slc 5), sI 11 .i64 z.2.2.2, (.h 1, .e (.apt 7 p2)), (.h 5, .e (.apt 6 (MV.slc (List.length ([] : AH)) 1 0 30))), (.h 6, .e (.arena true [] z.1)), (.h 7, .e (.arena true [] z.2.1)), hO 8 5 .u8 z.2.2.1, hW 9000 (.bs .u8 l_0)]) (fun z => [sI 1 .i64 torn_1, sI 2 .i64 at_2, sO 7 (.slc 1), sO 9 (.slc 11), sO 10 (.slc 5), (.h 1, .e (.apt 10 p2)), (.h 5, .e (.apt 9 (MV.slc (List.length ([] : AH)) 1 0 30))), (.h 9, .e (.arena true [] z.1)), (.h 10, .e (.arena true [] z.2.1)), hO 11 5 .u8 z.2.2]) (fun v σ => resS T (Gw.look σ) Try.f4.results.toList = some (.v (.one (.bool v))) ∧ Gw.hasAll σ [] = some (Gw.preSS [])) (fun k z => law14_DiskTorn_l0 l_0 torn_1 at_2 p2 k z.1 z.2.1 z.2.2.1 z.2.2.2) rr0 (fun _ => rfl) (((↑(List.length l_0) : Int) - (0 : Int)).toNat + 1) ((([] : AH) ++ [MO.row 4 1 (List.replicate 30 (MV.bool false))]), H12, [], (0 : Int)) e56 ?_ ?_ ?_
          · intro z hz
            subst hz
            rcases z with ⟨H19, H20, want21⟩
            replace h : ((disk_Disk_Size H20 p2 (2 : Int)).bind (fun r57 => if AH.isBools H19 (MV.slc (List.length ([] : AH)) 1 0 30) = true then (disk_Disk_Crash H20 p2 (AH.bools H19 (MV.slc (List.length ([] : AH)) 1 0 30)) torn_1 at_2).bind (fun H59 => (disk_Disk_Size H59 p2 (2 : Int)).bind (fun r62 => if (r62 != r57) = true then some false else (disk_Disk_Read H59 p2 (2 : Int)).bind (fun (a65, r66) => if (r66 != (8 : Int)) = true then some false else (disk_Disk_Start H59 p2).bind (fun H69 => (disk_Disk_Read H69 p2 (2 : Int)).bind (fun (a71, r72) => if (r72 == (0 : Int)) = true then if (r57 == (↑(List.length want21) : Int)) = true then (keep_Bytes a71 want21).bind (fun b76 => if b76 = true then (law14_wakes).bind (fun b79 => some b79) else some false) else some false else some false))))) else none)) = _ := h
            refine q_b_this ?_
            refine q_k ?_
            refine tr_seq ?_
            obtain ⟨r57, e58, h⟩ := bind_some h
            refine tr_rg hT [(1, .callA [(10, .ro), (1, .apt 10)] (.v (.one (.int .i64 r57))) [])] [sI 1 .i64 torn_1, sI 2 .i64 at_2, sO 7 (.slc 1), sO 9 (.slc 11), sO 10 (.slc 5), sI 14 .i64 r57, (.h 1, .e (.apt 10 p2)), (.h 5, .e (.apt 9 (MV.slc (List.length ([] : AH)) 1 0 30))), (.h 9, .e (.arena true [] H19)), (.h 10, .e (.arena true [] H20)), hO 11 5 .u8 want21] (hone ((disk_Disk_Size_ok H20 p2 (2 : Int) r57 e58).tr1 [(9001, .slc 1), (9000, .slc 10)] [(10, .arena false [] H20), (1, .apt 10 p2)] ⟨.arena' (bs := []), .apts' (κb := 10), trivial⟩)) ?_
            refine q_k ?_
            refine tr_seq ?_
            obtain ⟨hn61, h⟩ := ite_some h
            obtain ⟨H59, e60, h⟩ := bind_some h
            refine tr_rg hT [(4, .callA [(10, .rw), (1, .apt 10), (5, .rdb 9)] (.tup []) [(110, .arena true [10] H59), (10, .dead)])] [sO 7 (.slc 1), sO 9 (.slc 11), sI 14 .i64 r57, (.h 1, .e (.apt 10 p2)), hO 11 5 .u8 want21, (.h 110, .e (.arena true [10] H59))] (hcons hn61 (hone ((disk_Disk_Crash_ok H20 p2 (AH.bools H19 (MV.slc (List.length ([] : AH)) 1 0 30)) torn_1 at_2 H59 e60).tr1 [(9001, .slc 1), (9002, .slc 5), (9000, .slc 10), (8900, .slc 110)] [(10, .arena true [] H20), (1, .apt 10 p2), (5, .rdb (AH.bools H19 (MV.slc (List.length ([] : AH)) 1 0 30)))] ⟨.arena' (bs := []), .apts' (κb := 10), .rdb', trivial⟩))) ?_
            refine q_k ?_
            refine tr_seq ?_
            refine tr_seq ?_
            obtain ⟨r62, e63, h⟩ := bind_some h
            refine tr_rg hT [(1, .callA [(110, .ro), (1, .apt 110)] (.v (.one (.int .i64 r62))) [])] [sO 7 (.slc 1), sO 9 (.slc 11), sI 14 .i64 r57, sB 110 (r62 != r57), (.h 1, .e (.apt 10 p2)), hO 11 5 .u8 want21, (.h 110, .e (.arena true [10] H59))] (hone ((disk_Disk_Size_ok H59 p2 (2 : Int) r62 e63).tr1 [(9001, .slc 1), (9000, .slc 110)] [(110, .arena false [] H59), (1, .apt 110 p2)] ⟨.arena' (bs := []), .apts' (κb := 110), trivial⟩)) ?_
            refine q_k ?_
            rcases ite_split h with ⟨hc64, h⟩ | ⟨hc64, h⟩
            · refine tr_cond_t (r62 != r57) (by kernel_rfl) hc64 ?_
              refine tr_seq ?_
              refine tr_rg hT [] [sB 6 false] hnil ?_
              refine q_k ?_
              refine tr_ret ?_
              refine q_k_ret ?_
              have h := Option.some.inj h
              subst h
              refine q_ls [sB 6 false] ?_
              exact q_ret1 hT (.v (.one (.bool false))) [] (by kernel_rfl) (by kernel_rfl) (by kernel_rfl)
            · refine tr_cond_f (r62 != r57) (by kernel_rfl) hc64 ?_
              refine tr_skip ?_
              refine q_k ?_
              refine tr_seq ?_
              refine tr_seq ?_
              obtain ⟨⟨a65, r66⟩, e67, h⟩ := bind_some h
              refine tr_rg hT [(1, .callA [(110, .ro), (1, .apt 110)] (.tup [.one (.slc 111), .one (.int .i64 r66)]) [(111, .own 5 .u8 a65)])] [sO 7 (.slc 1), sO 9 (.slc 11), sI 14 .i64 r57, sI 16 .i64 r66, (.h 1, .e (.apt 10 p2)), hO 11 5 .u8 want21, (.h 110, .e (.arena true [10] H59))] (hone ((disk_Disk_Read_ok H59 p2 (2 : Int) (a65, r66) e67).tr1 [(9001, .slc 1), (9000, .slc 110), (8900, .slc 111)] [(110, .arena false [] H59), (1, .apt 110 p2)] ⟨.arena' (bs := []), .apts' (κb := 110), trivial⟩)) ?_
              refine q_k ?_
              refine tr_seq ?_
              refine tr_rg hT [] [sO 7 (.slc 1), sO 9 (.slc 11), sI 14 .i64 r57, sB 117 (r66 != (8 : Int)), (.h 1, .e (.apt 10 p2)), hO 11 5 .u8 want21, (.h 110, .e (.arena true [10] H59))] hnil ?_
              refine q_k ?_
              rcases ite_split h with ⟨hc68, h⟩ | ⟨hc68, h⟩
              · refine tr_cond_t (r66 != (8 : Int)) (by kernel_rfl) hc68 ?_
                refine tr_seq ?_
                refine tr_rg hT [] [sB 6 false] hnil ?_
                refine q_k ?_
                refine tr_ret ?_
                refine q_k_ret ?_
                have h := Option.some.inj h
                subst h
                refine q_ls [sB 6 false] ?_
                exact q_ret1 hT (.v (.one (.bool false))) [] (by kernel_rfl) (by kernel_rfl) (by kernel_rfl)
              · refine tr_cond_f (r66 != (8 : Int)) (by kernel_rfl) hc68 ?_
                refine tr_skip ?_
                refine q_k ?_
                refine tr_seq ?_
                obtain ⟨H69, e70, h⟩ := bind_some h
                refine tr_rg hT [(1, .callA [(110, .rw), (1, .apt 110)] (.tup []) [(112, .arena true [110] H69), (110, .dead)])] [sO 7 (.slc 1), sO 9 (.slc 11), sI 14 .i64 r57, (.h 1, .e (.apt 10 p2)), hO 11 5 .u8 want21, (.h 112, .e (.arena true [110, 10] H69))] (hone ((disk_Disk_Start_ok H59 p2 H69 e70).tr1 [(9001, .slc 1), (9000, .slc 110), (8900, .slc 112)] [(110, .arena true [] H59), (1, .apt 110 p2)] ⟨.arena' (bs := []), .apts' (κb := 110), trivial⟩)) ?_
                refine q_k ?_
                refine tr_seq ?_
                obtain ⟨⟨a71, r72⟩, e73, h⟩ := bind_some h
                refine tr_rg hT [(1, .callA [(112, .ro), (1, .apt 112)] (.tup [.one (.slc 113), .one (.int .i64 r72)]) [(113, .own 5 .u8 a71)])] [sI 8 .i64 r72, sO 9 (.slc 11), sI 14 .i64 r57, sO 17 (.slc 113), hO 11 5 .u8 want21, hO 113 5 .u8 a71] (hone ((disk_Disk_Read_ok H69 p2 (2 : Int) (a71, r72) e73).tr1 [(9001, .slc 1), (9000, .slc 112), (8900, .slc 113)] [(112, .arena false [] H69), (1, .apt 112 p2)] ⟨.arena' (bs := []), .apts' (κb := 112), trivial⟩)) ?_
                refine q_k ?_
                refine tr_seq ?_
                rcases ite_split h with ⟨hb74, h⟩ | ⟨hb83, h⟩
                · rcases ite_split h with ⟨hb75, h⟩ | ⟨hb82, h⟩
                  · obtain ⟨b76, e77, h⟩ := bind_some h
                    rcases ite_split h with ⟨hb78, h⟩ | ⟨hb81, h⟩
                    · obtain ⟨b79, e80, h⟩ := bind_some h
                      refine tr_rg hT [(2, .dec true), (8, .dec true), (11, .call [113, 11] (.v (.one (.bool b76))) []), (13, .dec true), (14, .call [] (.v (.one (.bool b79))) [])] [sB 6 b79] (hcons hb74 (hcons hb75 (hcons ((keep_Bytes_ok a71 want21 b76 e77).tr1 [(9000, .slc 113), (9001, .slc 11)] [(113, .own 5 .u8 a71), (11, .own 5 .u8 want21)] ⟨.ownrd' (e := 5), .ownrd' (e := 5), trivial⟩) (hcons hb78 (hone (law14_wakes_ok  b79 e80 (pre := []))))))) ?_
                      refine q_k ?_
                      refine tr_ret ?_
                      have h := Option.some.inj h
                      subst h
                      refine q_ls [sB 6 b79] ?_
                      exact q_ret1 hT (.v (.one (.bool b79))) [] (by kernel_rfl) (by kernel_rfl) (by kernel_rfl)
                    · refine tr_rg hT [(2, .dec true), (8, .dec true), (11, .call [113, 11] (.v (.one (.bool b76))) []), (13, .dec false)] [sB 6 false] (hcons hb74 (hcons hb75 (hcons ((keep_Bytes_ok a71 want21 b76 e77).tr1 [(9000, .slc 113), (9001, .slc 11)] [(113, .own 5 .u8 a71), (11, .own 5 .u8 want21)] ⟨.ownrd' (e := 5), .ownrd' (e := 5), trivial⟩) (hone hb81)))) ?_
                      refine q_k ?_
                      refine tr_ret ?_
                      have h := Option.some.inj h
                      subst h
                      refine q_ls [sB 6 false] ?_
                      exact q_ret1 hT (.v (.one (.bool false))) [] (by kernel_rfl) (by kernel_rfl) (by kernel_rfl)
                  · refine tr_rg hT [(2, .dec true), (8, .dec false)] [sB 6 false] (hcons hb74 (hone hb82)) ?_
                    refine q_k ?_
                    refine tr_ret ?_
                    have h := Option.some.inj h
                    subst h
                    refine q_ls [sB 6 false] ?_
                    exact q_ret1 hT (.v (.one (.bool false))) [] (by kernel_rfl) (by kernel_rfl) (by kernel_rfl)
                · refine tr_rg hT [(2, .dec false)] [sB 6 false] (hone hb83) ?_
                  refine q_k ?_
                  refine tr_ret ?_
                  have h := Option.some.inj h
                  subst h
                  refine q_ls [sB 6 false] ?_
                  exact q_ret1 hT (.v (.one (.bool false))) [] (by kernel_rfl) (by kernel_rfl) (by kernel_rfl)
          · intro v σ hz hv
            subst hz
            have h := Option.some.inj h
            subst h
            refine q_b_ret ?_
            refine q_k_ret ?_
            exact q_ret1 hT _ _ hv.1 hv.2 (by kernel_rfl)
          · clear h e56
            intro k ih0 hx0 hr0 z h
            rcases z with ⟨H15, H16, want17, i18⟩
            replace h : (if (decide (i18 < (↑(List.length l_0) : Int))) = true then if 0 ≤ i18 ∧ i18 < ↑(List.length l_0) then if (decide ((↑(List.length (l_0.getD i18.toNat [])) : Int) > (300 : Int))) = true then some (.inr true) else (disk_Disk_Append H16 p2 (2 : Int) (l_0.getD i18.toNat [])).bind (fun (r25, H26) => if (r25 != (0 : Int)) = true then some (.inr false) else if (0 ≤ i18 ∧ i18 < (↑(MV.len (MV.slc (List.length ([] : AH)) 1 0 30)) : Int)) ∧ AH.isRow H15 1 (MV.slc (List.length ([] : AH)) 1 0 30) = true then if AH.ok H15 (MV.slc (List.length ([] : AH)) 1 0 30) (i18.toNat * 1 + 0) 1 = true then (law14_DiskTorn_l1 l_0 torn_1 at_2 p2 H15 i18 H26 (301) want17 (0 : Int)).bind (fun want33 => law14_DiskTorn_l0 l_0 torn_1 at_2 p2 k (AH.wr H15 (MV.slc (List.length ([] : AH)) 1 0 30) (i18.toNat * 1 + 0) [MV.bool ((i18.tmod (2 : Int)) == (0 : Int))]) H26 want33 (IntKind.i64.wrap (i18 + (1 : Int)))) else none else none) else none else some (.inl (H15, H16, want17))) = _ := h
            refine tr_seq ?_
            refine tr_seq ?_
            refine tr_rg hT [] [sO 0 (.slc 9000), sI 1 .i64 torn_1, sI 2 .i64 at_2, sO 7 (.slc 1), sO 9 (.slc 8), sO 10 (.slc 5), sI 11 .i64 i18, sB 40 (decide (i18 < (↑(List.length l_0) : Int))), (.h 1, .e (.apt 7 p2)), (.h 5, .e (.apt 6 (MV.slc (List.length ([] : AH)) 1 0 30))), (.h 6, .e (.arena true [] H15)), (.h 7, .e (.arena true [] H16)), hO 8 5 .u8 want17, hW 9000 (.bs .u8 l_0)] hnil ?_
            refine q_k ?_
            rcases ite_split h with ⟨hc22, h⟩ | ⟨hc22, h⟩
            · refine tr_cond_t (decide (i18 < (↑(List.length l_0) : Int))) (by kernel_rfl) hc22 ?_
              refine tr_skip ?_
              refine q_k ?_
              refine tr_seq ?_
              refine tr_block ?_
              refine tr_seq ?_
              refine tr_seq ?_
              obtain ⟨hn23, h⟩ := ite_some h
              refine tr_rg hT [(3, .key 12)] [sO 0 (.slc 9000), sI 1 .i64 torn_1, sI 2 .i64 at_2, sO 7 (.slc 1), sO 9 (.slc 8), sO 10 (.slc 5), sI 11 .i64 i18, sB 48 (decide ((↑(List.length (l_0.getD i18.toNat [])) : Int) > (300 : Int))), (.h 1, .e (.apt 7 p2)), (.h 5, .e (.apt 6 (MV.slc (List.length ([] : AH)) 1 0 30))), (.h 6, .e (.arena true [] H15)), (.h 7, .e (.arena true [] H16)), hO 8 5 .u8 want17, hW 9000 (.bs .u8 l_0)] (hcons hn23 (hone hn23.2)) ?_
              refine q_k ?_
              rcases ite_split h with ⟨hc24, h⟩ | ⟨hc24, h⟩
              · refine tr_cond_t (decide ((↑(List.length (l_0.getD i18.toNat [])) : Int) > (300 : Int))) (by kernel_rfl) hc24 ?_
                refine tr_seq ?_
                refine tr_rg hT [] [sB 6 true] hnil ?_
                refine q_k ?_
                refine tr_ret ?_
                refine q_k_ret ?_
                refine q_b_ret ?_
                refine q_k_ret ?_
                refine q_kr_ret ?_
                have h := Option.some.inj h
                subst h
                exact q_ls [sB 6 true] (hr0 true _ rfl ⟨by kernel_rfl, by kernel_rfl⟩)
              · refine tr_cond_f (decide ((↑(List.length (l_0.getD i18.toNat [])) : Int) > (300 : Int))) (by kernel_rfl) hc24 ?_
                refine tr_skip ?_
                refine q_k ?_
                refine tr_seq ?_
                refine tr_seq ?_
                obtain ⟨⟨r25, H26⟩, e27, h⟩ := bind_some h
                refine tr_rg hT [(4, .key 13), (5, .callA [(7, .rw), (1, .apt 7), (13, .same)] (.v (.one (.int .i64 r25))) [(14, .arena true [7] H26), (7, .dead)])] [sO 0 (.slc 9000), sI 1 .i64 torn_1, sI 2 .i64 at_2, sO 7 (.slc 1), sO 9 (.slc 8), sO 10 (.slc 5), sI 11 .i64 i18, sB 55 (r25 != (0 : Int)), (.h 1, .e (.apt 7 p2)), (.h 5, .e (.apt 6 (MV.slc (List.length ([] : AH)) 1 0 30))), (.h 6, .e (.arena true [] H15)), hO 8 5 .u8 want17, (.h 14, .e (.arena true [7] H26)), hW 9000 (.bs .u8 l_0)] (hcons hn23 (hcons hn23.2 (hone ((disk_Disk_Append_ok H16 p2 (2 : Int) (l_0.getD i18.toNat []) (r25, H26) e27).tr1 [(9001, .slc 1), (9002, .slc 13), (9000, .slc 7), (8900, .slc 14)] [(7, .arena true [] H16), (1, .apt 7 p2), (13, .rd .u8 (l_0.getD i18.toNat []))] ⟨.arena' (bs := []), .apts' (κb := 7), .rd', trivial⟩)))) ?_
                refine q_k ?_
                rcases ite_split h with ⟨hc28, h⟩ | ⟨hc28, h⟩
                · refine tr_cond_t (r25 != (0 : Int)) (by kernel_rfl) hc28 ?_
                  refine tr_seq ?_
                  refine tr_rg hT [] [sB 6 false] hnil ?_
                  refine q_k ?_
                  refine tr_ret ?_
                  refine q_k_ret ?_
                  refine q_b_ret ?_
                  refine q_k_ret ?_
                  refine q_kr_ret ?_
                  have h := Option.some.inj h
                  subst h
                  exact q_ls [sB 6 false] (hr0 false _ rfl ⟨by kernel_rfl, by kernel_rfl⟩)
                · refine tr_cond_f (r25 != (0 : Int)) (by kernel_rfl) hc28 ?_
                  refine tr_skip ?_
                  refine q_k ?_
                  refine tr_seq ?_
                  obtain ⟨hn29, h⟩ := ite_some h
                  obtain ⟨hn30, h⟩ := ite_some h
                  refine tr_rg hT [(5, .ar 6 []), (6, .ar 6 [15])] [sO 0 (.slc 9000), sI 1 .i64 torn_1, sI 2 .i64 at_2, sO 7 (.slc 1), sO 9 (.slc 8), sO 10 (.slc 5), sI 11 .i64 i18, (.h 1, .e (.apt 7 p2)), (.h 5, .e (.apt 6 (MV.slc (List.length ([] : AH)) 1 0 30))), hO 8 5 .u8 want17, (.h 14, .e (.arena true [7] H26)), (.h 15, .e (.arena true [6] (AH.wr H15 (MV.slc (List.length ([] : AH)) 1 0 30) (i18.toNat * 1 + 0) [MV.bool ((i18.tmod (2 : Int)) == (0 : Int))]))), hW 9000 (.bs .u8 l_0)] (hcons (show (2 : Int) ≠ 0 from by decide) (hcons hn29 (hcons hn30 (hone (show 1 ≤ 1 from by decide))))) ?_
                  refine q_k ?_
                  refine tr_seq ?_
                  refine tr_rg hT [] [sO 0 (.slc 9000), sI 1 .i64 torn_1, sI 2 .i64 at_2, sO 7 (.slc 1), sO 9 (.slc 8), sO 10 (.slc 5), sI 11 .i64 i18, sI 12 .i64 (0 : Int), (.h 1, .e (.apt 7 p2)), (.h 5, .e (.apt 6 (MV.slc (List.length ([] : AH)) 1 0 30))), hO 8 5 .u8 want17, (.h 14, .e (.arena true [7] H26)), (.h 15, .e (.arena true [6] (AH.wr H15 (MV.slc (List.length ([] : AH)) 1 0 30) (i18.toNat * 1 + 0) [MV.bool ((i18.tmod (2 : Int)) == (0 : Int))]))), hW 9000 (.bs .u8 l_0)] hnil ?_
                  refine q_k ?_
                  refine tr_block ?_
                  obtain ⟨want33, e55, h⟩ := bind_some h
                  refine tr_ft [(16, .slc 8)] [sO 0 (.slc 9000), sI 1 .i64 torn_1, sI 2 .i64 at_2, sO 7 (.slc 1), sO 9 (.slc 16), sO 10 (.slc 5), sI 11 .i64 i18, sI 12 .i64 (0 : Int), (.h 1, .e (.apt 7 p2)), (.h 5, .e (.apt 6 (MV.slc (List.length ([] : AH)) 1 0 30))), (.h 14, .e (.arena true [7] H26)), (.h 15, .e (.arena true [6] (AH.wr H15 (MV.slc (List.length ([] : AH)) 1 0 30) (i18.toNat * 1 + 0) [MV.bool ((i18.tmod (2 : Int)) == (0 : Int))]))), hO 16 5 .u8 want17, hW 9000 (.bs .u8 l_0)] ⟨.apts' (κb := 7), .apts' (κb := 6), .arena' (bs := [7]), .arena' (bs := [6]), .own', .rows', trivial⟩ ?_
                  refine tr_loop_fuel (id := 2) (α := List Int × Int) (β := List Int) (fun z => [sO 0 (.slc 9000), sI 1 .i64 torn_1, sI 2 .i64 at_2, sO 7 (.slc 1), sO 9 (.slc 16), sO 10 (.slc 5), sI 11 .i64 i18, sI 12 .i64 z.2, (.h 1, .e (.apt 7 p2)), (.h 5, .e (.apt 6 (MV.slc (List.length ([] : AH)) 1 0 30))), (.h 14, .e (.arena true [7] H26)), (.h 15, .e (.arena true [6] (AH.wr H15 (MV.slc (List.length ([] : AH)) 1 0 30) (i18.toNat * 1 + 0) [MV.bool ((i18.tmod (2 : Int)) == (0 : Int))]))), hO 16 5 .u8 z.1, hW 9000 (.bs .u8 l_0)]) (fun z => [sO 0 (.slc 9000), sI 1 .i64 torn_1, sI 2 .i64 at_2, sO 7 (.slc 1), sO 9 (.slc 17), sO 10 (.slc 5), sI 11 .i64 i18, (.h 1, .e (.apt 7 p2)), (.h 5, .e (.apt 6 (MV.slc (List.length ([] : AH)) 1 0 30))), (.h 14, .e (.arena true [7] H26)), (.h 15, .e (.arena true [6] (AH.wr H15 (MV.slc (List.length ([] : AH)) 1 0 30) (i18.toNat * 1 + 0) [MV.bool ((i18.tmod (2 : Int)) == (0 : Int))]))), hO 17 5 .u8 z, hW 9000 (.bs .u8 l_0)]) (fun k z => law14_DiskTorn_l1 l_0 torn_1 at_2 p2 H15 i18 H26 k z.1 z.2) want33 (fun _ => rfl) (301) (want17, (0 : Int)) e55 ?_ ?_
                  · skip
                    replace h : (law14_DiskTorn_l0 l_0 torn_1 at_2 p2 k (AH.wr H15 (MV.slc (List.length ([] : AH)) 1 0 30) (i18.toNat * 1 + 0) [MV.bool ((i18.tmod (2 : Int)) == (0 : Int))]) H26 want33 (IntKind.i64.wrap (i18 + (1 : Int)))) = _ := h
                    refine q_b_this ?_
                    refine q_b 1 ?_
                    refine q_k ?_
                    refine tr_rg hT [] [sO 0 (.slc 9000), sI 1 .i64 torn_1, sI 2 .i64 at_2, sO 7 (.slc 1), sO 9 (.slc 17), sO 10 (.slc 5), sI 11 .i64 (IntKind.i64.wrap (i18 + (1 : Int))), (.h 1, .e (.apt 7 p2)), (.h 5, .e (.apt 6 (MV.slc (List.length ([] : AH)) 1 0 30))), (.h 14, .e (.arena true [7] H26)), (.h 15, .e (.arena true [6] (AH.wr H15 (MV.slc (List.length ([] : AH)) 1 0 30) (i18.toNat * 1 + 0) [MV.bool ((i18.tmod (2 : Int)) == (0 : Int))]))), hO 17 5 .u8 want33, hW 9000 (.bs .u8 l_0)] hnil ?_
                    refine q_kr ?_
                    exact trR_ft [(6, .slc 15), (7, .slc 14), (8, .slc 17)] [sO 0 (.slc 9000), sI 1 .i64 torn_1, sI 2 .i64 at_2, sO 7 (.slc 1), sO 9 (.slc 8), sO 10 (.slc 5), sI 11 .i64 (IntKind.i64.wrap (i18 + (1 : Int))), (.h 1, .e (.apt 7 p2)), (.h 5, .e (.apt 6 (MV.slc (List.length ([] : AH)) 1 0 30))), (.h 6, .e (.arena true [] (AH.wr H15 (MV.slc (List.length ([] : AH)) 1 0 30) (i18.toNat * 1 + 0) [MV.bool ((i18.tmod (2 : Int)) == (0 : Int))]))), (.h 7, .e (.arena true [] H26)), hO 8 5 .u8 want33, hW 9000 (.bs .u8 l_0)] ⟨.apt' (κb := 7) (κ0 := 14) (rw := true) (bs := [7]) (D := H26), .apt' (κb := 6) (κ0 := 15) (rw := true) (bs := [6]) (D := (AH.wr H15 (MV.slc (List.length ([] : AH)) 1 0 30) (i18.toNat * 1 + 0) [MV.bool ((i18.tmod (2 : Int)) == (0 : Int))])), .arena' (bs := [6]), .arena' (bs := [7]), .own', .rows', trivial⟩ (ih0 ((AH.wr H15 (MV.slc (List.length ([] : AH)) 1 0 30) (i18.toNat * 1 + 0) [MV.bool ((i18.tmod (2 : Int)) == (0 : Int))]), H26, want33, (IntKind.i64.wrap (i18 + (1 : Int)))) h)
                  · clear h e55
                    intro k ih1 hx1 z h
                    obtain ⟨want31, c32⟩ := z
                    replace h : (if (decide (c32 < (↑(List.length (l_0.getD i18.toNat [])) : Int))) = true then if 0 ≤ c32 ∧ c32 < ↑(List.length (l_0.getD i18.toNat [])) then if (i18 == torn_1) = true then if (decide (c32 ≥ at_2)) = true then if List.length (want31 ++ [(0 : Int)]) ≤ maxN then law14_DiskTorn_l1 l_0 torn_1 at_2 p2 H15 i18 H26 k (want31 ++ [(0 : Int)]) (IntKind.i64.wrap (c32 + (1 : Int))) else none else if (i18 != torn_1) = true then (show Option (Int) from if ((i18.tmod (2 : Int)) == (1 : Int)) = true then some (0 : Int) else some ((l_0.getD i18.toNat []).getD c32.toNat 0)).bind (fun x41 => if List.length (want31 ++ [x41]) ≤ maxN then law14_DiskTorn_l1 l_0 torn_1 at_2 p2 H15 i18 H26 k (want31 ++ [x41]) (IntKind.i64.wrap (c32 + (1 : Int))) else none) else if List.length (want31 ++ [((l_0.getD i18.toNat []).getD c32.toNat 0)]) ≤ maxN then law14_DiskTorn_l1 l_0 torn_1 at_2 p2 H15 i18 H26 k (want31 ++ [((l_0.getD i18.toNat []).getD c32.toNat 0)]) (IntKind.i64.wrap (c32 + (1 : Int))) else none else if (i18 != torn_1) = true then (show Option (Int) from if ((i18.tmod (2 : Int)) == (1 : Int)) = true then some (0 : Int) else some ((l_0.getD i18.toNat []).getD c32.toNat 0)).bind (fun x49 => if List.length (want31 ++ [x49]) ≤ maxN then law14_DiskTorn_l1 l_0 torn_1 at_2 p2 H15 i18 H26 k (want31 ++ [x49]) (IntKind.i64.wrap (c32 + (1 : Int))) else none) else if List.length (want31 ++ [((l_0.getD i18.toNat []).getD c32.toNat 0)]) ≤ maxN then law14_DiskTorn_l1 l_0 torn_1 at_2 p2 H15 i18 H26 k (want31 ++ [((l_0.getD i18.toNat []).getD c32.toNat 0)]) (IntKind.i64.wrap (c32 + (1 : Int))) else none else none else some want31) = _ := h
                    refine tr_seq ?_
                    refine tr_seq ?_
                    refine tr_rg hT [(4, .key 18)] [sO 0 (.slc 9000), sI 1 .i64 torn_1, sI 2 .i64 at_2, sO 7 (.slc 1), sO 9 (.slc 16), sO 10 (.slc 5), sI 11 .i64 i18, sI 12 .i64 c32, sB 68 (decide (c32 < (↑(List.length (l_0.getD i18.toNat [])) : Int))), (.h 1, .e (.apt 7 p2)), (.h 5, .e (.apt 6 (MV.slc (List.length ([] : AH)) 1 0 30))), (.h 14, .e (.arena true [7] H26)), (.h 15, .e (.arena true [6] (AH.wr H15 (MV.slc (List.length ([] : AH)) 1 0 30) (i18.toNat * 1 + 0) [MV.bool ((i18.tmod (2 : Int)) == (0 : Int))]))), hO 16 5 .u8 want31, hW 9000 (.bs .u8 l_0)] (hcons hn23 (hone hn23.2)) ?_
                    refine q_k ?_
                    rcases ite_split h with ⟨hc34, h⟩ | ⟨hc34, h⟩
                    · refine tr_cond_t (decide (c32 < (↑(List.length (l_0.getD i18.toNat [])) : Int))) (by kernel_rfl) hc34 ?_
                      refine tr_skip ?_
                      refine q_k ?_
                      refine tr_seq ?_
                      refine tr_block ?_
                      refine tr_seq ?_
                      obtain ⟨hn35, h⟩ := ite_some h
                      refine tr_rg hT [(3, .key 19)] [sO 0 (.slc 9000), sI 1 .i64 torn_1, sI 2 .i64 at_2, sO 7 (.slc 1), sO 9 (.slc 16), sO 10 (.slc 5), sI 11 .i64 i18, sI 12 .i64 c32, sI 13 .u8 ((l_0.getD i18.toNat []).getD c32.toNat 0), (.h 1, .e (.apt 7 p2)), (.h 5, .e (.apt 6 (MV.slc (List.length ([] : AH)) 1 0 30))), (.h 14, .e (.arena true [7] H26)), (.h 15, .e (.arena true [6] (AH.wr H15 (MV.slc (List.length ([] : AH)) 1 0 30) (i18.toNat * 1 + 0) [MV.bool ((i18.tmod (2 : Int)) == (0 : Int))]))), hO 16 5 .u8 want31, hW 9000 (.bs .u8 l_0)] (hcons hn23 (hcons hn23.2 (hcons hn35 (hone hn35.2)))) ?_
                      refine q_k ?_
                      refine tr_seq ?_
                      refine tr_seq ?_
                      rcases ite_split h with ⟨hb36, h⟩ | ⟨hb47, h⟩
                      · rcases ite_split h with ⟨hb37, h⟩ | ⟨hb39, h⟩
                        · refine tr_rg hT [(3, .dec true), (8, .dec true)] [sO 0 (.slc 9000), sI 1 .i64 torn_1, sI 2 .i64 at_2, sO 7 (.slc 1), sO 9 (.slc 16), sO 10 (.slc 5), sI 11 .i64 i18, sI 12 .i64 c32, sI 13 .u8 ((l_0.getD i18.toNat []).getD c32.toNat 0), sB 95 true, (.h 1, .e (.apt 7 p2)), (.h 5, .e (.apt 6 (MV.slc (List.length ([] : AH)) 1 0 30))), (.h 14, .e (.arena true [7] H26)), (.h 15, .e (.arena true [6] (AH.wr H15 (MV.slc (List.length ([] : AH)) 1 0 30) (i18.toNat * 1 + 0) [MV.bool ((i18.tmod (2 : Int)) == (0 : Int))]))), hO 16 5 .u8 want31, hW 9000 (.bs .u8 l_0)] (hcons hb36 (hone hb37)) ?_
                          refine q_k ?_
                          refine tr_cond_t true (by kernel_rfl) rfl ?_
                          refine tr_rg hT [] [sO 0 (.slc 9000), sI 1 .i64 torn_1, sI 2 .i64 at_2, sO 7 (.slc 1), sO 9 (.slc 16), sO 10 (.slc 5), sI 11 .i64 i18, sI 12 .i64 c32, sI 13 .u8 (0 : Int), (.h 1, .e (.apt 7 p2)), (.h 5, .e (.apt 6 (MV.slc (List.length ([] : AH)) 1 0 30))), (.h 14, .e (.arena true [7] H26)), (.h 15, .e (.arena true [6] (AH.wr H15 (MV.slc (List.length ([] : AH)) 1 0 30) (i18.toNat * 1 + 0) [MV.bool ((i18.tmod (2 : Int)) == (0 : Int))]))), hO 16 5 .u8 want31, hW 9000 (.bs .u8 l_0)] hnil ?_
                          refine q_k ?_
                          obtain ⟨hn38, h⟩ := ite_some h
                          refine tr_rg hT [(2, .key 20), (3, .key 21)] [sO 0 (.slc 9000), sI 1 .i64 torn_1, sI 2 .i64 at_2, sO 7 (.slc 1), sO 9 (.slc 21), sO 10 (.slc 5), sI 11 .i64 i18, sI 12 .i64 c32, (.h 1, .e (.apt 7 p2)), (.h 5, .e (.apt 6 (MV.slc (List.length ([] : AH)) 1 0 30))), (.h 14, .e (.arena true [7] H26)), (.h 15, .e (.arena true [6] (AH.wr H15 (MV.slc (List.length ([] : AH)) 1 0 30) (i18.toNat * 1 + 0) [MV.bool ((i18.tmod (2 : Int)) == (0 : Int))]))), hO 21 5 .u8 (want31 ++ [(0 : Int)]), hW 9000 (.bs .u8 l_0)] (hone hn38) ?_
                          refine q_b 3 ?_
                          refine q_k ?_
                          refine tr_rg hT [] [sO 0 (.slc 9000), sI 1 .i64 torn_1, sI 2 .i64 at_2, sO 7 (.slc 1), sO 9 (.slc 21), sO 10 (.slc 5), sI 11 .i64 i18, sI 12 .i64 (IntKind.i64.wrap (c32 + (1 : Int))), (.h 1, .e (.apt 7 p2)), (.h 5, .e (.apt 6 (MV.slc (List.length ([] : AH)) 1 0 30))), (.h 14, .e (.arena true [7] H26)), (.h 15, .e (.arena true [6] (AH.wr H15 (MV.slc (List.length ([] : AH)) 1 0 30) (i18.toNat * 1 + 0) [MV.bool ((i18.tmod (2 : Int)) == (0 : Int))]))), hO 21 5 .u8 (want31 ++ [(0 : Int)]), hW 9000 (.bs .u8 l_0)] hnil ?_
                          refine q_kr ?_
                          exact trR_ft [(16, .slc 21)] [sO 0 (.slc 9000), sI 1 .i64 torn_1, sI 2 .i64 at_2, sO 7 (.slc 1), sO 9 (.slc 16), sO 10 (.slc 5), sI 11 .i64 i18, sI 12 .i64 (IntKind.i64.wrap (c32 + (1 : Int))), (.h 1, .e (.apt 7 p2)), (.h 5, .e (.apt 6 (MV.slc (List.length ([] : AH)) 1 0 30))), (.h 14, .e (.arena true [7] H26)), (.h 15, .e (.arena true [6] (AH.wr H15 (MV.slc (List.length ([] : AH)) 1 0 30) (i18.toNat * 1 + 0) [MV.bool ((i18.tmod (2 : Int)) == (0 : Int))]))), hO 16 5 .u8 (want31 ++ [(0 : Int)]), hW 9000 (.bs .u8 l_0)] ⟨.apts' (κb := 7), .apts' (κb := 6), .arena' (bs := [7]), .arena' (bs := [6]), .own', .rows', trivial⟩ (ih1 ((want31 ++ [(0 : Int)]), (IntKind.i64.wrap (c32 + (1 : Int)))) h)
                        · rcases ite_split h with ⟨hb40, h⟩ | ⟨hb45, h⟩
                          · refine tr_rg hT [(3, .dec true), (8, .dec false), (12, .dec true)] [sO 0 (.slc 9000), sI 1 .i64 torn_1, sI 2 .i64 at_2, sO 7 (.slc 1), sO 9 (.slc 16), sO 10 (.slc 5), sI 11 .i64 i18, sI 12 .i64 c32, sI 13 .u8 ((l_0.getD i18.toNat []).getD c32.toNat 0), sB 95 ((i18.tmod (2 : Int)) == (1 : Int)), (.h 1, .e (.apt 7 p2)), (.h 5, .e (.apt 6 (MV.slc (List.length ([] : AH)) 1 0 30))), (.h 14, .e (.arena true [7] H26)), (.h 15, .e (.arena true [6] (AH.wr H15 (MV.slc (List.length ([] : AH)) 1 0 30) (i18.toNat * 1 + 0) [MV.bool ((i18.tmod (2 : Int)) == (0 : Int))]))), hO 16 5 .u8 want31, hW 9000 (.bs .u8 l_0)] (hcons hb36 (hcons hb39 (hcons hb40 (hone (show (2 : Int) ≠ 0 from by decide))))) ?_
                            refine q_k ?_
                            obtain ⟨x41, e44, h⟩ := bind_some h
                            refine tr_join (σ1 := [sO 0 (.slc 9000), sI 1 .i64 torn_1, sI 2 .i64 at_2, sO 7 (.slc 1), sO 9 (.slc 16), sO 10 (.slc 5), sI 11 .i64 i18, sI 12 .i64 c32, sI 13 .u8 x41, (.h 1, .e (.apt 7 p2)), (.h 5, .e (.apt 6 (MV.slc (List.length ([] : AH)) 1 0 30))), (.h 14, .e (.arena true [7] H26)), (.h 15, .e (.arena true [6] (AH.wr H15 (MV.slc (List.length ([] : AH)) 1 0 30) (i18.toNat * 1 + 0) [MV.bool ((i18.tmod (2 : Int)) == (0 : Int))]))), hO 16 5 .u8 want31, hW 9000 (.bs .u8 l_0)]) ?_ ?_
                            · skip
                              replace h : (if List.length (want31 ++ [x41]) ≤ maxN then law14_DiskTorn_l1 l_0 torn_1 at_2 p2 H15 i18 H26 k (want31 ++ [x41]) (IntKind.i64.wrap (c32 + (1 : Int))) else none) = _ := h
                              refine q_k ?_
                              obtain ⟨hn43, h⟩ := ite_some h
                              refine tr_rg hT [(2, .key 62), (3, .key 63)] [sO 0 (.slc 9000), sI 1 .i64 torn_1, sI 2 .i64 at_2, sO 7 (.slc 1), sO 9 (.slc 63), sO 10 (.slc 5), sI 11 .i64 i18, sI 12 .i64 c32, (.h 1, .e (.apt 7 p2)), (.h 5, .e (.apt 6 (MV.slc (List.length ([] : AH)) 1 0 30))), (.h 14, .e (.arena true [7] H26)), (.h 15, .e (.arena true [6] (AH.wr H15 (MV.slc (List.length ([] : AH)) 1 0 30) (i18.toNat * 1 + 0) [MV.bool ((i18.tmod (2 : Int)) == (0 : Int))]))), hO 63 5 .u8 (want31 ++ [x41]), hW 9000 (.bs .u8 l_0)] (hone hn43) ?_
                              refine q_b 3 ?_
                              refine q_k ?_
                              refine tr_rg hT [] [sO 0 (.slc 9000), sI 1 .i64 torn_1, sI 2 .i64 at_2, sO 7 (.slc 1), sO 9 (.slc 63), sO 10 (.slc 5), sI 11 .i64 i18, sI 12 .i64 (IntKind.i64.wrap (c32 + (1 : Int))), (.h 1, .e (.apt 7 p2)), (.h 5, .e (.apt 6 (MV.slc (List.length ([] : AH)) 1 0 30))), (.h 14, .e (.arena true [7] H26)), (.h 15, .e (.arena true [6] (AH.wr H15 (MV.slc (List.length ([] : AH)) 1 0 30) (i18.toNat * 1 + 0) [MV.bool ((i18.tmod (2 : Int)) == (0 : Int))]))), hO 63 5 .u8 (want31 ++ [x41]), hW 9000 (.bs .u8 l_0)] hnil ?_
                              refine q_kr ?_
                              exact trR_ft [(16, .slc 63)] [sO 0 (.slc 9000), sI 1 .i64 torn_1, sI 2 .i64 at_2, sO 7 (.slc 1), sO 9 (.slc 16), sO 10 (.slc 5), sI 11 .i64 i18, sI 12 .i64 (IntKind.i64.wrap (c32 + (1 : Int))), (.h 1, .e (.apt 7 p2)), (.h 5, .e (.apt 6 (MV.slc (List.length ([] : AH)) 1 0 30))), (.h 14, .e (.arena true [7] H26)), (.h 15, .e (.arena true [6] (AH.wr H15 (MV.slc (List.length ([] : AH)) 1 0 30) (i18.toNat * 1 + 0) [MV.bool ((i18.tmod (2 : Int)) == (0 : Int))]))), hO 16 5 .u8 (want31 ++ [x41]), hW 9000 (.bs .u8 l_0)] ⟨.apts' (κb := 7), .apts' (κb := 6), .arena' (bs := [7]), .arena' (bs := [6]), .own', .rows', trivial⟩ (ih1 ((want31 ++ [x41]), (IntKind.i64.wrap (c32 + (1 : Int)))) h)
                            · intro hj2
                              clear h
                              have h := e44
                              clear e44
                              rcases ite_split h with ⟨hc42, h⟩ | ⟨hc42, h⟩
                              · refine tr_cond_t ((i18.tmod (2 : Int)) == (1 : Int)) (by kernel_rfl) hc42 ?_
                                refine tr_rg hT [] [sO 0 (.slc 9000), sI 1 .i64 torn_1, sI 2 .i64 at_2, sO 7 (.slc 1), sO 9 (.slc 16), sO 10 (.slc 5), sI 11 .i64 i18, sI 12 .i64 c32, sI 13 .u8 (0 : Int), (.h 1, .e (.apt 7 p2)), (.h 5, .e (.apt 6 (MV.slc (List.length ([] : AH)) 1 0 30))), (.h 14, .e (.arena true [7] H26)), (.h 15, .e (.arena true [6] (AH.wr H15 (MV.slc (List.length ([] : AH)) 1 0 30) (i18.toNat * 1 + 0) [MV.bool ((i18.tmod (2 : Int)) == (0 : Int))]))), hO 16 5 .u8 want31, hW 9000 (.bs .u8 l_0)] hnil ?_
                                have h := Option.some.inj h
                                subst h
                                exact q_ft [] [sO 0 (.slc 9000), sI 1 .i64 torn_1, sI 2 .i64 at_2, sO 7 (.slc 1), sO 9 (.slc 16), sO 10 (.slc 5), sI 11 .i64 i18, sI 12 .i64 c32, sI 13 .u8 (0 : Int), (.h 1, .e (.apt 7 p2)), (.h 5, .e (.apt 6 (MV.slc (List.length ([] : AH)) 1 0 30))), (.h 14, .e (.arena true [7] H26)), (.h 15, .e (.arena true [6] (AH.wr H15 (MV.slc (List.length ([] : AH)) 1 0 30) (i18.toNat * 1 + 0) [MV.bool ((i18.tmod (2 : Int)) == (0 : Int))]))), hO 16 5 .u8 want31, hW 9000 (.bs .u8 l_0)] ⟨.apts' (κb := 7), .apts' (κb := 6), .arena' (bs := [7]), .arena' (bs := [6]), .own', .rows', trivial⟩ hj2
                              · refine tr_cond_f ((i18.tmod (2 : Int)) == (1 : Int)) (by kernel_rfl) hc42 ?_
                                refine tr_skip ?_
                                have h := Option.some.inj h
                                subst h
                                exact q_ls [sO 0 (.slc 9000), sI 1 .i64 torn_1, sI 2 .i64 at_2, sO 7 (.slc 1), sO 9 (.slc 16), sO 10 (.slc 5), sI 11 .i64 i18, sI 12 .i64 c32, sI 13 .u8 ((l_0.getD i18.toNat []).getD c32.toNat 0), (.h 1, .e (.apt 7 p2)), (.h 5, .e (.apt 6 (MV.slc (List.length ([] : AH)) 1 0 30))), (.h 14, .e (.arena true [7] H26)), (.h 15, .e (.arena true [6] (AH.wr H15 (MV.slc (List.length ([] : AH)) 1 0 30) (i18.toNat * 1 + 0) [MV.bool ((i18.tmod (2 : Int)) == (0 : Int))]))), hO 16 5 .u8 want31, hW 9000 (.bs .u8 l_0)] hj2
                          · refine tr_rg hT [(3, .dec true), (8, .dec false), (12, .dec false)] [sO 0 (.slc 9000), sI 1 .i64 torn_1, sI 2 .i64 at_2, sO 7 (.slc 1), sO 9 (.slc 16), sO 10 (.slc 5), sI 11 .i64 i18, sI 12 .i64 c32, sI 13 .u8 ((l_0.getD i18.toNat []).getD c32.toNat 0), sB 95 false, (.h 1, .e (.apt 7 p2)), (.h 5, .e (.apt 6 (MV.slc (List.length ([] : AH)) 1 0 30))), (.h 14, .e (.arena true [7] H26)), (.h 15, .e (.arena true [6] (AH.wr H15 (MV.slc (List.length ([] : AH)) 1 0 30) (i18.toNat * 1 + 0) [MV.bool ((i18.tmod (2 : Int)) == (0 : Int))]))), hO 16 5 .u8 want31, hW 9000 (.bs .u8 l_0)] (hcons hb36 (hcons hb39 (hone hb45))) ?_
                            refine q_k ?_
                            refine tr_cond_f false (by kernel_rfl) rfl ?_
                            refine tr_skip ?_
                            refine q_k ?_
                            obtain ⟨hn46, h⟩ := ite_some h
                            refine tr_rg hT [(2, .key 64), (3, .key 65)] [sO 0 (.slc 9000), sI 1 .i64 torn_1, sI 2 .i64 at_2, sO 7 (.slc 1), sO 9 (.slc 65), sO 10 (.slc 5), sI 11 .i64 i18, sI 12 .i64 c32, (.h 1, .e (.apt 7 p2)), (.h 5, .e (.apt 6 (MV.slc (List.length ([] : AH)) 1 0 30))), (.h 14, .e (.arena true [7] H26)), (.h 15, .e (.arena true [6] (AH.wr H15 (MV.slc (List.length ([] : AH)) 1 0 30) (i18.toNat * 1 + 0) [MV.bool ((i18.tmod (2 : Int)) == (0 : Int))]))), hO 65 5 .u8 (want31 ++ [((l_0.getD i18.toNat []).getD c32.toNat 0)]), hW 9000 (.bs .u8 l_0)] (hone hn46) ?_
                            refine q_b 3 ?_
                            refine q_k ?_
                            refine tr_rg hT [] [sO 0 (.slc 9000), sI 1 .i64 torn_1, sI 2 .i64 at_2, sO 7 (.slc 1), sO 9 (.slc 65), sO 10 (.slc 5), sI 11 .i64 i18, sI 12 .i64 (IntKind.i64.wrap (c32 + (1 : Int))), (.h 1, .e (.apt 7 p2)), (.h 5, .e (.apt 6 (MV.slc (List.length ([] : AH)) 1 0 30))), (.h 14, .e (.arena true [7] H26)), (.h 15, .e (.arena true [6] (AH.wr H15 (MV.slc (List.length ([] : AH)) 1 0 30) (i18.toNat * 1 + 0) [MV.bool ((i18.tmod (2 : Int)) == (0 : Int))]))), hO 65 5 .u8 (want31 ++ [((l_0.getD i18.toNat []).getD c32.toNat 0)]), hW 9000 (.bs .u8 l_0)] hnil ?_
                            refine q_kr ?_
                            exact trR_ft [(16, .slc 65)] [sO 0 (.slc 9000), sI 1 .i64 torn_1, sI 2 .i64 at_2, sO 7 (.slc 1), sO 9 (.slc 16), sO 10 (.slc 5), sI 11 .i64 i18, sI 12 .i64 (IntKind.i64.wrap (c32 + (1 : Int))), (.h 1, .e (.apt 7 p2)), (.h 5, .e (.apt 6 (MV.slc (List.length ([] : AH)) 1 0 30))), (.h 14, .e (.arena true [7] H26)), (.h 15, .e (.arena true [6] (AH.wr H15 (MV.slc (List.length ([] : AH)) 1 0 30) (i18.toNat * 1 + 0) [MV.bool ((i18.tmod (2 : Int)) == (0 : Int))]))), hO 16 5 .u8 (want31 ++ [((l_0.getD i18.toNat []).getD c32.toNat 0)]), hW 9000 (.bs .u8 l_0)] ⟨.apts' (κb := 7), .apts' (κb := 6), .arena' (bs := [7]), .arena' (bs := [6]), .own', .rows', trivial⟩ (ih1 ((want31 ++ [((l_0.getD i18.toNat []).getD c32.toNat 0)]), (IntKind.i64.wrap (c32 + (1 : Int)))) h)
                      · rcases ite_split h with ⟨hb48, h⟩ | ⟨hb53, h⟩
                        · refine tr_rg hT [(3, .dec false), (12, .dec true)] [sO 0 (.slc 9000), sI 1 .i64 torn_1, sI 2 .i64 at_2, sO 7 (.slc 1), sO 9 (.slc 16), sO 10 (.slc 5), sI 11 .i64 i18, sI 12 .i64 c32, sI 13 .u8 ((l_0.getD i18.toNat []).getD c32.toNat 0), sB 95 ((i18.tmod (2 : Int)) == (1 : Int)), (.h 1, .e (.apt 7 p2)), (.h 5, .e (.apt 6 (MV.slc (List.length ([] : AH)) 1 0 30))), (.h 14, .e (.arena true [7] H26)), (.h 15, .e (.arena true [6] (AH.wr H15 (MV.slc (List.length ([] : AH)) 1 0 30) (i18.toNat * 1 + 0) [MV.bool ((i18.tmod (2 : Int)) == (0 : Int))]))), hO 16 5 .u8 want31, hW 9000 (.bs .u8 l_0)] (hcons hb47 (hcons hb48 (hone (show (2 : Int) ≠ 0 from by decide)))) ?_
                          refine q_k ?_
                          obtain ⟨x49, e52, h⟩ := bind_some h
                          refine tr_join (σ1 := [sO 0 (.slc 9000), sI 1 .i64 torn_1, sI 2 .i64 at_2, sO 7 (.slc 1), sO 9 (.slc 16), sO 10 (.slc 5), sI 11 .i64 i18, sI 12 .i64 c32, sI 13 .u8 x49, (.h 1, .e (.apt 7 p2)), (.h 5, .e (.apt 6 (MV.slc (List.length ([] : AH)) 1 0 30))), (.h 14, .e (.arena true [7] H26)), (.h 15, .e (.arena true [6] (AH.wr H15 (MV.slc (List.length ([] : AH)) 1 0 30) (i18.toNat * 1 + 0) [MV.bool ((i18.tmod (2 : Int)) == (0 : Int))]))), hO 16 5 .u8 want31, hW 9000 (.bs .u8 l_0)]) ?_ ?_
                          · skip
                            replace h : (if List.length (want31 ++ [x49]) ≤ maxN then law14_DiskTorn_l1 l_0 torn_1 at_2 p2 H15 i18 H26 k (want31 ++ [x49]) (IntKind.i64.wrap (c32 + (1 : Int))) else none) = _ := h
                            refine q_k ?_
                            obtain ⟨hn51, h⟩ := ite_some h
                            refine tr_rg hT [(2, .key 106), (3, .key 107)] [sO 0 (.slc 9000), sI 1 .i64 torn_1, sI 2 .i64 at_2, sO 7 (.slc 1), sO 9 (.slc 107), sO 10 (.slc 5), sI 11 .i64 i18, sI 12 .i64 c32, (.h 1, .e (.apt 7 p2)), (.h 5, .e (.apt 6 (MV.slc (List.length ([] : AH)) 1 0 30))), (.h 14, .e (.arena true [7] H26)), (.h 15, .e (.arena true [6] (AH.wr H15 (MV.slc (List.length ([] : AH)) 1 0 30) (i18.toNat * 1 + 0) [MV.bool ((i18.tmod (2 : Int)) == (0 : Int))]))), hO 107 5 .u8 (want31 ++ [x49]), hW 9000 (.bs .u8 l_0)] (hone hn51) ?_
                            refine q_b 3 ?_
                            refine q_k ?_
                            refine tr_rg hT [] [sO 0 (.slc 9000), sI 1 .i64 torn_1, sI 2 .i64 at_2, sO 7 (.slc 1), sO 9 (.slc 107), sO 10 (.slc 5), sI 11 .i64 i18, sI 12 .i64 (IntKind.i64.wrap (c32 + (1 : Int))), (.h 1, .e (.apt 7 p2)), (.h 5, .e (.apt 6 (MV.slc (List.length ([] : AH)) 1 0 30))), (.h 14, .e (.arena true [7] H26)), (.h 15, .e (.arena true [6] (AH.wr H15 (MV.slc (List.length ([] : AH)) 1 0 30) (i18.toNat * 1 + 0) [MV.bool ((i18.tmod (2 : Int)) == (0 : Int))]))), hO 107 5 .u8 (want31 ++ [x49]), hW 9000 (.bs .u8 l_0)] hnil ?_
                            refine q_kr ?_
                            exact trR_ft [(16, .slc 107)] [sO 0 (.slc 9000), sI 1 .i64 torn_1, sI 2 .i64 at_2, sO 7 (.slc 1), sO 9 (.slc 16), sO 10 (.slc 5), sI 11 .i64 i18, sI 12 .i64 (IntKind.i64.wrap (c32 + (1 : Int))), (.h 1, .e (.apt 7 p2)), (.h 5, .e (.apt 6 (MV.slc (List.length ([] : AH)) 1 0 30))), (.h 14, .e (.arena true [7] H26)), (.h 15, .e (.arena true [6] (AH.wr H15 (MV.slc (List.length ([] : AH)) 1 0 30) (i18.toNat * 1 + 0) [MV.bool ((i18.tmod (2 : Int)) == (0 : Int))]))), hO 16 5 .u8 (want31 ++ [x49]), hW 9000 (.bs .u8 l_0)] ⟨.apts' (κb := 7), .apts' (κb := 6), .arena' (bs := [7]), .arena' (bs := [6]), .own', .rows', trivial⟩ (ih1 ((want31 ++ [x49]), (IntKind.i64.wrap (c32 + (1 : Int)))) h)
                          · intro hj3
                            clear h
                            have h := e52
                            clear e52
                            rcases ite_split h with ⟨hc50, h⟩ | ⟨hc50, h⟩
                            · refine tr_cond_t ((i18.tmod (2 : Int)) == (1 : Int)) (by kernel_rfl) hc50 ?_
                              refine tr_rg hT [] [sO 0 (.slc 9000), sI 1 .i64 torn_1, sI 2 .i64 at_2, sO 7 (.slc 1), sO 9 (.slc 16), sO 10 (.slc 5), sI 11 .i64 i18, sI 12 .i64 c32, sI 13 .u8 (0 : Int), (.h 1, .e (.apt 7 p2)), (.h 5, .e (.apt 6 (MV.slc (List.length ([] : AH)) 1 0 30))), (.h 14, .e (.arena true [7] H26)), (.h 15, .e (.arena true [6] (AH.wr H15 (MV.slc (List.length ([] : AH)) 1 0 30) (i18.toNat * 1 + 0) [MV.bool ((i18.tmod (2 : Int)) == (0 : Int))]))), hO 16 5 .u8 want31, hW 9000 (.bs .u8 l_0)] hnil ?_
                              have h := Option.some.inj h
                              subst h
                              exact q_ft [] [sO 0 (.slc 9000), sI 1 .i64 torn_1, sI 2 .i64 at_2, sO 7 (.slc 1), sO 9 (.slc 16), sO 10 (.slc 5), sI 11 .i64 i18, sI 12 .i64 c32, sI 13 .u8 (0 : Int), (.h 1, .e (.apt 7 p2)), (.h 5, .e (.apt 6 (MV.slc (List.length ([] : AH)) 1 0 30))), (.h 14, .e (.arena true [7] H26)), (.h 15, .e (.arena true [6] (AH.wr H15 (MV.slc (List.length ([] : AH)) 1 0 30) (i18.toNat * 1 + 0) [MV.bool ((i18.tmod (2 : Int)) == (0 : Int))]))), hO 16 5 .u8 want31, hW 9000 (.bs .u8 l_0)] ⟨.apts' (κb := 7), .apts' (κb := 6), .arena' (bs := [7]), .arena' (bs := [6]), .own', .rows', trivial⟩ hj3
                            · refine tr_cond_f ((i18.tmod (2 : Int)) == (1 : Int)) (by kernel_rfl) hc50 ?_
                              refine tr_skip ?_
                              have h := Option.some.inj h
                              subst h
                              exact q_ls [sO 0 (.slc 9000), sI 1 .i64 torn_1, sI 2 .i64 at_2, sO 7 (.slc 1), sO 9 (.slc 16), sO 10 (.slc 5), sI 11 .i64 i18, sI 12 .i64 c32, sI 13 .u8 ((l_0.getD i18.toNat []).getD c32.toNat 0), (.h 1, .e (.apt 7 p2)), (.h 5, .e (.apt 6 (MV.slc (List.length ([] : AH)) 1 0 30))), (.h 14, .e (.arena true [7] H26)), (.h 15, .e (.arena true [6] (AH.wr H15 (MV.slc (List.length ([] : AH)) 1 0 30) (i18.toNat * 1 + 0) [MV.bool ((i18.tmod (2 : Int)) == (0 : Int))]))), hO 16 5 .u8 want31, hW 9000 (.bs .u8 l_0)] hj3
                        · refine tr_rg hT [(3, .dec false), (12, .dec false)] [sO 0 (.slc 9000), sI 1 .i64 torn_1, sI 2 .i64 at_2, sO 7 (.slc 1), sO 9 (.slc 16), sO 10 (.slc 5), sI 11 .i64 i18, sI 12 .i64 c32, sI 13 .u8 ((l_0.getD i18.toNat []).getD c32.toNat 0), sB 95 false, (.h 1, .e (.apt 7 p2)), (.h 5, .e (.apt 6 (MV.slc (List.length ([] : AH)) 1 0 30))), (.h 14, .e (.arena true [7] H26)), (.h 15, .e (.arena true [6] (AH.wr H15 (MV.slc (List.length ([] : AH)) 1 0 30) (i18.toNat * 1 + 0) [MV.bool ((i18.tmod (2 : Int)) == (0 : Int))]))), hO 16 5 .u8 want31, hW 9000 (.bs .u8 l_0)] (hcons hb47 (hone hb53)) ?_
                          refine q_k ?_
                          refine tr_cond_f false (by kernel_rfl) rfl ?_
                          refine tr_skip ?_
                          refine q_k ?_
                          obtain ⟨hn54, h⟩ := ite_some h
                          refine tr_rg hT [(2, .key 108), (3, .key 109)] [sO 0 (.slc 9000), sI 1 .i64 torn_1, sI 2 .i64 at_2, sO 7 (.slc 1), sO 9 (.slc 109), sO 10 (.slc 5), sI 11 .i64 i18, sI 12 .i64 c32, (.h 1, .e (.apt 7 p2)), (.h 5, .e (.apt 6 (MV.slc (List.length ([] : AH)) 1 0 30))), (.h 14, .e (.arena true [7] H26)), (.h 15, .e (.arena true [6] (AH.wr H15 (MV.slc (List.length ([] : AH)) 1 0 30) (i18.toNat * 1 + 0) [MV.bool ((i18.tmod (2 : Int)) == (0 : Int))]))), hO 109 5 .u8 (want31 ++ [((l_0.getD i18.toNat []).getD c32.toNat 0)]), hW 9000 (.bs .u8 l_0)] (hone hn54) ?_
                          refine q_b 3 ?_
                          refine q_k ?_
                          refine tr_rg hT [] [sO 0 (.slc 9000), sI 1 .i64 torn_1, sI 2 .i64 at_2, sO 7 (.slc 1), sO 9 (.slc 109), sO 10 (.slc 5), sI 11 .i64 i18, sI 12 .i64 (IntKind.i64.wrap (c32 + (1 : Int))), (.h 1, .e (.apt 7 p2)), (.h 5, .e (.apt 6 (MV.slc (List.length ([] : AH)) 1 0 30))), (.h 14, .e (.arena true [7] H26)), (.h 15, .e (.arena true [6] (AH.wr H15 (MV.slc (List.length ([] : AH)) 1 0 30) (i18.toNat * 1 + 0) [MV.bool ((i18.tmod (2 : Int)) == (0 : Int))]))), hO 109 5 .u8 (want31 ++ [((l_0.getD i18.toNat []).getD c32.toNat 0)]), hW 9000 (.bs .u8 l_0)] hnil ?_
                          refine q_kr ?_
                          exact trR_ft [(16, .slc 109)] [sO 0 (.slc 9000), sI 1 .i64 torn_1, sI 2 .i64 at_2, sO 7 (.slc 1), sO 9 (.slc 16), sO 10 (.slc 5), sI 11 .i64 i18, sI 12 .i64 (IntKind.i64.wrap (c32 + (1 : Int))), (.h 1, .e (.apt 7 p2)), (.h 5, .e (.apt 6 (MV.slc (List.length ([] : AH)) 1 0 30))), (.h 14, .e (.arena true [7] H26)), (.h 15, .e (.arena true [6] (AH.wr H15 (MV.slc (List.length ([] : AH)) 1 0 30) (i18.toNat * 1 + 0) [MV.bool ((i18.tmod (2 : Int)) == (0 : Int))]))), hO 16 5 .u8 (want31 ++ [((l_0.getD i18.toNat []).getD c32.toNat 0)]), hW 9000 (.bs .u8 l_0)] ⟨.apts' (κb := 7), .apts' (κb := 6), .arena' (bs := [7]), .arena' (bs := [6]), .own', .rows', trivial⟩ (ih1 ((want31 ++ [((l_0.getD i18.toNat []).getD c32.toNat 0)]), (IntKind.i64.wrap (c32 + (1 : Int)))) h)
                    · refine tr_cond_f (decide (c32 < (↑(List.length (l_0.getD i18.toNat [])) : Int))) (by kernel_rfl) hc34 ?_
                      refine tr_exit ?_
                      refine q_k_exit ?_
                      refine q_kr_exit ?_
                      have h := Option.some.inj h
                      subst h
                      exact q_ft [(17, .slc 16)] [sO 0 (.slc 9000), sI 1 .i64 torn_1, sI 2 .i64 at_2, sO 7 (.slc 1), sO 9 (.slc 17), sO 10 (.slc 5), sI 11 .i64 i18, (.h 1, .e (.apt 7 p2)), (.h 5, .e (.apt 6 (MV.slc (List.length ([] : AH)) 1 0 30))), (.h 14, .e (.arena true [7] H26)), (.h 15, .e (.arena true [6] (AH.wr H15 (MV.slc (List.length ([] : AH)) 1 0 30) (i18.toNat * 1 + 0) [MV.bool ((i18.tmod (2 : Int)) == (0 : Int))]))), hO 17 5 .u8 want31, hW 9000 (.bs .u8 l_0)] ⟨.apts' (κb := 7), .apts' (κb := 6), .arena' (bs := [7]), .arena' (bs := [6]), .own', .rows', trivial⟩ hx1
            · refine tr_cond_f (decide (i18 < (↑(List.length l_0) : Int))) (by kernel_rfl) hc22 ?_
              refine tr_exit ?_
              refine q_k_exit ?_
              refine q_kr_exit ?_
              have h := Option.some.inj h
              subst h
              exact q_ft [(9, .slc 6), (10, .slc 7), (11, .slc 8)] [sI 1 .i64 torn_1, sI 2 .i64 at_2, sO 7 (.slc 1), sO 9 (.slc 11), sO 10 (.slc 5), (.h 1, .e (.apt 10 p2)), (.h 5, .e (.apt 9 (MV.slc (List.length ([] : AH)) 1 0 30))), (.h 9, .e (.arena true [] H15)), (.h 10, .e (.arena true [] H16)), hO 11 5 .u8 want17] ⟨.apt' (κb := 7) (κ0 := 7) (rw := true) (bs := []) (D := H16), .apt' (κb := 6) (κ0 := 6) (rw := true) (bs := []) (D := H15), .arena' (bs := []), .arena' (bs := []), .own', trivial⟩ (hx0 (H15, H16, want17) rfl)

end Go.Proofs.Sd
