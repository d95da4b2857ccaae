/- Walks, printed by a program of this session (gowalk.py): each Go function comes to its plain function's answer. -/
import Derived.Test.YtdbheiibkpendaaSdA
import Derived.Test.YtdbheiibkpendaaSdD
import Derived.Test.YtdbheiibkpendaaMSdS
import Derived.Test.YtdbheiibkpendaaSdV0
import Derived.Test.YtdbheiibkpendaaSdV1
import Derived.Test.YtdbheiibkpendaaSdV2
import Derived.Test.YtdbheiibkpendaaSdV3
import Derived.Test.YtdbheiibkpendaaSdV4
import Derived.Test.YtdbheiibkpendaaSdV5
namespace Go.Proofs.Sd
open Go Go.Gw D
set_option linter.unusedVariables false
set_option maxRecDepth 20000

theorem law14_DiskSafe_ok (rows_0 : List (List Int)) (l_1 : List (List DL)) (r : Bool) (h : law14_DiskSafe rows_0 l_1 = some r) : CallOk P 11 [.v (.one (.slc 9000)), .v (.one (.slc 9001))] [(9000, .rows (.bs .u8 rows_0)), (9001, .rows (.gn 7 l_1))] (.v (.one (.bool r))) [] := by
  refine call1 (N := 179) Try.func11 (by kernel_rfl) rfl rfl rfl [(9000, .rows (.bs .u8 rows_0)), (9001, .rows (.gn 7 l_1))] (by kernel_rfl) ?_
  intro _ B w0
  show Tr P B 179 w0 _ _ (RetQ P Try.f11 (R1 _ _ B w0))
  unfold law14_DiskSafe at h
  refine tr_seq ?_
  refine tr_rg hT [] [sO 0 (.slc 9000), sO 1 (.slc 9001), hW 9000 (.bs .u8 rows_0), hW 9001 (.gn 7 l_1)] hnil ?_
  refine q_k ?_
  refine tr_seq ?_
  refine tr_seq ?_
  obtain ⟨b1, e2, h⟩ := bind_some h
  rcases ite_split h with ⟨hb3, h⟩ | ⟨hb4, h⟩
  · refine tr_rg hT [(1, .call [9001] (.v (.one (.bool b1))) []), (2, .dec true)] [sO 0 (.slc 9000), sO 1 (.slc 9001), sB 20 true, hW 9000 (.bs .u8 rows_0), hW 9001 (.gn 7 l_1)] (hcons ((law14_Heavy_ok l_1 b1 e2).tr1 [(9000, .slc 9001)] [(9001, .rows (.gn 7 l_1))] ⟨.rows', trivial⟩) (hone hb3)) ?_
    refine q_k ?_
    refine tr_cond_t true (by kernel_rfl) rfl ?_
    refine tr_seq ?_
    refine tr_rg hT [] [sB 4 true] hnil ?_
    refine q_k ?_
    refine tr_ret ?_
    refine q_k_ret ?_
    have h := Option.some.inj h
    subst h
    refine q_ls [sB 4 true] ?_
    exact q_ret1 hT (.v (.one (.bool true))) [] (by kernel_rfl) (by kernel_rfl) (by kernel_rfl)
  · refine tr_rg hT [(1, .call [9001] (.v (.one (.bool b1))) []), (2, .dec false)] [sO 0 (.slc 9000), sO 1 (.slc 9001), sB 20 (decide ((↑(List.length rows_0) : Int) > (20 : Int))), hW 9000 (.bs .u8 rows_0), hW 9001 (.gn 7 l_1)] (hcons ((law14_Heavy_ok l_1 b1 e2).tr1 [(9000, .slc 9001)] [(9001, .rows (.gn 7 l_1))] ⟨.rows', trivial⟩) (hone hb4)) ?_
    refine q_k ?_
    rcases ite_split h with ⟨hc5, h⟩ | ⟨hc5, h⟩
    · refine tr_cond_t (decide ((↑(List.length rows_0) : Int) > (20 : Int))) (by kernel_rfl) hc5 ?_
      refine tr_seq ?_
      refine tr_rg hT [] [sB 4 true] hnil ?_
      refine q_k ?_
      refine tr_ret ?_
      refine q_k_ret ?_
      have h := Option.some.inj h
      subst h
      refine q_ls [sB 4 true] ?_
      exact q_ret1 hT (.v (.one (.bool true))) [] (by kernel_rfl) (by kernel_rfl) (by kernel_rfl)
    · refine tr_cond_f (decide ((↑(List.length rows_0) : Int) > (20 : Int))) (by kernel_rfl) hc5 ?_
      refine tr_skip ?_
      refine q_k ?_
      refine tr_seq ?_
      obtain ⟨⟨p6, r7, H8⟩, e9, h⟩ := bind_some h
      refine tr_rg hT [(0, .callA [] (.tup [.one (.slc 1), .one (.int .i64 r7)]) [(1, .apt 0 p6), (0, .arena true [] H8)])] [sO 0 (.slc 9000), sO 1 (.slc 9001), sO 5 (.slc 1), sI 6 .i64 r7, (.h 0, .e (.arena true [] H8)), (.h 1, .e (.apt 0 p6)), hW 9000 (.bs .u8 rows_0), hW 9001 (.gn 7 l_1)] (hone ((disk_New_ok (131072 : Int) (p6, r7, H8) e9).tr1 [(8901, .slc 0), (8900, .slc 1)] [] trivial)) ?_
      refine q_k ?_
      refine tr_seq ?_
      refine tr_seq ?_
      rcases ite_split h with ⟨hb10, h⟩ | ⟨hb11, h⟩
      · refine tr_rg hT [(2, .dec true)] [sO 0 (.slc 9000), sO 1 (.slc 9001), sO 5 (.slc 1), sB 40 true, (.h 0, .e (.arena true [] H8)), (.h 1, .e (.apt 0 p6)), hW 9000 (.bs .u8 rows_0), hW 9001 (.gn 7 l_1)] (hone hb10) ?_
        refine q_k ?_
        refine tr_cond_t true (by kernel_rfl) rfl ?_
        refine tr_seq ?_
        refine tr_rg hT [] [sB 4 false] hnil ?_
        refine q_k ?_
        refine tr_ret ?_
        refine q_k_ret ?_
        have h := Option.some.inj h
        subst h
        refine q_ls [sB 4 false] ?_
        exact q_ret1 hT (.v (.one (.bool false))) [] (by kernel_rfl) (by kernel_rfl) (by kernel_rfl)
      · obtain ⟨hn12, h⟩ := ite_some h
        rcases ite_split h with ⟨hb13, h⟩ | ⟨hb14, h⟩
        · refine tr_rg hT [(2, .dec false), (4, .ar 0 []), (6, .dec true)] [sO 0 (.slc 9000), sO 1 (.slc 9001), sO 5 (.slc 1), sB 40 true, (.h 0, .e (.arena true [] H8)), (.h 1, .e (.apt 0 p6)), hW 9000 (.bs .u8 rows_0), hW 9001 (.gn 7 l_1)] (hcons hb11 (hcons hn12 (hone hb13))) ?_
          refine q_k ?_
          refine tr_cond_t true (by kernel_rfl) rfl ?_
          refine tr_seq ?_
          refine tr_rg hT [] [sB 4 false] hnil ?_
          refine q_k ?_
          refine tr_ret ?_
          refine q_k_ret ?_
          have h := Option.some.inj h
          subst h
          refine q_ls [sB 4 false] ?_
          exact q_ret1 hT (.v (.one (.bool false))) [] (by kernel_rfl) (by kernel_rfl) (by kernel_rfl)
        · obtain ⟨⟨r15, H16⟩, e17, h⟩ := bind_some h
          rcases ite_split h with ⟨hb18, h⟩ | ⟨hb19, h⟩
          · refine tr_rg hT [(2, .dec false), (4, .ar 0 []), (6, .dec false), (8, .callA [(0, .rw), (1, .apt 0)] (.v (.one (.int .i64 r15))) [(2, .arena true [0] H16), (0, .dead)]), (11, .dec true)] [sO 0 (.slc 9000), sO 1 (.slc 9001), sO 5 (.slc 1), sB 40 true, (.h 1, .e (.apt 0 p6)), (.h 2, .e (.arena true [0] H16)), hW 9000 (.bs .u8 rows_0), hW 9001 (.gn 7 l_1)] (hcons hb11 (hcons hn12 (hcons hb14 (hcons ((disk_Disk_Create_ok H8 p6 (0 : Int) (r15, H16) e17).tr1 [(9001, .slc 1), (9000, .slc 0), (8900, .slc 2)] [(0, .arena true [] H8), (1, .apt 0 p6)] ⟨.arena' (bs := []), .apts' (κb := 0), trivial⟩) (hone hb18))))) ?_
            refine q_k ?_
            refine tr_cond_t true (by kernel_rfl) rfl ?_
            refine tr_seq ?_
            refine tr_rg hT [] [sB 4 false] hnil ?_
            refine q_k ?_
            refine tr_ret ?_
            refine q_k_ret ?_
            have h := Option.some.inj h
            subst h
            refine q_ls [sB 4 false] ?_
            exact q_ret1 hT (.v (.one (.bool false))) [] (by kernel_rfl) (by kernel_rfl) (by kernel_rfl)
          · obtain ⟨⟨r20, H21⟩, e22, h⟩ := bind_some h
            refine tr_rg hT [(2, .dec false), (4, .ar 0 []), (6, .dec false), (8, .callA [(0, .rw), (1, .apt 0)] (.v (.one (.int .i64 r15))) [(2, .arena true [0] H16), (0, .dead)]), (11, .dec false), (13, .callA [(2, .rw), (1, .apt 2)] (.v (.one (.int .i64 r20))) [(3, .arena true [2] H21), (2, .dead)])] [sO 0 (.slc 9000), sO 1 (.slc 9001), sO 5 (.slc 1), sB 40 (r20 != (0 : Int)), (.h 1, .e (.apt 0 p6)), (.h 3, .e (.arena true [2, 0] H21)), hW 9000 (.bs .u8 rows_0), hW 9001 (.gn 7 l_1)] (hcons hb11 (hcons hn12 (hcons hb14 (hcons ((disk_Disk_Create_ok H8 p6 (0 : Int) (r15, H16) e17).tr1 [(9001, .slc 1), (9000, .slc 0), (8900, .slc 2)] [(0, .arena true [] H8), (1, .apt 0 p6)] ⟨.arena' (bs := []), .apts' (κb := 0), trivial⟩) (hcons hb19 (hone ((disk_Disk_Create_ok H16 p6 (1 : Int) (r20, H21) e22).tr1 [(9001, .slc 1), (9000, .slc 2), (8900, .slc 3)] [(2, .arena true [] H16), (1, .apt 2 p6)] ⟨.arena' (bs := []), .apts' (κb := 2), trivial⟩))))))) ?_
            refine q_k ?_
            rcases ite_split h with ⟨hc23, h⟩ | ⟨hc23, h⟩
            · refine tr_cond_t (r20 != (0 : Int)) (by kernel_rfl) hc23 ?_
              refine tr_seq ?_
              refine tr_rg hT [] [sB 4 false] hnil ?_
              refine q_k ?_
              refine tr_ret ?_
              refine q_k_ret ?_
              have h := Option.some.inj h
              subst h
              refine q_ls [sB 4 false] ?_
              exact q_ret1 hT (.v (.one (.bool false))) [] (by kernel_rfl) (by kernel_rfl) (by kernel_rfl)
            · refine tr_cond_f (r20 != (0 : Int)) (by kernel_rfl) hc23 ?_
              refine tr_skip ?_
              refine q_k ?_
              refine tr_seq ?_
              refine tr_rg hT [] [sO 0 (.slc 9000), sO 1 (.slc 9001), sO 5 (.slc 1), sO 7 (.nils), (.h 1, .e (.apt 0 p6)), (.h 3, .e (.arena true [2, 0] H21)), hW 9000 (.bs .u8 rows_0), hW 9001 (.gn 7 l_1)] hnil ?_
              refine q_k ?_
              refine tr_seq ?_
              refine tr_seq ?_
              refine tr_rg hT [] [sO 0 (.slc 9000), sO 1 (.slc 9001), sO 5 (.slc 1), sO 7 (.nils), sI 8 .i64 (0 : Int), (.h 1, .e (.apt 0 p6)), (.h 3, .e (.arena true [2, 0] H21)), hW 9000 (.bs .u8 rows_0), hW 9001 (.gn 7 l_1)] hnil ?_
              refine q_k ?_
              refine tr_block ?_
              obtain ⟨rr0, e37, h⟩ := bind_some h
              refine tr_ft [(4, .slc 3), (5, .nils)] [sO 0 (.slc 9000), sO 1 (.slc 9001), sO 5 (.slc 1), sO 7 (.slc 5), sI 8 .i64 (0 : Int), (.h 1, .e (.apt 4 p6)), (.h 4, .e (.arena true [] H21)), hO 5 5 .u8 [], hW 9000 (.bs .u8 rows_0), hW 9001 (.gn 7 l_1)] ⟨.apt' (κb := 0) (κ0 := 3) (rw := true) (bs := [2, 0]) (D := H21), .arena' (bs := [2, 0]), .nilown, .rows', .rows', trivial⟩ ?_
              refine tr_loop_ret (id := 0) (α := AH × List Int × Int) (β := AH × List Int) (ρ := Bool) (fun z => [sO 0 (.slc 9000), sO 1 (.slc 9001), sO 5 (.slc 1), sO 7 (.slc 5), sI 8 .i64 z.2.2, (.h 1, .e (.apt 4 p6)), (.h 4, .e (.arena true [] z.1)), hO 5 5 .u8 z.2.1, hW 9000 (.bs .u8 rows_0), hW 9001 (.gn 7 l_1)]) (fun z => [sO 1 (.slc 9001), sO 5 (.slc 1), sO 7 (.slc 7), (.h 1, .e (.apt 6 p6)), (.h 6, .e (.arena true [] z.1)), hO 7 5 .u8 z.2, hW 9001 (.gn 7 l_1)]) (fun v σ => resS T (Gw.look σ) Try.f11.results.toList = some (.v (.one (.bool v))) ∧ Gw.hasAll σ [] = some (Gw.preSS [])) (fun k z => law14_DiskSafe_l0 rows_0 l_1 p6 k z.1 z.2.1 z.2.2) rr0 (fun _ => rfl) (((↑(List.length rows_0) : Int) - (0 : Int)).toNat + 1) (H21, [], (0 : Int)) e37 ?_ ?_ ?_
              · intro z hz
                subst hz
                rcases z with ⟨H27, all28⟩
                replace h : ((disk_Disk_Sync H27 p6 (0 : Int)).bind (fun (r38, H39) => if (r38 != (0 : Int)) = true then some false else (law14_DiskSafe_l1 l_1 p6 all28 (((↑(List.length l_1) : Int) - (0 : Int)).toNat + 1) H39 (0 : Int)).bind (fun y => match y with | .inl H44 => (disk_Disk_Crash H44 p6 [] (-1 : Int) (0 : Int)).bind (fun H84 => (disk_Disk_Start H84 p6).bind (fun H86 => (disk_Disk_Read H86 p6 (0 : Int)).bind (fun (a88, r89) => if (r89 == (0 : Int)) = true then if (decide ((↑(List.length a88) : Int) ≥ (↑(List.length all28) : Int))) = true then if 0 ≤ (0 : Int) ∧ (0 : Int) ≤ (↑(List.length all28) : Int) ∧ (↑(List.length all28) : Int) ≤ (↑(List.length a88) : Int) then (keep_Bytes ((a88.take ((↑(List.length all28) : Int).toNat)).drop 0) all28).bind (fun b94 => if b94 = true then (law14_wakes).bind (fun b97 => some b97) else some false) else none else some false else some false))) | .inr v => some v))) = _ := h
                refine q_b_this ?_
                refine q_k ?_
                refine tr_seq ?_
                refine tr_seq ?_
                obtain ⟨⟨r38, H39⟩, e40, h⟩ := bind_some h
                refine tr_rg hT [(1, .callA [(6, .rw), (1, .apt 6)] (.v (.one (.int .i64 r38))) [(13, .arena true [6] H39), (6, .dead)])] [sO 1 (.slc 9001), sO 5 (.slc 1), sO 7 (.slc 7), sB 68 (r38 != (0 : Int)), (.h 1, .e (.apt 6 p6)), hO 7 5 .u8 all28, (.h 13, .e (.arena true [6] H39)), hW 9001 (.gn 7 l_1)] (hone ((disk_Disk_Sync_ok H27 p6 (0 : Int) (r38, H39) e40).tr1 [(9001, .slc 1), (9000, .slc 6), (8900, .slc 13)] [(6, .arena true [] H27), (1, .apt 6 p6)] ⟨.arena' (bs := []), .apts' (κb := 6), trivial⟩)) ?_
                refine q_k ?_
                rcases ite_split h with ⟨hc41, h⟩ | ⟨hc41, h⟩
                · refine tr_cond_t (r38 != (0 : Int)) (by kernel_rfl) hc41 ?_
                  refine tr_seq ?_
                  refine tr_rg hT [] [sB 4 false] hnil ?_
                  refine q_k ?_
                  refine tr_ret ?_
                  refine q_k_ret ?_
                  have h := Option.some.inj h
                  subst h
                  refine q_ls [sB 4 false] ?_
                  exact q_ret1 hT (.v (.one (.bool false))) [] (by kernel_rfl) (by kernel_rfl) (by kernel_rfl)
                · refine tr_cond_f (r38 != (0 : Int)) (by kernel_rfl) hc41 ?_
                  refine tr_skip ?_
                  refine q_k ?_
                  refine tr_seq ?_
                  refine tr_seq ?_
                  refine tr_rg hT [] [sO 1 (.slc 9001), sO 5 (.slc 1), sO 7 (.slc 7), sI 9 .i64 (0 : Int), (.h 1, .e (.apt 6 p6)), hO 7 5 .u8 all28, (.h 13, .e (.arena true [6] H39)), hW 9001 (.gn 7 l_1)] hnil ?_
                  refine q_k ?_
                  refine tr_block ?_
                  obtain ⟨rr1, e83, h⟩ := bind_some h
                  refine tr_ft [(14, .slc 13)] [sO 1 (.slc 9001), sO 5 (.slc 1), sO 7 (.slc 7), sI 9 .i64 (0 : Int), (.h 1, .e (.apt 14 p6)), hO 7 5 .u8 all28, (.h 14, .e (.arena true [] H39)), hW 9001 (.gn 7 l_1)] ⟨.apt' (κb := 6) (κ0 := 13) (rw := true) (bs := [6]) (D := H39), .own', .arena' (bs := [6]), .rows', trivial⟩ ?_
                  refine tr_loop_ret (id := 2) (α := AH × Int) (β := AH) (ρ := Bool) (fun z => [sO 1 (.slc 9001), sO 5 (.slc 1), sO 7 (.slc 7), sI 9 .i64 z.2, (.h 1, .e (.apt 14 p6)), hO 7 5 .u8 all28, (.h 14, .e (.arena true [] z.1)), hW 9001 (.gn 7 l_1)]) (fun z => [sO 5 (.slc 1), sO 7 (.slc 7), (.h 1, .e (.apt 15 p6)), hO 7 5 .u8 all28, (.h 15, .e (.arena true [] z))]) (fun v σ => resS T (Gw.look σ) Try.f11.results.toList = some (.v (.one (.bool v))) ∧ Gw.hasAll σ [] = some (Gw.preSS [])) (fun k z => law14_DiskSafe_l1 l_1 p6 all28 k z.1 z.2) rr1 (fun _ => rfl) (((↑(List.length l_1) : Int) - (0 : Int)).toNat + 1) (H39, (0 : Int)) e83 ?_ ?_ ?_
                  · intro H44 hz
                    subst hz
                    replace h : ((disk_Disk_Crash H44 p6 [] (-1 : Int) (0 : Int)).bind (fun H84 => (disk_Disk_Start H84 p6).bind (fun H86 => (disk_Disk_Read H86 p6 (0 : Int)).bind (fun (a88, r89) => if (r89 == (0 : Int)) = true then if (decide ((↑(List.length a88) : Int) ≥ (↑(List.length all28) : Int))) = true then if 0 ≤ (0 : Int) ∧ (0 : Int) ≤ (↑(List.length all28) : Int) ∧ (↑(List.length all28) : Int) ≤ (↑(List.length a88) : Int) then (keep_Bytes ((a88.take ((↑(List.length all28) : Int).toNat)).drop 0) all28).bind (fun b94 => if b94 = true then (law14_wakes).bind (fun b97 => some b97) else some false) else none else some false else some false)))) = _ := h
                    refine q_b_this ?_
                    refine q_k ?_
                    refine tr_seq ?_
                    obtain ⟨H84, e85, h⟩ := bind_some h
                    refine tr_rg hT [(1, .callA [(15, .rw), (1, .apt 15)] (.tup []) [(27, .arena true [15] H84), (15, .dead)])] [sO 5 (.slc 1), sO 7 (.slc 7), (.h 1, .e (.apt 15 p6)), hO 7 5 .u8 all28, (.h 27, .e (.arena true [15] H84))] (hone ((disk_Disk_Crash_ok H44 p6 [] (-1 : Int) (0 : Int) H84 e85).tr1 [(9001, .slc 1), (9002, .nils), (9000, .slc 15), (8900, .slc 27)] [(15, .arena true [] H44), (1, .apt 15 p6)] ⟨.arena' (bs := []), .apts' (κb := 15), .rdbnil, trivial⟩)) ?_
                    refine q_k ?_
                    refine tr_seq ?_
                    obtain ⟨H86, e87, h⟩ := bind_some h
                    refine tr_rg hT [(1, .callA [(27, .rw), (1, .apt 27)] (.tup []) [(28, .arena true [27] H86), (27, .dead)])] [sO 5 (.slc 1), sO 7 (.slc 7), (.h 1, .e (.apt 15 p6)), hO 7 5 .u8 all28, (.h 28, .e (.arena true [27, 15] H86))] (hone ((disk_Disk_Start_ok H84 p6 H86 e87).tr1 [(9001, .slc 1), (9000, .slc 27), (8900, .slc 28)] [(27, .arena true [] H84), (1, .apt 27 p6)] ⟨.arena' (bs := []), .apts' (κb := 27), trivial⟩)) ?_
                    refine q_k ?_
                    refine tr_seq ?_
                    obtain ⟨⟨a88, r89⟩, e90, h⟩ := bind_some h
                    refine tr_rg hT [(1, .callA [(28, .ro), (1, .apt 28)] (.tup [.one (.slc 29), .one (.int .i64 r89)]) [(29, .own 5 .u8 a88)])] [sI 6 .i64 r89, sO 7 (.slc 7), sO 13 (.slc 29), hO 7 5 .u8 all28, hO 29 5 .u8 a88] (hone ((disk_Disk_Read_ok H86 p6 (0 : Int) (a88, r89) e90).tr1 [(9001, .slc 1), (9000, .slc 28), (8900, .slc 29)] [(28, .arena false [] H86), (1, .apt 28 p6)] ⟨.arena' (bs := []), .apts' (κb := 28), trivial⟩)) ?_
                    refine q_k ?_
                    refine tr_seq ?_
                    refine tr_ft [] [sI 6 .i64 r89, sO 7 (.slc 7), sO 13 (.slc 29), hO 7 5 .u8 all28, hR 29 .u8 a88] ⟨.own', .ownrd' (e := 5), trivial⟩ ?_
                    rcases ite_split h with ⟨hb91, h⟩ | ⟨hb101, h⟩
                    · rcases ite_split h with ⟨hb92, h⟩ | ⟨hb100, h⟩
                      · obtain ⟨hn93, h⟩ := ite_some h
                        obtain ⟨b94, e95, h⟩ := bind_some h
                        rcases ite_split h with ⟨hb96, h⟩ | ⟨hb99, h⟩
                        · obtain ⟨b97, e98, h⟩ := bind_some h
                          refine tr_rg hT [(2, .dec true), (9, .dec true), (13, .key 30), (15, .call [30, 7] (.v (.one (.bool b94))) []), (17, .dec true), (18, .call [] (.v (.one (.bool b97))) [])] [sB 4 b97] (hcons hb91 (hcons hb92 (hcons hn93 (hcons ((keep_Bytes_ok ((a88.take ((↑(List.length all28) : Int).toNat)).drop 0) all28 b94 e95).tr1 [(9000, .slc 30), (9001, .slc 7)] [(30, .rd .u8 ((a88.take ((↑(List.length all28) : Int).toNat)).drop 0)), (7, .own 5 .u8 all28)] ⟨.rd', .ownrd' (e := 5), trivial⟩) (hcons hb96 (hone (law14_wakes_ok  b97 e98 (pre := [])))))))) ?_
                          refine q_k ?_
                          refine tr_ret ?_
                          have h := Option.some.inj h
                          subst h
                          refine q_ls [sB 4 b97] ?_
                          exact q_ret1 hT (.v (.one (.bool b97))) [] (by kernel_rfl) (by kernel_rfl) (by kernel_rfl)
                        · refine tr_rg hT [(2, .dec true), (9, .dec true), (13, .key 30), (15, .call [30, 7] (.v (.one (.bool b94))) []), (17, .dec false)] [sB 4 false] (hcons hb91 (hcons hb92 (hcons hn93 (hcons ((keep_Bytes_ok ((a88.take ((↑(List.length all28) : Int).toNat)).drop 0) all28 b94 e95).tr1 [(9000, .slc 30), (9001, .slc 7)] [(30, .rd .u8 ((a88.take ((↑(List.length all28) : Int).toNat)).drop 0)), (7, .own 5 .u8 all28)] ⟨.rd', .ownrd' (e := 5), trivial⟩) (hone hb99))))) ?_
                          refine q_k ?_
                          refine tr_ret ?_
                          have h := Option.some.inj h
                          subst h
                          refine q_ls [sB 4 false] ?_
                          exact q_ret1 hT (.v (.one (.bool false))) [] (by kernel_rfl) (by kernel_rfl) (by kernel_rfl)
                      · refine tr_rg hT [(2, .dec true), (9, .dec false)] [sB 4 false] (hcons hb91 (hone hb100)) ?_
                        refine q_k ?_
                        refine tr_ret ?_
                        have h := Option.some.inj h
                        subst h
                        refine q_ls [sB 4 false] ?_
                        exact q_ret1 hT (.v (.one (.bool false))) [] (by kernel_rfl) (by kernel_rfl) (by kernel_rfl)
                    · refine tr_rg hT [(2, .dec false)] [sB 4 false] (hone hb101) ?_
                      refine q_k ?_
                      refine tr_ret ?_
                      have h := Option.some.inj h
                      subst h
                      refine q_ls [sB 4 false] ?_
                      exact q_ret1 hT (.v (.one (.bool false))) [] (by kernel_rfl) (by kernel_rfl) (by kernel_rfl)
                  · intro v σ hz hv
                    subst hz
                    have h := Option.some.inj h
                    subst h
                    refine q_b_ret ?_
                    refine q_k_ret ?_
                    exact q_ret1 hT _ _ hv.1 hv.2 (by kernel_rfl)
                  · clear h e83
                    intro k ih1 hx1 hr1 z h
                    rcases z with ⟨H42, i43⟩
                    replace h : (if (decide (i43 < (↑(List.length l_1) : Int))) = true then if (decide (i43 < (50 : Int))) = true then if 0 ≤ i43 ∧ i43 < ↑(List.length l_1) then if gkAll l_1 i43.toNat 0 [.int .i64, .int .i64, .int .i64, .bs .u8 0, .bb 0, .int .i64, .int .i64] = true then (disk_Disk_Size H42 p6 (IntKind.i64.wrap ((IntKind.u64.wrap (DL.num (dlAt l_1 i43.toNat 1))).tmod (2 : Int)))).bind (fun r49 => if (((IntKind.u64.wrap (DL.num (dlAt l_1 i43.toNat 0))).tmod (9 : Int)) == (2 : Int)) = true then (disk_Disk_Create H42 p6 (2 : Int)).bind (fun (r52, H53) => law14_DiskSafe_l1 l_1 p6 all28 k H53 (IntKind.i64.wrap (i43 + (1 : Int)))) else if (((IntKind.u64.wrap (DL.num (dlAt l_1 i43.toNat 0))).tmod (9 : Int)) == (3 : Int)) = true then (disk_Disk_Sync H42 p6 (IntKind.i64.wrap ((IntKind.u64.wrap (DL.num (dlAt l_1 i43.toNat 1))).tmod (2 : Int)))).bind (fun (r56, H57) => law14_DiskSafe_l1 l_1 p6 all28 k H57 (IntKind.i64.wrap (i43 + (1 : Int)))) else if (((IntKind.u64.wrap (DL.num (dlAt l_1 i43.toNat 0))).tmod (9 : Int)) == (4 : Int)) = true then (disk_Disk_Cut H42 p6 (1 : Int) (DL.num (dlAt l_1 i43.toNat 2))).bind (fun (r60, H61) => law14_DiskSafe_l1 l_1 p6 all28 k H61 (IntKind.i64.wrap (i43 + (1 : Int)))) else if (((IntKind.u64.wrap (DL.num (dlAt l_1 i43.toNat 0))).tmod (9 : Int)) == (5 : Int)) = true then (disk_Disk_Remove H42 p6 (2 : Int)).bind (fun (r64, H65) => law14_DiskSafe_l1 l_1 p6 all28 k H65 (IntKind.i64.wrap (i43 + (1 : Int)))) else if (((IntKind.u64.wrap (DL.num (dlAt l_1 i43.toNat 0))).tmod (9 : Int)) == (6 : Int)) = true then (disk_Disk_Crash H42 p6 (DL.boolL (dlAt l_1 i43.toNat 4)) (DL.num (dlAt l_1 i43.toNat 5)) (DL.num (dlAt l_1 i43.toNat 6))).bind (fun H68 => (disk_Disk_Size H68 p6 (IntKind.i64.wrap ((IntKind.u64.wrap (DL.num (dlAt l_1 i43.toNat 1))).tmod (2 : Int)))).bind (fun r70 => if (r70 != r49) = true then some (.inr false) else law14_DiskSafe_l1 l_1 p6 all28 k H68 (IntKind.i64.wrap (i43 + (1 : Int))))) else if (((IntKind.u64.wrap (DL.num (dlAt l_1 i43.toNat 0))).tmod (9 : Int)) == (7 : Int)) = true then (disk_Disk_Start H42 p6).bind (fun H74 => law14_DiskSafe_l1 l_1 p6 all28 k H74 (IntKind.i64.wrap (i43 + (1 : Int)))) else if (((IntKind.u64.wrap (DL.num (dlAt l_1 i43.toNat 0))).tmod (9 : Int)) == (8 : Int)) = true then (disk_Disk_Trip H42 p6 (DL.num (dlAt l_1 i43.toNat 2)) (DL.boolL (dlAt l_1 i43.toNat 4)) (DL.num (dlAt l_1 i43.toNat 5)) (DL.num (dlAt l_1 i43.toNat 6))).bind (fun H77 => law14_DiskSafe_l1 l_1 p6 all28 k H77 (IntKind.i64.wrap (i43 + (1 : Int)))) else (disk_Disk_Append H42 p6 (IntKind.i64.wrap ((IntKind.u64.wrap (DL.num (dlAt l_1 i43.toNat 1))).tmod (2 : Int))) (DL.ints (dlAt l_1 i43.toNat 3))).bind (fun (r79, H80) => law14_DiskSafe_l1 l_1 p6 all28 k H80 (IntKind.i64.wrap (i43 + (1 : Int))))) else none else none else some (.inl H42) else some (.inl H42)) = _ := h
                    refine tr_seq ?_
                    refine tr_seq ?_
                    rcases ite_split h with ⟨hb45, h⟩ | ⟨hb82, h⟩
                    · refine tr_rg hT [(4, .dec true)] [sO 1 (.slc 9001), sO 5 (.slc 1), sO 7 (.slc 7), sI 9 .i64 i43, sB 76 (decide (i43 < (50 : Int))), (.h 1, .e (.apt 14 p6)), hO 7 5 .u8 all28, (.h 14, .e (.arena true [] H42)), hW 9001 (.gn 7 l_1)] (hone hb45) ?_
                      refine q_k ?_
                      rcases ite_split h with ⟨hc46, h⟩ | ⟨hc46, h⟩
                      · refine tr_cond_t (decide (i43 < (50 : Int))) (by kernel_rfl) hc46 ?_
                        refine tr_skip ?_
                        refine q_k ?_
                        refine tr_seq ?_
                        refine tr_block ?_
                        refine tr_seq ?_
                        obtain ⟨hn47, h⟩ := ite_some h
                        obtain ⟨hn48, h⟩ := ite_some h
                        refine tr_rg hT [(3, .gk [.int .i64, .int .i64, .int .i64, .bs .u8 16, .bb 17, .int .i64, .int .i64]), (4, .key 18)] [sO 1 (.slc 9001), sO 5 (.slc 1), sO 7 (.slc 7), sI 9 .i64 i43, sO 10 (.ptr 18 0), (.h 1, .e (.apt 14 p6)), hO 7 5 .u8 all28, (.h 14, .e (.arena true [] H42)), hR 16 .u8 (DL.ints (dlAt l_1 i43.toNat 3)), (.h 17, .e (.rdb (DL.boolL (dlAt l_1 i43.toNat 4)))), hB 18 56 [.int .i64 (DL.num (dlAt l_1 i43.toNat 0)), .int .i64 (DL.num (dlAt l_1 i43.toNat 1)), .int .i64 (DL.num (dlAt l_1 i43.toNat 2)), .slc 16, .slc 17, .int .i64 (DL.num (dlAt l_1 i43.toNat 5)), .int .i64 (DL.num (dlAt l_1 i43.toNat 6))], hW 9001 (.gn 7 l_1)] (hcons hn47 (hcons hn47.2 (hone hn48))) ?_
                        refine q_k ?_
                        refine tr_seq ?_
                        refine tr_rg hT [] [sO 1 (.slc 9001), sO 5 (.slc 1), sO 7 (.slc 7), sI 9 .i64 i43, sO 10 (.ptr 18 0), sI 11 .i64 (IntKind.i64.wrap ((IntKind.u64.wrap (DL.num (dlAt l_1 i43.toNat 1))).tmod (2 : Int))), (.h 1, .e (.apt 14 p6)), hO 7 5 .u8 all28, (.h 14, .e (.arena true [] H42)), hR 16 .u8 (DL.ints (dlAt l_1 i43.toNat 3)), (.h 17, .e (.rdb (DL.boolL (dlAt l_1 i43.toNat 4)))), hB 18 56 [.int .i64 (DL.num (dlAt l_1 i43.toNat 0)), .int .i64 (DL.num (dlAt l_1 i43.toNat 1)), .int .i64 (DL.num (dlAt l_1 i43.toNat 2)), .slc 16, .slc 17, .int .i64 (DL.num (dlAt l_1 i43.toNat 5)), .int .i64 (DL.num (dlAt l_1 i43.toNat 6))], hW 9001 (.gn 7 l_1)] (hone (show (2 : Int) ≠ 0 from by decide)) ?_
                        refine q_k ?_
                        refine tr_seq ?_
                        obtain ⟨r49, e50, h⟩ := bind_some h
                        refine tr_rg hT [(2, .callA [(14, .ro), (1, .apt 14)] (.v (.one (.int .i64 r49))) [])] [sO 1 (.slc 9001), sO 5 (.slc 1), sO 7 (.slc 7), sI 9 .i64 i43, sO 10 (.ptr 18 0), sI 11 .i64 (IntKind.i64.wrap ((IntKind.u64.wrap (DL.num (dlAt l_1 i43.toNat 1))).tmod (2 : Int))), sI 12 .i64 r49, (.h 1, .e (.apt 14 p6)), hO 7 5 .u8 all28, (.h 14, .e (.arena true [] H42)), hR 16 .u8 (DL.ints (dlAt l_1 i43.toNat 3)), (.h 17, .e (.rdb (DL.boolL (dlAt l_1 i43.toNat 4)))), hB 18 56 [.int .i64 (DL.num (dlAt l_1 i43.toNat 0)), .int .i64 (DL.num (dlAt l_1 i43.toNat 1)), .int .i64 (DL.num (dlAt l_1 i43.toNat 2)), .slc 16, .slc 17, .int .i64 (DL.num (dlAt l_1 i43.toNat 5)), .int .i64 (DL.num (dlAt l_1 i43.toNat 6))], hW 9001 (.gn 7 l_1)] (hone ((disk_Disk_Size_ok H42 p6 (IntKind.i64.wrap ((IntKind.u64.wrap (DL.num (dlAt l_1 i43.toNat 1))).tmod (2 : Int))) r49 e50).tr1 [(9001, .slc 1), (9000, .slc 14)] [(14, .arena false [] H42), (1, .apt 14 p6)] ⟨.arena' (bs := []), .apts' (κb := 14), trivial⟩)) ?_
                        refine q_k ?_
                        refine tr_seq ?_
                        refine tr_rg hT [] [sO 1 (.slc 9001), sO 5 (.slc 1), sO 7 (.slc 7), sI 9 .i64 i43, sO 10 (.ptr 18 0), sI 11 .i64 (IntKind.i64.wrap ((IntKind.u64.wrap (DL.num (dlAt l_1 i43.toNat 1))).tmod (2 : Int))), sI 12 .i64 r49, sI 94 .u64 ((IntKind.u64.wrap (DL.num (dlAt l_1 i43.toNat 0))).tmod (9 : Int)), (.h 1, .e (.apt 14 p6)), hO 7 5 .u8 all28, (.h 14, .e (.arena true [] H42)), hR 16 .u8 (DL.ints (dlAt l_1 i43.toNat 3)), (.h 17, .e (.rdb (DL.boolL (dlAt l_1 i43.toNat 4)))), hB 18 56 [.int .i64 (DL.num (dlAt l_1 i43.toNat 0)), .int .i64 (DL.num (dlAt l_1 i43.toNat 1)), .int .i64 (DL.num (dlAt l_1 i43.toNat 2)), .slc 16, .slc 17, .int .i64 (DL.num (dlAt l_1 i43.toNat 5)), .int .i64 (DL.num (dlAt l_1 i43.toNat 6))], hW 9001 (.gn 7 l_1)] (hone (show (9 : Int) ≠ 0 from by decide)) ?_
                        refine q_k ?_
                        refine tr_block ?_
                        refine tr_seq ?_
                        refine tr_rg hT [] [sO 1 (.slc 9001), sO 5 (.slc 1), sO 7 (.slc 7), sI 9 .i64 i43, sO 10 (.ptr 18 0), sI 11 .i64 (IntKind.i64.wrap ((IntKind.u64.wrap (DL.num (dlAt l_1 i43.toNat 1))).tmod (2 : Int))), sI 12 .i64 r49, sI 94 .u64 ((IntKind.u64.wrap (DL.num (dlAt l_1 i43.toNat 0))).tmod (9 : Int)), sB 100 (((IntKind.u64.wrap (DL.num (dlAt l_1 i43.toNat 0))).tmod (9 : Int)) == (2 : Int)), (.h 1, .e (.apt 14 p6)), hO 7 5 .u8 all28, (.h 14, .e (.arena true [] H42)), hR 16 .u8 (DL.ints (dlAt l_1 i43.toNat 3)), (.h 17, .e (.rdb (DL.boolL (dlAt l_1 i43.toNat 4)))), hB 18 56 [.int .i64 (DL.num (dlAt l_1 i43.toNat 0)), .int .i64 (DL.num (dlAt l_1 i43.toNat 1)), .int .i64 (DL.num (dlAt l_1 i43.toNat 2)), .slc 16, .slc 17, .int .i64 (DL.num (dlAt l_1 i43.toNat 5)), .int .i64 (DL.num (dlAt l_1 i43.toNat 6))], hW 9001 (.gn 7 l_1)] hnil ?_
                        refine q_k ?_
                        rcases ite_split h with ⟨hc51, h⟩ | ⟨hc51, h⟩
                        · refine tr_cond_t (((IntKind.u64.wrap (DL.num (dlAt l_1 i43.toNat 0))).tmod (9 : Int)) == (2 : Int)) (by kernel_rfl) hc51 ?_
                          obtain ⟨⟨r52, H53⟩, e54, h⟩ := bind_some h
                          refine tr_rg hT [(1, .callA [(14, .rw), (1, .apt 14)] (.v (.one (.int .i64 r52))) [(19, .arena true [14] H53), (14, .dead)])] [sO 1 (.slc 9001), sO 5 (.slc 1), sO 7 (.slc 7), sI 9 .i64 i43, (.h 1, .e (.apt 14 p6)), hO 7 5 .u8 all28, (.h 19, .e (.arena true [14] H53)), hW 9001 (.gn 7 l_1)] (hone ((disk_Disk_Create_ok H42 p6 (2 : Int) (r52, H53) e54).tr1 [(9001, .slc 1), (9000, .slc 14), (8900, .slc 19)] [(14, .arena true [] H42), (1, .apt 14 p6)] ⟨.arena' (bs := []), .apts' (κb := 14), trivial⟩)) ?_
                          refine q_b 4 ?_
                          refine q_b 3 ?_
                          refine q_k ?_
                          refine tr_rg hT [] [sO 1 (.slc 9001), sO 5 (.slc 1), sO 7 (.slc 7), sI 9 .i64 (IntKind.i64.wrap (i43 + (1 : Int))), (.h 1, .e (.apt 14 p6)), hO 7 5 .u8 all28, (.h 19, .e (.arena true [14] H53)), hW 9001 (.gn 7 l_1)] hnil ?_
                          refine q_kr ?_
                          exact trR_ft [(14, .slc 19)] [sO 1 (.slc 9001), sO 5 (.slc 1), sO 7 (.slc 7), sI 9 .i64 (IntKind.i64.wrap (i43 + (1 : Int))), (.h 1, .e (.apt 14 p6)), hO 7 5 .u8 all28, (.h 14, .e (.arena true [] H53)), hW 9001 (.gn 7 l_1)] ⟨.apt' (κb := 14) (κ0 := 19) (rw := true) (bs := [14]) (D := H53), .own', .arena' (bs := [14]), .rows', trivial⟩ (ih1 (H53, (IntKind.i64.wrap (i43 + (1 : Int)))) h)
                        · refine tr_cond_f (((IntKind.u64.wrap (DL.num (dlAt l_1 i43.toNat 0))).tmod (9 : Int)) == (2 : Int)) (by kernel_rfl) hc51 ?_
                          refine tr_seq ?_
                          refine tr_rg hT [] [sO 1 (.slc 9001), sO 5 (.slc 1), sO 7 (.slc 7), sI 9 .i64 i43, sO 10 (.ptr 18 0), sI 11 .i64 (IntKind.i64.wrap ((IntKind.u64.wrap (DL.num (dlAt l_1 i43.toNat 1))).tmod (2 : Int))), sI 12 .i64 r49, sI 94 .u64 ((IntKind.u64.wrap (DL.num (dlAt l_1 i43.toNat 0))).tmod (9 : Int)), sB 104 (((IntKind.u64.wrap (DL.num (dlAt l_1 i43.toNat 0))).tmod (9 : Int)) == (3 : Int)), (.h 1, .e (.apt 14 p6)), hO 7 5 .u8 all28, (.h 14, .e (.arena true [] H42)), hR 16 .u8 (DL.ints (dlAt l_1 i43.toNat 3)), (.h 17, .e (.rdb (DL.boolL (dlAt l_1 i43.toNat 4)))), hB 18 56 [.int .i64 (DL.num (dlAt l_1 i43.toNat 0)), .int .i64 (DL.num (dlAt l_1 i43.toNat 1)), .int .i64 (DL.num (dlAt l_1 i43.toNat 2)), .slc 16, .slc 17, .int .i64 (DL.num (dlAt l_1 i43.toNat 5)), .int .i64 (DL.num (dlAt l_1 i43.toNat 6))], hW 9001 (.gn 7 l_1)] hnil ?_
                          refine q_k ?_
                          rcases ite_split h with ⟨hc55, h⟩ | ⟨hc55, h⟩
                          · refine tr_cond_t (((IntKind.u64.wrap (DL.num (dlAt l_1 i43.toNat 0))).tmod (9 : Int)) == (3 : Int)) (by kernel_rfl) hc55 ?_
                            obtain ⟨⟨r56, H57⟩, e58, h⟩ := bind_some h
                            refine tr_rg hT [(2, .callA [(14, .rw), (1, .apt 14)] (.v (.one (.int .i64 r56))) [(20, .arena true [14] H57), (14, .dead)])] [sO 1 (.slc 9001), sO 5 (.slc 1), sO 7 (.slc 7), sI 9 .i64 i43, (.h 1, .e (.apt 14 p6)), hO 7 5 .u8 all28, (.h 20, .e (.arena true [14] H57)), hW 9001 (.gn 7 l_1)] (hone ((disk_Disk_Sync_ok H42 p6 (IntKind.i64.wrap ((IntKind.u64.wrap (DL.num (dlAt l_1 i43.toNat 1))).tmod (2 : Int))) (r56, H57) e58).tr1 [(9001, .slc 1), (9000, .slc 14), (8900, .slc 20)] [(14, .arena true [] H42), (1, .apt 14 p6)] ⟨.arena' (bs := []), .apts' (κb := 14), trivial⟩)) ?_
                            refine q_b 4 ?_
                            refine q_b 3 ?_
                            refine q_k ?_
                            refine tr_rg hT [] [sO 1 (.slc 9001), sO 5 (.slc 1), sO 7 (.slc 7), sI 9 .i64 (IntKind.i64.wrap (i43 + (1 : Int))), (.h 1, .e (.apt 14 p6)), hO 7 5 .u8 all28, (.h 20, .e (.arena true [14] H57)), hW 9001 (.gn 7 l_1)] hnil ?_
                            refine q_kr ?_
                            exact trR_ft [(14, .slc 20)] [sO 1 (.slc 9001), sO 5 (.slc 1), sO 7 (.slc 7), sI 9 .i64 (IntKind.i64.wrap (i43 + (1 : Int))), (.h 1, .e (.apt 14 p6)), hO 7 5 .u8 all28, (.h 14, .e (.arena true [] H57)), hW 9001 (.gn 7 l_1)] ⟨.apt' (κb := 14) (κ0 := 20) (rw := true) (bs := [14]) (D := H57), .own', .arena' (bs := [14]), .rows', trivial⟩ (ih1 (H57, (IntKind.i64.wrap (i43 + (1 : Int)))) h)
                          · refine tr_cond_f (((IntKind.u64.wrap (DL.num (dlAt l_1 i43.toNat 0))).tmod (9 : Int)) == (3 : Int)) (by kernel_rfl) hc55 ?_
                            refine tr_seq ?_
                            refine tr_rg hT [] [sO 1 (.slc 9001), sO 5 (.slc 1), sO 7 (.slc 7), sI 9 .i64 i43, sO 10 (.ptr 18 0), sI 11 .i64 (IntKind.i64.wrap ((IntKind.u64.wrap (DL.num (dlAt l_1 i43.toNat 1))).tmod (2 : Int))), sI 12 .i64 r49, sI 94 .u64 ((IntKind.u64.wrap (DL.num (dlAt l_1 i43.toNat 0))).tmod (9 : Int)), sB 109 (((IntKind.u64.wrap (DL.num (dlAt l_1 i43.toNat 0))).tmod (9 : Int)) == (4 : Int)), (.h 1, .e (.apt 14 p6)), hO 7 5 .u8 all28, (.h 14, .e (.arena true [] H42)), hR 16 .u8 (DL.ints (dlAt l_1 i43.toNat 3)), (.h 17, .e (.rdb (DL.boolL (dlAt l_1 i43.toNat 4)))), hB 18 56 [.int .i64 (DL.num (dlAt l_1 i43.toNat 0)), .int .i64 (DL.num (dlAt l_1 i43.toNat 1)), .int .i64 (DL.num (dlAt l_1 i43.toNat 2)), .slc 16, .slc 17, .int .i64 (DL.num (dlAt l_1 i43.toNat 5)), .int .i64 (DL.num (dlAt l_1 i43.toNat 6))], hW 9001 (.gn 7 l_1)] hnil ?_
                            refine q_k ?_
                            rcases ite_split h with ⟨hc59, h⟩ | ⟨hc59, h⟩
                            · refine tr_cond_t (((IntKind.u64.wrap (DL.num (dlAt l_1 i43.toNat 0))).tmod (9 : Int)) == (4 : Int)) (by kernel_rfl) hc59 ?_
                              obtain ⟨⟨r60, H61⟩, e62, h⟩ := bind_some h
                              refine tr_rg hT [(3, .callA [(14, .rw), (1, .apt 14)] (.v (.one (.int .i64 r60))) [(21, .arena true [14] H61), (14, .dead)])] [sO 1 (.slc 9001), sO 5 (.slc 1), sO 7 (.slc 7), sI 9 .i64 i43, (.h 1, .e (.apt 14 p6)), hO 7 5 .u8 all28, (.h 21, .e (.arena true [14] H61)), hW 9001 (.gn 7 l_1)] (hone ((disk_Disk_Cut_ok H42 p6 (1 : Int) (DL.num (dlAt l_1 i43.toNat 2)) (r60, H61) e62).tr1 [(9001, .slc 1), (9000, .slc 14), (8900, .slc 21)] [(14, .arena true [] H42), (1, .apt 14 p6)] ⟨.arena' (bs := []), .apts' (κb := 14), trivial⟩)) ?_
                              refine q_b 4 ?_
                              refine q_b 3 ?_
                              refine q_k ?_
                              refine tr_rg hT [] [sO 1 (.slc 9001), sO 5 (.slc 1), sO 7 (.slc 7), sI 9 .i64 (IntKind.i64.wrap (i43 + (1 : Int))), (.h 1, .e (.apt 14 p6)), hO 7 5 .u8 all28, (.h 21, .e (.arena true [14] H61)), hW 9001 (.gn 7 l_1)] hnil ?_
                              refine q_kr ?_
                              exact trR_ft [(14, .slc 21)] [sO 1 (.slc 9001), sO 5 (.slc 1), sO 7 (.slc 7), sI 9 .i64 (IntKind.i64.wrap (i43 + (1 : Int))), (.h 1, .e (.apt 14 p6)), hO 7 5 .u8 all28, (.h 14, .e (.arena true [] H61)), hW 9001 (.gn 7 l_1)] ⟨.apt' (κb := 14) (κ0 := 21) (rw := true) (bs := [14]) (D := H61), .own', .arena' (bs := [14]), .rows', trivial⟩ (ih1 (H61, (IntKind.i64.wrap (i43 + (1 : Int)))) h)
                            · refine tr_cond_f (((IntKind.u64.wrap (DL.num (dlAt l_1 i43.toNat 0))).tmod (9 : Int)) == (4 : Int)) (by kernel_rfl) hc59 ?_
                              refine tr_seq ?_
                              refine tr_rg hT [] [sO 1 (.slc 9001), sO 5 (.slc 1), sO 7 (.slc 7), sI 9 .i64 i43, sO 10 (.ptr 18 0), sI 11 .i64 (IntKind.i64.wrap ((IntKind.u64.wrap (DL.num (dlAt l_1 i43.toNat 1))).tmod (2 : Int))), sI 12 .i64 r49, sI 94 .u64 ((IntKind.u64.wrap (DL.num (dlAt l_1 i43.toNat 0))).tmod (9 : Int)), sB 115 (((IntKind.u64.wrap (DL.num (dlAt l_1 i43.toNat 0))).tmod (9 : Int)) == (5 : Int)), (.h 1, .e (.apt 14 p6)), hO 7 5 .u8 all28, (.h 14, .e (.arena true [] H42)), hR 16 .u8 (DL.ints (dlAt l_1 i43.toNat 3)), (.h 17, .e (.rdb (DL.boolL (dlAt l_1 i43.toNat 4)))), hB 18 56 [.int .i64 (DL.num (dlAt l_1 i43.toNat 0)), .int .i64 (DL.num (dlAt l_1 i43.toNat 1)), .int .i64 (DL.num (dlAt l_1 i43.toNat 2)), .slc 16, .slc 17, .int .i64 (DL.num (dlAt l_1 i43.toNat 5)), .int .i64 (DL.num (dlAt l_1 i43.toNat 6))], hW 9001 (.gn 7 l_1)] hnil ?_
                              refine q_k ?_
                              rcases ite_split h with ⟨hc63, h⟩ | ⟨hc63, h⟩
                              · refine tr_cond_t (((IntKind.u64.wrap (DL.num (dlAt l_1 i43.toNat 0))).tmod (9 : Int)) == (5 : Int)) (by kernel_rfl) hc63 ?_
                                obtain ⟨⟨r64, H65⟩, e66, h⟩ := bind_some h
                                refine tr_rg hT [(1, .callA [(14, .rw), (1, .apt 14)] (.v (.one (.int .i64 r64))) [(22, .arena true [14] H65), (14, .dead)])] [sO 1 (.slc 9001), sO 5 (.slc 1), sO 7 (.slc 7), sI 9 .i64 i43, (.h 1, .e (.apt 14 p6)), hO 7 5 .u8 all28, (.h 22, .e (.arena true [14] H65)), hW 9001 (.gn 7 l_1)] (hone ((disk_Disk_Remove_ok H42 p6 (2 : Int) (r64, H65) e66).tr1 [(9001, .slc 1), (9000, .slc 14), (8900, .slc 22)] [(14, .arena true [] H42), (1, .apt 14 p6)] ⟨.arena' (bs := []), .apts' (κb := 14), trivial⟩)) ?_
                                refine q_b 4 ?_
                                refine q_b 3 ?_
                                refine q_k ?_
                                refine tr_rg hT [] [sO 1 (.slc 9001), sO 5 (.slc 1), sO 7 (.slc 7), sI 9 .i64 (IntKind.i64.wrap (i43 + (1 : Int))), (.h 1, .e (.apt 14 p6)), hO 7 5 .u8 all28, (.h 22, .e (.arena true [14] H65)), hW 9001 (.gn 7 l_1)] hnil ?_
                                refine q_kr ?_
                                exact trR_ft [(14, .slc 22)] [sO 1 (.slc 9001), sO 5 (.slc 1), sO 7 (.slc 7), sI 9 .i64 (IntKind.i64.wrap (i43 + (1 : Int))), (.h 1, .e (.apt 14 p6)), hO 7 5 .u8 all28, (.h 14, .e (.arena true [] H65)), hW 9001 (.gn 7 l_1)] ⟨.apt' (κb := 14) (κ0 := 22) (rw := true) (bs := [14]) (D := H65), .own', .arena' (bs := [14]), .rows', trivial⟩ (ih1 (H65, (IntKind.i64.wrap (i43 + (1 : Int)))) h)
                              · refine tr_cond_f (((IntKind.u64.wrap (DL.num (dlAt l_1 i43.toNat 0))).tmod (9 : Int)) == (5 : Int)) (by kernel_rfl) hc63 ?_
                                refine tr_seq ?_
                                refine tr_rg hT [] [sO 1 (.slc 9001), sO 5 (.slc 1), sO 7 (.slc 7), sI 9 .i64 i43, sO 10 (.ptr 18 0), sI 11 .i64 (IntKind.i64.wrap ((IntKind.u64.wrap (DL.num (dlAt l_1 i43.toNat 1))).tmod (2 : Int))), sI 12 .i64 r49, sI 94 .u64 ((IntKind.u64.wrap (DL.num (dlAt l_1 i43.toNat 0))).tmod (9 : Int)), sB 119 (((IntKind.u64.wrap (DL.num (dlAt l_1 i43.toNat 0))).tmod (9 : Int)) == (6 : Int)), (.h 1, .e (.apt 14 p6)), hO 7 5 .u8 all28, (.h 14, .e (.arena true [] H42)), hR 16 .u8 (DL.ints (dlAt l_1 i43.toNat 3)), (.h 17, .e (.rdb (DL.boolL (dlAt l_1 i43.toNat 4)))), hB 18 56 [.int .i64 (DL.num (dlAt l_1 i43.toNat 0)), .int .i64 (DL.num (dlAt l_1 i43.toNat 1)), .int .i64 (DL.num (dlAt l_1 i43.toNat 2)), .slc 16, .slc 17, .int .i64 (DL.num (dlAt l_1 i43.toNat 5)), .int .i64 (DL.num (dlAt l_1 i43.toNat 6))], hW 9001 (.gn 7 l_1)] hnil ?_
                                refine q_k ?_
                                rcases ite_split h with ⟨hc67, h⟩ | ⟨hc67, h⟩
                                · refine tr_cond_t (((IntKind.u64.wrap (DL.num (dlAt l_1 i43.toNat 0))).tmod (9 : Int)) == (6 : Int)) (by kernel_rfl) hc67 ?_
                                  refine tr_seq ?_
                                  obtain ⟨H68, e69, h⟩ := bind_some h
                                  refine tr_rg hT [(7, .callA [(14, .rw), (1, .apt 14), (17, .same)] (.tup []) [(23, .arena true [14] H68), (14, .dead)])] [sO 1 (.slc 9001), sO 5 (.slc 1), sO 7 (.slc 7), sI 9 .i64 i43, sI 11 .i64 (IntKind.i64.wrap ((IntKind.u64.wrap (DL.num (dlAt l_1 i43.toNat 1))).tmod (2 : Int))), sI 12 .i64 r49, (.h 1, .e (.apt 14 p6)), hO 7 5 .u8 all28, (.h 23, .e (.arena true [14] H68)), hW 9001 (.gn 7 l_1)] (hone ((disk_Disk_Crash_ok H42 p6 (DL.boolL (dlAt l_1 i43.toNat 4)) (DL.num (dlAt l_1 i43.toNat 5)) (DL.num (dlAt l_1 i43.toNat 6)) H68 e69).tr1 [(9001, .slc 1), (9002, .slc 17), (9000, .slc 14), (8900, .slc 23)] [(14, .arena true [] H42), (1, .apt 14 p6), (17, .rdb (DL.boolL (dlAt l_1 i43.toNat 4)))] ⟨.arena' (bs := []), .apts' (κb := 14), .rdb', trivial⟩)) ?_
                                  refine q_k ?_
                                  refine tr_seq ?_
                                  obtain ⟨r70, e71, h⟩ := bind_some h
                                  refine tr_rg hT [(2, .callA [(23, .ro), (1, .apt 23)] (.v (.one (.int .i64 r70))) [])] [sO 1 (.slc 9001), sO 5 (.slc 1), sO 7 (.slc 7), sI 9 .i64 i43, sB 133 (r70 != r49), (.h 1, .e (.apt 14 p6)), hO 7 5 .u8 all28, (.h 23, .e (.arena true [14] H68)), hW 9001 (.gn 7 l_1)] (hone ((disk_Disk_Size_ok H68 p6 (IntKind.i64.wrap ((IntKind.u64.wrap (DL.num (dlAt l_1 i43.toNat 1))).tmod (2 : Int))) r70 e71).tr1 [(9001, .slc 1), (9000, .slc 23)] [(23, .arena false [] H68), (1, .apt 23 p6)] ⟨.arena' (bs := []), .apts' (κb := 23), trivial⟩)) ?_
                                  refine q_k ?_
                                  rcases ite_split h with ⟨hc72, h⟩ | ⟨hc72, h⟩
                                  · refine tr_cond_t (r70 != r49) (by kernel_rfl) hc72 ?_
                                    refine tr_seq ?_
                                    refine tr_rg hT [] [sB 4 false] hnil ?_
                                    refine q_k ?_
                                    refine tr_ret ?_
                                    refine q_b_ret ?_
                                    refine q_b_ret ?_
                                    refine q_k_ret ?_
                                    refine q_kr_ret ?_
                                    have h := Option.some.inj h
                                    subst h
                                    exact q_ls [sB 4 false] (hr1 false _ rfl ⟨by kernel_rfl, by kernel_rfl⟩)
                                  · refine tr_cond_f (r70 != r49) (by kernel_rfl) hc72 ?_
                                    refine tr_skip ?_
                                    refine q_b 4 ?_
                                    refine q_b 3 ?_
                                    refine q_k ?_
                                    refine tr_rg hT [] [sO 1 (.slc 9001), sO 5 (.slc 1), sO 7 (.slc 7), sI 9 .i64 (IntKind.i64.wrap (i43 + (1 : Int))), (.h 1, .e (.apt 14 p6)), hO 7 5 .u8 all28, (.h 23, .e (.arena true [14] H68)), hW 9001 (.gn 7 l_1)] hnil ?_
                                    refine q_kr ?_
                                    exact trR_ft [(14, .slc 23)] [sO 1 (.slc 9001), sO 5 (.slc 1), sO 7 (.slc 7), sI 9 .i64 (IntKind.i64.wrap (i43 + (1 : Int))), (.h 1, .e (.apt 14 p6)), hO 7 5 .u8 all28, (.h 14, .e (.arena true [] H68)), hW 9001 (.gn 7 l_1)] ⟨.apt' (κb := 14) (κ0 := 23) (rw := true) (bs := [14]) (D := H68), .own', .arena' (bs := [14]), .rows', trivial⟩ (ih1 (H68, (IntKind.i64.wrap (i43 + (1 : Int)))) h)
                                · refine tr_cond_f (((IntKind.u64.wrap (DL.num (dlAt l_1 i43.toNat 0))).tmod (9 : Int)) == (6 : Int)) (by kernel_rfl) hc67 ?_
                                  refine tr_seq ?_
                                  refine tr_rg hT [] [sO 1 (.slc 9001), sO 5 (.slc 1), sO 7 (.slc 7), sI 9 .i64 i43, sO 10 (.ptr 18 0), sI 11 .i64 (IntKind.i64.wrap ((IntKind.u64.wrap (DL.num (dlAt l_1 i43.toNat 1))).tmod (2 : Int))), sI 94 .u64 ((IntKind.u64.wrap (DL.num (dlAt l_1 i43.toNat 0))).tmod (9 : Int)), sB 134 (((IntKind.u64.wrap (DL.num (dlAt l_1 i43.toNat 0))).tmod (9 : Int)) == (7 : Int)), (.h 1, .e (.apt 14 p6)), hO 7 5 .u8 all28, (.h 14, .e (.arena true [] H42)), hR 16 .u8 (DL.ints (dlAt l_1 i43.toNat 3)), (.h 17, .e (.rdb (DL.boolL (dlAt l_1 i43.toNat 4)))), hB 18 56 [.int .i64 (DL.num (dlAt l_1 i43.toNat 0)), .int .i64 (DL.num (dlAt l_1 i43.toNat 1)), .int .i64 (DL.num (dlAt l_1 i43.toNat 2)), .slc 16, .slc 17, .int .i64 (DL.num (dlAt l_1 i43.toNat 5)), .int .i64 (DL.num (dlAt l_1 i43.toNat 6))], hW 9001 (.gn 7 l_1)] hnil ?_
                                  refine q_k ?_
                                  rcases ite_split h with ⟨hc73, h⟩ | ⟨hc73, h⟩
                                  · refine tr_cond_t (((IntKind.u64.wrap (DL.num (dlAt l_1 i43.toNat 0))).tmod (9 : Int)) == (7 : Int)) (by kernel_rfl) hc73 ?_
                                    obtain ⟨H74, e75, h⟩ := bind_some h
                                    refine tr_rg hT [(1, .callA [(14, .rw), (1, .apt 14)] (.tup []) [(24, .arena true [14] H74), (14, .dead)])] [sO 1 (.slc 9001), sO 5 (.slc 1), sO 7 (.slc 7), sI 9 .i64 i43, (.h 1, .e (.apt 14 p6)), hO 7 5 .u8 all28, (.h 24, .e (.arena true [14] H74)), hW 9001 (.gn 7 l_1)] (hone ((disk_Disk_Start_ok H42 p6 H74 e75).tr1 [(9001, .slc 1), (9000, .slc 14), (8900, .slc 24)] [(14, .arena true [] H42), (1, .apt 14 p6)] ⟨.arena' (bs := []), .apts' (κb := 14), trivial⟩)) ?_
                                    refine q_b 4 ?_
                                    refine q_b 3 ?_
                                    refine q_k ?_
                                    refine tr_rg hT [] [sO 1 (.slc 9001), sO 5 (.slc 1), sO 7 (.slc 7), sI 9 .i64 (IntKind.i64.wrap (i43 + (1 : Int))), (.h 1, .e (.apt 14 p6)), hO 7 5 .u8 all28, (.h 24, .e (.arena true [14] H74)), hW 9001 (.gn 7 l_1)] hnil ?_
                                    refine q_kr ?_
                                    exact trR_ft [(14, .slc 24)] [sO 1 (.slc 9001), sO 5 (.slc 1), sO 7 (.slc 7), sI 9 .i64 (IntKind.i64.wrap (i43 + (1 : Int))), (.h 1, .e (.apt 14 p6)), hO 7 5 .u8 all28, (.h 14, .e (.arena true [] H74)), hW 9001 (.gn 7 l_1)] ⟨.apt' (κb := 14) (κ0 := 24) (rw := true) (bs := [14]) (D := H74), .own', .arena' (bs := [14]), .rows', trivial⟩ (ih1 (H74, (IntKind.i64.wrap (i43 + (1 : Int)))) h)
                                  · refine tr_cond_f (((IntKind.u64.wrap (DL.num (dlAt l_1 i43.toNat 0))).tmod (9 : Int)) == (7 : Int)) (by kernel_rfl) hc73 ?_
                                    refine tr_seq ?_
                                    refine tr_rg hT [] [sO 1 (.slc 9001), sO 5 (.slc 1), sO 7 (.slc 7), sI 9 .i64 i43, sO 10 (.ptr 18 0), sI 11 .i64 (IntKind.i64.wrap ((IntKind.u64.wrap (DL.num (dlAt l_1 i43.toNat 1))).tmod (2 : Int))), sB 138 (((IntKind.u64.wrap (DL.num (dlAt l_1 i43.toNat 0))).tmod (9 : Int)) == (8 : Int)), (.h 1, .e (.apt 14 p6)), hO 7 5 .u8 all28, (.h 14, .e (.arena true [] H42)), hR 16 .u8 (DL.ints (dlAt l_1 i43.toNat 3)), (.h 17, .e (.rdb (DL.boolL (dlAt l_1 i43.toNat 4)))), hB 18 56 [.int .i64 (DL.num (dlAt l_1 i43.toNat 0)), .int .i64 (DL.num (dlAt l_1 i43.toNat 1)), .int .i64 (DL.num (dlAt l_1 i43.toNat 2)), .slc 16, .slc 17, .int .i64 (DL.num (dlAt l_1 i43.toNat 5)), .int .i64 (DL.num (dlAt l_1 i43.toNat 6))], hW 9001 (.gn 7 l_1)] hnil ?_
                                    refine q_k ?_
                                    rcases ite_split h with ⟨hc76, h⟩ | ⟨hc76, h⟩
                                    · refine tr_cond_t (((IntKind.u64.wrap (DL.num (dlAt l_1 i43.toNat 0))).tmod (9 : Int)) == (8 : Int)) (by kernel_rfl) hc76 ?_
                                      obtain ⟨H77, e78, h⟩ := bind_some h
                                      refine tr_rg hT [(9, .callA [(14, .rw), (1, .apt 14), (17, .same)] (.tup []) [(25, .arena true [14] H77), (14, .dead)])] [sO 1 (.slc 9001), sO 5 (.slc 1), sO 7 (.slc 7), sI 9 .i64 i43, (.h 1, .e (.apt 14 p6)), hO 7 5 .u8 all28, (.h 25, .e (.arena true [14] H77)), hW 9001 (.gn 7 l_1)] (hone ((disk_Disk_Trip_ok H42 p6 (DL.num (dlAt l_1 i43.toNat 2)) (DL.boolL (dlAt l_1 i43.toNat 4)) (DL.num (dlAt l_1 i43.toNat 5)) (DL.num (dlAt l_1 i43.toNat 6)) H77 e78).tr1 [(9001, .slc 1), (9002, .slc 17), (9000, .slc 14), (8900, .slc 25)] [(14, .arena true [] H42), (1, .apt 14 p6), (17, .rdb (DL.boolL (dlAt l_1 i43.toNat 4)))] ⟨.arena' (bs := []), .apts' (κb := 14), .rdb', trivial⟩)) ?_
                                      refine q_b 4 ?_
                                      refine q_b 3 ?_
                                      refine q_k ?_
                                      refine tr_rg hT [] [sO 1 (.slc 9001), sO 5 (.slc 1), sO 7 (.slc 7), sI 9 .i64 (IntKind.i64.wrap (i43 + (1 : Int))), (.h 1, .e (.apt 14 p6)), hO 7 5 .u8 all28, (.h 25, .e (.arena true [14] H77)), hW 9001 (.gn 7 l_1)] hnil ?_
                                      refine q_kr ?_
                                      exact trR_ft [(14, .slc 25)] [sO 1 (.slc 9001), sO 5 (.slc 1), sO 7 (.slc 7), sI 9 .i64 (IntKind.i64.wrap (i43 + (1 : Int))), (.h 1, .e (.apt 14 p6)), hO 7 5 .u8 all28, (.h 14, .e (.arena true [] H77)), hW 9001 (.gn 7 l_1)] ⟨.apt' (κb := 14) (κ0 := 25) (rw := true) (bs := [14]) (D := H77), .own', .arena' (bs := [14]), .rows', trivial⟩ (ih1 (H77, (IntKind.i64.wrap (i43 + (1 : Int)))) h)
                                    · refine tr_cond_f (((IntKind.u64.wrap (DL.num (dlAt l_1 i43.toNat 0))).tmod (9 : Int)) == (8 : Int)) (by kernel_rfl) hc76 ?_
                                      obtain ⟨⟨r79, H80⟩, e81, h⟩ := bind_some h
                                      refine tr_rg hT [(4, .callA [(14, .rw), (1, .apt 14), (16, .same)] (.v (.one (.int .i64 r79))) [(26, .arena true [14] H80), (14, .dead)])] [sO 1 (.slc 9001), sO 5 (.slc 1), sO 7 (.slc 7), sI 9 .i64 i43, (.h 1, .e (.apt 14 p6)), hO 7 5 .u8 all28, (.h 26, .e (.arena true [14] H80)), hW 9001 (.gn 7 l_1)] (hone ((disk_Disk_Append_ok H42 p6 (IntKind.i64.wrap ((IntKind.u64.wrap (DL.num (dlAt l_1 i43.toNat 1))).tmod (2 : Int))) (DL.ints (dlAt l_1 i43.toNat 3)) (r79, H80) e81).tr1 [(9001, .slc 1), (9002, .slc 16), (9000, .slc 14), (8900, .slc 26)] [(14, .arena true [] H42), (1, .apt 14 p6), (16, .rd .u8 (DL.ints (dlAt l_1 i43.toNat 3)))] ⟨.arena' (bs := []), .apts' (κb := 14), .rd', trivial⟩)) ?_
                                      refine q_b 4 ?_
                                      refine q_b 3 ?_
                                      refine q_k ?_
                                      refine tr_rg hT [] [sO 1 (.slc 9001), sO 5 (.slc 1), sO 7 (.slc 7), sI 9 .i64 (IntKind.i64.wrap (i43 + (1 : Int))), (.h 1, .e (.apt 14 p6)), hO 7 5 .u8 all28, (.h 26, .e (.arena true [14] H80)), hW 9001 (.gn 7 l_1)] hnil ?_
                                      refine q_kr ?_
                                      exact trR_ft [(14, .slc 26)] [sO 1 (.slc 9001), sO 5 (.slc 1), sO 7 (.slc 7), sI 9 .i64 (IntKind.i64.wrap (i43 + (1 : Int))), (.h 1, .e (.apt 14 p6)), hO 7 5 .u8 all28, (.h 14, .e (.arena true [] H80)), hW 9001 (.gn 7 l_1)] ⟨.apt' (κb := 14) (κ0 := 26) (rw := true) (bs := [14]) (D := H80), .own', .arena' (bs := [14]), .rows', trivial⟩ (ih1 (H80, (IntKind.i64.wrap (i43 + (1 : Int)))) h)
                      · refine tr_cond_f (decide (i43 < (50 : Int))) (by kernel_rfl) hc46 ?_
                        refine tr_exit ?_
                        refine q_k_exit ?_
                        refine q_kr_exit ?_
                        have h := Option.some.inj h
                        subst h
                        exact q_ft [(15, .slc 14)] [sO 5 (.slc 1), sO 7 (.slc 7), (.h 1, .e (.apt 15 p6)), hO 7 5 .u8 all28, (.h 15, .e (.arena true [] H42))] ⟨.apt' (κb := 14) (κ0 := 14) (rw := true) (bs := []) (D := H42), .own', .arena' (bs := []), trivial⟩ (hx1 H42 rfl)
                    · refine tr_rg hT [(4, .dec false)] [sO 1 (.slc 9001), sO 5 (.slc 1), sO 7 (.slc 7), sI 9 .i64 i43, sB 76 false, (.h 1, .e (.apt 14 p6)), hO 7 5 .u8 all28, (.h 14, .e (.arena true [] H42)), hW 9001 (.gn 7 l_1)] (hone hb82) ?_
                      refine q_k ?_
                      refine tr_cond_f false (by kernel_rfl) rfl ?_
                      refine tr_exit ?_
                      refine q_k_exit ?_
                      refine q_kr_exit ?_
                      have h := Option.some.inj h
                      subst h
                      exact q_ft [(15, .slc 14)] [sO 5 (.slc 1), sO 7 (.slc 7), (.h 1, .e (.apt 15 p6)), hO 7 5 .u8 all28, (.h 15, .e (.arena true [] H42))] ⟨.apt' (κb := 14) (κ0 := 14) (rw := true) (bs := []) (D := H42), .own', .arena' (bs := []), trivial⟩ (hx1 H42 rfl)
              · intro v σ hz hv
                subst hz
                have h := Option.some.inj h
                subst h
                refine q_b_ret ?_
                refine q_k_ret ?_
                exact q_ret1 hT _ _ hv.1 hv.2 (by kernel_rfl)
              · clear h e37
                intro k ih0 hx0 hr0 z h
                rcases z with ⟨H24, all25, i26⟩
                replace h : (if (decide (i26 < (↑(List.length rows_0) : Int))) = true then if 0 ≤ i26 ∧ i26 < ↑(List.length rows_0) then if (decide ((↑(List.length (rows_0.getD i26.toNat [])) : Int) > (300 : Int))) = true then some (.inr true) else (disk_Disk_Append H24 p6 (0 : Int) (rows_0.getD i26.toNat [])).bind (fun (r32, H33) => if (r32 != (0 : Int)) = true then some (.inr false) else if List.length (all25 ++ (rows_0.getD i26.toNat [])) ≤ maxN then law14_DiskSafe_l0 rows_0 l_1 p6 k H33 (all25 ++ (rows_0.getD i26.toNat [])) (IntKind.i64.wrap (i26 + (1 : Int))) else none) else none else some (.inl (H24, all25))) = _ := h
                refine tr_seq ?_
                refine tr_seq ?_
                refine tr_rg hT [] [sO 0 (.slc 9000), sO 1 (.slc 9001), sO 5 (.slc 1), sO 7 (.slc 5), sI 8 .i64 i26, sB 44 (decide (i26 < (↑(List.length rows_0) : Int))), (.h 1, .e (.apt 4 p6)), (.h 4, .e (.arena true [] H24)), hO 5 5 .u8 all25, hW 9000 (.bs .u8 rows_0), hW 9001 (.gn 7 l_1)] hnil ?_
                refine q_k ?_
                rcases ite_split h with ⟨hc29, h⟩ | ⟨hc29, h⟩
                · refine tr_cond_t (decide (i26 < (↑(List.length rows_0) : Int))) (by kernel_rfl) hc29 ?_
                  refine tr_skip ?_
                  refine q_k ?_
                  refine tr_seq ?_
                  refine tr_block ?_
                  refine tr_seq ?_
                  refine tr_seq ?_
                  obtain ⟨hn30, h⟩ := ite_some h
                  refine tr_rg hT [(3, .key 8)] [sO 0 (.slc 9000), sO 1 (.slc 9001), sO 5 (.slc 1), sO 7 (.slc 5), sI 8 .i64 i26, sB 52 (decide ((↑(List.length (rows_0.getD i26.toNat [])) : Int) > (300 : Int))), (.h 1, .e (.apt 4 p6)), (.h 4, .e (.arena true [] H24)), hO 5 5 .u8 all25, hW 9000 (.bs .u8 rows_0), hW 9001 (.gn 7 l_1)] (hcons hn30 (hone hn30.2)) ?_
                  refine q_k ?_
                  rcases ite_split h with ⟨hc31, h⟩ | ⟨hc31, h⟩
                  · refine tr_cond_t (decide ((↑(List.length (rows_0.getD i26.toNat [])) : Int) > (300 : Int))) (by kernel_rfl) hc31 ?_
                    refine tr_seq ?_
                    refine tr_rg hT [] [sB 4 true] hnil ?_
                    refine q_k ?_
                    refine tr_ret ?_
                    refine q_k_ret ?_
                    refine q_b_ret ?_
                    refine q_k_ret ?_
                    refine q_kr_ret ?_
                    have h := Option.some.inj h
                    subst h
                    exact q_ls [sB 4 true] (hr0 true _ rfl ⟨by kernel_rfl, by kernel_rfl⟩)
                  · refine tr_cond_f (decide ((↑(List.length (rows_0.getD i26.toNat [])) : Int) > (300 : Int))) (by kernel_rfl) hc31 ?_
                    refine tr_skip ?_
                    refine q_k ?_
                    refine tr_seq ?_
                    refine tr_seq ?_
                    obtain ⟨⟨r32, H33⟩, e34, h⟩ := bind_some h
                    refine tr_rg hT [(4, .key 9), (5, .callA [(4, .rw), (1, .apt 4), (9, .same)] (.v (.one (.int .i64 r32))) [(10, .arena true [4] H33), (4, .dead)])] [sO 0 (.slc 9000), sO 1 (.slc 9001), sO 5 (.slc 1), sO 7 (.slc 5), sI 8 .i64 i26, sB 59 (r32 != (0 : Int)), (.h 1, .e (.apt 4 p6)), hO 5 5 .u8 all25, (.h 10, .e (.arena true [4] H33)), hW 9000 (.bs .u8 rows_0), hW 9001 (.gn 7 l_1)] (hcons hn30 (hcons hn30.2 (hone ((disk_Disk_Append_ok H24 p6 (0 : Int) (rows_0.getD i26.toNat []) (r32, H33) e34).tr1 [(9001, .slc 1), (9002, .slc 9), (9000, .slc 4), (8900, .slc 10)] [(4, .arena true [] H24), (1, .apt 4 p6), (9, .rd .u8 (rows_0.getD i26.toNat []))] ⟨.arena' (bs := []), .apts' (κb := 4), .rd', trivial⟩)))) ?_
                    refine q_k ?_
                    rcases ite_split h with ⟨hc35, h⟩ | ⟨hc35, h⟩
                    · refine tr_cond_t (r32 != (0 : Int)) (by kernel_rfl) hc35 ?_
                      refine tr_seq ?_
                      refine tr_rg hT [] [sB 4 false] hnil ?_
                      refine q_k ?_
                      refine tr_ret ?_
                      refine q_k_ret ?_
                      refine q_b_ret ?_
                      refine q_k_ret ?_
                      refine q_kr_ret ?_
                      have h := Option.some.inj h
                      subst h
                      exact q_ls [sB 4 false] (hr0 false _ rfl ⟨by kernel_rfl, by kernel_rfl⟩)
                    · refine tr_cond_f (r32 != (0 : Int)) (by kernel_rfl) hc35 ?_
                      refine tr_skip ?_
                      refine q_k ?_
                      obtain ⟨hn36, h⟩ := ite_some h
                      refine tr_rg hT [(4, .key 11), (5, .key 12)] [sO 0 (.slc 9000), sO 1 (.slc 9001), sO 5 (.slc 1), sO 7 (.slc 12), sI 8 .i64 i26, (.h 1, .e (.apt 4 p6)), (.h 10, .e (.arena true [4] H33)), hO 12 5 .u8 (all25 ++ (rows_0.getD i26.toNat [])), hW 9000 (.bs .u8 rows_0), hW 9001 (.gn 7 l_1)] (hcons hn30 (hcons hn30.2 (hone hn36))) ?_
                      refine q_b 1 ?_
                      refine q_k ?_
                      refine tr_rg hT [] [sO 0 (.slc 9000), sO 1 (.slc 9001), sO 5 (.slc 1), sO 7 (.slc 12), sI 8 .i64 (IntKind.i64.wrap (i26 + (1 : Int))), (.h 1, .e (.apt 4 p6)), (.h 10, .e (.arena true [4] H33)), hO 12 5 .u8 (all25 ++ (rows_0.getD i26.toNat [])), hW 9000 (.bs .u8 rows_0), hW 9001 (.gn 7 l_1)] hnil ?_
                      refine q_kr ?_
                      exact trR_ft [(4, .slc 10), (5, .slc 12)] [sO 0 (.slc 9000), sO 1 (.slc 9001), sO 5 (.slc 1), sO 7 (.slc 5), sI 8 .i64 (IntKind.i64.wrap (i26 + (1 : Int))), (.h 1, .e (.apt 4 p6)), (.h 4, .e (.arena true [] H33)), hO 5 5 .u8 (all25 ++ (rows_0.getD i26.toNat [])), hW 9000 (.bs .u8 rows_0), hW 9001 (.gn 7 l_1)] ⟨.apt' (κb := 4) (κ0 := 10) (rw := true) (bs := [4]) (D := H33), .arena' (bs := [4]), .own', .rows', .rows', trivial⟩ (ih0 (H33, (all25 ++ (rows_0.getD i26.toNat [])), (IntKind.i64.wrap (i26 + (1 : Int)))) h)
                · refine tr_cond_f (decide (i26 < (↑(List.length rows_0) : Int))) (by kernel_rfl) hc29 ?_
                  refine tr_exit ?_
                  refine q_k_exit ?_
                  refine q_kr_exit ?_
                  have h := Option.some.inj h
                  subst h
                  exact q_ft [(6, .slc 4), (7, .slc 5)] [sO 1 (.slc 9001), sO 5 (.slc 1), sO 7 (.slc 7), (.h 1, .e (.apt 6 p6)), (.h 6, .e (.arena true [] H24)), hO 7 5 .u8 all25, hW 9001 (.gn 7 l_1)] ⟨.apt' (κb := 4) (κ0 := 4) (rw := true) (bs := []) (D := H24), .arena' (bs := []), .own', .rows', trivial⟩ (hx0 (H24, all25) rfl)

end Go.Proofs.Sd
