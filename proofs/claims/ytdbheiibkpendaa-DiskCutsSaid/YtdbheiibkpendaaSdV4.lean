/- Walks, printed by a program of this session (gowalk.py): each Go function comes to its plain function's answer. -/
import Derived.Test.YtdbheiibkpendaaSdA
import Derived.Test.YtdbheiibkpendaaSdD
import Derived.Test.YtdbheiibkpendaaMSdS
import Derived.Test.YtdbheiibkpendaaSdV0
import Derived.Test.YtdbheiibkpendaaSdV1
import Derived.Test.YtdbheiibkpendaaSdV2
import Derived.Test.YtdbheiibkpendaaSdV3
namespace Go.Proofs.Sd
open Go Go.Gw D
set_option linter.unusedVariables false
set_option maxRecDepth 20000

theorem disk_Disk_Cut_ok (H_0 : AH) (d_1 : MV) (n_2 : Int) (size_3 : Int) (r : Int × AH) (h : disk_Disk_Cut H_0 d_1 n_2 size_3 = some r) : CallOk P 29 [.v (.one (.slc 9001)), .v (.one (.int .i64 n_2)), .v (.one (.int .i64 size_3))] [(9000, .arena true [] H_0), (9001, .apt 9000 d_1)] (.v (.one (.int .i64 r.1))) [(8900, .arena true [9000] r.2), (9000, .dead)] := by
  refine call1 (N := 48) Try.func29 (by kernel_rfl) rfl rfl rfl [(9000, .arena true [] H_0), (9001, .apt 9000 d_1)] (by kernel_rfl) ?_
  intro _ B w0
  show Tr P B 48 w0 _ _ (RetQ P Try.f29 (R1 _ _ B w0))
  unfold disk_Disk_Cut at h
  refine tr_seq ?_
  refine tr_rg hT [] [sO 0 (.slc 9001), sI 1 .i64 n_2, sI 2 .i64 size_3, (.h 9000, .e (.arena true [] H_0)), (.h 9001, .e (.apt 9000 d_1))] hnil ?_
  refine q_k ?_
  refine tr_seq ?_
  obtain ⟨⟨p1, r2⟩, e3, h⟩ := bind_some h
  refine tr_rg hT [(2, .callA [(9000, .ro), (9001, .apt 9000)] (.tup [.one (.slc 0), .one (.int .i64 r2)]) [(0, .apt 9000 p1)])] [sO 0 (.slc 9001), sI 2 .i64 size_3, sO 7 (.slc 0), sI 8 .i64 r2, (.h 0, .e (.apt 9000 p1)), (.h 9000, .e (.arena true [] H_0)), (.h 9001, .e (.apt 9000 d_1))] (hone ((disk_Disk_find_ok H_0 d_1 n_2 (p1, r2) e3).tr1 [(9001, .slc 9001), (9000, .slc 9000), (8900, .slc 0)] [(9000, .arena false [] H_0), (9001, .apt 9000 d_1)] ⟨.arena' (bs := []), .apts' (κb := 9000), trivial⟩)) ?_
  refine q_k ?_
  refine tr_seq ?_
  refine tr_block ?_
  refine tr_seq ?_
  refine tr_rg hT [] [sO 0 (.slc 9001), sI 2 .i64 size_3, sO 7 (.slc 0), sI 8 .i64 r2, sB 15 (r2 != (0 : Int)), (.h 0, .e (.apt 9000 p1)), (.h 9000, .e (.arena true [] H_0)), (.h 9001, .e (.apt 9000 d_1))] hnil ?_
  refine q_k ?_
  rcases ite_split h with ⟨hc4, h⟩ | ⟨hc4, h⟩
  · refine tr_cond_t (r2 != (0 : Int)) (by kernel_rfl) hc4 ?_
    refine tr_seq ?_
    refine tr_rg hT [] [sI 6 .i64 r2, (.h 9000, .e (.arena true [] H_0))] hnil ?_
    refine q_k ?_
    refine tr_ret ?_
    refine q_b_ret ?_
    refine q_k_ret ?_
    have h := Option.some.inj h
    subst h
    refine q_ft [(8900, .slc 9000)] [sI 6 .i64 r2, (.h 8900, .e (.arena true [9000] H_0)), hD 9000] ⟨.arena' (bs := []), .dead, trivial⟩ ?_
    exact q_ret1 hT (.v (.one (.int .i64 r2))) [(8900, .arena true [9000] H_0), (9000, .dead)] (by kernel_rfl) (by kernel_rfl) (by kernel_rfl)
  · refine tr_cond_f (r2 != (0 : Int)) (by kernel_rfl) hc4 ?_
    refine tr_seq ?_
    rcases ite_split h with ⟨hb5, h⟩ | ⟨hb6, h⟩
    · refine tr_rg hT [(2, .dec true)] [sO 0 (.slc 9001), sI 2 .i64 size_3, sO 7 (.slc 0), sB 19 true, (.h 0, .e (.apt 9000 p1)), (.h 9000, .e (.arena true [] H_0)), (.h 9001, .e (.apt 9000 d_1))] (hone hb5) ?_
      refine q_k ?_
      refine tr_cond_t true (by kernel_rfl) rfl ?_
      refine tr_seq ?_
      refine tr_rg hT [] [sI 6 .i64 (1 : Int), (.h 9000, .e (.arena true [] H_0))] hnil ?_
      refine q_k ?_
      refine tr_ret ?_
      refine q_b_ret ?_
      refine q_k_ret ?_
      have h := Option.some.inj h
      subst h
      refine q_ft [(8900, .slc 9000)] [sI 6 .i64 (1 : Int), (.h 8900, .e (.arena true [9000] H_0)), hD 9000] ⟨.arena' (bs := []), .dead, trivial⟩ ?_
      exact q_ret1 hT (.v (.one (.int .i64 (1 : Int)))) [(8900, .arena true [9000] H_0), (9000, .dead)] (by kernel_rfl) (by kernel_rfl) (by kernel_rfl)
    · obtain ⟨hn7, h⟩ := ite_some h
      obtain ⟨hn8, h⟩ := ite_some h
      obtain ⟨hn9, h⟩ := ite_some h
      refine tr_rg hT [(2, .dec false), (5, .ar 9000 []), (6, .ar 9000 []), (7, .ar 9000 [1]), (8, .ar 9000 [])] [sO 0 (.slc 9001), sI 2 .i64 size_3, sO 7 (.slc 0), sB 19 (decide (size_3 > (↑(MV.len (AH.rd H_0 p1 0)) : Int))), (.h 0, .e (.apt 9000 p1)), (.h 9000, .e (.arena true [] H_0)), (.h 9001, .e (.apt 9000 d_1))] (hcons hb6 (hcons hn7 (hcons hn7 (hcons hn8 (hone hn9))))) ?_
      refine q_k ?_
      rcases ite_split h with ⟨hc10, h⟩ | ⟨hc10, h⟩
      · refine tr_cond_t (decide (size_3 > (↑(MV.len (AH.rd H_0 p1 0)) : Int))) (by kernel_rfl) hc10 ?_
        refine tr_seq ?_
        refine tr_rg hT [] [sI 6 .i64 (1 : Int), (.h 9000, .e (.arena true [] H_0))] hnil ?_
        refine q_k ?_
        refine tr_ret ?_
        refine q_b_ret ?_
        refine q_k_ret ?_
        have h := Option.some.inj h
        subst h
        refine q_ft [(8900, .slc 9000)] [sI 6 .i64 (1 : Int), (.h 8900, .e (.arena true [9000] H_0)), hD 9000] ⟨.arena' (bs := []), .dead, trivial⟩ ?_
        exact q_ret1 hT (.v (.one (.int .i64 (1 : Int)))) [(8900, .arena true [9000] H_0), (9000, .dead)] (by kernel_rfl) (by kernel_rfl) (by kernel_rfl)
      · refine tr_cond_f (decide (size_3 > (↑(MV.len (AH.rd H_0 p1 0)) : Int))) (by kernel_rfl) hc10 ?_
        refine tr_skip ?_
        refine q_b 0 ?_
        refine q_k ?_
        refine tr_seq ?_
        obtain ⟨⟨r11, H12⟩, e13, h⟩ := bind_some h
        refine tr_rg hT [(1, .callA [(9000, .rw), (9001, .apt 9000)] (.v (.one (.int .i64 r11))) [(2, .arena true [9000] H12), (9000, .dead)])] [sI 2 .i64 size_3, sO 7 (.slc 0), sI 8 .i64 r11, (.h 0, .e (.apt 9000 p1)), (.h 2, .e (.arena true [9000] H12))] (hone ((disk_Disk_spend_ok H_0 d_1 (r11, H12) e13).tr1 [(9001, .slc 9001), (9000, .slc 9000), (8900, .slc 2)] [(9000, .arena true [] H_0), (9001, .apt 9000 d_1)] ⟨.arena' (bs := []), .apts' (κb := 9000), trivial⟩)) ?_
        refine q_k ?_
        refine tr_seq ?_
        refine tr_seq ?_
        refine tr_rg hT [] [sI 2 .i64 size_3, sO 7 (.slc 0), sI 8 .i64 r11, sB 34 (r11 == (0 : Int)), (.h 0, .e (.apt 9000 p1)), (.h 2, .e (.arena true [9000] H12))] hnil ?_
        refine q_k ?_
        obtain ⟨H14, e26, h⟩ := bind_some h
        refine tr_join (σ1 := [sI 8 .i64 r11, (.h 43, .e (.arena true [9000] H14))]) ?_ ?_
        · skip
          replace h : (some (r11, H14)) = _ := h
          refine q_k ?_
          refine tr_seq ?_
          refine tr_rg hT [] [sI 6 .i64 r11, (.h 43, .e (.arena true [9000] H14))] hnil ?_
          refine q_k ?_
          refine tr_ret ?_
          have h := Option.some.inj h
          subst h
          refine q_ft [(8900, .slc 43)] [sI 6 .i64 r11, (.h 8900, .e (.arena true [9000] H14)), hD 9000] ⟨.arena' (bs := [9000]), .dead, trivial⟩ ?_
          exact q_ret1 hT (.v (.one (.int .i64 r11))) [(8900, .arena true [9000] H14), (9000, .dead)] (by kernel_rfl) (by kernel_rfl) (by kernel_rfl)
        · intro hj0
          clear h
          have h := e26
          clear e26
          rcases ite_split h with ⟨hc15, h⟩ | ⟨hc15, h⟩
          · refine tr_cond_t (r11 == (0 : Int)) (by kernel_rfl) hc15 ?_
            refine tr_seq ?_
            obtain ⟨hn16, h⟩ := ite_some h
            obtain ⟨hn17, h⟩ := ite_some h
            obtain ⟨hn18, h⟩ := ite_some h
            obtain ⟨hn19, h⟩ := ite_some h
            obtain ⟨hn20, h⟩ := ite_some h
            obtain ⟨hn23, h⟩ := ite_some h
            obtain ⟨a21, e22, h⟩ := bind_some h
            refine tr_rg hT [(2, .ar 2 []), (3, .ar 2 []), (4, .ar 2 [44]), (6, .ar 2 [45]), (7, .callA [(45, .rd .u8 2)] (.v (.one (.slc 46))) [(46, .own 5 .u8 a21)]), (8, .ar 2 []), (9, .ar 2 []), (10, .ar 2 [47])] [sO 7 (.slc 0), sI 8 .i64 r11, (.h 0, .e (.apt 9000 p1)), (.h 47, .e (.arena true [2, 9000] (AH.wr (H12 ++ [MO.row 5 1 (a21.map (MV.int .u8))]) p1 0 [MV.slc (List.length H12) 1 0 (List.length a21)])))] (hcons hn16 (hcons hn16 (hcons hn17 (hcons hn18 (hcons hn19 (hcons hn20 (hcons hn23 (hcons ((slices_Clone_byte_byte_ok (AH.ints H12 (MV.sub (AH.rd H12 p1 0) 0 size_3.toNat)) a21 e22).tr1 [(9000, .slc 45), (8900, .slc 46)] [(45, .rd .u8 (AH.ints H12 (MV.sub (AH.rd H12 p1 0) 0 size_3.toNat)))] ⟨.rd', trivial⟩) (hcons hn16 (hcons hn16 (hcons hn17 (hone (show 1 ≤ 1 from by decide))))))))))))) ?_
            refine q_k ?_
            obtain ⟨H24, e25, h⟩ := bind_some h
            refine tr_rg hT [(1, .callA [(47, .rw), (0, .apt 47)] (.tup []) [(48, .arena true [47] H24), (47, .dead)])] [sI 8 .i64 r11, (.h 48, .e (.arena true [47, 2, 9000] H24))] (hone ((disk_file_settle_ok (AH.wr (H12 ++ [MO.row 5 1 (a21.map (MV.int .u8))]) p1 0 [MV.slc (List.length H12) 1 0 (List.length a21)]) p1 H24 e25).tr1 [(9001, .slc 0), (9000, .slc 47), (8900, .slc 48)] [(47, .arena true [] (AH.wr (H12 ++ [MO.row 5 1 (a21.map (MV.int .u8))]) p1 0 [MV.slc (List.length H12) 1 0 (List.length a21)])), (0, .apt 47 p1)] ⟨.arena' (bs := []), .apts' (κb := 47), trivial⟩)) ?_
            have h := Option.some.inj h
            subst h
            exact q_ft [(43, .slc 48)] [sI 8 .i64 r11, (.h 43, .e (.arena true [9000] H24))] ⟨.arena' (bs := [47, 2, 9000]), trivial⟩ hj0
          · refine tr_cond_f (r11 == (0 : Int)) (by kernel_rfl) hc15 ?_
            refine tr_skip ?_
            have h := Option.some.inj h
            subst h
            exact q_ft [(43, .slc 2)] [sI 8 .i64 r11, (.h 43, .e (.arena true [9000] H12))] ⟨.arena' (bs := [9000]), trivial⟩ hj0

theorem keep_Twin_ok (b_0 : List Int) (r : List Int) (h : keep_Twin b_0 = some r) : CallOk P 30 [.v (.one (.slc 9000))] [(9000, .rd .u8 b_0)] (.v (.one (.slc 8900))) [(8900, .own 5 .u8 r)] := by
  refine call1 (N := 7) Try.func30 (by kernel_rfl) rfl rfl rfl [(9000, .rd .u8 b_0)] (by kernel_rfl) ?_
  intro _ B w0
  show Tr P B 7 w0 _ _ (RetQ P Try.f30 (R1 _ _ B w0))
  unfold keep_Twin at h
  refine tr_seq ?_
  refine tr_rg hT [] [sO 0 (.slc 9000), hR 9000 .u8 b_0] hnil ?_
  refine q_k ?_
  refine tr_seq ?_
  refine tr_rg hT [] [sO 0 (.slc 9000), sO 3 (.nils), hR 9000 .u8 b_0] hnil ?_
  refine q_k ?_
  refine tr_seq ?_
  obtain ⟨hn1, h⟩ := ite_some h
  refine tr_rg hT [(2, .key 0)] [sO 2 (.slc 0), hO 0 5 .u8 b_0] (hone hn1) ?_
  refine q_k ?_
  refine tr_ret ?_
  have h := Option.some.inj h
  subst h
  refine q_ft [(8900, .slc 0)] [sO 2 (.slc 8900), hO 8900 5 .u8 b_0] ⟨.own', trivial⟩ ?_
  exact q_ret1 hT (.v (.one (.slc 8900))) [(8900, .own 5 .u8 b_0)] (by kernel_rfl) (by kernel_rfl) (by kernel_rfl)

theorem law14_DiskCuts_ok (a_0 : List Int) (b_1 : List Int) (at_2 : Int) (r : Bool) (h : law14_DiskCuts a_0 b_1 at_2 = some r) : CallOk P 8 [.v (.one (.slc 9000)), .v (.one (.slc 9001)), .v (.one (.int .i64 at_2))] [(9000, .rd .u8 a_0), (9001, .rd .u8 b_1)] (.v (.one (.bool r))) [] := by
  refine call1 (N := 148) Try.func8 (by kernel_rfl) rfl rfl rfl [(9000, .rd .u8 a_0), (9001, .rd .u8 b_1)] (by kernel_rfl) ?_
  intro _ B w0
  show Tr P B 148 w0 _ _ (RetQ P Try.f8 (R1 _ _ B w0))
  unfold law14_DiskCuts at h
  refine tr_seq ?_
  refine tr_rg hT [] [sO 0 (.slc 9000), sO 1 (.slc 9001), sI 2 .i64 at_2, hR 9000 .u8 a_0, hR 9001 .u8 b_1] hnil ?_
  refine q_k ?_
  refine tr_seq ?_
  refine tr_seq ?_
  rcases ite_split h with ⟨hb1, h⟩ | ⟨hb2, h⟩
  · refine tr_rg hT [(3, .dec true)] [sO 0 (.slc 9000), sO 1 (.slc 9001), sI 2 .i64 at_2, sB 17 true, hR 9000 .u8 a_0, hR 9001 .u8 b_1] (hone hb1) ?_
    refine q_k ?_
    refine tr_cond_t true (by kernel_rfl) rfl ?_
    refine tr_seq ?_
    refine tr_rg hT [] [sB 6 true] hnil ?_
    refine q_k ?_
    refine tr_ret ?_
    refine q_k_ret ?_
    have h := Option.some.inj h
    subst h
    refine q_ls [sB 6 true] ?_
    exact q_ret1 hT (.v (.one (.bool true))) [] (by kernel_rfl) (by kernel_rfl) (by kernel_rfl)
  · refine tr_rg hT [(3, .dec false)] [sO 0 (.slc 9000), sO 1 (.slc 9001), sI 2 .i64 at_2, sB 17 (decide ((↑(List.length b_1) : Int) > (300 : Int))), hR 9000 .u8 a_0, hR 9001 .u8 b_1] (hone hb2) ?_
    refine q_k ?_
    rcases ite_split h with ⟨hc3, h⟩ | ⟨hc3, h⟩
    · refine tr_cond_t (decide ((↑(List.length b_1) : Int) > (300 : Int))) (by kernel_rfl) hc3 ?_
      refine tr_seq ?_
      refine tr_rg hT [] [sB 6 true] hnil ?_
      refine q_k ?_
      refine tr_ret ?_
      refine q_k_ret ?_
      have h := Option.some.inj h
      subst h
      refine q_ls [sB 6 true] ?_
      exact q_ret1 hT (.v (.one (.bool true))) [] (by kernel_rfl) (by kernel_rfl) (by kernel_rfl)
    · refine tr_cond_f (decide ((↑(List.length b_1) : Int) > (300 : Int))) (by kernel_rfl) hc3 ?_
      refine tr_skip ?_
      refine q_k ?_
      refine tr_seq ?_
      obtain ⟨⟨p4, r5, H6⟩, e7, h⟩ := bind_some h
      refine tr_rg hT [(0, .callA [] (.tup [.one (.slc 1), .one (.int .i64 r5)]) [(1, .apt 0 p4), (0, .arena true [] H6)])] [sO 0 (.slc 9000), sO 1 (.slc 9001), sI 2 .i64 at_2, sO 7 (.slc 1), sI 8 .i64 r5, (.h 0, .e (.arena true [] H6)), (.h 1, .e (.apt 0 p4)), hR 9000 .u8 a_0, hR 9001 .u8 b_1] (hone ((disk_New_ok (131072 : Int) (p4, r5, H6) e7).tr1 [(8901, .slc 0), (8900, .slc 1)] [] trivial)) ?_
      refine q_k ?_
      refine tr_seq ?_
      refine tr_seq ?_
      rcases ite_split h with ⟨hb8, h⟩ | ⟨hb9, h⟩
      · refine tr_rg hT [(2, .dec true)] [sO 0 (.slc 9000), sO 1 (.slc 9001), sI 2 .i64 at_2, sO 7 (.slc 1), sB 38 true, (.h 0, .e (.arena true [] H6)), (.h 1, .e (.apt 0 p4)), hR 9000 .u8 a_0, hR 9001 .u8 b_1] (hone hb8) ?_
        refine q_k ?_
        refine tr_cond_t true (by kernel_rfl) rfl ?_
        refine tr_seq ?_
        refine tr_rg hT [] [sB 6 false] hnil ?_
        refine q_k ?_
        refine tr_ret ?_
        refine q_k_ret ?_
        have h := Option.some.inj h
        subst h
        refine q_ls [sB 6 false] ?_
        exact q_ret1 hT (.v (.one (.bool false))) [] (by kernel_rfl) (by kernel_rfl) (by kernel_rfl)
      · obtain ⟨hn10, h⟩ := ite_some h
        rcases ite_split h with ⟨hb11, h⟩ | ⟨hb12, h⟩
        · refine tr_rg hT [(2, .dec false), (4, .ar 0 []), (6, .dec true)] [sO 0 (.slc 9000), sO 1 (.slc 9001), sI 2 .i64 at_2, sO 7 (.slc 1), sB 38 true, (.h 0, .e (.arena true [] H6)), (.h 1, .e (.apt 0 p4)), hR 9000 .u8 a_0, hR 9001 .u8 b_1] (hcons hb9 (hcons hn10 (hone hb11))) ?_
          refine q_k ?_
          refine tr_cond_t true (by kernel_rfl) rfl ?_
          refine tr_seq ?_
          refine tr_rg hT [] [sB 6 false] hnil ?_
          refine q_k ?_
          refine tr_ret ?_
          refine q_k_ret ?_
          have h := Option.some.inj h
          subst h
          refine q_ls [sB 6 false] ?_
          exact q_ret1 hT (.v (.one (.bool false))) [] (by kernel_rfl) (by kernel_rfl) (by kernel_rfl)
        · obtain ⟨⟨r13, H14⟩, e15, h⟩ := bind_some h
          rcases ite_split h with ⟨hb16, h⟩ | ⟨hb17, h⟩
          · refine tr_rg hT [(2, .dec false), (4, .ar 0 []), (6, .dec false), (8, .callA [(0, .rw), (1, .apt 0)] (.v (.one (.int .i64 r13))) [(2, .arena true [0] H14), (0, .dead)]), (11, .dec true)] [sO 0 (.slc 9000), sO 1 (.slc 9001), sI 2 .i64 at_2, sO 7 (.slc 1), sB 38 true, (.h 1, .e (.apt 0 p4)), (.h 2, .e (.arena true [0] H14)), hR 9000 .u8 a_0, hR 9001 .u8 b_1] (hcons hb9 (hcons hn10 (hcons hb12 (hcons ((disk_Disk_Create_ok H6 p4 (9 : Int) (r13, H14) e15).tr1 [(9001, .slc 1), (9000, .slc 0), (8900, .slc 2)] [(0, .arena true [] H6), (1, .apt 0 p4)] ⟨.arena' (bs := []), .apts' (κb := 0), trivial⟩) (hone hb16))))) ?_
            refine q_k ?_
            refine tr_cond_t true (by kernel_rfl) rfl ?_
            refine tr_seq ?_
            refine tr_rg hT [] [sB 6 false] hnil ?_
            refine q_k ?_
            refine tr_ret ?_
            refine q_k_ret ?_
            have h := Option.some.inj h
            subst h
            refine q_ls [sB 6 false] ?_
            exact q_ret1 hT (.v (.one (.bool false))) [] (by kernel_rfl) (by kernel_rfl) (by kernel_rfl)
          · obtain ⟨⟨r18, H19⟩, e20, h⟩ := bind_some h
            refine tr_rg hT [(2, .dec false), (4, .ar 0 []), (6, .dec false), (8, .callA [(0, .rw), (1, .apt 0)] (.v (.one (.int .i64 r13))) [(2, .arena true [0] H14), (0, .dead)]), (11, .dec false), (14, .callA [(2, .rw), (1, .apt 2), (9000, .same)] (.v (.one (.int .i64 r18))) [(3, .arena true [2] H19), (2, .dead)])] [sO 0 (.slc 9000), sO 1 (.slc 9001), sI 2 .i64 at_2, sO 7 (.slc 1), sB 38 (r18 != (0 : Int)), (.h 1, .e (.apt 0 p4)), (.h 3, .e (.arena true [2, 0] H19)), hR 9000 .u8 a_0, hR 9001 .u8 b_1] (hcons hb9 (hcons hn10 (hcons hb12 (hcons ((disk_Disk_Create_ok H6 p4 (9 : Int) (r13, H14) e15).tr1 [(9001, .slc 1), (9000, .slc 0), (8900, .slc 2)] [(0, .arena true [] H6), (1, .apt 0 p4)] ⟨.arena' (bs := []), .apts' (κb := 0), trivial⟩) (hcons hb17 (hone ((disk_Disk_Append_ok H14 p4 (9 : Int) a_0 (r18, H19) e20).tr1 [(9001, .slc 1), (9002, .slc 9000), (9000, .slc 2), (8900, .slc 3)] [(2, .arena true [] H14), (1, .apt 2 p4), (9000, .rd .u8 a_0)] ⟨.arena' (bs := []), .apts' (κb := 2), .rd', trivial⟩))))))) ?_
            refine q_k ?_
            rcases ite_split h with ⟨hc21, h⟩ | ⟨hc21, h⟩
            · refine tr_cond_t (r18 != (0 : Int)) (by kernel_rfl) hc21 ?_
              refine tr_seq ?_
              refine tr_rg hT [] [sB 6 false] hnil ?_
              refine q_k ?_
              refine tr_ret ?_
              refine q_k_ret ?_
              have h := Option.some.inj h
              subst h
              refine q_ls [sB 6 false] ?_
              exact q_ret1 hT (.v (.one (.bool false))) [] (by kernel_rfl) (by kernel_rfl) (by kernel_rfl)
            · refine tr_cond_f (r18 != (0 : Int)) (by kernel_rfl) hc21 ?_
              refine tr_skip ?_
              refine q_k ?_
              refine tr_seq ?_
              obtain ⟨hn22, h⟩ := ite_some h
              refine tr_rg hT [] [sO 0 (.slc 9000), sO 1 (.slc 9001), sI 2 .i64 (IntKind.i64.wrap ((IntKind.u64.wrap at_2).tmod (IntKind.u64.wrap (IntKind.i64.wrap ((↑(List.length a_0) : Int) + (1 : Int)))))), sO 7 (.slc 1), (.h 1, .e (.apt 0 p4)), (.h 3, .e (.arena true [2, 0] H19)), hR 9000 .u8 a_0, hR 9001 .u8 b_1] (hone hn22) ?_
              refine q_k ?_
              refine tr_seq ?_
              refine tr_seq ?_
              obtain ⟨⟨r23, H24⟩, e25, h⟩ := bind_some h
              rcases ite_split h with ⟨hb26, h⟩ | ⟨hb27, h⟩
              · refine tr_rg hT [(4, .callA [(3, .rw), (1, .apt 3)] (.v (.one (.int .i64 r23))) [(4, .arena true [3] H24), (3, .dead)]), (6, .dec true)] [sO 0 (.slc 9000), sO 1 (.slc 9001), sI 2 .i64 (IntKind.i64.wrap ((IntKind.u64.wrap at_2).tmod (IntKind.u64.wrap (IntKind.i64.wrap ((↑(List.length a_0) : Int) + (1 : Int)))))), sO 7 (.slc 1), sB 74 true, (.h 1, .e (.apt 0 p4)), (.h 4, .e (.arena true [3, 2, 0] H24)), hR 9000 .u8 a_0, hR 9001 .u8 b_1] (hcons ((disk_Disk_Cut_ok H19 p4 (9 : Int) (IntKind.i64.wrap ((↑(List.length a_0) : Int) + (1 : Int))) (r23, H24) e25).tr1 [(9001, .slc 1), (9000, .slc 3), (8900, .slc 4)] [(3, .arena true [] H19), (1, .apt 3 p4)] ⟨.arena' (bs := []), .apts' (κb := 3), trivial⟩) (hone hb26)) ?_
                refine q_k ?_
                refine tr_cond_t true (by kernel_rfl) rfl ?_
                refine tr_seq ?_
                refine tr_rg hT [] [sB 6 false] hnil ?_
                refine q_k ?_
                refine tr_ret ?_
                refine q_k_ret ?_
                have h := Option.some.inj h
                subst h
                refine q_ls [sB 6 false] ?_
                exact q_ret1 hT (.v (.one (.bool false))) [] (by kernel_rfl) (by kernel_rfl) (by kernel_rfl)
              · obtain ⟨⟨r28, H29⟩, e30, h⟩ := bind_some h
                rcases ite_split h with ⟨hb31, h⟩ | ⟨hb32, h⟩
                · refine tr_rg hT [(4, .callA [(3, .rw), (1, .apt 3)] (.v (.one (.int .i64 r23))) [(4, .arena true [3] H24), (3, .dead)]), (6, .dec false), (8, .callA [(4, .rw), (1, .apt 4)] (.v (.one (.int .i64 r28))) [(5, .arena true [4] H29), (4, .dead)]), (11, .dec true)] [sO 0 (.slc 9000), sO 1 (.slc 9001), sI 2 .i64 (IntKind.i64.wrap ((IntKind.u64.wrap at_2).tmod (IntKind.u64.wrap (IntKind.i64.wrap ((↑(List.length a_0) : Int) + (1 : Int)))))), sO 7 (.slc 1), sB 74 true, (.h 1, .e (.apt 0 p4)), (.h 5, .e (.arena true [4, 3, 2, 0] H29)), hR 9000 .u8 a_0, hR 9001 .u8 b_1] (hcons ((disk_Disk_Cut_ok H19 p4 (9 : Int) (IntKind.i64.wrap ((↑(List.length a_0) : Int) + (1 : Int))) (r23, H24) e25).tr1 [(9001, .slc 1), (9000, .slc 3), (8900, .slc 4)] [(3, .arena true [] H19), (1, .apt 3 p4)] ⟨.arena' (bs := []), .apts' (κb := 3), trivial⟩) (hcons hb27 (hcons ((disk_Disk_Cut_ok H24 p4 (9 : Int) (-1 : Int) (r28, H29) e30).tr1 [(9001, .slc 1), (9000, .slc 4), (8900, .slc 5)] [(4, .arena true [] H24), (1, .apt 4 p4)] ⟨.arena' (bs := []), .apts' (κb := 4), trivial⟩) (hone hb31)))) ?_
                  refine q_k ?_
                  refine tr_cond_t true (by kernel_rfl) rfl ?_
                  refine tr_seq ?_
                  refine tr_rg hT [] [sB 6 false] hnil ?_
                  refine q_k ?_
                  refine tr_ret ?_
                  refine q_k_ret ?_
                  have h := Option.some.inj h
                  subst h
                  refine q_ls [sB 6 false] ?_
                  exact q_ret1 hT (.v (.one (.bool false))) [] (by kernel_rfl) (by kernel_rfl) (by kernel_rfl)
                · obtain ⟨⟨r33, H34⟩, e35, h⟩ := bind_some h
                  rcases ite_split h with ⟨hb36, h⟩ | ⟨hb37, h⟩
                  · refine tr_rg hT [(4, .callA [(3, .rw), (1, .apt 3)] (.v (.one (.int .i64 r23))) [(4, .arena true [3] H24), (3, .dead)]), (6, .dec false), (8, .callA [(4, .rw), (1, .apt 4)] (.v (.one (.int .i64 r28))) [(5, .arena true [4] H29), (4, .dead)]), (11, .dec false), (13, .callA [(5, .rw), (1, .apt 5)] (.v (.one (.int .i64 r33))) [(6, .arena true [5] H34), (5, .dead)]), (16, .dec true)] [sO 0 (.slc 9000), sO 1 (.slc 9001), sI 2 .i64 (IntKind.i64.wrap ((IntKind.u64.wrap at_2).tmod (IntKind.u64.wrap (IntKind.i64.wrap ((↑(List.length a_0) : Int) + (1 : Int)))))), sO 7 (.slc 1), sB 74 true, (.h 1, .e (.apt 0 p4)), (.h 6, .e (.arena true [5, 4, 3, 2, 0] H34)), hR 9000 .u8 a_0, hR 9001 .u8 b_1] (hcons ((disk_Disk_Cut_ok H19 p4 (9 : Int) (IntKind.i64.wrap ((↑(List.length a_0) : Int) + (1 : Int))) (r23, H24) e25).tr1 [(9001, .slc 1), (9000, .slc 3), (8900, .slc 4)] [(3, .arena true [] H19), (1, .apt 3 p4)] ⟨.arena' (bs := []), .apts' (κb := 3), trivial⟩) (hcons hb27 (hcons ((disk_Disk_Cut_ok H24 p4 (9 : Int) (-1 : Int) (r28, H29) e30).tr1 [(9001, .slc 1), (9000, .slc 4), (8900, .slc 5)] [(4, .arena true [] H24), (1, .apt 4 p4)] ⟨.arena' (bs := []), .apts' (κb := 4), trivial⟩) (hcons hb32 (hcons ((disk_Disk_Cut_ok H29 p4 (8 : Int) (0 : Int) (r33, H34) e35).tr1 [(9001, .slc 1), (9000, .slc 5), (8900, .slc 6)] [(5, .arena true [] H29), (1, .apt 5 p4)] ⟨.arena' (bs := []), .apts' (κb := 5), trivial⟩) (hone hb36)))))) ?_
                    refine q_k ?_
                    refine tr_cond_t true (by kernel_rfl) rfl ?_
                    refine tr_seq ?_
                    refine tr_rg hT [] [sB 6 false] hnil ?_
                    refine q_k ?_
                    refine tr_ret ?_
                    refine q_k_ret ?_
                    have h := Option.some.inj h
                    subst h
                    refine q_ls [sB 6 false] ?_
                    exact q_ret1 hT (.v (.one (.bool false))) [] (by kernel_rfl) (by kernel_rfl) (by kernel_rfl)
                  · obtain ⟨⟨r38, H39⟩, e40, h⟩ := bind_some h
                    rcases ite_split h with ⟨hb41, h⟩ | ⟨hb42, h⟩
                    · refine tr_rg hT [(4, .callA [(3, .rw), (1, .apt 3)] (.v (.one (.int .i64 r23))) [(4, .arena true [3] H24), (3, .dead)]), (6, .dec false), (8, .callA [(4, .rw), (1, .apt 4)] (.v (.one (.int .i64 r28))) [(5, .arena true [4] H29), (4, .dead)]), (11, .dec false), (13, .callA [(5, .rw), (1, .apt 5)] (.v (.one (.int .i64 r33))) [(6, .arena true [5] H34), (5, .dead)]), (16, .dec false), (19, .callA [(6, .rw), (1, .apt 6)] (.v (.one (.int .i64 r38))) [(7, .arena true [6] H39), (6, .dead)]), (22, .dec true)] [sO 0 (.slc 9000), sO 1 (.slc 9001), sI 2 .i64 (IntKind.i64.wrap ((IntKind.u64.wrap at_2).tmod (IntKind.u64.wrap (IntKind.i64.wrap ((↑(List.length a_0) : Int) + (1 : Int)))))), sO 7 (.slc 1), sB 74 true, (.h 1, .e (.apt 0 p4)), (.h 7, .e (.arena true [6, 5, 4, 3, 2, 0] H39)), hR 9000 .u8 a_0, hR 9001 .u8 b_1] (hcons ((disk_Disk_Cut_ok H19 p4 (9 : Int) (IntKind.i64.wrap ((↑(List.length a_0) : Int) + (1 : Int))) (r23, H24) e25).tr1 [(9001, .slc 1), (9000, .slc 3), (8900, .slc 4)] [(3, .arena true [] H19), (1, .apt 3 p4)] ⟨.arena' (bs := []), .apts' (κb := 3), trivial⟩) (hcons hb27 (hcons ((disk_Disk_Cut_ok H24 p4 (9 : Int) (-1 : Int) (r28, H29) e30).tr1 [(9001, .slc 1), (9000, .slc 4), (8900, .slc 5)] [(4, .arena true [] H24), (1, .apt 4 p4)] ⟨.arena' (bs := []), .apts' (κb := 4), trivial⟩) (hcons hb32 (hcons ((disk_Disk_Cut_ok H29 p4 (8 : Int) (0 : Int) (r33, H34) e35).tr1 [(9001, .slc 1), (9000, .slc 5), (8900, .slc 6)] [(5, .arena true [] H29), (1, .apt 5 p4)] ⟨.arena' (bs := []), .apts' (κb := 5), trivial⟩) (hcons hb37 (hcons ((disk_Disk_Cut_ok H34 p4 (9 : Int) (IntKind.i64.wrap ((IntKind.u64.wrap at_2).tmod (IntKind.u64.wrap (IntKind.i64.wrap ((↑(List.length a_0) : Int) + (1 : Int)))))) (r38, H39) e40).tr1 [(9001, .slc 1), (9000, .slc 6), (8900, .slc 7)] [(6, .arena true [] H34), (1, .apt 6 p4)] ⟨.arena' (bs := []), .apts' (κb := 6), trivial⟩) (hone hb41)))))))) ?_
                      refine q_k ?_
                      refine tr_cond_t true (by kernel_rfl) rfl ?_
                      refine tr_seq ?_
                      refine tr_rg hT [] [sB 6 false] hnil ?_
                      refine q_k ?_
                      refine tr_ret ?_
                      refine q_k_ret ?_
                      have h := Option.some.inj h
                      subst h
                      refine q_ls [sB 6 false] ?_
                      exact q_ret1 hT (.v (.one (.bool false))) [] (by kernel_rfl) (by kernel_rfl) (by kernel_rfl)
                    · obtain ⟨r43, e44, h⟩ := bind_some h
                      refine tr_rg hT [(4, .callA [(3, .rw), (1, .apt 3)] (.v (.one (.int .i64 r23))) [(4, .arena true [3] H24), (3, .dead)]), (6, .dec false), (8, .callA [(4, .rw), (1, .apt 4)] (.v (.one (.int .i64 r28))) [(5, .arena true [4] H29), (4, .dead)]), (11, .dec false), (13, .callA [(5, .rw), (1, .apt 5)] (.v (.one (.int .i64 r33))) [(6, .arena true [5] H34), (5, .dead)]), (16, .dec false), (19, .callA [(6, .rw), (1, .apt 6)] (.v (.one (.int .i64 r38))) [(7, .arena true [6] H39), (6, .dead)]), (22, .dec false), (24, .callA [(7, .ro), (1, .apt 7)] (.v (.one (.int .i64 r43))) [])] [sO 0 (.slc 9000), sO 1 (.slc 9001), sI 2 .i64 (IntKind.i64.wrap ((IntKind.u64.wrap at_2).tmod (IntKind.u64.wrap (IntKind.i64.wrap ((↑(List.length a_0) : Int) + (1 : Int)))))), sO 7 (.slc 1), sB 74 (r43 != (IntKind.i64.wrap ((IntKind.u64.wrap at_2).tmod (IntKind.u64.wrap (IntKind.i64.wrap ((↑(List.length a_0) : Int) + (1 : Int))))))), (.h 1, .e (.apt 0 p4)), (.h 7, .e (.arena true [6, 5, 4, 3, 2, 0] H39)), hR 9000 .u8 a_0, hR 9001 .u8 b_1] (hcons ((disk_Disk_Cut_ok H19 p4 (9 : Int) (IntKind.i64.wrap ((↑(List.length a_0) : Int) + (1 : Int))) (r23, H24) e25).tr1 [(9001, .slc 1), (9000, .slc 3), (8900, .slc 4)] [(3, .arena true [] H19), (1, .apt 3 p4)] ⟨.arena' (bs := []), .apts' (κb := 3), trivial⟩) (hcons hb27 (hcons ((disk_Disk_Cut_ok H24 p4 (9 : Int) (-1 : Int) (r28, H29) e30).tr1 [(9001, .slc 1), (9000, .slc 4), (8900, .slc 5)] [(4, .arena true [] H24), (1, .apt 4 p4)] ⟨.arena' (bs := []), .apts' (κb := 4), trivial⟩) (hcons hb32 (hcons ((disk_Disk_Cut_ok H29 p4 (8 : Int) (0 : Int) (r33, H34) e35).tr1 [(9001, .slc 1), (9000, .slc 5), (8900, .slc 6)] [(5, .arena true [] H29), (1, .apt 5 p4)] ⟨.arena' (bs := []), .apts' (κb := 5), trivial⟩) (hcons hb37 (hcons ((disk_Disk_Cut_ok H34 p4 (9 : Int) (IntKind.i64.wrap ((IntKind.u64.wrap at_2).tmod (IntKind.u64.wrap (IntKind.i64.wrap ((↑(List.length a_0) : Int) + (1 : Int)))))) (r38, H39) e40).tr1 [(9001, .slc 1), (9000, .slc 6), (8900, .slc 7)] [(6, .arena true [] H34), (1, .apt 6 p4)] ⟨.arena' (bs := []), .apts' (κb := 6), trivial⟩) (hcons hb42 (hone ((disk_Disk_Size_ok H39 p4 (9 : Int) r43 e44).tr1 [(9001, .slc 1), (9000, .slc 7)] [(7, .arena false [] H39), (1, .apt 7 p4)] ⟨.arena' (bs := []), .apts' (κb := 7), trivial⟩)))))))))) ?_
                      refine q_k ?_
                      rcases ite_split h with ⟨hc45, h⟩ | ⟨hc45, h⟩
                      · refine tr_cond_t (r43 != (IntKind.i64.wrap ((IntKind.u64.wrap at_2).tmod (IntKind.u64.wrap (IntKind.i64.wrap ((↑(List.length a_0) : Int) + (1 : Int))))))) (by kernel_rfl) hc45 ?_
                        refine tr_seq ?_
                        refine tr_rg hT [] [sB 6 false] hnil ?_
                        refine q_k ?_
                        refine tr_ret ?_
                        refine q_k_ret ?_
                        have h := Option.some.inj h
                        subst h
                        refine q_ls [sB 6 false] ?_
                        exact q_ret1 hT (.v (.one (.bool false))) [] (by kernel_rfl) (by kernel_rfl) (by kernel_rfl)
                      · refine tr_cond_f (r43 != (IntKind.i64.wrap ((IntKind.u64.wrap at_2).tmod (IntKind.u64.wrap (IntKind.i64.wrap ((↑(List.length a_0) : Int) + (1 : Int))))))) (by kernel_rfl) hc45 ?_
                        refine tr_skip ?_
                        refine q_k ?_
                        refine tr_seq ?_
                        refine tr_seq ?_
                        obtain ⟨⟨r46, H47⟩, e48, h⟩ := bind_some h
                        refine tr_rg hT [(2, .callA [(7, .rw), (1, .apt 7), (9001, .same)] (.v (.one (.int .i64 r46))) [(8, .arena true [7] H47), (7, .dead)])] [sO 0 (.slc 9000), sO 1 (.slc 9001), sI 2 .i64 (IntKind.i64.wrap ((IntKind.u64.wrap at_2).tmod (IntKind.u64.wrap (IntKind.i64.wrap ((↑(List.length a_0) : Int) + (1 : Int)))))), sO 7 (.slc 1), sB 78 (r46 != (0 : Int)), (.h 1, .e (.apt 0 p4)), (.h 8, .e (.arena true [7, 6, 5, 4, 3, 2, 0] H47)), hR 9000 .u8 a_0, hR 9001 .u8 b_1] (hone ((disk_Disk_Append_ok H39 p4 (9 : Int) b_1 (r46, H47) e48).tr1 [(9001, .slc 1), (9002, .slc 9001), (9000, .slc 7), (8900, .slc 8)] [(7, .arena true [] H39), (1, .apt 7 p4), (9001, .rd .u8 b_1)] ⟨.arena' (bs := []), .apts' (κb := 7), .rd', trivial⟩)) ?_
                        refine q_k ?_
                        rcases ite_split h with ⟨hc49, h⟩ | ⟨hc49, h⟩
                        · refine tr_cond_t (r46 != (0 : Int)) (by kernel_rfl) hc49 ?_
                          refine tr_seq ?_
                          refine tr_rg hT [] [sB 6 false] hnil ?_
                          refine q_k ?_
                          refine tr_ret ?_
                          refine q_k_ret ?_
                          have h := Option.some.inj h
                          subst h
                          refine q_ls [sB 6 false] ?_
                          exact q_ret1 hT (.v (.one (.bool false))) [] (by kernel_rfl) (by kernel_rfl) (by kernel_rfl)
                        · refine tr_cond_f (r46 != (0 : Int)) (by kernel_rfl) hc49 ?_
                          refine tr_skip ?_
                          refine q_k ?_
                          refine tr_seq ?_
                          obtain ⟨⟨a50, r51⟩, e52, h⟩ := bind_some h
                          refine tr_rg hT [(1, .callA [(8, .ro), (1, .apt 8)] (.tup [.one (.slc 9), .one (.int .i64 r51)]) [(9, .own 5 .u8 a50)])] [sO 0 (.slc 9000), sO 1 (.slc 9001), sI 2 .i64 (IntKind.i64.wrap ((IntKind.u64.wrap at_2).tmod (IntKind.u64.wrap (IntKind.i64.wrap ((↑(List.length a_0) : Int) + (1 : Int)))))), sO 7 (.slc 1), sI 8 .i64 r51, sO 9 (.slc 9), (.h 1, .e (.apt 0 p4)), (.h 8, .e (.arena true [7, 6, 5, 4, 3, 2, 0] H47)), hO 9 5 .u8 a50, hR 9000 .u8 a_0, hR 9001 .u8 b_1] (hone ((disk_Disk_Read_ok H47 p4 (9 : Int) (a50, r51) e52).tr1 [(9001, .slc 1), (9000, .slc 8), (8900, .slc 9)] [(8, .arena false [] H47), (1, .apt 8 p4)] ⟨.arena' (bs := []), .apts' (κb := 8), trivial⟩)) ?_
                          refine q_k ?_
                          refine tr_seq ?_
                          refine tr_seq ?_
                          rcases ite_split h with ⟨hb53, h⟩ | ⟨hb54, h⟩
                          · refine tr_rg hT [(2, .dec true)] [sO 0 (.slc 9000), sO 1 (.slc 9001), sI 2 .i64 (IntKind.i64.wrap ((IntKind.u64.wrap at_2).tmod (IntKind.u64.wrap (IntKind.i64.wrap ((↑(List.length a_0) : Int) + (1 : Int)))))), sO 7 (.slc 1), sB 96 true, (.h 1, .e (.apt 0 p4)), (.h 8, .e (.arena true [7, 6, 5, 4, 3, 2, 0] H47)), hR 9000 .u8 a_0, hR 9001 .u8 b_1] (hone hb53) ?_
                            refine q_k ?_
                            refine tr_cond_t true (by kernel_rfl) rfl ?_
                            refine tr_seq ?_
                            refine tr_rg hT [] [sB 6 false] hnil ?_
                            refine q_k ?_
                            refine tr_ret ?_
                            refine q_k_ret ?_
                            have h := Option.some.inj h
                            subst h
                            refine q_ls [sB 6 false] ?_
                            exact q_ret1 hT (.v (.one (.bool false))) [] (by kernel_rfl) (by kernel_rfl) (by kernel_rfl)
                          · obtain ⟨hn55, h⟩ := ite_some h
                            obtain ⟨a56, e57, h⟩ := bind_some h
                            obtain ⟨hn58, h⟩ := ite_some h
                            obtain ⟨b59, e60, h⟩ := bind_some h
                            refine tr_rg hT [(2, .dec false), (6, .key 10), (7, .call [10] (.v (.one (.slc 11))) [(11, .own 5 .u8 a56)]), (9, .key 12), (10, .call [9, 12] (.v (.one (.bool b59))) [])] [sO 0 (.slc 9000), sO 1 (.slc 9001), sI 2 .i64 (IntKind.i64.wrap ((IntKind.u64.wrap at_2).tmod (IntKind.u64.wrap (IntKind.i64.wrap ((↑(List.length a_0) : Int) + (1 : Int)))))), sO 7 (.slc 1), sB 96 (!b59), (.h 1, .e (.apt 0 p4)), (.h 8, .e (.arena true [7, 6, 5, 4, 3, 2, 0] H47)), hR 9000 .u8 a_0, hR 9001 .u8 b_1] (hcons hb54 (hcons hn55 (hcons ((keep_Twin_ok ((a_0.take ((IntKind.i64.wrap ((IntKind.u64.wrap at_2).tmod (IntKind.u64.wrap (IntKind.i64.wrap ((↑(List.length a_0) : Int) + (1 : Int)))))).toNat)).drop 0) a56 e57).tr1 [(9000, .slc 10), (8900, .slc 11)] [(10, .rd .u8 ((a_0.take ((IntKind.i64.wrap ((IntKind.u64.wrap at_2).tmod (IntKind.u64.wrap (IntKind.i64.wrap ((↑(List.length a_0) : Int) + (1 : Int)))))).toNat)).drop 0))] ⟨.rd', trivial⟩) (hcons hn58 (hone ((keep_Bytes_ok a50 (a56 ++ b_1) b59 e60).tr1 [(9000, .slc 9), (9001, .slc 12)] [(9, .own 5 .u8 a50), (12, .own 5 .u8 (a56 ++ b_1))] ⟨.ownrd' (e := 5), .ownrd' (e := 5), trivial⟩)))))) ?_
                            refine q_k ?_
                            rcases ite_split h with ⟨hc61, h⟩ | ⟨hc61, h⟩
                            · refine tr_cond_t (!b59) (by kernel_rfl) hc61 ?_
                              refine tr_seq ?_
                              refine tr_rg hT [] [sB 6 false] hnil ?_
                              refine q_k ?_
                              refine tr_ret ?_
                              refine q_k_ret ?_
                              have h := Option.some.inj h
                              subst h
                              refine q_ls [sB 6 false] ?_
                              exact q_ret1 hT (.v (.one (.bool false))) [] (by kernel_rfl) (by kernel_rfl) (by kernel_rfl)
                            · refine tr_cond_f (!b59) (by kernel_rfl) hc61 ?_
                              refine tr_skip ?_
                              refine q_k ?_
                              refine tr_seq ?_
                              obtain ⟨H62, e63, h⟩ := bind_some h
                              refine tr_rg hT [(1, .callA [(8, .rw), (1, .apt 8)] (.tup []) [(13, .arena true [8] H62), (8, .dead)])] [sO 0 (.slc 9000), sO 1 (.slc 9001), sI 2 .i64 (IntKind.i64.wrap ((IntKind.u64.wrap at_2).tmod (IntKind.u64.wrap (IntKind.i64.wrap ((↑(List.length a_0) : Int) + (1 : Int)))))), sO 7 (.slc 1), (.h 1, .e (.apt 0 p4)), (.h 13, .e (.arena true [8, 7, 6, 5, 4, 3, 2, 0] H62)), hR 9000 .u8 a_0, hR 9001 .u8 b_1] (hone ((disk_Disk_Crash_ok H47 p4 [] (-1 : Int) (0 : Int) H62 e63).tr1 [(9001, .slc 1), (9002, .nils), (9000, .slc 8), (8900, .slc 13)] [(8, .arena true [] H47), (1, .apt 8 p4)] ⟨.arena' (bs := []), .apts' (κb := 8), .rdbnil, trivial⟩)) ?_
                              refine q_k ?_
                              refine tr_seq ?_
                              obtain ⟨H64, e65, h⟩ := bind_some h
                              refine tr_rg hT [(1, .callA [(13, .rw), (1, .apt 13)] (.tup []) [(14, .arena true [13] H64), (13, .dead)])] [sO 0 (.slc 9000), sO 1 (.slc 9001), sI 2 .i64 (IntKind.i64.wrap ((IntKind.u64.wrap at_2).tmod (IntKind.u64.wrap (IntKind.i64.wrap ((↑(List.length a_0) : Int) + (1 : Int)))))), sO 7 (.slc 1), (.h 1, .e (.apt 0 p4)), (.h 14, .e (.arena true [13, 8, 7, 6, 5, 4, 3, 2, 0] H64)), hR 9000 .u8 a_0, hR 9001 .u8 b_1] (hone ((disk_Disk_Start_ok H62 p4 H64 e65).tr1 [(9001, .slc 1), (9000, .slc 13), (8900, .slc 14)] [(13, .arena true [] H62), (1, .apt 13 p4)] ⟨.arena' (bs := []), .apts' (κb := 13), trivial⟩)) ?_
                              refine q_k ?_
                              refine tr_seq ?_
                              obtain ⟨⟨a66, r67⟩, e68, h⟩ := bind_some h
                              refine tr_rg hT [(1, .callA [(14, .ro), (1, .apt 14)] (.tup [.one (.slc 15), .one (.int .i64 r67)]) [(15, .own 5 .u8 a66)])] [sO 0 (.slc 9000), sO 1 (.slc 9001), sI 2 .i64 (IntKind.i64.wrap ((IntKind.u64.wrap at_2).tmod (IntKind.u64.wrap (IntKind.i64.wrap ((↑(List.length a_0) : Int) + (1 : Int)))))), sO 7 (.slc 1), sI 8 .i64 r67, sO 9 (.slc 15), (.h 1, .e (.apt 0 p4)), (.h 14, .e (.arena true [13, 8, 7, 6, 5, 4, 3, 2, 0] H64)), hO 15 5 .u8 a66, hR 9000 .u8 a_0, hR 9001 .u8 b_1] (hone ((disk_Disk_Read_ok H64 p4 (9 : Int) (a66, r67) e68).tr1 [(9001, .slc 1), (9000, .slc 14), (8900, .slc 15)] [(14, .arena false [] H64), (1, .apt 14 p4)] ⟨.arena' (bs := []), .apts' (κb := 14), trivial⟩)) ?_
                              refine q_k ?_
                              refine tr_seq ?_
                              refine tr_seq ?_
                              rcases ite_split h with ⟨hb69, h⟩ | ⟨hb70, h⟩
                              · refine tr_rg hT [(2, .dec true)] [sO 7 (.slc 1), sB 119 true, (.h 1, .e (.apt 0 p4)), (.h 14, .e (.arena true [13, 8, 7, 6, 5, 4, 3, 2, 0] H64))] (hone hb69) ?_
                                refine q_k ?_
                                refine tr_cond_t true (by kernel_rfl) rfl ?_
                                refine tr_seq ?_
                                refine tr_rg hT [] [sB 6 false] hnil ?_
                                refine q_k ?_
                                refine tr_ret ?_
                                refine q_k_ret ?_
                                have h := Option.some.inj h
                                subst h
                                refine q_ls [sB 6 false] ?_
                                exact q_ret1 hT (.v (.one (.bool false))) [] (by kernel_rfl) (by kernel_rfl) (by kernel_rfl)
                              · obtain ⟨hn71, h⟩ := ite_some h
                                obtain ⟨a72, e73, h⟩ := bind_some h
                                obtain ⟨hn74, h⟩ := ite_some h
                                obtain ⟨b75, e76, h⟩ := bind_some h
                                refine tr_rg hT [(2, .dec false), (6, .key 16), (7, .call [16] (.v (.one (.slc 17))) [(17, .own 5 .u8 a72)]), (10, .key 18), (11, .call [15, 18] (.v (.one (.bool b75))) [])] [sO 7 (.slc 1), sB 119 (!b75), (.h 1, .e (.apt 0 p4)), (.h 14, .e (.arena true [13, 8, 7, 6, 5, 4, 3, 2, 0] H64))] (hcons hb70 (hcons hn71 (hcons ((keep_Twin_ok ((a_0.take ((IntKind.i64.wrap ((IntKind.u64.wrap at_2).tmod (IntKind.u64.wrap (IntKind.i64.wrap ((↑(List.length a_0) : Int) + (1 : Int)))))).toNat)).drop 0) a72 e73).tr1 [(9000, .slc 16), (8900, .slc 17)] [(16, .rd .u8 ((a_0.take ((IntKind.i64.wrap ((IntKind.u64.wrap at_2).tmod (IntKind.u64.wrap (IntKind.i64.wrap ((↑(List.length a_0) : Int) + (1 : Int)))))).toNat)).drop 0))] ⟨.rd', trivial⟩) (hcons hn74 (hone ((keep_Bytes_ok a66 (a72 ++ List.replicate (↑(List.length b_1) : Int).toNat (0 : Int)) b75 e76).tr1 [(9000, .slc 15), (9001, .slc 18)] [(15, .own 5 .u8 a66), (18, .own 5 .u8 (a72 ++ List.replicate (↑(List.length b_1) : Int).toNat (0 : Int)))] ⟨.ownrd' (e := 5), .ownrd' (e := 5), trivial⟩)))))) ?_
                                refine q_k ?_
                                rcases ite_split h with ⟨hc77, h⟩ | ⟨hc77, h⟩
                                · refine tr_cond_t (!b75) (by kernel_rfl) hc77 ?_
                                  refine tr_seq ?_
                                  refine tr_rg hT [] [sB 6 false] hnil ?_
                                  refine q_k ?_
                                  refine tr_ret ?_
                                  refine q_k_ret ?_
                                  have h := Option.some.inj h
                                  subst h
                                  refine q_ls [sB 6 false] ?_
                                  exact q_ret1 hT (.v (.one (.bool false))) [] (by kernel_rfl) (by kernel_rfl) (by kernel_rfl)
                                · refine tr_cond_f (!b75) (by kernel_rfl) hc77 ?_
                                  refine tr_skip ?_
                                  refine q_k ?_
                                  refine tr_seq ?_
                                  refine tr_seq ?_
                                  obtain ⟨⟨r78, H79⟩, e80, h⟩ := bind_some h
                                  rcases ite_split h with ⟨hb81, h⟩ | ⟨hb82, h⟩
                                  · refine tr_rg hT [(1, .callA [(14, .rw), (1, .apt 14)] (.v (.one (.int .i64 r78))) [(19, .arena true [14] H79), (14, .dead)]), (3, .dec true)] [sO 7 (.slc 1), sB 127 true, (.h 1, .e (.apt 0 p4)), (.h 19, .e (.arena true [14, 13, 8, 7, 6, 5, 4, 3, 2, 0] H79))] (hcons ((disk_Disk_Remove_ok H64 p4 (9 : Int) (r78, H79) e80).tr1 [(9001, .slc 1), (9000, .slc 14), (8900, .slc 19)] [(14, .arena true [] H64), (1, .apt 14 p4)] ⟨.arena' (bs := []), .apts' (κb := 14), trivial⟩) (hone hb81)) ?_
                                    refine q_k ?_
                                    refine tr_cond_t true (by kernel_rfl) rfl ?_
                                    refine tr_seq ?_
                                    refine tr_rg hT [] [sB 6 false] hnil ?_
                                    refine q_k ?_
                                    refine tr_ret ?_
                                    refine q_k_ret ?_
                                    have h := Option.some.inj h
                                    subst h
                                    refine q_ls [sB 6 false] ?_
                                    exact q_ret1 hT (.v (.one (.bool false))) [] (by kernel_rfl) (by kernel_rfl) (by kernel_rfl)
                                  · obtain ⟨⟨r83, H84⟩, e85, h⟩ := bind_some h
                                    refine tr_rg hT [(1, .callA [(14, .rw), (1, .apt 14)] (.v (.one (.int .i64 r78))) [(19, .arena true [14] H79), (14, .dead)]), (3, .dec false), (5, .callA [(19, .rw), (1, .apt 19)] (.v (.one (.int .i64 r83))) [(20, .arena true [19] H84), (19, .dead)])] [sO 7 (.slc 1), sB 127 (r83 != (0 : Int)), (.h 1, .e (.apt 0 p4)), (.h 20, .e (.arena true [19, 14, 13, 8, 7, 6, 5, 4, 3, 2, 0] H84))] (hcons ((disk_Disk_Remove_ok H64 p4 (9 : Int) (r78, H79) e80).tr1 [(9001, .slc 1), (9000, .slc 14), (8900, .slc 19)] [(14, .arena true [] H64), (1, .apt 14 p4)] ⟨.arena' (bs := []), .apts' (κb := 14), trivial⟩) (hcons hb82 (hone ((disk_Disk_Create_ok H79 p4 (9 : Int) (r83, H84) e85).tr1 [(9001, .slc 1), (9000, .slc 19), (8900, .slc 20)] [(19, .arena true [] H79), (1, .apt 19 p4)] ⟨.arena' (bs := []), .apts' (κb := 19), trivial⟩)))) ?_
                                    refine q_k ?_
                                    rcases ite_split h with ⟨hc86, h⟩ | ⟨hc86, h⟩
                                    · refine tr_cond_t (r83 != (0 : Int)) (by kernel_rfl) hc86 ?_
                                      refine tr_seq ?_
                                      refine tr_rg hT [] [sB 6 false] hnil ?_
                                      refine q_k ?_
                                      refine tr_ret ?_
                                      refine q_k_ret ?_
                                      have h := Option.some.inj h
                                      subst h
                                      refine q_ls [sB 6 false] ?_
                                      exact q_ret1 hT (.v (.one (.bool false))) [] (by kernel_rfl) (by kernel_rfl) (by kernel_rfl)
                                    · refine tr_cond_f (r83 != (0 : Int)) (by kernel_rfl) hc86 ?_
                                      refine tr_skip ?_
                                      refine q_k ?_
                                      refine tr_seq ?_
                                      obtain ⟨⟨a87, r88⟩, e89, h⟩ := bind_some h
                                      refine tr_rg hT [(1, .callA [(20, .ro), (1, .apt 20)] (.tup [.one (.slc 21), .one (.int .i64 r88)]) [(21, .own 5 .u8 a87)])] [sO 7 (.slc 1), sI 8 .i64 r88, sO 9 (.slc 21), (.h 1, .e (.apt 0 p4)), (.h 20, .e (.arena true [19, 14, 13, 8, 7, 6, 5, 4, 3, 2, 0] H84)), hO 21 5 .u8 a87] (hone ((disk_Disk_Read_ok H84 p4 (9 : Int) (a87, r88) e89).tr1 [(9001, .slc 1), (9000, .slc 20), (8900, .slc 21)] [(20, .arena false [] H84), (1, .apt 20 p4)] ⟨.arena' (bs := []), .apts' (κb := 20), trivial⟩)) ?_
                                      refine q_k ?_
                                      refine tr_seq ?_
                                      rcases ite_split h with ⟨hb90, h⟩ | ⟨hb99, h⟩
                                      · rcases ite_split h with ⟨hb91, h⟩ | ⟨hb98, h⟩
                                        · obtain ⟨r92, e93, h⟩ := bind_some h
                                          rcases ite_split h with ⟨hb94, h⟩ | ⟨hb97, h⟩
                                          · obtain ⟨b95, e96, h⟩ := bind_some h
                                            refine tr_rg hT [(2, .dec true), (7, .dec true), (9, .callA [(20, .ro), (1, .apt 20)] (.v (.one (.int .i64 r92))) []), (12, .dec true), (13, .call [] (.v (.one (.bool b95))) [])] [sB 6 b95] (hcons hb90 (hcons hb91 (hcons ((disk_Disk_Size_ok H84 p4 (9 : Int) r92 e93).tr1 [(9001, .slc 1), (9000, .slc 20)] [(20, .arena false [] H84), (1, .apt 20 p4)] ⟨.arena' (bs := []), .apts' (κb := 20), trivial⟩) (hcons hb94 (hone (law14_wakes_ok  b95 e96 (pre := []))))))) ?_
                                            refine q_k ?_
                                            refine tr_ret ?_
                                            have h := Option.some.inj h
                                            subst h
                                            refine q_ls [sB 6 b95] ?_
                                            exact q_ret1 hT (.v (.one (.bool b95))) [] (by kernel_rfl) (by kernel_rfl) (by kernel_rfl)
                                          · refine tr_rg hT [(2, .dec true), (7, .dec true), (9, .callA [(20, .ro), (1, .apt 20)] (.v (.one (.int .i64 r92))) []), (12, .dec false)] [sB 6 false] (hcons hb90 (hcons hb91 (hcons ((disk_Disk_Size_ok H84 p4 (9 : Int) r92 e93).tr1 [(9001, .slc 1), (9000, .slc 20)] [(20, .arena false [] H84), (1, .apt 20 p4)] ⟨.arena' (bs := []), .apts' (κb := 20), trivial⟩) (hone hb97)))) ?_
                                            refine q_k ?_
                                            refine tr_ret ?_
                                            have h := Option.some.inj h
                                            subst h
                                            refine q_ls [sB 6 false] ?_
                                            exact q_ret1 hT (.v (.one (.bool false))) [] (by kernel_rfl) (by kernel_rfl) (by kernel_rfl)
                                        · refine tr_rg hT [(2, .dec true), (7, .dec false)] [sB 6 false] (hcons hb90 (hone hb98)) ?_
                                          refine q_k ?_
                                          refine tr_ret ?_
                                          have h := Option.some.inj h
                                          subst h
                                          refine q_ls [sB 6 false] ?_
                                          exact q_ret1 hT (.v (.one (.bool false))) [] (by kernel_rfl) (by kernel_rfl) (by kernel_rfl)
                                      · refine tr_rg hT [(2, .dec false)] [sB 6 false] (hone hb99) ?_
                                        refine q_k ?_
                                        refine tr_ret ?_
                                        have h := Option.some.inj h
                                        subst h
                                        refine q_ls [sB 6 false] ?_
                                        exact q_ret1 hT (.v (.one (.bool false))) [] (by kernel_rfl) (by kernel_rfl) (by kernel_rfl)

end Go.Proofs.Sd
