/- Walks, printed by a program of this session (gowalk.py): each Go function comes to its plain function's answer. -/
import Derived.Test.YtdbheiibkpendaaSdA
import Derived.Test.YtdbheiibkpendaaSdD
import Derived.Test.YtdbheiibkpendaaMSdS
import Derived.Test.YtdbheiibkpendaaSdV0
import Derived.Test.YtdbheiibkpendaaSdV1
import Derived.Test.YtdbheiibkpendaaSdV2
import Derived.Test.YtdbheiibkpendaaSdV3
namespace Go.Proofs.Sd
open Go Go.Gw D
set_option linter.unusedVariables false
set_option maxRecDepth 20000

theorem disk_Disk_Cut_ok (H_0 : AH) (d_1 : MV) (n_2 : Int) (size_3 : Int) (r : Int × AH) (h : disk_Disk_Cut H_0 d_1 n_2 size_3 = some r) : CallOk P 29 [.v (.one (.slc 9001)), .v (.one (.int .i64 n_2)), .v (.one (.int .i64 size_3))] [(9000, .arena true [] H_0), (9001, .apt 9000 d_1)] (.v (.one (.int .i64 r.1))) [(8900, .arena true [9000] r.2), (9000, .dead)] := by
  refine call1 (N := 48) Try.func29 (by kernel_rfl) rfl rfl rfl [(9000, .arena true [] H_0), (9001, .apt 9000 d_1)] (by kernel_rfl) ?_
  intro _ B w0
  show Tr P B 48 w0 _ _ (RetQ P Try.f29 (R1 _ _ B w0))
  unfold disk_Disk_Cut at h
  refine tr_seq ?_
  refine tr_rg hT [] [sO 0 (.slc 9001), sI 1 .i64 n_2, sI 2 .i64 size_3, (.h 9000, .e (.arena true [] H_0)), (.h 9001, .e (.apt 9000 d_1))] hnil ?_
  refine q_k ?_
  refine tr_seq ?_
  obtain ⟨⟨p1, r2⟩, e3, h⟩ := bind_some h
  refine tr_rg hT [(2, .callA [(9000, .ro), (9001, .apt 9000)] (.tup [.one (.slc 0), .one (.int .i64 r2)]) [(0, .apt 9000 p1)])] [sO 0 (.slc 9001), sI 2 .i64 size_3, sO 7 (.slc 0), sI 8 .i64 r2, (.h 0, .e (.apt 9000 p1)), (.h 9000, .e (.arena true [] H_0)), (.h 9001, .e (.apt 9000 d_1))] (hone ((disk_Disk_find_ok H_0 d_1 n_2 (p1, r2) e3).tr1 [(9001, .slc 9001), (9000, .slc 9000), (8900, .slc 0)] [(9000, .arena false [] H_0), (9001, .apt 9000 d_1)] ⟨.arena' (bs := []), .apts' (κb := 9000), trivial⟩)) ?_
  refine q_k ?_
  refine tr_seq ?_
  refine tr_block ?_
  refine tr_seq ?_
  refine tr_rg hT [] [sO 0 (.slc 9001), sI 2 .i64 size_3, sO 7 (.slc 0), sI 8 .i64 r2, sB 15 (r2 != (0 : Int)), (.h 0, .e (.apt 9000 p1)), (.h 9000, .e (.arena true [] H_0)), (.h 9001, .e (.apt 9000 d_1))] hnil ?_
  refine q_k ?_
  rcases ite_split h with ⟨hc4, h⟩ | ⟨hc4, h⟩
  · refine tr_cond_t (r2 != (0 : Int)) (by kernel_rfl) hc4 ?_
    refine tr_seq ?_
    refine tr_rg hT [] [sI 6 .i64 r2, (.h 9000, .e (.arena true [] H_0))] hnil ?_
    refine q_k ?_
    refine tr_ret ?_
    refine q_b_ret ?_
    refine q_k_ret ?_
    have h := Option.some.inj h
    subst h
    refine q_ft [(8900, .slc 9000)] [sI 6 .i64 r2, (.h 8900, .e (.arena true [9000] H_0)), hD 9000] ⟨.arena' (bs := []), .dead, trivial⟩ ?_
    exact q_ret1 hT (.v (.one (.int .i64 r2))) [(8900, .arena true [9000] H_0), (9000, .dead)] (by kernel_rfl) (by kernel_rfl) (by kernel_rfl)
  · refine tr_cond_f (r2 != (0 : Int)) (by kernel_rfl) hc4 ?_
    refine tr_seq ?_
    rcases ite_split h with ⟨hb5, h⟩ | ⟨hb6, h⟩
    · refine tr_rg hT [(2, .dec true)] [sO 0 (.slc 9001), sI 2 .i64 size_3, sO 7 (.slc 0), sB 19 true, (.h 0, .e (.apt 9000 p1)), (.h 9000, .e (.arena true [] H_0)), (.h 9001, .e (.apt 9000 d_1))] (hone hb5) ?_
      refine q_k ?_
      refine tr_cond_t true (by kernel_rfl) rfl ?_
      refine tr_seq ?_
      refine tr_rg hT [] [sI 6 .i64 (1 : Int), (.h 9000, .e (.arena true [] H_0))] hnil ?_
      refine q_k ?_
      refine tr_ret ?_
      refine q_b_ret ?_
      refine q_k_ret ?_
      have h := Option.some.inj h
      subst h
      refine q_ft [(8900, .slc 9000)] [sI 6 .i64 (1 : Int), (.h 8900, .e (.arena true [9000] H_0)), hD 9000] ⟨.arena' (bs := []), .dead, trivial⟩ ?_
      exact q_ret1 hT (.v (.one (.int .i64 (1 : Int)))) [(8900, .arena true [9000] H_0), (9000, .dead)] (by kernel_rfl) (by kernel_rfl) (by kernel_rfl)
    · obtain ⟨hn7, h⟩ := ite_some h
      obtain ⟨hn8, h⟩ := ite_some h
      obtain ⟨hn9, h⟩ := ite_some h
      refine tr_rg hT [(2, .dec false), (5, .ar 9000 []), (6, .ar 9000 []), (7, .ar 9000 [1]), (8, .ar 9000 [])] [sO 0 (.slc 9001), sI 2 .i64 size_3, sO 7 (.slc 0), sB 19 (decide (size_3 > (↑(MV.len (AH.rd H_0 p1 0)) : Int))), (.h 0, .e (.apt 9000 p1)), (.h 9000, .e (.arena true [] H_0)), (.h 9001, .e (.apt 9000 d_1))] (hcons hb6 (hcons hn7 (hcons hn7 (hcons hn8 (hone hn9))))) ?_
      refine q_k ?_
      rcases ite_split h with ⟨hc10, h⟩ | ⟨hc10, h⟩
      · refine tr_cond_t (decide (size_3 > (↑(MV.len (AH.rd H_0 p1 0)) : Int))) (by kernel_rfl) hc10 ?_
        refine tr_seq ?_
        refine tr_rg hT [] [sI 6 .i64 (1 : Int), (.h 9000, .e (.arena true [] H_0))] hnil ?_
        refine q_k ?_
        refine tr_ret ?_
        refine q_b_ret ?_
        refine q_k_ret ?_
        have h := Option.some.inj h
        subst h
        refine q_ft [(8900, .slc 9000)] [sI 6 .i64 (1 : Int), (.h 8900, .e (.arena true [9000] H_0)), hD 9000] ⟨.arena' (bs := []), .dead, trivial⟩ ?_
        exact q_ret1 hT (.v (.one (.int .i64 (1 : Int)))) [(8900, .arena true [9000] H_0), (9000, .dead)] (by kernel_rfl) (by kernel_rfl) (by kernel_rfl)
      · refine tr_cond_f (decide (size_3 > (↑(MV.len (AH.rd H_0 p1 0)) : Int))) (by kernel_rfl) hc10 ?_
        refine tr_skip ?_
        refine q_b 0 ?_
        refine q_k ?_
        refine tr_seq ?_
        obtain ⟨⟨r11, H12⟩, e13, h⟩ := bind_some h
        refine tr_rg hT [(1, .callA [(9000, .rw), (9001, .apt 9000)] (.v (.one (.int .i64 r11))) [(2, .arena true [9000] H12), (9000, .dead)])] [sI 2 .i64 size_3, sO 7 (.slc 0), sI 8 .i64 r11, (.h 0, .e (.apt 9000 p1)), (.h 2, .e (.arena true [9000] H12))] (hone ((disk_Disk_spend_ok H_0 d_1 (r11, H12) e13).tr1 [(9001, .slc 9001), (9000, .slc 9000), (8900, .slc 2)] [(9000, .arena true [] H_0), (9001, .apt 9000 d_1)] ⟨.arena' (bs := []), .apts' (κb := 9000), trivial⟩)) ?_
        refine q_k ?_
        refine tr_seq ?_
        refine tr_seq ?_
        refine tr_rg hT [] [sI 2 .i64 size_3, sO 7 (.slc 0), sI 8 .i64 r11, sB 34 (r11 == (0 : Int)), (.h 0, .e (.apt 9000 p1)), (.h 2, .e (.arena true [9000] H12))] hnil ?_
        refine q_k ?_
        obtain ⟨H14, e26, h⟩ := bind_some h
        refine tr_join (σ1 := [sI 8 .i64 r11, (.h 43, .e (.arena true [9000] H14))]) ?_ ?_
        · skip
          replace h : (some (r11, H14)) = _ := h
          refine q_k ?_
          refine tr_seq ?_
          refine tr_rg hT [] [sI 6 .i64 r11, (.h 43, .e (.arena true [9000] H14))] hnil ?_
          refine q_k ?_
          refine tr_ret ?_
          have h := Option.some.inj h
          subst h
          refine q_ft [(8900, .slc 43)] [sI 6 .i64 r11, (.h 8900, .e (.arena true [9000] H14)), hD 9000] ⟨.arena' (bs := [9000]), .dead, trivial⟩ ?_
          exact q_ret1 hT (.v (.one (.int .i64 r11))) [(8900, .arena true [9000] H14), (9000, .dead)] (by kernel_rfl) (by kernel_rfl) (by kernel_rfl)
        · intro hj0
          clear h
          have h := e26
          clear e26
          rcases ite_split h with ⟨hc15, h⟩ | ⟨hc15, h⟩
          · refine tr_cond_t (r11 == (0 : Int)) (by kernel_rfl) hc15 ?_
            refine tr_seq ?_
            obtain ⟨hn16, h⟩ := ite_some h
            obtain ⟨hn17, h⟩ := ite_some h
            obtain ⟨hn18, h⟩ := ite_some h
            obtain ⟨hn19, h⟩ := ite_some h
            obtain ⟨hn20, h⟩ := ite_some h
            obtain ⟨hn23, h⟩ := ite_some h
            obtain ⟨a21, e22, h⟩ := bind_some h
            refine tr_rg hT [(2, .ar 2 []), (3, .ar 2 []), (4, .ar 2 [44]), (6, .ar 2 [45]), (7, .callA [(45, .rd .u8 2)] (.v (.one (.slc 46))) [(46, .own 5 .u8 a21)]), (8, .ar 2 []), (9, .ar 2 []), (10, .ar 2 [47])] [sO 7 (.slc 0), sI 8 .i64 r11, (.h 0, .e (.apt 9000 p1)), (.h 47, .e (.arena true [2, 9000] (AH.wr (H12 ++ [MO.row 5 1 (a21.map (MV.int .u8))]) p1 0 [MV.slc (List.length H12) 1 0 (List.length a21)])))] (hcons hn16 (hcons hn16 (hcons hn17 (hcons hn18 (hcons hn19 (hcons hn20 (hcons hn23 (hcons ((slices_Clone_byte_byte_ok (AH.ints H12 (MV.sub (AH.rd H12 p1 0) 0 size_3.toNat)) a21 e22).tr1 [(9000, .slc 45), (8900, .slc 46)] [(45, .rd .u8 (AH.ints H12 (MV.sub (AH.rd H12 p1 0) 0 size_3.toNat)))] ⟨.rd', trivial⟩) (hcons hn16 (hcons hn16 (hcons hn17 (hone (show 1 ≤ 1 from by decide))))))))))))) ?_
            refine q_k ?_
            obtain ⟨H24, e25, h⟩ := bind_some h
            refine tr_rg hT [(1, .callA [(47, .rw), (0, .apt 47)] (.tup []) [(48, .arena true [47] H24), (47, .dead)])] [sI 8 .i64 r11, (.h 48, .e (.arena true [47, 2, 9000] H24))] (hone ((disk_file_settle_ok (AH.wr (H12 ++ [MO.row 5 1 (a21.map (MV.int .u8))]) p1 0 [MV.slc (List.length H12) 1 0 (List.length a21)]) p1 H24 e25).tr1 [(9001, .slc 0), (9000, .slc 47), (8900, .slc 48)] [(47, .arena true [] (AH.wr (H12 ++ [MO.row 5 1 (a21.map (MV.int .u8))]) p1 0 [MV.slc (List.length H12) 1 0 (List.length a21)])), (0, .apt 47 p1)] ⟨.arena' (bs := []), .apts' (κb := 47), trivial⟩)) ?_
            have h := Option.some.inj h
            subst h
            exact q_ft [(43, .slc 48)] [sI 8 .i64 r11, (.h 43, .e (.arena true [9000] H24))] ⟨.arena' (bs := [47, 2, 9000]), trivial⟩ hj0
          · refine tr_cond_f (r11 == (0 : Int)) (by kernel_rfl) hc15 ?_
            refine tr_skip ?_
            have h := Option.some.inj h
            subst h
            exact q_ft [(43, .slc 2)] [sI 8 .i64 r11, (.h 43, .e (.arena true [9000] H12))] ⟨.arena' (bs := [9000]), trivial⟩ hj0

theorem law14_DiskRoom_ok (limit_0 : Int) (a_1 : Int) (b_2 : Int) (r : Bool) (h : law14_DiskRoom limit_0 a_1 b_2 = some r) {pre : List (Nat × Ent)} : CallOk P 7 [.v (.one (.int .i64 limit_0)), .v (.one (.int .i64 a_1)), .v (.one (.int .i64 b_2))] pre (.v (.one (.bool r))) [] := by
  refine call0 (N := 130) Try.func7 (by kernel_rfl) rfl rfl rfl pre ?_
  intro _ w
  show Tr P (Ge w) 130 _ _ _ (RetQ P Try.f7 (R0 _ w))
  unfold law14_DiskRoom at h
  refine tr_seq ?_
  refine tr_rg hT [] [sI 0 .i64 limit_0, sI 1 .i64 a_1, sI 2 .i64 b_2] hnil ?_
  refine q_k ?_
  refine tr_seq ?_
  refine tr_rg hT [] [sI 0 .i64 (IntKind.i64.wrap ((1 : Int) + (IntKind.i64.wrap ((IntKind.u64.wrap limit_0).tmod (500 : Int))))), sI 1 .i64 a_1, sI 2 .i64 b_2] (hone (show (500 : Int) ≠ 0 from by decide)) ?_
  refine q_k ?_
  refine tr_seq ?_
  obtain ⟨hn1, h⟩ := ite_some h
  refine tr_rg hT [] [sI 0 .i64 (IntKind.i64.wrap ((1 : Int) + (IntKind.i64.wrap ((IntKind.u64.wrap limit_0).tmod (500 : Int))))), sI 1 .i64 (IntKind.i64.wrap ((IntKind.u64.wrap a_1).tmod (IntKind.u64.wrap (IntKind.i64.wrap ((IntKind.i64.wrap ((1 : Int) + (IntKind.i64.wrap ((IntKind.u64.wrap limit_0).tmod (500 : Int))))) + (1 : Int)))))), sI 2 .i64 b_2] (hone hn1) ?_
  refine q_k ?_
  refine tr_seq ?_
  obtain ⟨⟨p2, r3, H4⟩, e5, h⟩ := bind_some h
  refine tr_rg hT [(1, .callA [] (.tup [.one (.slc 1), .one (.int .i64 r3)]) [(1, .apt 0 p2), (0, .arena true [] H4)])] [sI 0 .i64 (IntKind.i64.wrap ((1 : Int) + (IntKind.i64.wrap ((IntKind.u64.wrap limit_0).tmod (500 : Int))))), sI 1 .i64 (IntKind.i64.wrap ((IntKind.u64.wrap a_1).tmod (IntKind.u64.wrap (IntKind.i64.wrap ((IntKind.i64.wrap ((1 : Int) + (IntKind.i64.wrap ((IntKind.u64.wrap limit_0).tmod (500 : Int))))) + (1 : Int)))))), sI 2 .i64 b_2, sO 7 (.slc 1), sI 8 .i64 r3, (.h 0, .e (.arena true [] H4)), (.h 1, .e (.apt 0 p2))] (hone ((disk_New_ok (IntKind.i64.wrap ((1 : Int) + (IntKind.i64.wrap ((IntKind.u64.wrap limit_0).tmod (500 : Int))))) (p2, r3, H4) e5).tr1 [(8901, .slc 0), (8900, .slc 1)] [] trivial)) ?_
  refine q_k ?_
  refine tr_seq ?_
  refine tr_seq ?_
  rcases ite_split h with ⟨hb6, h⟩ | ⟨hb7, h⟩
  · refine tr_rg hT [(2, .dec true)] [sI 0 .i64 (IntKind.i64.wrap ((1 : Int) + (IntKind.i64.wrap ((IntKind.u64.wrap limit_0).tmod (500 : Int))))), sI 1 .i64 (IntKind.i64.wrap ((IntKind.u64.wrap a_1).tmod (IntKind.u64.wrap (IntKind.i64.wrap ((IntKind.i64.wrap ((1 : Int) + (IntKind.i64.wrap ((IntKind.u64.wrap limit_0).tmod (500 : Int))))) + (1 : Int)))))), sI 2 .i64 b_2, sO 7 (.slc 1), sB 57 true, (.h 0, .e (.arena true [] H4)), (.h 1, .e (.apt 0 p2))] (hone hb6) ?_
    refine q_k ?_
    refine tr_cond_t true (by kernel_rfl) rfl ?_
    refine tr_seq ?_
    refine tr_rg hT [] [sB 6 false] hnil ?_
    refine q_k ?_
    refine tr_ret ?_
    refine q_k_ret ?_
    have h := Option.some.inj h
    subst h
    exact q_ret0 hT (.v (.one (.bool false))) rfl (by kernel_rfl)
  · obtain ⟨hn8, h⟩ := ite_some h
    rcases ite_split h with ⟨hb9, h⟩ | ⟨hb10, h⟩
    · refine tr_rg hT [(2, .dec false), (4, .ar 0 []), (6, .dec true)] [sI 0 .i64 (IntKind.i64.wrap ((1 : Int) + (IntKind.i64.wrap ((IntKind.u64.wrap limit_0).tmod (500 : Int))))), sI 1 .i64 (IntKind.i64.wrap ((IntKind.u64.wrap a_1).tmod (IntKind.u64.wrap (IntKind.i64.wrap ((IntKind.i64.wrap ((1 : Int) + (IntKind.i64.wrap ((IntKind.u64.wrap limit_0).tmod (500 : Int))))) + (1 : Int)))))), sI 2 .i64 b_2, sO 7 (.slc 1), sB 57 true, (.h 0, .e (.arena true [] H4)), (.h 1, .e (.apt 0 p2))] (hcons hb7 (hcons hn8 (hone hb9))) ?_
      refine q_k ?_
      refine tr_cond_t true (by kernel_rfl) rfl ?_
      refine tr_seq ?_
      refine tr_rg hT [] [sB 6 false] hnil ?_
      refine q_k ?_
      refine tr_ret ?_
      refine q_k_ret ?_
      have h := Option.some.inj h
      subst h
      exact q_ret0 hT (.v (.one (.bool false))) rfl (by kernel_rfl)
    · obtain ⟨⟨r11, H12⟩, e13, h⟩ := bind_some h
      rcases ite_split h with ⟨hb14, h⟩ | ⟨hb15, h⟩
      · refine tr_rg hT [(2, .dec false), (4, .ar 0 []), (6, .dec false), (8, .callA [(0, .rw), (1, .apt 0)] (.v (.one (.int .i64 r11))) [(2, .arena true [0] H12), (0, .dead)]), (11, .dec true)] [sI 0 .i64 (IntKind.i64.wrap ((1 : Int) + (IntKind.i64.wrap ((IntKind.u64.wrap limit_0).tmod (500 : Int))))), sI 1 .i64 (IntKind.i64.wrap ((IntKind.u64.wrap a_1).tmod (IntKind.u64.wrap (IntKind.i64.wrap ((IntKind.i64.wrap ((1 : Int) + (IntKind.i64.wrap ((IntKind.u64.wrap limit_0).tmod (500 : Int))))) + (1 : Int)))))), sI 2 .i64 b_2, sO 7 (.slc 1), sB 57 true, (.h 1, .e (.apt 0 p2)), (.h 2, .e (.arena true [0] H12))] (hcons hb7 (hcons hn8 (hcons hb10 (hcons ((disk_Disk_Create_ok H4 p2 (0 : Int) (r11, H12) e13).tr1 [(9001, .slc 1), (9000, .slc 0), (8900, .slc 2)] [(0, .arena true [] H4), (1, .apt 0 p2)] ⟨.arena' (bs := []), .apts' (κb := 0), trivial⟩) (hone hb14))))) ?_
        refine q_k ?_
        refine tr_cond_t true (by kernel_rfl) rfl ?_
        refine tr_seq ?_
        refine tr_rg hT [] [sB 6 false] hnil ?_
        refine q_k ?_
        refine tr_ret ?_
        refine q_k_ret ?_
        have h := Option.some.inj h
        subst h
        exact q_ret0 hT (.v (.one (.bool false))) rfl (by kernel_rfl)
      · obtain ⟨⟨r16, H17⟩, e18, h⟩ := bind_some h
        rcases ite_split h with ⟨hb19, h⟩ | ⟨hb20, h⟩
        · refine tr_rg hT [(2, .dec false), (4, .ar 0 []), (6, .dec false), (8, .callA [(0, .rw), (1, .apt 0)] (.v (.one (.int .i64 r11))) [(2, .arena true [0] H12), (0, .dead)]), (11, .dec false), (13, .callA [(2, .rw), (1, .apt 2)] (.v (.one (.int .i64 r16))) [(3, .arena true [2] H17), (2, .dead)]), (16, .dec true)] [sI 0 .i64 (IntKind.i64.wrap ((1 : Int) + (IntKind.i64.wrap ((IntKind.u64.wrap limit_0).tmod (500 : Int))))), sI 1 .i64 (IntKind.i64.wrap ((IntKind.u64.wrap a_1).tmod (IntKind.u64.wrap (IntKind.i64.wrap ((IntKind.i64.wrap ((1 : Int) + (IntKind.i64.wrap ((IntKind.u64.wrap limit_0).tmod (500 : Int))))) + (1 : Int)))))), sI 2 .i64 b_2, sO 7 (.slc 1), sB 57 true, (.h 1, .e (.apt 0 p2)), (.h 3, .e (.arena true [2, 0] H17))] (hcons hb7 (hcons hn8 (hcons hb10 (hcons ((disk_Disk_Create_ok H4 p2 (0 : Int) (r11, H12) e13).tr1 [(9001, .slc 1), (9000, .slc 0), (8900, .slc 2)] [(0, .arena true [] H4), (1, .apt 0 p2)] ⟨.arena' (bs := []), .apts' (κb := 0), trivial⟩) (hcons hb15 (hcons ((disk_Disk_Create_ok H12 p2 (1 : Int) (r16, H17) e18).tr1 [(9001, .slc 1), (9000, .slc 2), (8900, .slc 3)] [(2, .arena true [] H12), (1, .apt 2 p2)] ⟨.arena' (bs := []), .apts' (κb := 2), trivial⟩) (hone hb19))))))) ?_
          refine q_k ?_
          refine tr_cond_t true (by kernel_rfl) rfl ?_
          refine tr_seq ?_
          refine tr_rg hT [] [sB 6 false] hnil ?_
          refine q_k ?_
          refine tr_ret ?_
          refine q_k_ret ?_
          have h := Option.some.inj h
          subst h
          exact q_ret0 hT (.v (.one (.bool false))) rfl (by kernel_rfl)
        · obtain ⟨hn21, h⟩ := ite_some h
          obtain ⟨⟨r22, H23⟩, e24, h⟩ := bind_some h
          rcases ite_split h with ⟨hb25, h⟩ | ⟨hb26, h⟩
          · refine tr_rg hT [(2, .dec false), (4, .ar 0 []), (6, .dec false), (8, .callA [(0, .rw), (1, .apt 0)] (.v (.one (.int .i64 r11))) [(2, .arena true [0] H12), (0, .dead)]), (11, .dec false), (13, .callA [(2, .rw), (1, .apt 2)] (.v (.one (.int .i64 r16))) [(3, .arena true [2] H17), (2, .dead)]), (16, .dec false), (19, .key 4), (20, .callA [(3, .rw), (1, .apt 3), (4, .same)] (.v (.one (.int .i64 r22))) [(5, .arena true [3] H23), (3, .dead)]), (23, .dec true)] [sI 0 .i64 (IntKind.i64.wrap ((1 : Int) + (IntKind.i64.wrap ((IntKind.u64.wrap limit_0).tmod (500 : Int))))), sI 1 .i64 (IntKind.i64.wrap ((IntKind.u64.wrap a_1).tmod (IntKind.u64.wrap (IntKind.i64.wrap ((IntKind.i64.wrap ((1 : Int) + (IntKind.i64.wrap ((IntKind.u64.wrap limit_0).tmod (500 : Int))))) + (1 : Int)))))), sI 2 .i64 b_2, sO 7 (.slc 1), sB 57 true, (.h 1, .e (.apt 0 p2)), (.h 5, .e (.arena true [3, 2, 0] H23))] (hcons hb7 (hcons hn8 (hcons hb10 (hcons ((disk_Disk_Create_ok H4 p2 (0 : Int) (r11, H12) e13).tr1 [(9001, .slc 1), (9000, .slc 0), (8900, .slc 2)] [(0, .arena true [] H4), (1, .apt 0 p2)] ⟨.arena' (bs := []), .apts' (κb := 0), trivial⟩) (hcons hb15 (hcons ((disk_Disk_Create_ok H12 p2 (1 : Int) (r16, H17) e18).tr1 [(9001, .slc 1), (9000, .slc 2), (8900, .slc 3)] [(2, .arena true [] H12), (1, .apt 2 p2)] ⟨.arena' (bs := []), .apts' (κb := 2), trivial⟩) (hcons hb20 (hcons (show (IntKind.i64.wrap ((IntKind.u64.wrap a_1).tmod (IntKind.u64.wrap (IntKind.i64.wrap ((IntKind.i64.wrap ((1 : Int) + (IntKind.i64.wrap ((IntKind.u64.wrap limit_0).tmod (500 : Int))))) + (1 : Int)))))) = (IntKind.i64.wrap ((IntKind.u64.wrap a_1).tmod (IntKind.u64.wrap (IntKind.i64.wrap ((IntKind.i64.wrap ((1 : Int) + (IntKind.i64.wrap ((IntKind.u64.wrap limit_0).tmod (500 : Int))))) + (1 : Int)))))) from rfl) (hcons hn21 (hcons ((disk_Disk_Append_ok H17 p2 (0 : Int) (List.replicate (IntKind.i64.wrap ((IntKind.u64.wrap a_1).tmod (IntKind.u64.wrap (IntKind.i64.wrap ((IntKind.i64.wrap ((1 : Int) + (IntKind.i64.wrap ((IntKind.u64.wrap limit_0).tmod (500 : Int))))) + (1 : Int)))))).toNat (0 : Int)) (r22, H23) e24).tr1 [(9001, .slc 1), (9002, .slc 4), (9000, .slc 3), (8900, .slc 5)] [(3, .arena true [] H17), (1, .apt 3 p2), (4, .own 5 .u8 (List.replicate (IntKind.i64.wrap ((IntKind.u64.wrap a_1).tmod (IntKind.u64.wrap (IntKind.i64.wrap ((IntKind.i64.wrap ((1 : Int) + (IntKind.i64.wrap ((IntKind.u64.wrap limit_0).tmod (500 : Int))))) + (1 : Int)))))).toNat (0 : Int)))] ⟨.arena' (bs := []), .apts' (κb := 3), .ownrd' (e := 5), trivial⟩) (hone hb25))))))))))) ?_
            refine q_k ?_
            refine tr_cond_t true (by kernel_rfl) rfl ?_
            refine tr_seq ?_
            refine tr_rg hT [] [sB 6 false] hnil ?_
            refine q_k ?_
            refine tr_ret ?_
            refine q_k_ret ?_
            have h := Option.some.inj h
            subst h
            exact q_ret0 hT (.v (.one (.bool false))) rfl (by kernel_rfl)
          · obtain ⟨hn27, h⟩ := ite_some h
            obtain ⟨⟨r28, H29⟩, e30, h⟩ := bind_some h
            refine tr_rg hT [(2, .dec false), (4, .ar 0 []), (6, .dec false), (8, .callA [(0, .rw), (1, .apt 0)] (.v (.one (.int .i64 r11))) [(2, .arena true [0] H12), (0, .dead)]), (11, .dec false), (13, .callA [(2, .rw), (1, .apt 2)] (.v (.one (.int .i64 r16))) [(3, .arena true [2] H17), (2, .dead)]), (16, .dec false), (19, .key 4), (20, .callA [(3, .rw), (1, .apt 3), (4, .same)] (.v (.one (.int .i64 r22))) [(5, .arena true [3] H23), (3, .dead)]), (23, .dec false), (28, .key 6), (29, .callA [(5, .rw), (1, .apt 5), (6, .same)] (.v (.one (.int .i64 r28))) [(7, .arena true [5] H29), (5, .dead)])] [sI 0 .i64 (IntKind.i64.wrap ((1 : Int) + (IntKind.i64.wrap ((IntKind.u64.wrap limit_0).tmod (500 : Int))))), sI 1 .i64 (IntKind.i64.wrap ((IntKind.u64.wrap a_1).tmod (IntKind.u64.wrap (IntKind.i64.wrap ((IntKind.i64.wrap ((1 : Int) + (IntKind.i64.wrap ((IntKind.u64.wrap limit_0).tmod (500 : Int))))) + (1 : Int)))))), sI 2 .i64 b_2, sO 7 (.slc 1), sB 57 (r28 != (0 : Int)), (.h 1, .e (.apt 0 p2)), (.h 7, .e (.arena true [5, 3, 2, 0] H29))] (hcons hb7 (hcons hn8 (hcons hb10 (hcons ((disk_Disk_Create_ok H4 p2 (0 : Int) (r11, H12) e13).tr1 [(9001, .slc 1), (9000, .slc 0), (8900, .slc 2)] [(0, .arena true [] H4), (1, .apt 0 p2)] ⟨.arena' (bs := []), .apts' (κb := 0), trivial⟩) (hcons hb15 (hcons ((disk_Disk_Create_ok H12 p2 (1 : Int) (r16, H17) e18).tr1 [(9001, .slc 1), (9000, .slc 2), (8900, .slc 3)] [(2, .arena true [] H12), (1, .apt 2 p2)] ⟨.arena' (bs := []), .apts' (κb := 2), trivial⟩) (hcons hb20 (hcons (show (IntKind.i64.wrap ((IntKind.u64.wrap a_1).tmod (IntKind.u64.wrap (IntKind.i64.wrap ((IntKind.i64.wrap ((1 : Int) + (IntKind.i64.wrap ((IntKind.u64.wrap limit_0).tmod (500 : Int))))) + (1 : Int)))))) = (IntKind.i64.wrap ((IntKind.u64.wrap a_1).tmod (IntKind.u64.wrap (IntKind.i64.wrap ((IntKind.i64.wrap ((1 : Int) + (IntKind.i64.wrap ((IntKind.u64.wrap limit_0).tmod (500 : Int))))) + (1 : Int)))))) from rfl) (hcons hn21 (hcons ((disk_Disk_Append_ok H17 p2 (0 : Int) (List.replicate (IntKind.i64.wrap ((IntKind.u64.wrap a_1).tmod (IntKind.u64.wrap (IntKind.i64.wrap ((IntKind.i64.wrap ((1 : Int) + (IntKind.i64.wrap ((IntKind.u64.wrap limit_0).tmod (500 : Int))))) + (1 : Int)))))).toNat (0 : Int)) (r22, H23) e24).tr1 [(9001, .slc 1), (9002, .slc 4), (9000, .slc 3), (8900, .slc 5)] [(3, .arena true [] H17), (1, .apt 3 p2), (4, .own 5 .u8 (List.replicate (IntKind.i64.wrap ((IntKind.u64.wrap a_1).tmod (IntKind.u64.wrap (IntKind.i64.wrap ((IntKind.i64.wrap ((1 : Int) + (IntKind.i64.wrap ((IntKind.u64.wrap limit_0).tmod (500 : Int))))) + (1 : Int)))))).toNat (0 : Int)))] ⟨.arena' (bs := []), .apts' (κb := 3), .ownrd' (e := 5), trivial⟩) (hcons hb26 (hcons (show (IntKind.i64.wrap ((IntKind.i64.wrap ((1 : Int) + (IntKind.i64.wrap ((IntKind.u64.wrap limit_0).tmod (500 : Int))))) - (IntKind.i64.wrap ((IntKind.u64.wrap a_1).tmod (IntKind.u64.wrap (IntKind.i64.wrap ((IntKind.i64.wrap ((1 : Int) + (IntKind.i64.wrap ((IntKind.u64.wrap limit_0).tmod (500 : Int))))) + (1 : Int)))))))) = (IntKind.i64.wrap ((IntKind.i64.wrap ((1 : Int) + (IntKind.i64.wrap ((IntKind.u64.wrap limit_0).tmod (500 : Int))))) - (IntKind.i64.wrap ((IntKind.u64.wrap a_1).tmod (IntKind.u64.wrap (IntKind.i64.wrap ((IntKind.i64.wrap ((1 : Int) + (IntKind.i64.wrap ((IntKind.u64.wrap limit_0).tmod (500 : Int))))) + (1 : Int)))))))) from rfl) (hcons hn27 (hone ((disk_Disk_Append_ok H23 p2 (1 : Int) (List.replicate (IntKind.i64.wrap ((IntKind.i64.wrap ((1 : Int) + (IntKind.i64.wrap ((IntKind.u64.wrap limit_0).tmod (500 : Int))))) - (IntKind.i64.wrap ((IntKind.u64.wrap a_1).tmod (IntKind.u64.wrap (IntKind.i64.wrap ((IntKind.i64.wrap ((1 : Int) + (IntKind.i64.wrap ((IntKind.u64.wrap limit_0).tmod (500 : Int))))) + (1 : Int)))))))).toNat (0 : Int)) (r28, H29) e30).tr1 [(9001, .slc 1), (9002, .slc 6), (9000, .slc 5), (8900, .slc 7)] [(5, .arena true [] H23), (1, .apt 5 p2), (6, .own 5 .u8 (List.replicate (IntKind.i64.wrap ((IntKind.i64.wrap ((1 : Int) + (IntKind.i64.wrap ((IntKind.u64.wrap limit_0).tmod (500 : Int))))) - (IntKind.i64.wrap ((IntKind.u64.wrap a_1).tmod (IntKind.u64.wrap (IntKind.i64.wrap ((IntKind.i64.wrap ((1 : Int) + (IntKind.i64.wrap ((IntKind.u64.wrap limit_0).tmod (500 : Int))))) + (1 : Int)))))))).toNat (0 : Int)))] ⟨.arena' (bs := []), .apts' (κb := 5), .ownrd' (e := 5), trivial⟩))))))))))))))) ?_
            refine q_k ?_
            rcases ite_split h with ⟨hc31, h⟩ | ⟨hc31, h⟩
            · refine tr_cond_t (r28 != (0 : Int)) (by kernel_rfl) hc31 ?_
              refine tr_seq ?_
              refine tr_rg hT [] [sB 6 false] hnil ?_
              refine q_k ?_
              refine tr_ret ?_
              refine q_k_ret ?_
              have h := Option.some.inj h
              subst h
              exact q_ret0 hT (.v (.one (.bool false))) rfl (by kernel_rfl)
            · refine tr_cond_f (r28 != (0 : Int)) (by kernel_rfl) hc31 ?_
              refine tr_skip ?_
              refine q_k ?_
              refine tr_seq ?_
              refine tr_seq ?_
              obtain ⟨⟨r32, H33⟩, e34, h⟩ := bind_some h
              rcases ite_split h with ⟨hb35, h⟩ | ⟨hb36, h⟩
              · refine tr_rg hT [(1, .key 8), (2, .callA [(7, .rw), (1, .apt 7), (8, .same)] (.v (.one (.int .i64 r32))) [(9, .arena true [7] H33), (7, .dead)]), (4, .dec true)] [sI 0 .i64 (IntKind.i64.wrap ((1 : Int) + (IntKind.i64.wrap ((IntKind.u64.wrap limit_0).tmod (500 : Int))))), sI 1 .i64 (IntKind.i64.wrap ((IntKind.u64.wrap a_1).tmod (IntKind.u64.wrap (IntKind.i64.wrap ((IntKind.i64.wrap ((1 : Int) + (IntKind.i64.wrap ((IntKind.u64.wrap limit_0).tmod (500 : Int))))) + (1 : Int)))))), sI 2 .i64 b_2, sO 7 (.slc 1), sB 72 true, (.h 1, .e (.apt 0 p2)), (.h 9, .e (.arena true [7, 5, 3, 2, 0] H33))] (hcons ((disk_Disk_Append_ok H29 p2 (0 : Int) [(1 : Int)] (r32, H33) e34).tr1 [(9001, .slc 1), (9002, .slc 8), (9000, .slc 7), (8900, .slc 9)] [(7, .arena true [] H29), (1, .apt 7 p2), (8, .own 5 .u8 [(1 : Int)])] ⟨.arena' (bs := []), .apts' (κb := 7), .ownrd' (e := 5), trivial⟩) (hone hb35)) ?_
                refine q_k ?_
                refine tr_cond_t true (by kernel_rfl) rfl ?_
                refine tr_seq ?_
                refine tr_rg hT [] [sB 6 false] hnil ?_
                refine q_k ?_
                refine tr_ret ?_
                refine q_k_ret ?_
                have h := Option.some.inj h
                subst h
                exact q_ret0 hT (.v (.one (.bool false))) rfl (by kernel_rfl)
              · obtain ⟨⟨r37, H38⟩, e39, h⟩ := bind_some h
                rcases ite_split h with ⟨hb40, h⟩ | ⟨hb41, h⟩
                · refine tr_rg hT [(1, .key 8), (2, .callA [(7, .rw), (1, .apt 7), (8, .same)] (.v (.one (.int .i64 r32))) [(9, .arena true [7] H33), (7, .dead)]), (4, .dec false), (6, .callA [(9, .rw), (1, .apt 9)] (.v (.one (.int .i64 r37))) [(10, .arena true [9] H38), (9, .dead)]), (9, .dec true)] [sI 0 .i64 (IntKind.i64.wrap ((1 : Int) + (IntKind.i64.wrap ((IntKind.u64.wrap limit_0).tmod (500 : Int))))), sI 1 .i64 (IntKind.i64.wrap ((IntKind.u64.wrap a_1).tmod (IntKind.u64.wrap (IntKind.i64.wrap ((IntKind.i64.wrap ((1 : Int) + (IntKind.i64.wrap ((IntKind.u64.wrap limit_0).tmod (500 : Int))))) + (1 : Int)))))), sI 2 .i64 b_2, sO 7 (.slc 1), sB 72 true, (.h 1, .e (.apt 0 p2)), (.h 10, .e (.arena true [9, 7, 5, 3, 2, 0] H38))] (hcons ((disk_Disk_Append_ok H29 p2 (0 : Int) [(1 : Int)] (r32, H33) e34).tr1 [(9001, .slc 1), (9002, .slc 8), (9000, .slc 7), (8900, .slc 9)] [(7, .arena true [] H29), (1, .apt 7 p2), (8, .own 5 .u8 [(1 : Int)])] ⟨.arena' (bs := []), .apts' (κb := 7), .ownrd' (e := 5), trivial⟩) (hcons hb36 (hcons ((disk_Disk_Append_ok H33 p2 (0 : Int) [] (r37, H38) e39).tr1 [(9001, .slc 1), (9002, .nils), (9000, .slc 9), (8900, .slc 10)] [(9, .arena true [] H33), (1, .apt 9 p2)] ⟨.arena' (bs := []), .apts' (κb := 9), .nilrd, trivial⟩) (hone hb40)))) ?_
                  refine q_k ?_
                  refine tr_cond_t true (by kernel_rfl) rfl ?_
                  refine tr_seq ?_
                  refine tr_rg hT [] [sB 6 false] hnil ?_
                  refine q_k ?_
                  refine tr_ret ?_
                  refine q_k_ret ?_
                  have h := Option.some.inj h
                  subst h
                  exact q_ret0 hT (.v (.one (.bool false))) rfl (by kernel_rfl)
                · obtain ⟨r42, e43, h⟩ := bind_some h
                  refine tr_rg hT [(1, .key 8), (2, .callA [(7, .rw), (1, .apt 7), (8, .same)] (.v (.one (.int .i64 r32))) [(9, .arena true [7] H33), (7, .dead)]), (4, .dec false), (6, .callA [(9, .rw), (1, .apt 9)] (.v (.one (.int .i64 r37))) [(10, .arena true [9] H38), (9, .dead)]), (9, .dec false), (11, .callA [(10, .ro), (1, .apt 10)] (.v (.one (.int .i64 r42))) [])] [sI 0 .i64 (IntKind.i64.wrap ((1 : Int) + (IntKind.i64.wrap ((IntKind.u64.wrap limit_0).tmod (500 : Int))))), sI 1 .i64 (IntKind.i64.wrap ((IntKind.u64.wrap a_1).tmod (IntKind.u64.wrap (IntKind.i64.wrap ((IntKind.i64.wrap ((1 : Int) + (IntKind.i64.wrap ((IntKind.u64.wrap limit_0).tmod (500 : Int))))) + (1 : Int)))))), sI 2 .i64 b_2, sO 7 (.slc 1), sB 72 (r42 != (IntKind.i64.wrap ((IntKind.u64.wrap a_1).tmod (IntKind.u64.wrap (IntKind.i64.wrap ((IntKind.i64.wrap ((1 : Int) + (IntKind.i64.wrap ((IntKind.u64.wrap limit_0).tmod (500 : Int))))) + (1 : Int))))))), (.h 1, .e (.apt 0 p2)), (.h 10, .e (.arena true [9, 7, 5, 3, 2, 0] H38))] (hcons ((disk_Disk_Append_ok H29 p2 (0 : Int) [(1 : Int)] (r32, H33) e34).tr1 [(9001, .slc 1), (9002, .slc 8), (9000, .slc 7), (8900, .slc 9)] [(7, .arena true [] H29), (1, .apt 7 p2), (8, .own 5 .u8 [(1 : Int)])] ⟨.arena' (bs := []), .apts' (κb := 7), .ownrd' (e := 5), trivial⟩) (hcons hb36 (hcons ((disk_Disk_Append_ok H33 p2 (0 : Int) [] (r37, H38) e39).tr1 [(9001, .slc 1), (9002, .nils), (9000, .slc 9), (8900, .slc 10)] [(9, .arena true [] H33), (1, .apt 9 p2)] ⟨.arena' (bs := []), .apts' (κb := 9), .nilrd, trivial⟩) (hcons hb41 (hone ((disk_Disk_Size_ok H38 p2 (0 : Int) r42 e43).tr1 [(9001, .slc 1), (9000, .slc 10)] [(10, .arena false [] H38), (1, .apt 10 p2)] ⟨.arena' (bs := []), .apts' (κb := 10), trivial⟩)))))) ?_
                  refine q_k ?_
                  rcases ite_split h with ⟨hc44, h⟩ | ⟨hc44, h⟩
                  · refine tr_cond_t (r42 != (IntKind.i64.wrap ((IntKind.u64.wrap a_1).tmod (IntKind.u64.wrap (IntKind.i64.wrap ((IntKind.i64.wrap ((1 : Int) + (IntKind.i64.wrap ((IntKind.u64.wrap limit_0).tmod (500 : Int))))) + (1 : Int))))))) (by kernel_rfl) hc44 ?_
                    refine tr_seq ?_
                    refine tr_rg hT [] [sB 6 false] hnil ?_
                    refine q_k ?_
                    refine tr_ret ?_
                    refine q_k_ret ?_
                    have h := Option.some.inj h
                    subst h
                    exact q_ret0 hT (.v (.one (.bool false))) rfl (by kernel_rfl)
                  · refine tr_cond_f (r42 != (IntKind.i64.wrap ((IntKind.u64.wrap a_1).tmod (IntKind.u64.wrap (IntKind.i64.wrap ((IntKind.i64.wrap ((1 : Int) + (IntKind.i64.wrap ((IntKind.u64.wrap limit_0).tmod (500 : Int))))) + (1 : Int))))))) (by kernel_rfl) hc44 ?_
                    refine tr_skip ?_
                    refine q_k ?_
                    refine tr_seq ?_
                    obtain ⟨hn45, h⟩ := ite_some h
                    refine tr_rg hT [] [sI 0 .i64 (IntKind.i64.wrap ((1 : Int) + (IntKind.i64.wrap ((IntKind.u64.wrap limit_0).tmod (500 : Int))))), sI 1 .i64 (IntKind.i64.wrap ((IntKind.u64.wrap a_1).tmod (IntKind.u64.wrap (IntKind.i64.wrap ((IntKind.i64.wrap ((1 : Int) + (IntKind.i64.wrap ((IntKind.u64.wrap limit_0).tmod (500 : Int))))) + (1 : Int)))))), sI 2 .i64 (IntKind.i64.wrap ((IntKind.u64.wrap b_2).tmod (IntKind.u64.wrap (IntKind.i64.wrap ((IntKind.i64.wrap ((IntKind.u64.wrap a_1).tmod (IntKind.u64.wrap (IntKind.i64.wrap ((IntKind.i64.wrap ((1 : Int) + (IntKind.i64.wrap ((IntKind.u64.wrap limit_0).tmod (500 : Int))))) + (1 : Int)))))) + (1 : Int)))))), sO 7 (.slc 1), (.h 1, .e (.apt 0 p2)), (.h 10, .e (.arena true [9, 7, 5, 3, 2, 0] H38))] (hone hn45) ?_
                    refine q_k ?_
                    refine tr_seq ?_
                    refine tr_seq ?_
                    obtain ⟨⟨r46, H47⟩, e48, h⟩ := bind_some h
                    rcases ite_split h with ⟨hb49, h⟩ | ⟨hb50, h⟩
                    · refine tr_rg hT [(2, .callA [(10, .rw), (1, .apt 10)] (.v (.one (.int .i64 r46))) [(11, .arena true [10] H47), (10, .dead)]), (4, .dec true)] [sI 0 .i64 (IntKind.i64.wrap ((1 : Int) + (IntKind.i64.wrap ((IntKind.u64.wrap limit_0).tmod (500 : Int))))), sI 2 .i64 (IntKind.i64.wrap ((IntKind.u64.wrap b_2).tmod (IntKind.u64.wrap (IntKind.i64.wrap ((IntKind.i64.wrap ((IntKind.u64.wrap a_1).tmod (IntKind.u64.wrap (IntKind.i64.wrap ((IntKind.i64.wrap ((1 : Int) + (IntKind.i64.wrap ((IntKind.u64.wrap limit_0).tmod (500 : Int))))) + (1 : Int)))))) + (1 : Int)))))), sO 7 (.slc 1), sB 98 true, (.h 1, .e (.apt 0 p2)), (.h 11, .e (.arena true [10, 9, 7, 5, 3, 2, 0] H47))] (hcons ((disk_Disk_Cut_ok H38 p2 (0 : Int) (IntKind.i64.wrap ((IntKind.u64.wrap b_2).tmod (IntKind.u64.wrap (IntKind.i64.wrap ((IntKind.i64.wrap ((IntKind.u64.wrap a_1).tmod (IntKind.u64.wrap (IntKind.i64.wrap ((IntKind.i64.wrap ((1 : Int) + (IntKind.i64.wrap ((IntKind.u64.wrap limit_0).tmod (500 : Int))))) + (1 : Int)))))) + (1 : Int)))))) (r46, H47) e48).tr1 [(9001, .slc 1), (9000, .slc 10), (8900, .slc 11)] [(10, .arena true [] H38), (1, .apt 10 p2)] ⟨.arena' (bs := []), .apts' (κb := 10), trivial⟩) (hone hb49)) ?_
                      refine q_k ?_
                      refine tr_cond_t true (by kernel_rfl) rfl ?_
                      refine tr_seq ?_
                      refine tr_rg hT [] [sB 6 false] hnil ?_
                      refine q_k ?_
                      refine tr_ret ?_
                      refine q_k_ret ?_
                      have h := Option.some.inj h
                      subst h
                      exact q_ret0 hT (.v (.one (.bool false))) rfl (by kernel_rfl)
                    · obtain ⟨hn51, h⟩ := ite_some h
                      obtain ⟨⟨r52, H53⟩, e54, h⟩ := bind_some h
                      rcases ite_split h with ⟨hb55, h⟩ | ⟨hb56, h⟩
                      · refine tr_rg hT [(2, .callA [(10, .rw), (1, .apt 10)] (.v (.one (.int .i64 r46))) [(11, .arena true [10] H47), (10, .dead)]), (4, .dec false), (9, .key 12), (10, .callA [(11, .rw), (1, .apt 11), (12, .same)] (.v (.one (.int .i64 r52))) [(13, .arena true [11] H53), (11, .dead)]), (13, .dec true)] [sI 0 .i64 (IntKind.i64.wrap ((1 : Int) + (IntKind.i64.wrap ((IntKind.u64.wrap limit_0).tmod (500 : Int))))), sI 2 .i64 (IntKind.i64.wrap ((IntKind.u64.wrap b_2).tmod (IntKind.u64.wrap (IntKind.i64.wrap ((IntKind.i64.wrap ((IntKind.u64.wrap a_1).tmod (IntKind.u64.wrap (IntKind.i64.wrap ((IntKind.i64.wrap ((1 : Int) + (IntKind.i64.wrap ((IntKind.u64.wrap limit_0).tmod (500 : Int))))) + (1 : Int)))))) + (1 : Int)))))), sO 7 (.slc 1), sB 98 true, (.h 1, .e (.apt 0 p2)), (.h 13, .e (.arena true [11, 10, 9, 7, 5, 3, 2, 0] H53))] (hcons ((disk_Disk_Cut_ok H38 p2 (0 : Int) (IntKind.i64.wrap ((IntKind.u64.wrap b_2).tmod (IntKind.u64.wrap (IntKind.i64.wrap ((IntKind.i64.wrap ((IntKind.u64.wrap a_1).tmod (IntKind.u64.wrap (IntKind.i64.wrap ((IntKind.i64.wrap ((1 : Int) + (IntKind.i64.wrap ((IntKind.u64.wrap limit_0).tmod (500 : Int))))) + (1 : Int)))))) + (1 : Int)))))) (r46, H47) e48).tr1 [(9001, .slc 1), (9000, .slc 10), (8900, .slc 11)] [(10, .arena true [] H38), (1, .apt 10 p2)] ⟨.arena' (bs := []), .apts' (κb := 10), trivial⟩) (hcons hb50 (hcons (show (IntKind.i64.wrap ((IntKind.i64.wrap ((IntKind.u64.wrap a_1).tmod (IntKind.u64.wrap (IntKind.i64.wrap ((IntKind.i64.wrap ((1 : Int) + (IntKind.i64.wrap ((IntKind.u64.wrap limit_0).tmod (500 : Int))))) + (1 : Int)))))) - (IntKind.i64.wrap ((IntKind.u64.wrap b_2).tmod (IntKind.u64.wrap (IntKind.i64.wrap ((IntKind.i64.wrap ((IntKind.u64.wrap a_1).tmod (IntKind.u64.wrap (IntKind.i64.wrap ((IntKind.i64.wrap ((1 : Int) + (IntKind.i64.wrap ((IntKind.u64.wrap limit_0).tmod (500 : Int))))) + (1 : Int)))))) + (1 : Int)))))))) = (IntKind.i64.wrap ((IntKind.i64.wrap ((IntKind.u64.wrap a_1).tmod (IntKind.u64.wrap (IntKind.i64.wrap ((IntKind.i64.wrap ((1 : Int) + (IntKind.i64.wrap ((IntKind.u64.wrap limit_0).tmod (500 : Int))))) + (1 : Int)))))) - (IntKind.i64.wrap ((IntKind.u64.wrap b_2).tmod (IntKind.u64.wrap (IntKind.i64.wrap ((IntKind.i64.wrap ((IntKind.u64.wrap a_1).tmod (IntKind.u64.wrap (IntKind.i64.wrap ((IntKind.i64.wrap ((1 : Int) + (IntKind.i64.wrap ((IntKind.u64.wrap limit_0).tmod (500 : Int))))) + (1 : Int)))))) + (1 : Int)))))))) from rfl) (hcons hn51 (hcons ((disk_Disk_Append_ok H47 p2 (1 : Int) (List.replicate (IntKind.i64.wrap ((IntKind.i64.wrap ((IntKind.u64.wrap a_1).tmod (IntKind.u64.wrap (IntKind.i64.wrap ((IntKind.i64.wrap ((1 : Int) + (IntKind.i64.wrap ((IntKind.u64.wrap limit_0).tmod (500 : Int))))) + (1 : Int)))))) - (IntKind.i64.wrap ((IntKind.u64.wrap b_2).tmod (IntKind.u64.wrap (IntKind.i64.wrap ((IntKind.i64.wrap ((IntKind.u64.wrap a_1).tmod (IntKind.u64.wrap (IntKind.i64.wrap ((IntKind.i64.wrap ((1 : Int) + (IntKind.i64.wrap ((IntKind.u64.wrap limit_0).tmod (500 : Int))))) + (1 : Int)))))) + (1 : Int)))))))).toNat (0 : Int)) (r52, H53) e54).tr1 [(9001, .slc 1), (9002, .slc 12), (9000, .slc 11), (8900, .slc 13)] [(11, .arena true [] H47), (1, .apt 11 p2), (12, .own 5 .u8 (List.replicate (IntKind.i64.wrap ((IntKind.i64.wrap ((IntKind.u64.wrap a_1).tmod (IntKind.u64.wrap (IntKind.i64.wrap ((IntKind.i64.wrap ((1 : Int) + (IntKind.i64.wrap ((IntKind.u64.wrap limit_0).tmod (500 : Int))))) + (1 : Int)))))) - (IntKind.i64.wrap ((IntKind.u64.wrap b_2).tmod (IntKind.u64.wrap (IntKind.i64.wrap ((IntKind.i64.wrap ((IntKind.u64.wrap a_1).tmod (IntKind.u64.wrap (IntKind.i64.wrap ((IntKind.i64.wrap ((1 : Int) + (IntKind.i64.wrap ((IntKind.u64.wrap limit_0).tmod (500 : Int))))) + (1 : Int)))))) + (1 : Int)))))))).toNat (0 : Int)))] ⟨.arena' (bs := []), .apts' (κb := 11), .ownrd' (e := 5), trivial⟩) (hone hb55)))))) ?_
                        refine q_k ?_
                        refine tr_cond_t true (by kernel_rfl) rfl ?_
                        refine tr_seq ?_
                        refine tr_rg hT [] [sB 6 false] hnil ?_
                        refine q_k ?_
                        refine tr_ret ?_
                        refine q_k_ret ?_
                        have h := Option.some.inj h
                        subst h
                        exact q_ret0 hT (.v (.one (.bool false))) rfl (by kernel_rfl)
                      · obtain ⟨⟨r57, H58⟩, e59, h⟩ := bind_some h
                        refine tr_rg hT [(2, .callA [(10, .rw), (1, .apt 10)] (.v (.one (.int .i64 r46))) [(11, .arena true [10] H47), (10, .dead)]), (4, .dec false), (9, .key 12), (10, .callA [(11, .rw), (1, .apt 11), (12, .same)] (.v (.one (.int .i64 r52))) [(13, .arena true [11] H53), (11, .dead)]), (13, .dec false), (15, .key 14), (16, .callA [(13, .rw), (1, .apt 13), (14, .same)] (.v (.one (.int .i64 r57))) [(15, .arena true [13] H58), (13, .dead)])] [sI 0 .i64 (IntKind.i64.wrap ((1 : Int) + (IntKind.i64.wrap ((IntKind.u64.wrap limit_0).tmod (500 : Int))))), sI 2 .i64 (IntKind.i64.wrap ((IntKind.u64.wrap b_2).tmod (IntKind.u64.wrap (IntKind.i64.wrap ((IntKind.i64.wrap ((IntKind.u64.wrap a_1).tmod (IntKind.u64.wrap (IntKind.i64.wrap ((IntKind.i64.wrap ((1 : Int) + (IntKind.i64.wrap ((IntKind.u64.wrap limit_0).tmod (500 : Int))))) + (1 : Int)))))) + (1 : Int)))))), sO 7 (.slc 1), sB 98 (r57 != (9 : Int)), (.h 1, .e (.apt 0 p2)), (.h 15, .e (.arena true [13, 11, 10, 9, 7, 5, 3, 2, 0] H58))] (hcons ((disk_Disk_Cut_ok H38 p2 (0 : Int) (IntKind.i64.wrap ((IntKind.u64.wrap b_2).tmod (IntKind.u64.wrap (IntKind.i64.wrap ((IntKind.i64.wrap ((IntKind.u64.wrap a_1).tmod (IntKind.u64.wrap (IntKind.i64.wrap ((IntKind.i64.wrap ((1 : Int) + (IntKind.i64.wrap ((IntKind.u64.wrap limit_0).tmod (500 : Int))))) + (1 : Int)))))) + (1 : Int)))))) (r46, H47) e48).tr1 [(9001, .slc 1), (9000, .slc 10), (8900, .slc 11)] [(10, .arena true [] H38), (1, .apt 10 p2)] ⟨.arena' (bs := []), .apts' (κb := 10), trivial⟩) (hcons hb50 (hcons (show (IntKind.i64.wrap ((IntKind.i64.wrap ((IntKind.u64.wrap a_1).tmod (IntKind.u64.wrap (IntKind.i64.wrap ((IntKind.i64.wrap ((1 : Int) + (IntKind.i64.wrap ((IntKind.u64.wrap limit_0).tmod (500 : Int))))) + (1 : Int)))))) - (IntKind.i64.wrap ((IntKind.u64.wrap b_2).tmod (IntKind.u64.wrap (IntKind.i64.wrap ((IntKind.i64.wrap ((IntKind.u64.wrap a_1).tmod (IntKind.u64.wrap (IntKind.i64.wrap ((IntKind.i64.wrap ((1 : Int) + (IntKind.i64.wrap ((IntKind.u64.wrap limit_0).tmod (500 : Int))))) + (1 : Int)))))) + (1 : Int)))))))) = (IntKind.i64.wrap ((IntKind.i64.wrap ((IntKind.u64.wrap a_1).tmod (IntKind.u64.wrap (IntKind.i64.wrap ((IntKind.i64.wrap ((1 : Int) + (IntKind.i64.wrap ((IntKind.u64.wrap limit_0).tmod (500 : Int))))) + (1 : Int)))))) - (IntKind.i64.wrap ((IntKind.u64.wrap b_2).tmod (IntKind.u64.wrap (IntKind.i64.wrap ((IntKind.i64.wrap ((IntKind.u64.wrap a_1).tmod (IntKind.u64.wrap (IntKind.i64.wrap ((IntKind.i64.wrap ((1 : Int) + (IntKind.i64.wrap ((IntKind.u64.wrap limit_0).tmod (500 : Int))))) + (1 : Int)))))) + (1 : Int)))))))) from rfl) (hcons hn51 (hcons ((disk_Disk_Append_ok H47 p2 (1 : Int) (List.replicate (IntKind.i64.wrap ((IntKind.i64.wrap ((IntKind.u64.wrap a_1).tmod (IntKind.u64.wrap (IntKind.i64.wrap ((IntKind.i64.wrap ((1 : Int) + (IntKind.i64.wrap ((IntKind.u64.wrap limit_0).tmod (500 : Int))))) + (1 : Int)))))) - (IntKind.i64.wrap ((IntKind.u64.wrap b_2).tmod (IntKind.u64.wrap (IntKind.i64.wrap ((IntKind.i64.wrap ((IntKind.u64.wrap a_1).tmod (IntKind.u64.wrap (IntKind.i64.wrap ((IntKind.i64.wrap ((1 : Int) + (IntKind.i64.wrap ((IntKind.u64.wrap limit_0).tmod (500 : Int))))) + (1 : Int)))))) + (1 : Int)))))))).toNat (0 : Int)) (r52, H53) e54).tr1 [(9001, .slc 1), (9002, .slc 12), (9000, .slc 11), (8900, .slc 13)] [(11, .arena true [] H47), (1, .apt 11 p2), (12, .own 5 .u8 (List.replicate (IntKind.i64.wrap ((IntKind.i64.wrap ((IntKind.u64.wrap a_1).tmod (IntKind.u64.wrap (IntKind.i64.wrap ((IntKind.i64.wrap ((1 : Int) + (IntKind.i64.wrap ((IntKind.u64.wrap limit_0).tmod (500 : Int))))) + (1 : Int)))))) - (IntKind.i64.wrap ((IntKind.u64.wrap b_2).tmod (IntKind.u64.wrap (IntKind.i64.wrap ((IntKind.i64.wrap ((IntKind.u64.wrap a_1).tmod (IntKind.u64.wrap (IntKind.i64.wrap ((IntKind.i64.wrap ((1 : Int) + (IntKind.i64.wrap ((IntKind.u64.wrap limit_0).tmod (500 : Int))))) + (1 : Int)))))) + (1 : Int)))))))).toNat (0 : Int)))] ⟨.arena' (bs := []), .apts' (κb := 11), .ownrd' (e := 5), trivial⟩) (hcons hb56 (hone ((disk_Disk_Append_ok H53 p2 (1 : Int) [(1 : Int)] (r57, H58) e59).tr1 [(9001, .slc 1), (9002, .slc 14), (9000, .slc 13), (8900, .slc 15)] [(13, .arena true [] H53), (1, .apt 13 p2), (14, .own 5 .u8 [(1 : Int)])] ⟨.arena' (bs := []), .apts' (κb := 13), .ownrd' (e := 5), trivial⟩)))))))) ?_
                        refine q_k ?_
                        rcases ite_split h with ⟨hc60, h⟩ | ⟨hc60, h⟩
                        · refine tr_cond_t (r57 != (9 : Int)) (by kernel_rfl) hc60 ?_
                          refine tr_seq ?_
                          refine tr_rg hT [] [sB 6 false] hnil ?_
                          refine q_k ?_
                          refine tr_ret ?_
                          refine q_k_ret ?_
                          have h := Option.some.inj h
                          subst h
                          exact q_ret0 hT (.v (.one (.bool false))) rfl (by kernel_rfl)
                        · refine tr_cond_f (r57 != (9 : Int)) (by kernel_rfl) hc60 ?_
                          refine tr_skip ?_
                          refine q_k ?_
                          refine tr_seq ?_
                          obtain ⟨⟨r61, H62⟩, e63, h⟩ := bind_some h
                          rcases ite_split h with ⟨hb64, h⟩ | ⟨hb87, h⟩
                          · obtain ⟨r65, e66, h⟩ := bind_some h
                            rcases ite_split h with ⟨hb67, h⟩ | ⟨hb86, h⟩
                            · obtain ⟨hn68, h⟩ := ite_some h
                              obtain ⟨⟨r69, H70⟩, e71, h⟩ := bind_some h
                              rcases ite_split h with ⟨hb72, h⟩ | ⟨hb85, h⟩
                              · obtain ⟨⟨r73, H74⟩, e75, h⟩ := bind_some h
                                rcases ite_split h with ⟨hb76, h⟩ | ⟨hb84, h⟩
                                · obtain ⟨⟨r77, H78⟩, e79, h⟩ := bind_some h
                                  rcases ite_split h with ⟨hb80, h⟩ | ⟨hb83, h⟩
                                  · obtain ⟨b81, e82, h⟩ := bind_some h
                                    refine tr_rg hT [(1, .callA [(15, .rw), (1, .apt 15)] (.v (.one (.int .i64 r61))) [(16, .arena true [15] H62), (15, .dead)]), (3, .dec true), (5, .callA [(16, .ro), (1, .apt 16)] (.v (.one (.int .i64 r65))) []), (8, .dec true), (13, .key 17), (14, .callA [(16, .rw), (1, .apt 16), (17, .same)] (.v (.one (.int .i64 r69))) [(18, .arena true [16] H70), (16, .dead)]), (17, .dec true), (19, .key 19), (20, .callA [(18, .rw), (1, .apt 18), (19, .same)] (.v (.one (.int .i64 r73))) [(20, .arena true [18] H74), (18, .dead)]), (23, .dec true), (25, .callA [(20, .rw), (1, .apt 20)] (.v (.one (.int .i64 r77))) [(21, .arena true [20] H78), (20, .dead)]), (28, .dec true), (29, .call [] (.v (.one (.bool b81))) [])] [sB 6 b81] (hcons ((disk_Disk_Remove_ok H58 p2 (1 : Int) (r61, H62) e63).tr1 [(9001, .slc 1), (9000, .slc 15), (8900, .slc 16)] [(15, .arena true [] H58), (1, .apt 15 p2)] ⟨.arena' (bs := []), .apts' (κb := 15), trivial⟩) (hcons hb64 (hcons ((disk_Disk_Size_ok H62 p2 (1 : Int) r65 e66).tr1 [(9001, .slc 1), (9000, .slc 16)] [(16, .arena false [] H62), (1, .apt 16 p2)] ⟨.arena' (bs := []), .apts' (κb := 16), trivial⟩) (hcons hb67 (hcons (show (IntKind.i64.wrap ((IntKind.i64.wrap ((1 : Int) + (IntKind.i64.wrap ((IntKind.u64.wrap limit_0).tmod (500 : Int))))) - (IntKind.i64.wrap ((IntKind.u64.wrap b_2).tmod (IntKind.u64.wrap (IntKind.i64.wrap ((IntKind.i64.wrap ((IntKind.u64.wrap a_1).tmod (IntKind.u64.wrap (IntKind.i64.wrap ((IntKind.i64.wrap ((1 : Int) + (IntKind.i64.wrap ((IntKind.u64.wrap limit_0).tmod (500 : Int))))) + (1 : Int)))))) + (1 : Int)))))))) = (IntKind.i64.wrap ((IntKind.i64.wrap ((1 : Int) + (IntKind.i64.wrap ((IntKind.u64.wrap limit_0).tmod (500 : Int))))) - (IntKind.i64.wrap ((IntKind.u64.wrap b_2).tmod (IntKind.u64.wrap (IntKind.i64.wrap ((IntKind.i64.wrap ((IntKind.u64.wrap a_1).tmod (IntKind.u64.wrap (IntKind.i64.wrap ((IntKind.i64.wrap ((1 : Int) + (IntKind.i64.wrap ((IntKind.u64.wrap limit_0).tmod (500 : Int))))) + (1 : Int)))))) + (1 : Int)))))))) from rfl) (hcons hn68 (hcons ((disk_Disk_Append_ok H62 p2 (0 : Int) (List.replicate (IntKind.i64.wrap ((IntKind.i64.wrap ((1 : Int) + (IntKind.i64.wrap ((IntKind.u64.wrap limit_0).tmod (500 : Int))))) - (IntKind.i64.wrap ((IntKind.u64.wrap b_2).tmod (IntKind.u64.wrap (IntKind.i64.wrap ((IntKind.i64.wrap ((IntKind.u64.wrap a_1).tmod (IntKind.u64.wrap (IntKind.i64.wrap ((IntKind.i64.wrap ((1 : Int) + (IntKind.i64.wrap ((IntKind.u64.wrap limit_0).tmod (500 : Int))))) + (1 : Int)))))) + (1 : Int)))))))).toNat (0 : Int)) (r69, H70) e71).tr1 [(9001, .slc 1), (9002, .slc 17), (9000, .slc 16), (8900, .slc 18)] [(16, .arena true [] H62), (1, .apt 16 p2), (17, .own 5 .u8 (List.replicate (IntKind.i64.wrap ((IntKind.i64.wrap ((1 : Int) + (IntKind.i64.wrap ((IntKind.u64.wrap limit_0).tmod (500 : Int))))) - (IntKind.i64.wrap ((IntKind.u64.wrap b_2).tmod (IntKind.u64.wrap (IntKind.i64.wrap ((IntKind.i64.wrap ((IntKind.u64.wrap a_1).tmod (IntKind.u64.wrap (IntKind.i64.wrap ((IntKind.i64.wrap ((1 : Int) + (IntKind.i64.wrap ((IntKind.u64.wrap limit_0).tmod (500 : Int))))) + (1 : Int)))))) + (1 : Int)))))))).toNat (0 : Int)))] ⟨.arena' (bs := []), .apts' (κb := 16), .ownrd' (e := 5), trivial⟩) (hcons hb72 (hcons ((disk_Disk_Append_ok H70 p2 (0 : Int) [(1 : Int)] (r73, H74) e75).tr1 [(9001, .slc 1), (9002, .slc 19), (9000, .slc 18), (8900, .slc 20)] [(18, .arena true [] H70), (1, .apt 18 p2), (19, .own 5 .u8 [(1 : Int)])] ⟨.arena' (bs := []), .apts' (κb := 18), .ownrd' (e := 5), trivial⟩) (hcons hb76 (hcons ((disk_Disk_Append_ok H74 p2 (1 : Int) [] (r77, H78) e79).tr1 [(9001, .slc 1), (9002, .nils), (9000, .slc 20), (8900, .slc 21)] [(20, .arena true [] H74), (1, .apt 20 p2)] ⟨.arena' (bs := []), .apts' (κb := 20), .nilrd, trivial⟩) (hcons hb80 (hone (law14_wakes_ok  b81 e82 (pre := []))))))))))))))) ?_
                                    refine q_k ?_
                                    refine tr_ret ?_
                                    have h := Option.some.inj h
                                    subst h
                                    exact q_ret0 hT (.v (.one (.bool b81))) rfl (by kernel_rfl)
                                  · refine tr_rg hT [(1, .callA [(15, .rw), (1, .apt 15)] (.v (.one (.int .i64 r61))) [(16, .arena true [15] H62), (15, .dead)]), (3, .dec true), (5, .callA [(16, .ro), (1, .apt 16)] (.v (.one (.int .i64 r65))) []), (8, .dec true), (13, .key 17), (14, .callA [(16, .rw), (1, .apt 16), (17, .same)] (.v (.one (.int .i64 r69))) [(18, .arena true [16] H70), (16, .dead)]), (17, .dec true), (19, .key 19), (20, .callA [(18, .rw), (1, .apt 18), (19, .same)] (.v (.one (.int .i64 r73))) [(20, .arena true [18] H74), (18, .dead)]), (23, .dec true), (25, .callA [(20, .rw), (1, .apt 20)] (.v (.one (.int .i64 r77))) [(21, .arena true [20] H78), (20, .dead)]), (28, .dec false)] [sB 6 false] (hcons ((disk_Disk_Remove_ok H58 p2 (1 : Int) (r61, H62) e63).tr1 [(9001, .slc 1), (9000, .slc 15), (8900, .slc 16)] [(15, .arena true [] H58), (1, .apt 15 p2)] ⟨.arena' (bs := []), .apts' (κb := 15), trivial⟩) (hcons hb64 (hcons ((disk_Disk_Size_ok H62 p2 (1 : Int) r65 e66).tr1 [(9001, .slc 1), (9000, .slc 16)] [(16, .arena false [] H62), (1, .apt 16 p2)] ⟨.arena' (bs := []), .apts' (κb := 16), trivial⟩) (hcons hb67 (hcons (show (IntKind.i64.wrap ((IntKind.i64.wrap ((1 : Int) + (IntKind.i64.wrap ((IntKind.u64.wrap limit_0).tmod (500 : Int))))) - (IntKind.i64.wrap ((IntKind.u64.wrap b_2).tmod (IntKind.u64.wrap (IntKind.i64.wrap ((IntKind.i64.wrap ((IntKind.u64.wrap a_1).tmod (IntKind.u64.wrap (IntKind.i64.wrap ((IntKind.i64.wrap ((1 : Int) + (IntKind.i64.wrap ((IntKind.u64.wrap limit_0).tmod (500 : Int))))) + (1 : Int)))))) + (1 : Int)))))))) = (IntKind.i64.wrap ((IntKind.i64.wrap ((1 : Int) + (IntKind.i64.wrap ((IntKind.u64.wrap limit_0).tmod (500 : Int))))) - (IntKind.i64.wrap ((IntKind.u64.wrap b_2).tmod (IntKind.u64.wrap (IntKind.i64.wrap ((IntKind.i64.wrap ((IntKind.u64.wrap a_1).tmod (IntKind.u64.wrap (IntKind.i64.wrap ((IntKind.i64.wrap ((1 : Int) + (IntKind.i64.wrap ((IntKind.u64.wrap limit_0).tmod (500 : Int))))) + (1 : Int)))))) + (1 : Int)))))))) from rfl) (hcons hn68 (hcons ((disk_Disk_Append_ok H62 p2 (0 : Int) (List.replicate (IntKind.i64.wrap ((IntKind.i64.wrap ((1 : Int) + (IntKind.i64.wrap ((IntKind.u64.wrap limit_0).tmod (500 : Int))))) - (IntKind.i64.wrap ((IntKind.u64.wrap b_2).tmod (IntKind.u64.wrap (IntKind.i64.wrap ((IntKind.i64.wrap ((IntKind.u64.wrap a_1).tmod (IntKind.u64.wrap (IntKind.i64.wrap ((IntKind.i64.wrap ((1 : Int) + (IntKind.i64.wrap ((IntKind.u64.wrap limit_0).tmod (500 : Int))))) + (1 : Int)))))) + (1 : Int)))))))).toNat (0 : Int)) (r69, H70) e71).tr1 [(9001, .slc 1), (9002, .slc 17), (9000, .slc 16), (8900, .slc 18)] [(16, .arena true [] H62), (1, .apt 16 p2), (17, .own 5 .u8 (List.replicate (IntKind.i64.wrap ((IntKind.i64.wrap ((1 : Int) + (IntKind.i64.wrap ((IntKind.u64.wrap limit_0).tmod (500 : Int))))) - (IntKind.i64.wrap ((IntKind.u64.wrap b_2).tmod (IntKind.u64.wrap (IntKind.i64.wrap ((IntKind.i64.wrap ((IntKind.u64.wrap a_1).tmod (IntKind.u64.wrap (IntKind.i64.wrap ((IntKind.i64.wrap ((1 : Int) + (IntKind.i64.wrap ((IntKind.u64.wrap limit_0).tmod (500 : Int))))) + (1 : Int)))))) + (1 : Int)))))))).toNat (0 : Int)))] ⟨.arena' (bs := []), .apts' (κb := 16), .ownrd' (e := 5), trivial⟩) (hcons hb72 (hcons ((disk_Disk_Append_ok H70 p2 (0 : Int) [(1 : Int)] (r73, H74) e75).tr1 [(9001, .slc 1), (9002, .slc 19), (9000, .slc 18), (8900, .slc 20)] [(18, .arena true [] H70), (1, .apt 18 p2), (19, .own 5 .u8 [(1 : Int)])] ⟨.arena' (bs := []), .apts' (κb := 18), .ownrd' (e := 5), trivial⟩) (hcons hb76 (hcons ((disk_Disk_Append_ok H74 p2 (1 : Int) [] (r77, H78) e79).tr1 [(9001, .slc 1), (9002, .nils), (9000, .slc 20), (8900, .slc 21)] [(20, .arena true [] H74), (1, .apt 20 p2)] ⟨.arena' (bs := []), .apts' (κb := 20), .nilrd, trivial⟩) (hone hb83)))))))))))) ?_
                                    refine q_k ?_
                                    refine tr_ret ?_
                                    have h := Option.some.inj h
                                    subst h
                                    exact q_ret0 hT (.v (.one (.bool false))) rfl (by kernel_rfl)
                                · refine tr_rg hT [(1, .callA [(15, .rw), (1, .apt 15)] (.v (.one (.int .i64 r61))) [(16, .arena true [15] H62), (15, .dead)]), (3, .dec true), (5, .callA [(16, .ro), (1, .apt 16)] (.v (.one (.int .i64 r65))) []), (8, .dec true), (13, .key 17), (14, .callA [(16, .rw), (1, .apt 16), (17, .same)] (.v (.one (.int .i64 r69))) [(18, .arena true [16] H70), (16, .dead)]), (17, .dec true), (19, .key 19), (20, .callA [(18, .rw), (1, .apt 18), (19, .same)] (.v (.one (.int .i64 r73))) [(20, .arena true [18] H74), (18, .dead)]), (23, .dec false)] [sB 6 false] (hcons ((disk_Disk_Remove_ok H58 p2 (1 : Int) (r61, H62) e63).tr1 [(9001, .slc 1), (9000, .slc 15), (8900, .slc 16)] [(15, .arena true [] H58), (1, .apt 15 p2)] ⟨.arena' (bs := []), .apts' (κb := 15), trivial⟩) (hcons hb64 (hcons ((disk_Disk_Size_ok H62 p2 (1 : Int) r65 e66).tr1 [(9001, .slc 1), (9000, .slc 16)] [(16, .arena false [] H62), (1, .apt 16 p2)] ⟨.arena' (bs := []), .apts' (κb := 16), trivial⟩) (hcons hb67 (hcons (show (IntKind.i64.wrap ((IntKind.i64.wrap ((1 : Int) + (IntKind.i64.wrap ((IntKind.u64.wrap limit_0).tmod (500 : Int))))) - (IntKind.i64.wrap ((IntKind.u64.wrap b_2).tmod (IntKind.u64.wrap (IntKind.i64.wrap ((IntKind.i64.wrap ((IntKind.u64.wrap a_1).tmod (IntKind.u64.wrap (IntKind.i64.wrap ((IntKind.i64.wrap ((1 : Int) + (IntKind.i64.wrap ((IntKind.u64.wrap limit_0).tmod (500 : Int))))) + (1 : Int)))))) + (1 : Int)))))))) = (IntKind.i64.wrap ((IntKind.i64.wrap ((1 : Int) + (IntKind.i64.wrap ((IntKind.u64.wrap limit_0).tmod (500 : Int))))) - (IntKind.i64.wrap ((IntKind.u64.wrap b_2).tmod (IntKind.u64.wrap (IntKind.i64.wrap ((IntKind.i64.wrap ((IntKind.u64.wrap a_1).tmod (IntKind.u64.wrap (IntKind.i64.wrap ((IntKind.i64.wrap ((1 : Int) + (IntKind.i64.wrap ((IntKind.u64.wrap limit_0).tmod (500 : Int))))) + (1 : Int)))))) + (1 : Int)))))))) from rfl) (hcons hn68 (hcons ((disk_Disk_Append_ok H62 p2 (0 : Int) (List.replicate (IntKind.i64.wrap ((IntKind.i64.wrap ((1 : Int) + (IntKind.i64.wrap ((IntKind.u64.wrap limit_0).tmod (500 : Int))))) - (IntKind.i64.wrap ((IntKind.u64.wrap b_2).tmod (IntKind.u64.wrap (IntKind.i64.wrap ((IntKind.i64.wrap ((IntKind.u64.wrap a_1).tmod (IntKind.u64.wrap (IntKind.i64.wrap ((IntKind.i64.wrap ((1 : Int) + (IntKind.i64.wrap ((IntKind.u64.wrap limit_0).tmod (500 : Int))))) + (1 : Int)))))) + (1 : Int)))))))).toNat (0 : Int)) (r69, H70) e71).tr1 [(9001, .slc 1), (9002, .slc 17), (9000, .slc 16), (8900, .slc 18)] [(16, .arena true [] H62), (1, .apt 16 p2), (17, .own 5 .u8 (List.replicate (IntKind.i64.wrap ((IntKind.i64.wrap ((1 : Int) + (IntKind.i64.wrap ((IntKind.u64.wrap limit_0).tmod (500 : Int))))) - (IntKind.i64.wrap ((IntKind.u64.wrap b_2).tmod (IntKind.u64.wrap (IntKind.i64.wrap ((IntKind.i64.wrap ((IntKind.u64.wrap a_1).tmod (IntKind.u64.wrap (IntKind.i64.wrap ((IntKind.i64.wrap ((1 : Int) + (IntKind.i64.wrap ((IntKind.u64.wrap limit_0).tmod (500 : Int))))) + (1 : Int)))))) + (1 : Int)))))))).toNat (0 : Int)))] ⟨.arena' (bs := []), .apts' (κb := 16), .ownrd' (e := 5), trivial⟩) (hcons hb72 (hcons ((disk_Disk_Append_ok H70 p2 (0 : Int) [(1 : Int)] (r73, H74) e75).tr1 [(9001, .slc 1), (9002, .slc 19), (9000, .slc 18), (8900, .slc 20)] [(18, .arena true [] H70), (1, .apt 18 p2), (19, .own 5 .u8 [(1 : Int)])] ⟨.arena' (bs := []), .apts' (κb := 18), .ownrd' (e := 5), trivial⟩) (hone hb84)))))))))) ?_
                                  refine q_k ?_
                                  refine tr_ret ?_
                                  have h := Option.some.inj h
                                  subst h
                                  exact q_ret0 hT (.v (.one (.bool false))) rfl (by kernel_rfl)
                              · refine tr_rg hT [(1, .callA [(15, .rw), (1, .apt 15)] (.v (.one (.int .i64 r61))) [(16, .arena true [15] H62), (15, .dead)]), (3, .dec true), (5, .callA [(16, .ro), (1, .apt 16)] (.v (.one (.int .i64 r65))) []), (8, .dec true), (13, .key 17), (14, .callA [(16, .rw), (1, .apt 16), (17, .same)] (.v (.one (.int .i64 r69))) [(18, .arena true [16] H70), (16, .dead)]), (17, .dec false)] [sB 6 false] (hcons ((disk_Disk_Remove_ok H58 p2 (1 : Int) (r61, H62) e63).tr1 [(9001, .slc 1), (9000, .slc 15), (8900, .slc 16)] [(15, .arena true [] H58), (1, .apt 15 p2)] ⟨.arena' (bs := []), .apts' (κb := 15), trivial⟩) (hcons hb64 (hcons ((disk_Disk_Size_ok H62 p2 (1 : Int) r65 e66).tr1 [(9001, .slc 1), (9000, .slc 16)] [(16, .arena false [] H62), (1, .apt 16 p2)] ⟨.arena' (bs := []), .apts' (κb := 16), trivial⟩) (hcons hb67 (hcons (show (IntKind.i64.wrap ((IntKind.i64.wrap ((1 : Int) + (IntKind.i64.wrap ((IntKind.u64.wrap limit_0).tmod (500 : Int))))) - (IntKind.i64.wrap ((IntKind.u64.wrap b_2).tmod (IntKind.u64.wrap (IntKind.i64.wrap ((IntKind.i64.wrap ((IntKind.u64.wrap a_1).tmod (IntKind.u64.wrap (IntKind.i64.wrap ((IntKind.i64.wrap ((1 : Int) + (IntKind.i64.wrap ((IntKind.u64.wrap limit_0).tmod (500 : Int))))) + (1 : Int)))))) + (1 : Int)))))))) = (IntKind.i64.wrap ((IntKind.i64.wrap ((1 : Int) + (IntKind.i64.wrap ((IntKind.u64.wrap limit_0).tmod (500 : Int))))) - (IntKind.i64.wrap ((IntKind.u64.wrap b_2).tmod (IntKind.u64.wrap (IntKind.i64.wrap ((IntKind.i64.wrap ((IntKind.u64.wrap a_1).tmod (IntKind.u64.wrap (IntKind.i64.wrap ((IntKind.i64.wrap ((1 : Int) + (IntKind.i64.wrap ((IntKind.u64.wrap limit_0).tmod (500 : Int))))) + (1 : Int)))))) + (1 : Int)))))))) from rfl) (hcons hn68 (hcons ((disk_Disk_Append_ok H62 p2 (0 : Int) (List.replicate (IntKind.i64.wrap ((IntKind.i64.wrap ((1 : Int) + (IntKind.i64.wrap ((IntKind.u64.wrap limit_0).tmod (500 : Int))))) - (IntKind.i64.wrap ((IntKind.u64.wrap b_2).tmod (IntKind.u64.wrap (IntKind.i64.wrap ((IntKind.i64.wrap ((IntKind.u64.wrap a_1).tmod (IntKind.u64.wrap (IntKind.i64.wrap ((IntKind.i64.wrap ((1 : Int) + (IntKind.i64.wrap ((IntKind.u64.wrap limit_0).tmod (500 : Int))))) + (1 : Int)))))) + (1 : Int)))))))).toNat (0 : Int)) (r69, H70) e71).tr1 [(9001, .slc 1), (9002, .slc 17), (9000, .slc 16), (8900, .slc 18)] [(16, .arena true [] H62), (1, .apt 16 p2), (17, .own 5 .u8 (List.replicate (IntKind.i64.wrap ((IntKind.i64.wrap ((1 : Int) + (IntKind.i64.wrap ((IntKind.u64.wrap limit_0).tmod (500 : Int))))) - (IntKind.i64.wrap ((IntKind.u64.wrap b_2).tmod (IntKind.u64.wrap (IntKind.i64.wrap ((IntKind.i64.wrap ((IntKind.u64.wrap a_1).tmod (IntKind.u64.wrap (IntKind.i64.wrap ((IntKind.i64.wrap ((1 : Int) + (IntKind.i64.wrap ((IntKind.u64.wrap limit_0).tmod (500 : Int))))) + (1 : Int)))))) + (1 : Int)))))))).toNat (0 : Int)))] ⟨.arena' (bs := []), .apts' (κb := 16), .ownrd' (e := 5), trivial⟩) (hone hb85)))))))) ?_
                                refine q_k ?_
                                refine tr_ret ?_
                                have h := Option.some.inj h
                                subst h
                                exact q_ret0 hT (.v (.one (.bool false))) rfl (by kernel_rfl)
                            · refine tr_rg hT [(1, .callA [(15, .rw), (1, .apt 15)] (.v (.one (.int .i64 r61))) [(16, .arena true [15] H62), (15, .dead)]), (3, .dec true), (5, .callA [(16, .ro), (1, .apt 16)] (.v (.one (.int .i64 r65))) []), (8, .dec false)] [sB 6 false] (hcons ((disk_Disk_Remove_ok H58 p2 (1 : Int) (r61, H62) e63).tr1 [(9001, .slc 1), (9000, .slc 15), (8900, .slc 16)] [(15, .arena true [] H58), (1, .apt 15 p2)] ⟨.arena' (bs := []), .apts' (κb := 15), trivial⟩) (hcons hb64 (hcons ((disk_Disk_Size_ok H62 p2 (1 : Int) r65 e66).tr1 [(9001, .slc 1), (9000, .slc 16)] [(16, .arena false [] H62), (1, .apt 16 p2)] ⟨.arena' (bs := []), .apts' (κb := 16), trivial⟩) (hone hb86)))) ?_
                              refine q_k ?_
                              refine tr_ret ?_
                              have h := Option.some.inj h
                              subst h
                              exact q_ret0 hT (.v (.one (.bool false))) rfl (by kernel_rfl)
                          · refine tr_rg hT [(1, .callA [(15, .rw), (1, .apt 15)] (.v (.one (.int .i64 r61))) [(16, .arena true [15] H62), (15, .dead)]), (3, .dec false)] [sB 6 false] (hcons ((disk_Disk_Remove_ok H58 p2 (1 : Int) (r61, H62) e63).tr1 [(9001, .slc 1), (9000, .slc 15), (8900, .slc 16)] [(15, .arena true [] H58), (1, .apt 15 p2)] ⟨.arena' (bs := []), .apts' (κb := 15), trivial⟩) (hone hb87)) ?_
                            refine q_k ?_
                            refine tr_ret ?_
                            have h := Option.some.inj h
                            subst h
                            exact q_ret0 hT (.v (.one (.bool false))) rfl (by kernel_rfl)

end Go.Proofs.Sd
