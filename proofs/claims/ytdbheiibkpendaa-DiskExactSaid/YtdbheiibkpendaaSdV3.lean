/- Walks, printed by a program of this session (gowalk.py): each Go function comes to its plain function's answer. -/
import Derived.Test.YtdbheiibkpendaaSdA
import Derived.Test.YtdbheiibkpendaaSdD
import Derived.Test.YtdbheiibkpendaaMSdS
import Derived.Test.YtdbheiibkpendaaSdV0
import Derived.Test.YtdbheiibkpendaaSdV1
import Derived.Test.YtdbheiibkpendaaSdV2
namespace Go.Proofs.Sd
open Go Go.Gw D
set_option linter.unusedVariables false
set_option maxRecDepth 20000

theorem slices_Clone_bool_bool_n_ok (r : List Bool) (h : slices_Clone_bool_bool_n = some r) : CallOk P 52 [.v (.one (.nils))] [] (.v (.one (.slc 8900))) [(8900, .ownb 4 r)] := by
 refine call1 (N := 8) Try.func52 (by kernel_rfl) rfl rfl rfl [] (by kernel_rfl) ?_
 intro _ B w0
 show Tr P B 8 w0 _ _ (RetQ P Try.f52 (R1 _ _ B w0))
 unfold slices_Clone_bool_bool_n at h
 refine tr_seq ?_
 refine tr_rg hT [] [sO 0 (.nils)] hnil ?_
 refine q_k ?_
 refine tr_seq ?_
 refine tr_seq ?_
 refine tr_rg hT [(1, .bb [])] [sO 0 (.nils), sB 4 true] hnil ?_
 refine q_k ?_
 refine tr_cond_t true (by kernel_rfl) rfl ?_
 refine tr_seq ?_
 refine tr_rg hT [] [sO 2 (.nils)] hnil ?_
 refine q_k ?_
 refine tr_ret ?_
 refine q_k_ret ?_
 have h := Option.some.inj h
 subst h
 refine q_ft [(8900, .nils)] [sO 2 (.slc 8900), (.h 8900, .e (.ownb 4 []))] ⟨.ownbnil, trivial⟩ ?_
 exact q_ret1 hT (.v (.one (.slc 8900))) [(8900, .ownb 4 [])] (by kernel_rfl) (by kernel_rfl) (by kernel_rfl)

theorem slices_Clone_bool_bool_x_ok (s_0 : List Bool) (r : List Bool) (h : slices_Clone_bool_bool_x s_0 = some r) : CallOk P 52 [.v (.one (.slc 9000))] [(9000, .rdbx s_0)] (.v (.one (.slc 8900))) [(8900, .ownb 4 r)] := by
 refine call1 (N := 8) Try.func52 (by kernel_rfl) rfl rfl rfl [(9000, .rdbx s_0)] (by kernel_rfl) ?_
 intro _ B w0
 show Tr P B 8 w0 _ _ (RetQ P Try.f52 (R1 _ _ B w0))
 unfold slices_Clone_bool_bool_x at h
 refine tr_seq ?_
 refine tr_rg hT [] [sO 0 (.slc 9000), (.h 9000, .e (.rdbx s_0))] hnil ?_
 refine q_k ?_
 refine tr_seq ?_
 refine tr_seq ?_
 refine tr_rg hT [(1, .bb [])] [sO 0 (.slc 9000), sB 4 false, (.h 9000, .e (.rdbx s_0))] hnil ?_
 refine q_k ?_
 refine tr_cond_f false (by kernel_rfl) rfl ?_
 refine tr_skip ?_
 refine q_k ?_
 refine tr_seq ?_
 obtain ⟨hn1, h⟩ := ite_some h
 refine tr_rg hT [(0, .bb [0]), (2, .bb [1])] [sO 2 (.slc 1), (.h 1, .e (.ownb 4 (([] : List Bool) ++ s_0)))] (hone hn1) ?_
 refine q_k ?_
 refine tr_ret ?_
 have h := Option.some.inj h
 subst h
 refine q_ft [(8900, .slc 1)] [sO 2 (.slc 8900), (.h 8900, .e (.ownb 4 (([] : List Bool) ++ s_0)))] ⟨.ownb', trivial⟩ ?_
 exact q_ret1 hT (.v (.one (.slc 8900))) [(8900, .ownb 4 (([] : List Bool) ++ s_0))] (by kernel_rfl) (by kernel_rfl) (by kernel_rfl)

theorem slices_Clone_bool_bool_ok (s r : List Bool) (h : slices_Clone_bool_bool s = some r) : CallOk P 52 [.v (.one (.slc 9000))] [(9000, .rdb s)] (.v (.one (.slc 8900))) [(8900, .ownb 4 r)] :=
 nilb_or (fun e => by subst e; exact slices_Clone_bool_bool_n_ok r (by rw [← h]; kernel_rfl)) (slices_Clone_bool_bool_x_ok s r h) (by rfl)

abbrev Zo0 (H_0 : AH) (d_1 : MV) (a4 : List Bool) (n_2 : Int) (torn_4 : Int) (at_5 : Int) := (AH.wr (((AH.wr H_0 d_1 4 [MV.nilp]) ++ [MO.row 4 1 (a4.map MV.bool)]) ++ [MO.cells 84 [MV.int .i64 n_2, MV.slc (List.length (AH.wr H_0 d_1 4 [MV.nilp])) 1 0 (List.length a4), MV.int .i64 torn_4, MV.int .i64 at_5]]) d_1 4 [MV.ptr (List.length ((AH.wr H_0 d_1 4 [MV.nilp]) ++ [MO.row 4 1 (a4.map MV.bool)])) 0])
theorem disk_Disk_Trip_ok (H_0 : AH) (d_1 : MV) (n_2 : Int) (keep_3 : List Bool) (torn_4 : Int) (at_5 : Int) (r : AH) (h : disk_Disk_Trip H_0 d_1 n_2 keep_3 torn_4 at_5 = some r) : CallOk P 26 [.v (.one (.slc 9001)), .v (.one (.int .i64 n_2)), .v (.one (.slc 9002)), .v (.one (.int .i64 torn_4)), .v (.one (.int .i64 at_5))] [(9000, .arena true [] H_0), (9001, .apt 9000 d_1), (9002, .rdb keep_3)] (.tup []) [(8900, .arena true [9000] r), (9000, .dead)] := by
 refine call1 (N := 25) Try.func26 (by kernel_rfl) rfl rfl rfl [(9000, .arena true [] H_0), (9001, .apt 9000 d_1), (9002, .rdb keep_3)] (by kernel_rfl) ?_; intro _ B w0; show Tr P B 25 w0 _ _ (RetQ P Try.f26 (R1 _ _ B w0)); unfold disk_Disk_Trip at h; refine tr_seq ?_; obtain ⟨hn1, hn2, h⟩ := it2 h; refine tr_rg hT [(1, .ar 9000 []), (2, .ar 9000 []), (3, .ar 9000 [0])] [sO 0 (.slc 9001), sI 1 .i64 n_2, sO 2 (.slc 9002), sI 3 .i64 torn_4, sI 4 .i64 at_5, (.h 0, .e (.arena true [9000] (AH.wr H_0 d_1 4 [MV.nilp]))), (.h 9001, .e (.apt 9000 d_1)), (.h 9002, .e (.rdb keep_3))] (hcons hn1 (hcons hn1 (hcons hn2 (hone (show 1 ≤ 1 from by decide))))) ?_; refine q_k (tr_seq (tr_rg hT [] [sO 0 (.slc 9001), sI 1 .i64 n_2, sO 2 (.slc 9002), sI 3 .i64 torn_4, sI 4 .i64 at_5, sB 14 (decide (n_2 ≥ (1 : Int))), (.h 0, .e (.arena true [9000] (AH.wr H_0 d_1 4 [MV.nilp]))), (.h 9001, .e (.apt 9000 d_1)), (.h 9002, .e (.rdb keep_3))] hnil ?_)); refine q_k ?_
 rcases ite_split h with ⟨hc3, h⟩ | ⟨hc3, h⟩
 ·refine tr_cond_t (decide (n_2 ≥ (1 : Int))) (by kernel_rfl) hc3 ?_; obtain ⟨a4, e5, h⟩ := bind_some h; obtain ⟨hn6, hn7, h⟩ := it2 h; refine tr_rg hT [(3, .call [9002] (.v (.one (.slc 1))) [(1, .ownb 4 a4)]), (7, .ar 0 [2, 3]), (8, .ar 2 []), (9, .ar 2 []), (10, .ar 2 [4])] [(.h 4, .e (.arena true [2, 0, 9000] (Zo0 H_0 d_1 a4 n_2 torn_4 at_5)))] (hcons ((slices_Clone_bool_bool_ok keep_3 a4 e5).tr1 [(9000, .slc 9002), (8900, .slc 1)] [(9002, .rdb keep_3)] ⟨.rdb', trivial⟩) (hcons hn6 (hcons hn6 (hcons hn7 (hone (show 1 ≤ 1 from by decide)))))) ?_; have h := Option.some.inj h; subst h; refine q_ft [(8900, .slc 4)] [(.h 8900, .e (.arena true [9000] (Zo0 H_0 d_1 a4 n_2 torn_4 at_5))), hD 9000] ⟨.arena' (bs := [2, 0, 9000]), .dead, trivial⟩ ?_; exact q_end1 hT (.tup []) [(8900, .arena true [9000] (Zo0 H_0 d_1 a4 n_2 torn_4 at_5)), (9000, .dead)] (by kernel_rfl) (by kernel_rfl) (by kernel_rfl)
 refine tr_cond_f (decide (n_2 ≥ (1 : Int))) (by kernel_rfl) hc3 ?_; refine tr_skip ?_; have h := Option.some.inj h; subst h; refine q_ft [(8900, .slc 0)] [(.h 8900, .e (.arena true [9000] (AH.wr H_0 d_1 4 [MV.nilp]))), hD 9000] ⟨.arena' (bs := [9000]), .dead, trivial⟩ ?_; exact q_end1 hT (.tup []) [(8900, .arena true [9000] (AH.wr H_0 d_1 4 [MV.nilp])), (9000, .dead)] (by kernel_rfl) (by kernel_rfl) (by kernel_rfl)

theorem disk_Disk_Off_ok (H_0 : AH) (d_1 : MV) (r : Bool) (h : disk_Disk_Off H_0 d_1 = some r) : CallOk P 27 [.v (.one (.slc 9001))] [(9000, .arena false [] H_0), (9001, .apt 9000 d_1)] (.v (.one (.bool r))) [] := by
 refine call1 (N := 7) Try.func27 (by kernel_rfl) rfl rfl rfl [(9000, .arena false [] H_0), (9001, .apt 9000 d_1)] (by kernel_rfl) ?_
 intro _ B w0
 show Tr P B 7 w0 _ _ (RetQ P Try.f27 (R1 _ _ B w0))
 unfold disk_Disk_Off at h
 refine tr_seq ?_
 refine tr_rg hT [] [sO 0 (.slc 9001), (.h 9000, .e (.arena false [] H_0)), (.h 9001, .e (.apt 9000 d_1))] hnil ?_
 refine q_k ?_
 refine tr_seq ?_
 obtain ⟨hn1, h⟩ := ite_some h
 obtain ⟨hn2, h⟩ := ite_some h
 obtain ⟨hn3, h⟩ := ite_some h
 refine tr_rg hT [(1, .ar 9000 []), (2, .ar 9000 []), (3, .ar 9000 [])] [sB 2 (MV.tr (AH.rd H_0 d_1 2)), (.h 9000, .e (.arena false [] H_0))] (hcons hn1 (hcons hn1 (hcons hn2 (hone hn3)))) ?_
 refine q_k ?_
 refine tr_ret ?_
 have h := Option.some.inj h
 subst h
 refine q_ls [sB 2 (MV.tr (AH.rd H_0 d_1 2)), (.h 9000, .e (.arena false [] H_0))] ?_
 exact q_ret1 hT (.v (.one (.bool (MV.tr (AH.rd H_0 d_1 2))))) [] (by kernel_rfl) (by kernel_rfl) (by kernel_rfl)

theorem disk_Disk_Sync_ok (H_0 : AH) (d_1 : MV) (n_2 : Int) (r : Int × AH) (h : disk_Disk_Sync H_0 d_1 n_2 = some r) : CallOk P 28 [.v (.one (.slc 9001)), .v (.one (.int .i64 n_2))] [(9000, .arena true [] H_0), (9001, .apt 9000 d_1)] (.v (.one (.int .i64 r.1))) [(8900, .arena true [9000] r.2), (9000, .dead)] := by
 refine call1 (N := 23) Try.func28 (by kernel_rfl) rfl rfl rfl [(9000, .arena true [] H_0), (9001, .apt 9000 d_1)] (by kernel_rfl) ?_; intro _ B w0; show Tr P B 23 w0 _ _ (RetQ P Try.f28 (R1 _ _ B w0)); unfold disk_Disk_Sync at h; refine tr_seq (tr_rg hT [] [sO 0 (.slc 9001), sI 1 .i64 n_2, (.h 9000, .e (.arena true [] H_0)), (.h 9001, .e (.apt 9000 d_1))] hnil ?_); refine q_k (tr_seq ?_); obtain ⟨⟨p1, r2⟩, e3, h⟩ := bind_some h; refine tr_rg hT [(2, .callA [(9000, .ro), (9001, .apt 9000)] (.tup [.one (.slc 0), .one (.int .i64 r2)]) [(0, .apt 9000 p1)])] [sO 0 (.slc 9001), sO 5 (.slc 0), sI 6 .i64 r2, (.h 0, .e (.apt 9000 p1)), (.h 9000, .e (.arena true [] H_0)), (.h 9001, .e (.apt 9000 d_1))] (hone ((disk_Disk_find_ok H_0 d_1 n_2 (p1, r2) e3).tr1 [(9001, .slc 9001), (9000, .slc 9000), (8900, .slc 0)] [(9000, .arena false [] H_0), (9001, .apt 9000 d_1)] ⟨.arena' (bs := []), .apts' (κb := 9000), trivial⟩)) ?_; refine q_k (tr_seq (tr_seq (tr_rg hT [] [sO 0 (.slc 9001), sO 5 (.slc 0), sI 6 .i64 r2, sB 14 (r2 != (0 : Int)), (.h 0, .e (.apt 9000 p1)), (.h 9000, .e (.arena true [] H_0)), (.h 9001, .e (.apt 9000 d_1))] hnil ?_))); refine q_k ?_
 rcases ite_split h with ⟨hc4, h⟩ | ⟨hc4, h⟩
 ·refine tr_cond_t (r2 != (0 : Int)) (by kernel_rfl) hc4 ?_; refine tr_seq (tr_rg hT [] [sI 4 .i64 r2, (.h 9000, .e (.arena true [] H_0))] hnil ?_); refine q_k (tr_ret (q_k_ret ?_)); have h := Option.some.inj h; subst h; refine q_ft [(8900, .slc 9000)] [sI 4 .i64 r2, (.h 8900, .e (.arena true [9000] H_0)), hD 9000] ⟨.arena' (bs := []), .dead, trivial⟩ ?_; exact q_ret1 hT (.v (.one (.int .i64 r2))) [(8900, .arena true [9000] H_0), (9000, .dead)] (by kernel_rfl) (by kernel_rfl) (by kernel_rfl)
 refine tr_cond_f (r2 != (0 : Int)) (by kernel_rfl) hc4 ?_; refine tr_skip (q_k (tr_seq ?_)); obtain ⟨⟨r5, H6⟩, e7, h⟩ := bind_some h; refine tr_rg hT [(1, .callA [(9000, .rw), (9001, .apt 9000)] (.v (.one (.int .i64 r5))) [(1, .arena true [9000] H6), (9000, .dead)])] [sO 5 (.slc 0), sI 6 .i64 r5, (.h 0, .e (.apt 9000 p1)), (.h 1, .e (.arena true [9000] H6))] (hone ((disk_Disk_spend_ok H_0 d_1 (r5, H6) e7).tr1 [(9001, .slc 9001), (9000, .slc 9000), (8900, .slc 1)] [(9000, .arena true [] H_0), (9001, .apt 9000 d_1)] ⟨.arena' (bs := []), .apts' (κb := 9000), trivial⟩)) ?_; refine q_k (tr_seq (tr_seq (tr_rg hT [] [sO 5 (.slc 0), sI 6 .i64 r5, sB 19 (r5 == (0 : Int)), (.h 0, .e (.apt 9000 p1)), (.h 1, .e (.arena true [9000] H6))] hnil ?_))); refine q_k ?_; obtain ⟨H8, e12, h⟩ := bind_some h; refine tr_join (σ1 := [sI 6 .i64 r5, (.h 42, .e (.arena true [9000] H8))]) ?_ ?_
 ·skip
  try dsimp only at h
  refine q_k (tr_seq (tr_rg hT [] [sI 4 .i64 r5, (.h 42, .e (.arena true [9000] H8))] hnil ?_)); refine q_k (tr_ret ?_); have h := Option.some.inj h; subst h; refine q_ft [(8900, .slc 42)] [sI 4 .i64 r5, (.h 8900, .e (.arena true [9000] H8)), hD 9000] ⟨.arena' (bs := [9000]), .dead, trivial⟩ ?_; exact q_ret1 hT (.v (.one (.int .i64 r5))) [(8900, .arena true [9000] H8), (9000, .dead)] (by kernel_rfl) (by kernel_rfl) (by kernel_rfl)
 ·intro hj0
  clear h
  have h := e12
  clear e12
  rcases ite_split h with ⟨hc9, h⟩ | ⟨hc9, h⟩
  ·refine tr_cond_t (r5 == (0 : Int)) (by kernel_rfl) hc9 ?_; obtain ⟨H10, e11, h⟩ := bind_some h; refine tr_rg hT [(1, .callA [(1, .rw), (0, .apt 1)] (.tup []) [(43, .arena true [1] H10), (1, .dead)])] [sI 6 .i64 r5, (.h 43, .e (.arena true [1, 9000] H10))] (hone ((disk_file_settle_ok H6 p1 H10 e11).tr1 [(9001, .slc 0), (9000, .slc 1), (8900, .slc 43)] [(1, .arena true [] H6), (0, .apt 1 p1)] ⟨.arena' (bs := []), .apts' (κb := 1), trivial⟩)) ?_; have h := Option.some.inj h; subst h; exact q_ft [(42, .slc 43)] [sI 6 .i64 r5, (.h 42, .e (.arena true [9000] H10))] ⟨.arena' (bs := [1, 9000]), trivial⟩ hj0
  refine tr_cond_f (r5 == (0 : Int)) (by kernel_rfl) hc9 ?_; refine tr_skip ?_; have h := Option.some.inj h; subst h; exact q_ft [(42, .slc 1)] [sI 6 .i64 r5, (.h 42, .e (.arena true [9000] H6))] ⟨.arena' (bs := [9000]), trivial⟩ hj0

end Go.Proofs.Sd
