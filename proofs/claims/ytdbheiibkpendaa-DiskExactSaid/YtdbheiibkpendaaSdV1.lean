/- Walks, printed by a program of this session (gowalk.py): each Go function comes to its plain function's answer. -/
import Derived.Test.YtdbheiibkpendaaSdA
import Derived.Test.YtdbheiibkpendaaSdD
import Derived.Test.YtdbheiibkpendaaMSdS
import Derived.Test.YtdbheiibkpendaaSdV0
namespace Go.Proofs.Sd
open Go Go.Gw D
set_option linter.unusedVariables false
set_option maxRecDepth 20000

abbrev Zj0 (H_0 : AH) (a13 : List Int) (p1 : MV) := (AH.wr (H_0 ++ [MO.row 5 1 (a13.map (MV.int .u8))]) p1 0 [MV.slc (List.length H_0) 1 0 (List.length a13)])
abbrev Zj1 (H_0 : AH) (a13 : List Int) (p1 : MV) := (AH.wr (AH.app (Zj0 H_0 a13 p1) (AH.rd (Zj0 H_0 a13 p1) p1 2) 3 1 ([(↑(MV.len (AH.rd (Zj0 H_0 a13 p1) p1 0)) : Int)].map (MV.int .i64))) p1 2 [MV.slc (List.length (Zj0 H_0 a13 p1)) 1 0 (MV.len (AH.rd (Zj0 H_0 a13 p1) p1 2) + (List.length [(↑(MV.len (AH.rd (Zj0 H_0 a13 p1) p1 0)) : Int)]))])
abbrev Zj2 (H_0 : AH) : Gw.Loc × Cont := (.h 9000, .e (.arena true [] H_0))
abbrev Zj3 (d_1 : MV) : Gw.Loc × Cont := (.h 9001, .e (.apt 9000 d_1))
abbrev Zj4 (b_3 : List Int) (H_0 : AH) (d_1 : MV) (r8 : Int) := (decide ((↑(List.length b_3) : Int) > (IntKind.i64.wrap ((MV.num (AH.rd H_0 d_1 0)) - r8))))
theorem disk_Disk_Append_ok (H_0 : AH) (d_1 : MV) (n_2 : Int) (b_3 : List Int) (r : Int × AH) (h : disk_Disk_Append H_0 d_1 n_2 b_3 = some r) : CallOk P 15 [.v (.one (.slc 9001)), .v (.one (.int .i64 n_2)), .v (.one (.slc 9002))] [(9000, .arena true [] H_0), (9001, .apt 9000 d_1), (9002, .rd .u8 b_3)] (.v (.one (.int .i64 r.1))) [(8900, .arena true [9000] r.2), (9000, .dead)] := by
 refine call1 (N := 56) Try.func15 (by kernel_rfl) rfl rfl rfl [(9000, .arena true [] H_0), (9001, .apt 9000 d_1), (9002, .rd .u8 b_3)] (by kernel_rfl) ?_; intro _ B w0; show Tr P B 56 w0 _ _ (RetQ P Try.f15 (R1 _ _ B w0)); unfold disk_Disk_Append at h; refine tr_seq (tr_rg hT [] [sO 0 (.slc 9001), sI 1 .i64 n_2, sO 2 (.slc 9002), (Zj2 H_0), (Zj3 d_1), hR 9002 .u8 b_3] hnil ?_); refine q_k (tr_seq ?_); obtain ⟨⟨p1, r2⟩, e3, h⟩ := bind_some h; refine tr_rg hT [(2, .callA [(9000, .ro), (9001, .apt 9000)] (.tup [.one (.slc 0), .one (.int .i64 r2)]) [(0, .apt 9000 p1)])] [sO 0 (.slc 9001), sO 2 (.slc 9002), sO 7 (.slc 0), sI 8 .i64 r2, (.h 0, .e (.apt 9000 p1)), (Zj2 H_0), (Zj3 d_1), hR 9002 .u8 b_3] (hone ((disk_Disk_find_ok H_0 d_1 n_2 (p1, r2) e3).tr1 [(9001, .slc 9001), (9000, .slc 9000), (8900, .slc 0)] [(9000, .arena false [] H_0), (9001, .apt 9000 d_1)] ⟨.arena' (bs := []), .apts' (κb := 9000), trivial⟩)) ?_; refine q_k (tr_seq (tr_block (tr_seq (tr_rg hT [] [sO 0 (.slc 9001), sO 2 (.slc 9002), sO 7 (.slc 0), sI 8 .i64 r2, sB 15 (r2 != (0 : Int)), (.h 0, .e (.apt 9000 p1)), (Zj2 H_0), (Zj3 d_1), hR 9002 .u8 b_3] hnil ?_)))); refine q_k ?_
 rcases ite_split h with ⟨hc4, h⟩ | ⟨hc4, h⟩
 ·refine tr_cond_t (r2 != (0 : Int)) (by kernel_rfl) hc4 ?_; refine tr_seq (tr_rg hT [] [sI 6 .i64 r2, (Zj2 H_0)] hnil ?_); refine q_k (tr_ret (q_b_ret (q_k_ret ?_))); have h := Option.some.inj h; subst h; refine q_ft [(8900, .slc 9000)] [sI 6 .i64 r2, (.h 8900, .e (.arena true [9000] H_0)), hD 9000] ⟨.arena' (bs := []), .dead, trivial⟩ ?_; exact q_ret1 hT (.v (.one (.int .i64 r2))) [(8900, .arena true [9000] H_0), (9000, .dead)] (by kernel_rfl) (by kernel_rfl) (by kernel_rfl)
 refine tr_cond_f (r2 != (0 : Int)) (by kernel_rfl) hc4 ?_; refine tr_seq ?_; obtain ⟨hn5, hn6, hn7, h⟩ := it3 h; obtain ⟨r8, e9, h⟩ := bind_some h; refine tr_rgd hT hM [(3, .ar 9000 []), (4, .ar 9000 []), (5, .ar 9000 []), (7, .callA [(9000, .ro), (9001, .apt 9000)] (.v (.one (.int .i64 r8))) [])] [sO 0 (.slc 9001), sO 2 (.slc 9002), sO 7 (.slc 0), sB 19 (Zj4 b_3 H_0 d_1 r8), (.h 0, .e (.apt 9000 p1)), (Zj2 H_0), (Zj3 d_1), hR 9002 .u8 b_3] (hcons hn5 (hcons hn5 (hcons hn6 (hcons hn7 (hone ((disk_Disk_used_ok H_0 d_1 r8 e9).tr1 [(9001, .slc 9001), (9000, .slc 9000)] [(9000, .arena false [] H_0), (9001, .apt 9000 d_1)] ⟨.arena' (bs := []), .apts' (κb := 9000), trivial⟩)))))) ?_; refine q_k ?_
 rcases ite_split h with ⟨hc10, h⟩ | ⟨hc10, h⟩
 ·refine tr_cond_t (Zj4 b_3 H_0 d_1 r8) (by kernel_rfl) hc10 ?_; refine tr_seq (tr_rg hT [] [sI 6 .i64 (9 : Int), (Zj2 H_0)] hnil ?_); refine q_k (tr_ret (q_b_ret (q_k_ret ?_))); have h := Option.some.inj h; subst h; refine q_ft [(8900, .slc 9000)] [sI 6 .i64 (9 : Int), (.h 8900, .e (.arena true [9000] H_0)), hD 9000] ⟨.arena' (bs := []), .dead, trivial⟩ ?_; exact q_ret1 hT (.v (.one (.int .i64 (9 : Int)))) [(8900, .arena true [9000] H_0), (9000, .dead)] (by kernel_rfl) (by kernel_rfl) (by kernel_rfl)
 refine tr_cond_f (Zj4 b_3 H_0 d_1 r8) (by kernel_rfl) hc10 ?_; refine tr_skip (q_b 0 ?_); refine q_k (tr_seq ?_); obtain ⟨hn11, hn12, hn15, h⟩ := it3 h; obtain ⟨a13, e14, h⟩ := bind_some h; refine tr_rg hT [(2, .ar 9000 []), (3, .ar 9000 []), (4, .ar 9000 [1]), (6, .lk 2), (7, .callA [(2, .rows .u8 9000 1 9002)] (.v (.one (.slc 3))) [(3, .own 5 .u8 a13)]), (8, .ar 9000 []), (9, .ar 9000 []), (10, .ar 9000 [4])] [sO 0 (.slc 9001), sO 7 (.slc 0), (.h 0, .e (.apt 9000 p1)), (.h 4, .e (.arena true [9000] (Zj0 H_0 a13 p1))), (Zj3 d_1)] (hcons hn11 (hcons hn11 (hcons hn12 (hcons hn15 (hcons ((slices_Concat_byte_byte_ok [AH.ints H_0 (AH.rd H_0 p1 0), b_3] a13 e14).tr1 [(9000, .slc 2), (8900, .slc 3)] [(2, .rows (.bs .u8 [AH.ints H_0 (AH.rd H_0 p1 0), b_3]))] ⟨.rows', trivial⟩) (hcons hn11 (hcons hn11 (hcons hn12 (hone (show 1 ≤ 1 from by decide)))))))))) ?_; refine q_k (tr_seq ?_); obtain ⟨hn16, h⟩ := ite_some h; refine tr_ft [] [sO 0 (.slc 9001), sO 7 (.slc 0), (.h 0, .e (.ptn 4 p1)), (.h 4, .e (.arena true [9000] (Zj0 H_0 a13 p1))), (Zj3 d_1)] ⟨.ptn' (κb := 9000) (κ0 := 4) (rw := true) (bs := [9000]) (D := (Zj0 H_0 a13 p1)) hn16, .arena' (bs := [9000]), .apts' (κb := 9000), trivial⟩ ?_; obtain ⟨hn17, hn18, hn19, hn20, hn21, hn22, h⟩ := it6 h; refine tr_rgd hT hM [(2, .pn), (3, .pn), (4, .ar 4 [5]), (6, .pn), (7, .pn), (8, .ar 4 [6]), (9, .ar 4 []), (10, .key 7), (11, .ar 4 [8, 9]), (12, .pn), (13, .pn), (14, .ar 8 [10])] [sO 0 (.slc 9001), (.h 10, .e (.arena true [8, 4, 9000] (Zj1 H_0 a13 p1))), (Zj3 d_1)] (hcons hn17 (hcons hn18 (hcons hn19 (hcons hn20 (hcons hn21 (hcons hn22 (hone (show 1 ≤ 1 from by decide)))))))) ?_; refine q_k (tr_seq ?_); obtain ⟨⟨r23, H24⟩, e25, h⟩ := bind_some h; refine tr_rg hT [(1, .callA [(10, .rw), (9001, .apt 10)] (.v (.one (.int .i64 r23))) [(11, .arena true [10] H24), (10, .dead)])] [sI 6 .i64 r23, (.h 11, .e (.arena true [10, 8, 4, 9000] H24))] (hone ((disk_Disk_spend_ok (Zj1 H_0 a13 p1) d_1 (r23, H24) e25).tr1 [(9001, .slc 9001), (9000, .slc 10), (8900, .slc 11)] [(10, .arena true [] (Zj1 H_0 a13 p1)), (9001, .apt 10 d_1)] ⟨.arena' (bs := []), .apts' (κb := 10), trivial⟩)) ?_
 refine q_k (tr_ret ?_); have h := Option.some.inj h; subst h; refine q_ft [(8900, .slc 11)] [sI 6 .i64 r23, (.h 8900, .e (.arena true [9000] H24)), hD 9000] ⟨.arena' (bs := [10, 8, 4, 9000]), .dead, trivial⟩ ?_; exact q_ret1 hT (.v (.one (.int .i64 r23))) [(8900, .arena true [9000] H24), (9000, .dead)] (by kernel_rfl) (by kernel_rfl) (by kernel_rfl)

theorem disk_Disk_Start_ok (H_0 : AH) (d_1 : MV) (r : AH) (h : disk_Disk_Start H_0 d_1 = some r) : CallOk P 17 [.v (.one (.slc 9001))] [(9000, .arena true [] H_0), (9001, .apt 9000 d_1)] (.tup []) [(8900, .arena true [9000] r), (9000, .dead)] := by
 refine call1 (N := 5) Try.func17 (by kernel_rfl) rfl rfl rfl [(9000, .arena true [] H_0), (9001, .apt 9000 d_1)] (by kernel_rfl) ?_
 intro _ B w0
 show Tr P B 5 w0 _ _ (RetQ P Try.f17 (R1 _ _ B w0))
 unfold disk_Disk_Start at h
 obtain ⟨hn1, h⟩ := ite_some h
 obtain ⟨hn2, h⟩ := ite_some h
 refine tr_rg hT [(1, .ar 9000 []), (2, .ar 9000 []), (3, .ar 9000 [0])] [(.h 0, .e (.arena true [9000] (AH.wr H_0 d_1 2 [MV.bool false])))] (hcons hn1 (hcons hn1 (hcons hn2 (hone (show 1 ≤ 1 from by decide))))) ?_
 have h := Option.some.inj h
 subst h
 refine q_ft [(8900, .slc 0)] [(.h 8900, .e (.arena true [9000] (AH.wr H_0 d_1 2 [MV.bool false]))), hD 9000] ⟨.arena' (bs := [9000]), .dead, trivial⟩ ?_
 exact q_end1 hT (.tup []) [(8900, .arena true [9000] (AH.wr H_0 d_1 2 [MV.bool false])), (9000, .dead)] (by kernel_rfl) (by kernel_rfl) (by kernel_rfl)

theorem slices_Clone_byte_byte_n_ok (r : List Int) (h : slices_Clone_byte_byte_n = some r) : CallOk P 49 [.v (.one (.nils))] [] (.v (.one (.slc 8900))) [(8900, .own 5 .u8 r)] := by
 refine call1 (N := 8) Try.func49 (by kernel_rfl) rfl rfl rfl [] (by kernel_rfl) ?_
 intro _ B w0
 show Tr P B 8 w0 _ _ (RetQ P Try.f49 (R1 _ _ B w0))
 unfold slices_Clone_byte_byte_n at h
 refine tr_seq ?_
 refine tr_rg hT [] [sO 0 (.nils)] hnil ?_
 refine q_k ?_
 refine tr_seq ?_
 refine tr_seq ?_
 refine tr_rg hT [] [sO 0 (.nils), sB 4 true] hnil ?_
 refine q_k ?_
 refine tr_cond_t true (by kernel_rfl) rfl ?_
 refine tr_seq ?_
 refine tr_rg hT [] [sO 2 (.nils)] hnil ?_
 refine q_k ?_
 refine tr_ret ?_
 refine q_k_ret ?_
 have h := Option.some.inj h
 subst h
 refine q_ft [(8900, .nils)] [sO 2 (.slc 8900), hO 8900 5 .u8 []] ⟨.nilown, trivial⟩ ?_
 exact q_ret1 hT (.v (.one (.slc 8900))) [(8900, .own 5 .u8 [])] (by kernel_rfl) (by kernel_rfl) (by kernel_rfl)

theorem slices_Clone_byte_byte_x_ok (s_0 : List Int) (r : List Int) (h : slices_Clone_byte_byte_x s_0 = some r) : CallOk P 49 [.v (.one (.slc 9000))] [(9000, .rdx .u8 s_0)] (.v (.one (.slc 8900))) [(8900, .own 5 .u8 r)] := by
 refine call1 (N := 8) Try.func49 (by kernel_rfl) rfl rfl rfl [(9000, .rdx .u8 s_0)] (by kernel_rfl) ?_
 intro _ B w0
 show Tr P B 8 w0 _ _ (RetQ P Try.f49 (R1 _ _ B w0))
 unfold slices_Clone_byte_byte_x at h
 refine tr_seq ?_
 refine tr_rg hT [] [sO 0 (.slc 9000), hX 9000 .u8 s_0] hnil ?_
 refine q_k ?_
 refine tr_seq ?_
 refine tr_seq ?_
 refine tr_rg hT [] [sO 0 (.slc 9000), sB 4 false, hX 9000 .u8 s_0] hnil ?_
 refine q_k ?_
 refine tr_cond_f false (by kernel_rfl) rfl ?_
 refine tr_skip ?_
 refine q_k ?_
 refine tr_seq ?_
 obtain ⟨hn1, h⟩ := ite_some h
 refine tr_rg hT [(0, .key 0), (2, .key 1)] [sO 2 (.slc 1), hO 1 5 .u8 ([] ++ s_0)] (hone hn1) ?_
 refine q_k ?_
 refine tr_ret ?_
 have h := Option.some.inj h
 subst h
 refine q_ft [(8900, .slc 1)] [sO 2 (.slc 8900), hO 8900 5 .u8 ([] ++ s_0)] ⟨.own', trivial⟩ ?_
 exact q_ret1 hT (.v (.one (.slc 8900))) [(8900, .own 5 .u8 ([] ++ s_0))] (by kernel_rfl) (by kernel_rfl) (by kernel_rfl)

theorem slices_Clone_byte_byte_ok (s r : List Int) (h : slices_Clone_byte_byte s = some r) : CallOk P 49 [.v (.one (.slc 9000))] [(9000, .rd .u8 s)] (.v (.one (.slc 8900))) [(8900, .own 5 .u8 r)] :=
 nil_or (fun e => by subst e; exact slices_Clone_byte_byte_n_ok r (by rw [← h]; kernel_rfl)) (slices_Clone_byte_byte_x_ok s r h) (by rfl)

abbrev Zk0 (H_0 : AH) : Gw.Loc × Cont := (.h 9000, .e (.arena false [] H_0))
theorem disk_Disk_Read_ok (H_0 : AH) (d_1 : MV) (n_2 : Int) (r : List Int × Int) (h : disk_Disk_Read H_0 d_1 n_2 = some r) : CallOk P 18 [.v (.one (.slc 9001)), .v (.one (.int .i64 n_2))] [(9000, .arena false [] H_0), (9001, .apt 9000 d_1)] (.tup [.one (.slc 8900), .one (.int .i64 r.2)]) [(8900, .own 5 .u8 r.1)] := by
 refine call1 (N := 22) Try.func18 (by kernel_rfl) rfl rfl rfl [(9000, .arena false [] H_0), (9001, .apt 9000 d_1)] (by kernel_rfl) ?_; intro _ B w0; show Tr P B 22 w0 _ _ (RetQ P Try.f18 (R1 _ _ B w0)); unfold disk_Disk_Read at h; refine tr_seq (tr_rg hT [] [sO 0 (.slc 9001), sI 1 .i64 n_2, (Zk0 H_0), (.h 9001, .e (.apt 9000 d_1))] hnil ?_); refine q_k (tr_seq ?_); obtain ⟨⟨p1, r2⟩, e3, h⟩ := bind_some h; refine tr_rg hT [(2, .callA [(9000, .ro), (9001, .apt 9000)] (.tup [.one (.slc 0), .one (.int .i64 r2)]) [(0, .apt 9000 p1)])] [sO 6 (.slc 0), sI 7 .i64 r2, (.h 0, .e (.apt 9000 p1)), (Zk0 H_0)] (hone ((disk_Disk_find_ok H_0 d_1 n_2 (p1, r2) e3).tr1 [(9001, .slc 9001), (9000, .slc 9000), (8900, .slc 0)] [(9000, .arena false [] H_0), (9001, .apt 9000 d_1)] ⟨.arena' (bs := []), .apts' (κb := 9000), trivial⟩)) ?_; refine q_k (tr_seq (tr_seq (tr_rg hT [] [sO 6 (.slc 0), sI 7 .i64 r2, sB 15 (r2 != (0 : Int)), (.h 0, .e (.apt 9000 p1)), (Zk0 H_0)] hnil ?_))); refine q_k ?_
 rcases ite_split h with ⟨hc4, h⟩ | ⟨hc4, h⟩
 ·refine tr_cond_t (r2 != (0 : Int)) (by kernel_rfl) hc4 ?_; refine tr_seq (tr_rg hT [] [sO 4 (.nils), sI 5 .i64 r2, (Zk0 H_0)] hnil ?_); refine q_k (tr_ret (q_k_ret ?_)); have h := Option.some.inj h; subst h; refine q_ft [(8900, .nils)] [sO 4 (.slc 8900), sI 5 .i64 r2, hO 8900 5 .u8 [], (Zk0 H_0)] ⟨.nilown, .arena' (bs := []), trivial⟩ ?_; exact q_ret1 hT (.tup [.one (.slc 8900), .one (.int .i64 r2)]) [(8900, .own 5 .u8 [])] (by kernel_rfl) (by kernel_rfl) (by kernel_rfl)
 refine tr_cond_f (r2 != (0 : Int)) (by kernel_rfl) hc4 ?_; refine tr_skip (q_k (tr_seq ?_)); obtain ⟨hn5, hn6, hn9, h⟩ := it3 h; obtain ⟨a7, e8, h⟩ := bind_some h; refine tr_rg hT [(1, .ar 9000 []), (2, .ar 9000 []), (3, .ar 9000 [1]), (4, .callA [(1, .rd .u8 9000)] (.v (.one (.slc 2))) [(2, .own 5 .u8 a7)])] [sO 4 (.slc 2), sI 5 .i64 (0 : Int), hO 2 5 .u8 a7, (Zk0 H_0)] (hcons hn5 (hcons hn5 (hcons hn6 (hcons hn9 (hone ((slices_Clone_byte_byte_ok (AH.ints H_0 (AH.rd H_0 p1 0)) a7 e8).tr1 [(9000, .slc 1), (8900, .slc 2)] [(1, .rd .u8 (AH.ints H_0 (AH.rd H_0 p1 0)))] ⟨.rd', trivial⟩)))))) ?_; refine q_k (tr_ret ?_); have h := Option.some.inj h; subst h; refine q_ft [(8900, .slc 2)] [sO 4 (.slc 8900), sI 5 .i64 (0 : Int), hO 8900 5 .u8 a7, (Zk0 H_0)] ⟨.own', .arena' (bs := []), trivial⟩ ?_; exact q_ret1 hT (.tup [.one (.slc 8900), .one (.int .i64 (0 : Int))]) [(8900, .own 5 .u8 a7)] (by kernel_rfl) (by kernel_rfl) (by kernel_rfl)

abbrev Zl0 (a_0 : List Int) := (↑(List.length a_0) : Int)
abbrev Zl1 (a_0 : List Int) (b_1 : List Int) (ya : Gw.Loc × Cont) : List (Gw.Loc × Cont) := [sO 0 (.slc 9000), sO 1 (.slc 9001), ya, hR 9000 .u8 a_0, hR 9001 .u8 b_1]
theorem keep_Bytes_ok (a_0 : List Int) (b_1 : List Int) (r : Bool) (h : keep_Bytes a_0 b_1 = some r) : CallOk P 19 [.v (.one (.slc 9000)), .v (.one (.slc 9001))] [(9000, .rd .u8 a_0), (9001, .rd .u8 b_1)] (.v (.one (.bool r))) [] := by
 refine call1 (N := 26) Try.func19 (by kernel_rfl) rfl rfl rfl [(9000, .rd .u8 a_0), (9001, .rd .u8 b_1)] (by kernel_rfl) ?_; intro _ B w0; show Tr P B 26 w0 _ _ (RetQ P Try.f19 (R1 _ _ B w0)); unfold keep_Bytes at h; refine tr_seq (tr_rg hT [] [sO 0 (.slc 9000), sO 1 (.slc 9001), hR 9000 .u8 a_0, hR 9001 .u8 b_1] hnil ?_); refine q_k (tr_seq (tr_seq (tr_rg hT [] (Zl1 a_0 b_1 (sB 10 ((Zl0 a_0) != (↑(List.length b_1) : Int)))) hnil ?_))); refine q_k ?_
 rcases ite_split h with ⟨hc1, h⟩ | ⟨hc1, h⟩
 ·refine tr_cond_t ((Zl0 a_0) != (↑(List.length b_1) : Int)) (by kernel_rfl) hc1 ?_; refine tr_seq (tr_rg hT [] [sB 4 false] hnil ?_); refine q_k (tr_ret (q_k_ret ?_)); have h := Option.some.inj h; subst h; refine q_ls [sB 4 false] ?_; exact q_ret1 hT (.v (.one (.bool false))) [] (by kernel_rfl) (by kernel_rfl) (by kernel_rfl)
 refine tr_cond_f ((Zl0 a_0) != (↑(List.length b_1) : Int)) (by kernel_rfl) hc1 ?_; refine tr_skip (q_k (tr_seq (tr_seq (tr_rg hT [] (Zl1 a_0 b_1 (sI 5 .i64 (0 : Int))) hnil ?_)))); refine q_k (tr_block ?_); obtain ⟨rr0, e7, h⟩ := bind_some h; refine tr_ft [] (Zl1 a_0 b_1 (sI 5 .i64 (0 : Int))) ⟨.rd', .rd', trivial⟩ ?_
 refine tr_loop_ret (id := 0) (α := Int) (β := Unit) (ρ := Bool) (fun z => (Zl1 a_0 b_1 (sI 5 .i64 z))) (fun z => []) (fun v σ => resS T (Gw.look σ) Try.f19.results.toList = some (.v (.one (.bool v))) ∧ Gw.hasAll σ [] = some (Gw.preSS [])) (fun k z => keep_Bytes_l0 a_0 b_1 k z) rr0 (fun _ => rfl) (((Zl0 a_0) - (0 : Int)).toNat + 1) (0 : Int) e7 ?_ ?_ ?_
 ·intro z hz; subst hz
  rcases z with _
  try dsimp only at h
  refine q_b_this (q_k (tr_seq (tr_rg hT [] [sB 4 true] hnil ?_))); refine q_k (tr_ret ?_); have h := Option.some.inj h; subst h; refine q_ls [sB 4 true] ?_; exact q_ret1 hT (.v (.one (.bool true))) [] (by kernel_rfl) (by kernel_rfl) (by kernel_rfl)
 ·intro v σ hz hv; subst hz; have h := Option.some.inj h; subst h; refine q_b_ret ?_; refine q_k_ret ?_; exact q_ret1 hT _ _ hv.1 hv.2 (by kernel_rfl)
 ·clear h e7
  intro k ih0 hx0 hr0 i2 h
  try dsimp only at h
  refine tr_seq (tr_seq (tr_rg hT [] [sO 0 (.slc 9000), sO 1 (.slc 9001), sI 5 .i64 i2, sB 14 (decide (i2 < (Zl0 a_0))), hR 9000 .u8 a_0, hR 9001 .u8 b_1] hnil ?_)); refine q_k ?_
  rcases ite_split h with ⟨hc3, h⟩ | ⟨hc3, h⟩
  ·refine tr_cond_t (decide (i2 < (Zl0 a_0))) (by kernel_rfl) hc3 ?_; refine tr_skip (q_k (tr_seq (tr_block (tr_seq ?_)))); obtain ⟨hn4, hn5, h⟩ := it2 h; refine tr_rgd hT hM [] [sO 0 (.slc 9000), sO 1 (.slc 9001), sI 5 .i64 i2, sB 25 ((a_0.getD i2.toNat 0) != (b_1.getD i2.toNat 0)), hR 9000 .u8 a_0, hR 9001 .u8 b_1] (hcons hn4 (hcons hn4.2 (hcons hn5 (hone hn5.2)))) ?_; refine q_k ?_
   rcases ite_split h with ⟨hc6, h⟩ | ⟨hc6, h⟩
   ·refine tr_cond_t ((a_0.getD i2.toNat 0) != (b_1.getD i2.toNat 0)) (by kernel_rfl) hc6 ?_; refine tr_seq (tr_rg hT [] [sB 4 false] hnil ?_); refine q_k (tr_ret (q_b_ret (q_k_ret (q_kr_ret ?_)))); have h := Option.some.inj h; subst h
    exact q_ls [sB 4 false] (hr0 false _ rfl ⟨by kernel_rfl, by kernel_rfl⟩)
   refine tr_cond_f ((a_0.getD i2.toNat 0) != (b_1.getD i2.toNat 0)) (by kernel_rfl) hc6 ?_; refine tr_skip (q_b 1 ?_); refine q_k (tr_rg hT [] (Zl1 a_0 b_1 (sI 5 .i64 (IntKind.i64.wrap (i2 + (1 : Int))))) hnil ?_); refine q_kr ?_; exact trR_ls (Zl1 a_0 b_1 (sI 5 .i64 (IntKind.i64.wrap (i2 + (1 : Int))))) (ih0 (IntKind.i64.wrap (i2 + (1 : Int))) h)
  refine tr_cond_f (decide (i2 < (Zl0 a_0))) (by kernel_rfl) hc3 ?_; refine tr_exit (q_k_exit (q_kr_exit ?_)); have h := Option.some.inj h; subst h; exact q_ls [] (hx0 () rfl)

theorem disk_Disk_Life_ok (H_0 : AH) (d_1 : MV) (r : Int) (h : disk_Disk_Life H_0 d_1 = some r) : CallOk P 25 [.v (.one (.slc 9001))] [(9000, .arena false [] H_0), (9001, .apt 9000 d_1)] (.v (.one (.int .i64 r))) [] := by
 refine call1 (N := 7) Try.func25 (by kernel_rfl) rfl rfl rfl [(9000, .arena false [] H_0), (9001, .apt 9000 d_1)] (by kernel_rfl) ?_
 intro _ B w0
 show Tr P B 7 w0 _ _ (RetQ P Try.f25 (R1 _ _ B w0))
 unfold disk_Disk_Life at h
 refine tr_seq ?_
 refine tr_rg hT [] [sO 0 (.slc 9001), (.h 9000, .e (.arena false [] H_0)), (.h 9001, .e (.apt 9000 d_1))] hnil ?_
 refine q_k ?_
 refine tr_seq ?_
 obtain ⟨hn1, h⟩ := ite_some h
 obtain ⟨hn2, h⟩ := ite_some h
 obtain ⟨hn3, h⟩ := ite_some h
 refine tr_rg hT [(1, .ar 9000 []), (2, .ar 9000 []), (3, .ar 9000 [])] [sI 2 .i64 (MV.num (AH.rd H_0 d_1 3)), (.h 9000, .e (.arena false [] H_0))] (hcons hn1 (hcons hn1 (hcons hn2 (hone hn3)))) ?_
 refine q_k ?_
 refine tr_ret ?_
 have h := Option.some.inj h
 subst h
 refine q_ls [sI 2 .i64 (MV.num (AH.rd H_0 d_1 3)), (.h 9000, .e (.arena false [] H_0))] ?_
 exact q_ret1 hT (.v (.one (.int .i64 (MV.num (AH.rd H_0 d_1 3))))) [] (by kernel_rfl) (by kernel_rfl) (by kernel_rfl)

theorem law14_wakes_ok (r : Bool) (h : law14_wakes = some r) {pre : List (Nat × Ent)} : CallOk P 20 [] pre (.v (.one (.bool r))) [] := by
 refine call0 (N := 47) Try.func20 (by kernel_rfl) rfl rfl rfl pre ?_; intro _ w; show Tr P (Ge w) 47 _ _ _ (RetQ P Try.f20 (R0 _ w)); unfold law14_wakes at h; refine tr_seq (tr_rg hT [] [] hnil ?_); refine q_k (tr_seq ?_); obtain ⟨⟨p1, r2, H3⟩, e4, h⟩ := bind_some h; refine tr_rg hT [(0, .callA [] (.tup [.one (.slc 1), .one (.int .i64 r2)]) [(1, .apt 0 p1), (0, .arena true [] H3)])] [sO 1 (.slc 1), sI 2 .i64 r2, (.h 0, .e (.arena true [] H3)), (.h 1, .e (.apt 0 p1))] (hone ((disk_New_ok (100 : Int) (p1, r2, H3) e4).tr1 [(8901, .slc 0), (8900, .slc 1)] [] trivial)) ?_; refine q_k (tr_seq (tr_seq ?_))
 rcases ite_split h with ⟨hb5, h⟩ | ⟨hb6, h⟩
 ·refine tr_rg hT [(2, .dec true)] [sO 1 (.slc 1), sB 25 true, (.h 0, .e (.arena true [] H3)), (.h 1, .e (.apt 0 p1))] (hone hb5) ?_; refine q_k (tr_cond_t true (by kernel_rfl) rfl ?_); refine tr_seq (tr_rg hT [] [sB 0 false] hnil ?_); refine q_k (tr_ret (q_k_ret ?_)); have h := Option.some.inj h; subst h; exact q_ret0 hT (.v (.one (.bool false))) rfl (by kernel_rfl)
 obtain ⟨hn7, h⟩ := ite_some h
 rcases ite_split h with ⟨hb8, h⟩ | ⟨hb9, h⟩
 ·refine tr_rg hT [(2, .dec false), (4, .ar 0 []), (6, .dec true)] [sO 1 (.slc 1), sB 25 true, (.h 0, .e (.arena true [] H3)), (.h 1, .e (.apt 0 p1))] (hcons hb6 (hcons hn7 (hone hb8))) ?_; refine q_k (tr_cond_t true (by kernel_rfl) rfl ?_); refine tr_seq (tr_rg hT [] [sB 0 false] hnil ?_); refine q_k (tr_ret (q_k_ret ?_)); have h := Option.some.inj h; subst h; exact q_ret0 hT (.v (.one (.bool false))) rfl (by kernel_rfl)
 obtain ⟨⟨r10, H11⟩, e12, h⟩ := bind_some h
 rcases ite_split h with ⟨hb13, h⟩ | ⟨hb14, h⟩
 ·refine tr_rg hT [(2, .dec false), (4, .ar 0 []), (6, .dec false), (8, .callA [(0, .rw), (1, .apt 0)] (.v (.one (.int .i64 r10))) [(2, .arena true [0] H11), (0, .dead)]), (11, .dec true)] [sO 1 (.slc 1), sB 25 true, (.h 1, .e (.apt 0 p1)), (.h 2, .e (.arena true [0] H11))] (hcons hb6 (hcons hn7 (hcons hb9 (hcons ((disk_Disk_Create_ok H3 p1 (0 : Int) (r10, H11) e12).tr1 [(9001, .slc 1), (9000, .slc 0), (8900, .slc 2)] [(0, .arena true [] H3), (1, .apt 0 p1)] ⟨.arena' (bs := []), .apts' (κb := 0), trivial⟩) (hone hb13))))) ?_; refine q_k (tr_cond_t true (by kernel_rfl) rfl ?_); refine tr_seq (tr_rg hT [] [sB 0 false] hnil ?_); refine q_k (tr_ret (q_k_ret ?_)); have h := Option.some.inj h; subst h; exact q_ret0 hT (.v (.one (.bool false))) rfl (by kernel_rfl)
 obtain ⟨⟨r15, H16⟩, e17, h⟩ := bind_some h
 refine tr_rg hT [(2, .dec false), (4, .ar 0 []), (6, .dec false), (8, .callA [(0, .rw), (1, .apt 0)] (.v (.one (.int .i64 r10))) [(2, .arena true [0] H11), (0, .dead)]), (11, .dec false), (13, .key 3), (14, .key 4), (15, .callA [(2, .rw), (1, .apt 2), (4, .same)] (.v (.one (.int .i64 r15))) [(5, .arena true [2] H16), (2, .dead)])] [sO 1 (.slc 1), sB 25 (r15 != (0 : Int)), (.h 1, .e (.apt 0 p1)), (.h 5, .e (.arena true [2, 0] H16))] (hcons hb6 (hcons hn7 (hcons hb9 (hcons ((disk_Disk_Create_ok H3 p1 (0 : Int) (r10, H11) e12).tr1 [(9001, .slc 1), (9000, .slc 0), (8900, .slc 2)] [(0, .arena true [] H3), (1, .apt 0 p1)] ⟨.arena' (bs := []), .apts' (κb := 0), trivial⟩) (hcons hb14 (hcons (show 0 < List.length [(97 : Int), (98 : Int)] from by decide) (hone ((disk_Disk_Append_ok H11 p1 (0 : Int) [(97 : Int), (98 : Int)] (r15, H16) e17).tr1 [(9001, .slc 1), (9002, .slc 4), (9000, .slc 2), (8900, .slc 5)] [(2, .arena true [] H11), (1, .apt 2 p1), (4, .rd .u8 [(97 : Int), (98 : Int)])] ⟨.arena' (bs := []), .apts' (κb := 2), .rd', trivial⟩)))))))) ?_
 refine q_k ?_
 rcases ite_split h with ⟨hc18, h⟩ | ⟨hc18, h⟩
 ·refine tr_cond_t (r15 != (0 : Int)) (by kernel_rfl) hc18 ?_; refine tr_seq (tr_rg hT [] [sB 0 false] hnil ?_); refine q_k (tr_ret (q_k_ret ?_)); have h := Option.some.inj h; subst h; exact q_ret0 hT (.v (.one (.bool false))) rfl (by kernel_rfl)
 refine tr_cond_f (r15 != (0 : Int)) (by kernel_rfl) hc18 ?_; refine tr_skip (q_k (tr_seq ?_)); obtain ⟨H19, e20, h⟩ := bind_some h; refine tr_rg hT [(1, .callA [(5, .rw), (1, .apt 5)] (.tup []) [(6, .arena true [5] H19), (5, .dead)])] [sO 1 (.slc 1), (.h 1, .e (.apt 0 p1)), (.h 6, .e (.arena true [5, 2, 0] H19))] (hone ((disk_Disk_Crash_ok H16 p1 [] (0 : Int) (1 : Int) H19 e20).tr1 [(9001, .slc 1), (9002, .nils), (9000, .slc 5), (8900, .slc 6)] [(5, .arena true [] H16), (1, .apt 5 p1)] ⟨.arena' (bs := []), .apts' (κb := 5), .rdbnil, trivial⟩)) ?_; refine q_k (tr_seq ?_); obtain ⟨H21, e22, h⟩ := bind_some h; refine tr_rg hT [(1, .callA [(6, .rw), (1, .apt 6)] (.tup []) [(7, .arena true [6] H21), (6, .dead)])] [sO 1 (.slc 1), (.h 1, .e (.apt 0 p1)), (.h 7, .e (.arena true [6, 5, 2, 0] H21))] (hone ((disk_Disk_Start_ok H19 p1 H21 e22).tr1 [(9001, .slc 1), (9000, .slc 6), (8900, .slc 7)] [(6, .arena true [] H19), (1, .apt 6 p1)] ⟨.arena' (bs := []), .apts' (κb := 6), trivial⟩)) ?_; refine q_k (tr_seq ?_); obtain ⟨⟨a23, r24⟩, e25, h⟩ := bind_some h; refine tr_rg hT [(1, .callA [(7, .ro), (1, .apt 7)] (.tup [.one (.slc 8), .one (.int .i64 r24)]) [(8, .own 5 .u8 a23)])] [sO 1 (.slc 1), sI 2 .i64 r24, sO 3 (.slc 8), (.h 1, .e (.apt 0 p1)), (.h 7, .e (.arena true [6, 5, 2, 0] H21)), hO 8 5 .u8 a23] (hone ((disk_Disk_Read_ok H21 p1 (0 : Int) (a23, r24) e25).tr1 [(9001, .slc 1), (9000, .slc 7), (8900, .slc 8)] [(7, .arena false [] H21), (1, .apt 7 p1)] ⟨.arena' (bs := []), .apts' (κb := 7), trivial⟩)) ?_; refine q_k (tr_seq ?_)
 rcases ite_split h with ⟨hb26, h⟩ | ⟨hb33, h⟩
 ·obtain ⟨b27, e28, h⟩ := bind_some h
  rcases ite_split h with ⟨hb29, h⟩ | ⟨hb32, h⟩
  ·obtain ⟨r30, e31, h⟩ := bind_some h; refine tr_rg hT [(2, .dec true), (4, .key 9), (5, .call [8, 9] (.v (.one (.bool b27))) []), (7, .dec true), (9, .callA [(7, .ro), (1, .apt 7)] (.v (.one (.int .i64 r30))) [])] [sB 0 (r30 == (1 : Int))] (hcons hb26 (hcons ((keep_Bytes_ok a23 [(97 : Int), (0 : Int)] b27 e28).tr1 [(9000, .slc 8), (9001, .slc 9)] [(8, .own 5 .u8 a23), (9, .own 5 .u8 [(97 : Int), (0 : Int)])] ⟨.ownrd' (e := 5), .ownrd' (e := 5), trivial⟩) (hcons hb29 (hone ((disk_Disk_Life_ok H21 p1 r30 e31).tr1 [(9001, .slc 1), (9000, .slc 7)] [(7, .arena false [] H21), (1, .apt 7 p1)] ⟨.arena' (bs := []), .apts' (κb := 7), trivial⟩))))) ?_; refine q_k ?_; refine tr_ret ?_; have h := Option.some.inj h; subst h; exact q_ret0 hT (.v (.one (.bool (r30 == (1 : Int))))) rfl (by kernel_rfl)
  refine tr_rg hT [(2, .dec true), (4, .key 9), (5, .call [8, 9] (.v (.one (.bool b27))) []), (7, .dec false)] [sB 0 false] (hcons hb26 (hcons ((keep_Bytes_ok a23 [(97 : Int), (0 : Int)] b27 e28).tr1 [(9000, .slc 8), (9001, .slc 9)] [(8, .own 5 .u8 a23), (9, .own 5 .u8 [(97 : Int), (0 : Int)])] ⟨.ownrd' (e := 5), .ownrd' (e := 5), trivial⟩) (hone hb32))) ?_; refine q_k (tr_ret ?_); have h := Option.some.inj h; subst h; exact q_ret0 hT (.v (.one (.bool false))) rfl (by kernel_rfl)
 refine tr_rg hT [(2, .dec false)] [sB 0 false] (hone hb33) ?_; refine q_k (tr_ret ?_); have h := Option.some.inj h; subst h; exact q_ret0 hT (.v (.one (.bool false))) rfl (by kernel_rfl)

abbrev Zm0 (H_0 : AH) : Gw.Loc × Cont := (.h 9000, .e (.arena false [] H_0))
abbrev Zm1 (H_0 : AH) (d_1 : MV) (n_2 : Int) := (AH.look H_0 (AH.rd H_0 d_1 1) n_2)
theorem disk_Disk_Size_ok (H_0 : AH) (d_1 : MV) (n_2 : Int) (r : Int) (h : disk_Disk_Size H_0 d_1 n_2 = some r) : CallOk P 21 [.v (.one (.slc 9001)), .v (.one (.int .i64 n_2))] [(9000, .arena false [] H_0), (9001, .apt 9000 d_1)] (.v (.one (.int .i64 r))) [] := by
 refine call1 (N := 19) Try.func21 (by kernel_rfl) rfl rfl rfl [(9000, .arena false [] H_0), (9001, .apt 9000 d_1)] (by kernel_rfl) ?_; intro _ B w0; show Tr P B 19 w0 _ _ (RetQ P Try.f21 (R1 _ _ B w0)); unfold disk_Disk_Size at h; refine tr_seq (tr_rg hT [] [sO 0 (.slc 9001), sI 1 .i64 n_2, (Zm0 H_0), (.h 9001, .e (.apt 9000 d_1))] hnil ?_); refine q_k (tr_seq ?_); obtain ⟨hn1, hn2, hn3, h⟩ := it3 h; refine tr_rg hT [(1, .ar 9000 []), (2, .ar 9000 []), (3, .ar 9000 [0]), (5, .ar 9000 [1])] [sO 5 (.slc 1), (.h 1, .e (.apt 9000 (Zm1 H_0 d_1 n_2))), (Zm0 H_0)] (hcons hn1 (hcons hn1 (hcons hn2 (hone hn3)))) ?_; refine q_k (tr_seq (tr_seq ?_)); obtain ⟨hn4, h⟩ := ite_some h; refine tr_rg hT [(1, .ar 9000 [])] [sO 5 (.slc 1), sB 13 (MV.isN (Zm1 H_0 d_1 n_2)), (.h 1, .e (.apt 9000 (Zm1 H_0 d_1 n_2))), (Zm0 H_0)] (hone hn4) ?_; refine q_k ?_
 rcases ite_split h with ⟨hc5, h⟩ | ⟨hc5, h⟩
 ·refine tr_cond_t (MV.isN (Zm1 H_0 d_1 n_2)) (by kernel_rfl) hc5 ?_; refine tr_seq (tr_rg hT [] [sI 4 .i64 (0 : Int), (Zm0 H_0)] hnil ?_); refine q_k (tr_ret (q_k_ret ?_)); have h := Option.some.inj h; subst h; refine q_ls [sI 4 .i64 (0 : Int), (Zm0 H_0)] ?_; exact q_ret1 hT (.v (.one (.int .i64 (0 : Int)))) [] (by kernel_rfl) (by kernel_rfl) (by kernel_rfl)
 refine tr_cond_f (MV.isN (Zm1 H_0 d_1 n_2)) (by kernel_rfl) hc5 ?_; refine tr_skip (q_k (tr_seq ?_)); obtain ⟨hn6, hn7, hn8, h⟩ := it3 h; refine tr_rg hT [(1, .ar 9000 []), (2, .ar 9000 []), (3, .ar 9000 [2]), (4, .ar 9000 [])] [sI 4 .i64 (↑(MV.len (AH.rd H_0 (Zm1 H_0 d_1 n_2) 0)) : Int), (Zm0 H_0)] (hcons hn6 (hcons hn6 (hcons hn7 (hone hn8)))) ?_; refine q_k (tr_ret ?_); have h := Option.some.inj h; subst h; refine q_ls [sI 4 .i64 (↑(MV.len (AH.rd H_0 (Zm1 H_0 d_1 n_2) 0)) : Int), (Zm0 H_0)] ?_; exact q_ret1 hT (.v (.one (.int .i64 (↑(MV.len (AH.rd H_0 (Zm1 H_0 d_1 n_2) 0)) : Int)))) [] (by kernel_rfl) (by kernel_rfl) (by kernel_rfl)

end Go.Proofs.Sd
