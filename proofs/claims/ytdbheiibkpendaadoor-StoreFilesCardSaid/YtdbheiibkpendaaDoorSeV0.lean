/- Walks, printed by a program of this session (gowalk.py): each Go function comes to its plain function's answer. -/
import Derived.Test.YtdbheiibkpendaaDoorSeA
import Derived.Test.YtdbheiibkpendaaDoorSeD
import Derived.Test.YtdbheiibkpendaaDoorMSeS
import Derived.Test.YtdbheiibkpendaaDoorMSeE1
import Derived.Test.YtdbheiibkpendaaDoorMSeE1
namespace Go.Proofs.Se
open Go Go.Gw D
set_option linter.unusedVariables false
set_option maxRecDepth 20000

abbrev Za0 (limit_0 : Int) := ((([] : AH) ++ [MO.map []]) ++ [MO.cells 60 [MV.int .i64 limit_0, MV.map (List.length ([] : AH)), MV.bool false, MV.int .i64 (0 : Int), MV.nilp]])
abbrev Za1 := (MV.ptr (List.length (([] : AH) ++ [MO.map []])) 0)
theorem disk_New_ok (limit_0 : Int) (r : MV × Int × AH) (h : disk_New limit_0 = some r) : CallOk P 8 [.v (.one (.int .i64 limit_0))] [] (.tup [.one (.slc 8900), .one (.int .i64 r.2.1)]) [(8900, .apt 8901 r.1), (8901, .arena true [] r.2.2)] := by
 refine call1 (N := 14) Tryd.func8 (by kernel_rfl) rfl rfl rfl [] (by kernel_rfl) ?_; intro _ B w0; show Tr P B 14 w0 _ _ (RetQ P Tryd.f8 (R1 _ _ B w0)); unfold disk_New at h; refine tr_seq (tr_rg hT [] [sI 0 .i64 limit_0] hnil ?_); refine q_k (tr_seq (tr_seq ?_))
 rcases ite_split h with ⟨hb1, h⟩ | ⟨hb2, h⟩
 ·refine tr_rg hT [(2, .dec true)] [sI 0 .i64 limit_0, sB 9 true] (hone hb1) ?_; refine q_k (tr_cond_t true (by kernel_rfl) rfl ?_); refine tr_seq (tr_rg hT [] [sO 2 (.nilp), sI 3 .i64 (1 : Int)] hnil ?_); refine q_k (tr_ret (q_k_ret ?_)); have h := Option.some.inj h; subst h; refine q_ft [(8900, .nilp), (8901, .fn 0)] [sO 2 (.slc 8900), sI 3 .i64 (1 : Int), (.h 8900, .e (.apt 8901 MV.nilp)), (.h 8901, .e (.arena true [] ([] : AH)))] ⟨.aptnil, .arena0, trivial⟩ ?_; exact q_ret1 hT (.tup [.one (.slc 8900), .one (.int .i64 (1 : Int))]) [(8900, .apt 8901 MV.nilp), (8901, .arena true [] ([] : AH))] (by kernel_rfl) (by kernel_rfl) (by kernel_rfl)
 refine tr_rg hT [(2, .dec false)] [sI 0 .i64 limit_0, sB 9 (decide (limit_0 > (131072 : Int)))] (hone hb2) ?_; refine q_k ?_
 rcases ite_split h with ⟨hc3, h⟩ | ⟨hc3, h⟩
 ·refine tr_cond_t (decide (limit_0 > (131072 : Int))) (by kernel_rfl) hc3 ?_; refine tr_seq (tr_rg hT [] [sO 2 (.nilp), sI 3 .i64 (1 : Int)] hnil ?_); refine q_k (tr_ret (q_k_ret ?_)); have h := Option.some.inj h; subst h; refine q_ft [(8900, .nilp), (8901, .fn 0)] [sO 2 (.slc 8900), sI 3 .i64 (1 : Int), (.h 8900, .e (.apt 8901 MV.nilp)), (.h 8901, .e (.arena true [] ([] : AH)))] ⟨.aptnil, .arena0, trivial⟩ ?_; exact q_ret1 hT (.tup [.one (.slc 8900), .one (.int .i64 (1 : Int))]) [(8900, .apt 8901 MV.nilp), (8901, .arena true [] ([] : AH))] (by kernel_rfl) (by kernel_rfl) (by kernel_rfl)
 refine tr_cond_f (decide (limit_0 > (131072 : Int))) (by kernel_rfl) hc3 ?_; refine tr_skip (q_k (tr_seq (tr_rg hT [(1, .arN 0 [1, 2]), (3, .ar 1 [3, 4])] [sO 2 (.slc 4), sI 3 .i64 (0 : Int), (.h 3, .e (.arena true [1, 0] (Za0 limit_0))), (.h 4, .e (.apt 3 Za1))] hnil ?_))); refine q_k (tr_ret ?_); have h := Option.some.inj h; subst h; refine q_ft [(8900, .slc 4), (8901, .slc 3)] [sO 2 (.slc 8900), sI 3 .i64 (0 : Int), (.h 8900, .e (.apt 8901 Za1)), (.h 8901, .e (.arena true [] (Za0 limit_0)))] ⟨.apt' (κb := 3) (κ0 := 3) (rw := true) (bs := [1, 0]) (D := (Za0 limit_0)), .arena' (bs := [1, 0]), trivial⟩ ?_; exact q_ret1 hT (.tup [.one (.slc 8900), .one (.int .i64 (0 : Int))]) [(8900, .apt 8901 Za1), (8901, .arena true [] (Za0 limit_0))] (by kernel_rfl) (by kernel_rfl) (by kernel_rfl)

theorem disk_Disk_Off_ok (H_0 : AH) (d_1 : MV) (r : Bool) (h : disk_Disk_Off H_0 d_1 = some r) : CallOk P 26 [.v (.one (.slc 9001))] [(9000, .arena false [] H_0), (9001, .apt 9000 d_1)] (.v (.one (.bool r))) [] := by
 refine call1 (N := 7) Tryd.func26 (by kernel_rfl) rfl rfl rfl [(9000, .arena false [] H_0), (9001, .apt 9000 d_1)] (by kernel_rfl) ?_
 intro _ B w0
 show Tr P B 7 w0 _ _ (RetQ P Tryd.f26 (R1 _ _ B w0))
 unfold disk_Disk_Off at h
 refine tr_seq ?_
 refine tr_rg hT [] [sO 0 (.slc 9001), (.h 9000, .e (.arena false [] H_0)), (.h 9001, .e (.apt 9000 d_1))] hnil ?_
 refine q_k ?_
 refine tr_seq ?_
 obtain ⟨hn1, h⟩ := ite_some h
 obtain ⟨hn2, h⟩ := ite_some h
 obtain ⟨hn3, h⟩ := ite_some h
 refine tr_rg hT [(1, .ar 9000 []), (2, .ar 9000 []), (3, .ar 9000 [])] [sB 2 (MV.tr (AH.rd H_0 d_1 2)), (.h 9000, .e (.arena false [] H_0))] (hcons hn1 (hcons hn1 (hcons hn2 (hone hn3)))) ?_
 refine q_k ?_
 refine tr_ret ?_
 have h := Option.some.inj h
 subst h
 refine q_ls [sB 2 (MV.tr (AH.rd H_0 d_1 2)), (.h 9000, .e (.arena false [] H_0))] ?_
 exact q_ret1 hT (.v (.one (.bool (MV.tr (AH.rd H_0 d_1 2))))) [] (by kernel_rfl) (by kernel_rfl) (by kernel_rfl)

abbrev Zb0 (H_0 : AH) : Gw.Loc × Cont := (.h 9000, .e (.arena false [] H_0))
abbrev Zb1 (H_0 : AH) (d_1 : MV) (n_2 : Int) := (AH.look H_0 (AH.rd H_0 d_1 1) n_2)
theorem disk_Disk_find_ok (H_0 : AH) (d_1 : MV) (n_2 : Int) (r : MV × Int) (h : disk_Disk_find H_0 d_1 n_2 = some r) : CallOk P 39 [.v (.one (.slc 9001)), .v (.one (.int .i64 n_2))] [(9000, .arena false [] H_0), (9001, .apt 9000 d_1)] (.tup [.one (.slc 8900), .one (.int .i64 r.2)]) [(8900, .apt 9000 r.1)] := by
 refine call1 (N := 22) Tryd.func39 (by kernel_rfl) rfl rfl rfl [(9000, .arena false [] H_0), (9001, .apt 9000 d_1)] (by kernel_rfl) ?_; intro _ B w0; show Tr P B 22 w0 _ _ (RetQ P Tryd.f39 (R1 _ _ B w0)); unfold disk_Disk_find at h; refine tr_seq (tr_rg hT [] [sO 0 (.slc 9001), sI 1 .i64 n_2, (Zb0 H_0), (.h 9001, .e (.apt 9000 d_1))] hnil ?_); refine q_k (tr_seq ?_); obtain ⟨hn1, hn2, hn3, h⟩ := it3 h; refine tr_rg hT [(1, .ar 9000 []), (2, .ar 9000 []), (3, .ar 9000 [0]), (5, .ar 9000 [1])] [sO 0 (.slc 9001), sO 6 (.slc 1), (.h 1, .e (.apt 9000 (Zb1 H_0 d_1 n_2))), (Zb0 H_0), (.h 9001, .e (.apt 9000 d_1))] (hcons hn1 (hcons hn1 (hcons hn2 (hone hn3)))) ?_; refine q_k (tr_seq (tr_block (tr_seq ?_))); obtain ⟨hn4, hn5, h⟩ := it2 h; refine tr_rg hT [(1, .ar 9000 []), (2, .ar 9000 []), (3, .ar 9000 [])] [sO 6 (.slc 1), sB 13 (MV.tr (AH.rd H_0 d_1 2)), (.h 1, .e (.apt 9000 (Zb1 H_0 d_1 n_2))), (Zb0 H_0)] (hcons hn1 (hcons hn1 (hcons hn4 (hone hn5)))) ?_; refine q_k ?_
 rcases ite_split h with ⟨hc6, h⟩ | ⟨hc6, h⟩
 ·refine tr_cond_t (MV.tr (AH.rd H_0 d_1 2)) (by kernel_rfl) hc6 ?_; refine tr_seq (tr_rg hT [] [sO 4 (.nilp), sI 5 .i64 (8 : Int), (Zb0 H_0)] hnil ?_); refine q_k (tr_ret (q_b_ret (q_k_ret ?_))); have h := Option.some.inj h; subst h; refine q_ft [(8900, .nilp)] [sO 4 (.slc 8900), sI 5 .i64 (8 : Int), (.h 8900, .e (.apt 9000 MV.nilp)), (Zb0 H_0)] ⟨.aptnil, .arena' (bs := []), trivial⟩ ?_; exact q_ret1 hT (.tup [.one (.slc 8900), .one (.int .i64 (8 : Int))]) [(8900, .apt 9000 MV.nilp)] (by kernel_rfl) (by kernel_rfl) (by kernel_rfl)
 refine tr_cond_f (MV.tr (AH.rd H_0 d_1 2)) (by kernel_rfl) hc6 ?_; refine tr_seq ?_; obtain ⟨hn7, h⟩ := ite_some h; refine tr_rg hT [(1, .ar 9000 [])] [sO 6 (.slc 1), sB 18 (MV.isN (Zb1 H_0 d_1 n_2)), (.h 1, .e (.apt 9000 (Zb1 H_0 d_1 n_2))), (Zb0 H_0)] (hone hn7) ?_; refine q_k ?_
 rcases ite_split h with ⟨hc8, h⟩ | ⟨hc8, h⟩
 ·refine tr_cond_t (MV.isN (Zb1 H_0 d_1 n_2)) (by kernel_rfl) hc8 ?_; refine tr_seq (tr_rg hT [] [sO 4 (.nilp), sI 5 .i64 (10 : Int), (Zb0 H_0)] hnil ?_); refine q_k (tr_ret (q_b_ret (q_k_ret ?_))); have h := Option.some.inj h; subst h; refine q_ft [(8900, .nilp)] [sO 4 (.slc 8900), sI 5 .i64 (10 : Int), (.h 8900, .e (.apt 9000 MV.nilp)), (Zb0 H_0)] ⟨.aptnil, .arena' (bs := []), trivial⟩ ?_; exact q_ret1 hT (.tup [.one (.slc 8900), .one (.int .i64 (10 : Int))]) [(8900, .apt 9000 MV.nilp)] (by kernel_rfl) (by kernel_rfl) (by kernel_rfl)
 refine tr_cond_f (MV.isN (Zb1 H_0 d_1 n_2)) (by kernel_rfl) hc8 ?_; refine tr_skip (q_b 0 ?_); refine q_k (tr_seq (tr_rg hT [] [sO 4 (.slc 1), sI 5 .i64 (0 : Int), (.h 1, .e (.apt 9000 (Zb1 H_0 d_1 n_2))), (Zb0 H_0)] hnil ?_)); refine q_k (tr_ret ?_); have h := Option.some.inj h; subst h; refine q_ft [(8900, .slc 1)] [sO 4 (.slc 8900), sI 5 .i64 (0 : Int), (.h 8900, .e (.apt 9000 (Zb1 H_0 d_1 n_2))), (Zb0 H_0)] ⟨.apts' (κb := 9000), .arena' (bs := []), trivial⟩ ?_; exact q_ret1 hT (.tup [.one (.slc 8900), .one (.int .i64 (0 : Int))]) [(8900, .apt 9000 (Zb1 H_0 d_1 n_2))] (by kernel_rfl) (by kernel_rfl) (by kernel_rfl)

theorem slices_Clone_byte_byte_n_ok (r : List Int) (h : slices_Clone_byte_byte_n = some r) : CallOk P 40 [.v (.one (.nils))] [] (.v (.one (.slc 8900))) [(8900, .own 5 .u8 r)] := by
 refine call1 (N := 8) Tryd.func40 (by kernel_rfl) rfl rfl rfl [] (by kernel_rfl) ?_
 intro _ B w0
 show Tr P B 8 w0 _ _ (RetQ P Tryd.f40 (R1 _ _ B w0))
 unfold slices_Clone_byte_byte_n at h
 refine tr_seq ?_
 refine tr_rg hT [] [sO 0 (.nils)] hnil ?_
 refine q_k ?_
 refine tr_seq ?_
 refine tr_seq ?_
 refine tr_rg hT [] [sO 0 (.nils), sB 4 true] hnil ?_
 refine q_k ?_
 refine tr_cond_t true (by kernel_rfl) rfl ?_
 refine tr_seq ?_
 refine tr_rg hT [] [sO 2 (.nils)] hnil ?_
 refine q_k ?_
 refine tr_ret ?_
 refine q_k_ret ?_
 have h := Option.some.inj h
 subst h
 refine q_ft [(8900, .nils)] [sO 2 (.slc 8900), hO 8900 5 .u8 []] ⟨.nilown, trivial⟩ ?_
 exact q_ret1 hT (.v (.one (.slc 8900))) [(8900, .own 5 .u8 [])] (by kernel_rfl) (by kernel_rfl) (by kernel_rfl)

theorem slices_Clone_byte_byte_x_ok (s_0 : List Int) (r : List Int) (h : slices_Clone_byte_byte_x s_0 = some r) : CallOk P 40 [.v (.one (.slc 9000))] [(9000, .rdx .u8 s_0)] (.v (.one (.slc 8900))) [(8900, .own 5 .u8 r)] := by
 refine call1 (N := 8) Tryd.func40 (by kernel_rfl) rfl rfl rfl [(9000, .rdx .u8 s_0)] (by kernel_rfl) ?_
 intro _ B w0
 show Tr P B 8 w0 _ _ (RetQ P Tryd.f40 (R1 _ _ B w0))
 unfold slices_Clone_byte_byte_x at h
 refine tr_seq ?_
 refine tr_rg hT [] [sO 0 (.slc 9000), hX 9000 .u8 s_0] hnil ?_
 refine q_k ?_
 refine tr_seq ?_
 refine tr_seq ?_
 refine tr_rg hT [] [sO 0 (.slc 9000), sB 4 false, hX 9000 .u8 s_0] hnil ?_
 refine q_k ?_
 refine tr_cond_f false (by kernel_rfl) rfl ?_
 refine tr_skip ?_
 refine q_k ?_
 refine tr_seq ?_
 obtain ⟨hn1, h⟩ := ite_some h
 refine tr_rg hT [(0, .key 0), (2, .key 1)] [sO 2 (.slc 1), hO 1 5 .u8 ([] ++ s_0)] (hone hn1) ?_
 refine q_k ?_
 refine tr_ret ?_
 have h := Option.some.inj h
 subst h
 refine q_ft [(8900, .slc 1)] [sO 2 (.slc 8900), hO 8900 5 .u8 ([] ++ s_0)] ⟨.own', trivial⟩ ?_
 exact q_ret1 hT (.v (.one (.slc 8900))) [(8900, .own 5 .u8 ([] ++ s_0))] (by kernel_rfl) (by kernel_rfl) (by kernel_rfl)

theorem slices_Clone_byte_byte_ok (s r : List Int) (h : slices_Clone_byte_byte s = some r) : CallOk P 40 [.v (.one (.slc 9000))] [(9000, .rd .u8 s)] (.v (.one (.slc 8900))) [(8900, .own 5 .u8 r)] :=
 nil_or (fun e => by subst e; exact slices_Clone_byte_byte_n_ok r (by rw [← h]; kernel_rfl)) (slices_Clone_byte_byte_x_ok s r h) (by rfl)

abbrev Zc0 (H_0 : AH) : Gw.Loc × Cont := (.h 9000, .e (.arena false [] H_0))
theorem disk_Disk_Read_ok (H_0 : AH) (d_1 : MV) (n_2 : Int) (r : List Int × Int) (h : disk_Disk_Read H_0 d_1 n_2 = some r) : CallOk P 13 [.v (.one (.slc 9001)), .v (.one (.int .i64 n_2))] [(9000, .arena false [] H_0), (9001, .apt 9000 d_1)] (.tup [.one (.slc 8900), .one (.int .i64 r.2)]) [(8900, .own 5 .u8 r.1)] := by
 refine call1 (N := 22) Tryd.func13 (by kernel_rfl) rfl rfl rfl [(9000, .arena false [] H_0), (9001, .apt 9000 d_1)] (by kernel_rfl) ?_; intro _ B w0; show Tr P B 22 w0 _ _ (RetQ P Tryd.f13 (R1 _ _ B w0)); unfold disk_Disk_Read at h; refine tr_seq (tr_rg hT [] [sO 0 (.slc 9001), sI 1 .i64 n_2, (Zc0 H_0), (.h 9001, .e (.apt 9000 d_1))] hnil ?_); refine q_k (tr_seq ?_); obtain ⟨⟨p1, r2⟩, e3, h⟩ := bind_some h; refine tr_rg hT [(2, .callA [(9000, .ro), (9001, .apt 9000)] (.tup [.one (.slc 0), .one (.int .i64 r2)]) [(0, .apt 9000 p1)])] [sO 6 (.slc 0), sI 7 .i64 r2, (.h 0, .e (.apt 9000 p1)), (Zc0 H_0)] (hone ((disk_Disk_find_ok H_0 d_1 n_2 (p1, r2) e3).tr1 [(9001, .slc 9001), (9000, .slc 9000), (8900, .slc 0)] [(9000, .arena false [] H_0), (9001, .apt 9000 d_1)] ⟨.arena' (bs := []), .apts' (κb := 9000), trivial⟩)) ?_; refine q_k (tr_seq (tr_seq (tr_rg hT [] [sO 6 (.slc 0), sI 7 .i64 r2, sB 15 (r2 != (0 : Int)), (.h 0, .e (.apt 9000 p1)), (Zc0 H_0)] hnil ?_))); refine q_k ?_
 rcases ite_split h with ⟨hc4, h⟩ | ⟨hc4, h⟩
 ·refine tr_cond_t (r2 != (0 : Int)) (by kernel_rfl) hc4 ?_; refine tr_seq (tr_rg hT [] [sO 4 (.nils), sI 5 .i64 r2, (Zc0 H_0)] hnil ?_); refine q_k (tr_ret (q_k_ret ?_)); have h := Option.some.inj h; subst h; refine q_ft [(8900, .nils)] [sO 4 (.slc 8900), sI 5 .i64 r2, hO 8900 5 .u8 [], (Zc0 H_0)] ⟨.nilown, .arena' (bs := []), trivial⟩ ?_; exact q_ret1 hT (.tup [.one (.slc 8900), .one (.int .i64 r2)]) [(8900, .own 5 .u8 [])] (by kernel_rfl) (by kernel_rfl) (by kernel_rfl)
 refine tr_cond_f (r2 != (0 : Int)) (by kernel_rfl) hc4 ?_; refine tr_skip (q_k (tr_seq ?_)); obtain ⟨hn5, hn6, hn9, h⟩ := it3 h; obtain ⟨a7, e8, h⟩ := bind_some h; refine tr_rg hT [(1, .ar 9000 []), (2, .ar 9000 []), (3, .ar 9000 [1]), (4, .callA [(1, .rd .u8 9000)] (.v (.one (.slc 2))) [(2, .own 5 .u8 a7)])] [sO 4 (.slc 2), sI 5 .i64 (0 : Int), hO 2 5 .u8 a7, (Zc0 H_0)] (hcons hn5 (hcons hn5 (hcons hn6 (hcons hn9 (hone ((slices_Clone_byte_byte_ok (AH.ints H_0 (AH.rd H_0 p1 0)) a7 e8).tr1 [(9000, .slc 1), (8900, .slc 2)] [(1, .rd .u8 (AH.ints H_0 (AH.rd H_0 p1 0)))] ⟨.rd', trivial⟩)))))) ?_; refine q_k (tr_ret ?_); have h := Option.some.inj h; subst h; refine q_ft [(8900, .slc 2)] [sO 4 (.slc 8900), sI 5 .i64 (0 : Int), hO 8900 5 .u8 a7, (Zc0 H_0)] ⟨.own', .arena' (bs := []), trivial⟩ ?_; exact q_ret1 hT (.tup [.one (.slc 8900), .one (.int .i64 (0 : Int))]) [(8900, .own 5 .u8 a7)] (by kernel_rfl) (by kernel_rfl) (by kernel_rfl)

theorem frame_known_ok (kind_0 : Int) (r : Bool) (h : frame_known kind_0 = some r) {pre : List (Nat × Ent)} : CallOk P 50 [.v (.one (.int .i64 kind_0))] pre (.v (.one (.bool r))) [] := by
 refine call0 (N := 9) Tryd.func50 (by kernel_rfl) rfl rfl rfl pre ?_
 intro _ w
 show Tr P (Ge w) 9 _ _ _ (RetQ P Tryd.f50 (R0 _ w))
 unfold frame_known at h
 refine tr_seq ?_
 refine tr_rg hT [] [sI 0 .i64 kind_0] hnil ?_
 refine q_k ?_
 refine tr_seq ?_
 rcases ite_split h with ⟨hb1, h⟩ | ⟨hb2, h⟩
 ·refine tr_rg hT [(2, .dec true)] [sB 2 true] (hone hb1) ?_
  refine q_k ?_
  refine tr_ret ?_
  have h := Option.some.inj h
  subst h
  exact q_ret0 hT (.v (.one (.bool true))) rfl (by kernel_rfl)
 ·refine tr_rg hT [(2, .dec false)] [sB 2 (kind_0 == (2 : Int))] (hone hb2) ?_
  refine q_k ?_
  refine tr_ret ?_
  have h := Option.some.inj h
  subst h
  exact q_ret0 hT (.v (.one (.bool (kind_0 == (2 : Int))))) rfl (by kernel_rfl)

abbrev Zd0 (n_0 : Int) := (IntKind.i64.wrap (n_0 - (0 : Int)))
theorem slices_Grow_byte_byte_ok (n_0 : Int) (r : List Int) (h : slices_Grow_byte_byte n_0 = some r) : CallOk P 56 [.v (.one (.nils)), .v (.one (.int .i64 n_0))] [] (.v (.one (.slc 8900))) [(8900, .own 5 .u8 r)] := by
 refine call1 (N := 27) Tryd.func56 (by kernel_rfl) rfl rfl rfl [] (by kernel_rfl) ?_; intro _ B w0; show Tr P B 27 w0 _ _ (RetQ P Tryd.f56 (R1 _ _ B w0)); unfold slices_Grow_byte_byte at h; refine tr_seq (tr_rg hT [] [sO 0 (.nils), sI 1 .i64 n_0] hnil ?_); refine q_k (tr_seq (tr_seq (tr_rg hT [] [sO 0 (.nils), sI 1 .i64 n_0, sB 6 (decide (n_0 < (0 : Int)))] hnil ?_))); refine q_k ?_; obtain ⟨rj0, e7, h⟩ := bind_some h; refine tr_join (σ1 := [sO 0 (.nils), sI 1 .i64 n_0]) ?_ ?_
 ·rcases rj0 with _
  try dsimp only at h
  refine q_k (tr_seq (tr_seq (tr_rg hT [] [sO 0 (.nils), sI 1 .i64 (Zd0 n_0)] hnil ?_))); refine q_k (tr_seq (tr_rg hT [] [sO 0 (.nils), sI 1 .i64 (Zd0 n_0), sB 16 (decide ((Zd0 n_0) > (0 : Int)))] hnil ?_)); refine q_k ?_; obtain ⟨s2, e6, h⟩ := bind_some h; refine tr_join (σ1 := [sO 0 (.slc 80), hO 80 5 .u8 s2]) ?_ ?_
  ·skip
   try dsimp only at h
   refine q_k (tr_seq (tr_rg hT [] [sO 4 (.slc 80), hO 80 5 .u8 s2] hnil ?_)); refine q_k (tr_ret ?_); have h := Option.some.inj h; subst h; refine q_ft [(8900, .slc 80)] [sO 4 (.slc 8900), hO 8900 5 .u8 s2] ⟨.own', trivial⟩ ?_; exact q_ret1 hT (.v (.one (.slc 8900))) [(8900, .own 5 .u8 s2)] (by kernel_rfl) (by kernel_rfl) (by kernel_rfl)
  ·intro hj1
   clear h
   have h := e6
   clear e6
   rcases ite_split h with ⟨hc3, h⟩ | ⟨hc3, h⟩
   ·refine tr_cond_t (decide ((Zd0 n_0) > (0 : Int))) (by kernel_rfl) hc3 ?_; obtain ⟨hn4, hn5, h⟩ := it2 h
    refine tr_rg hT [(5, .key 81), (8, .key 82)] [sO 0 (.slc 82), hO 82 5 .u8 ((List.replicate (Zd0 n_0).toNat (0 : Int)).take (0))] (hcons (show (0 : Int) = 0 ∧ (0 : Int) = 0 from by decide) (hcons hn4 (hone hn5))) ?_
    have h := Option.some.inj h; subst h
    exact q_ft [(80, .slc 82)] [sO 0 (.slc 80), hO 80 5 .u8 ((List.replicate (Zd0 n_0).toNat (0 : Int)).take (0))] ⟨.own', trivial⟩ hj1
   refine tr_cond_f (decide ((Zd0 n_0) > (0 : Int))) (by kernel_rfl) hc3 ?_; refine tr_skip ?_; have h := Option.some.inj h; subst h; exact q_ft [(80, .nils)] [sO 0 (.slc 80), hO 80 5 .u8 []] ⟨.nilown, trivial⟩ hj1
 ·intro hj0
  clear h
  have h := e7
  clear e7
  rcases ite_split h with ⟨hc1, h⟩ | ⟨hc1, h⟩
  ·refine tr_cond_t (decide (n_0 < (0 : Int))) (by kernel_rfl) hc1 ?_
   cases h
  refine tr_cond_f (decide (n_0 < (0 : Int))) (by kernel_rfl) hc1 ?_; refine tr_skip ?_; have h := Option.some.inj h; subst h; exact q_ls [sO 0 (.nils), sI 1 .i64 n_0] hj0

abbrev Ze0 (slices_0 : List (List Int)) := (↑(List.length slices_0) : Int)
abbrev Ze1 (size1 : Int) (slices_0 : List (List Int)) (x2 : Int) := (IntKind.i64.wrap (size1 + (↑(List.length (slices_0.getD x2.toNat [])) : Int)))
abbrev Ze2 (slices_0 : List (List Int)) (ya yb : Gw.Loc × Cont) : List (Gw.Loc × Cont) := [sO 0 (.slc 9000), ya, sO 9 (.slc 9000), sI 10 .i64 (Ze0 slices_0), yb, hW 9000 (.bs .u8 slices_0)]
theorem slices_Concat_byte_byte_ok (slices_0 : List (List Int)) (r : List Int) (h : slices_Concat_byte_byte slices_0 = some r) : CallOk P 44 [.v (.one (.slc 9000))] [(9000, .rows (.bs .u8 slices_0))] (.v (.one (.slc 8900))) [(8900, .own 5 .u8 r)] := by
 refine call1 (N := 36) Tryd.func44 (by kernel_rfl) rfl rfl rfl [(9000, .rows (.bs .u8 slices_0))] (by kernel_rfl) ?_; intro _ B w0; show Tr P B 36 w0 _ _ (RetQ P Tryd.f44 (R1 _ _ B w0)); unfold slices_Concat_byte_byte at h; refine tr_seq (tr_rg hT [] [sO 0 (.slc 9000), hW 9000 (.bs .u8 slices_0)] hnil ?_); refine q_k (tr_seq (tr_rg hT [] [sO 0 (.slc 9000), sI 3 .i64 (0 : Int), hW 9000 (.bs .u8 slices_0)] hnil ?_)); refine q_k (tr_seq (tr_seq (tr_rg hT [] (Ze2 slices_0 (sI 3 .i64 (0 : Int)) (sI 11 .i64 (0 : Int))) hnil ?_))); refine q_k (tr_block ?_); obtain ⟨size3, e8, h⟩ := bind_some h; refine tr_ft [] (Ze2 slices_0 (sI 3 .i64 (0 : Int)) (sI 11 .i64 (0 : Int))) ⟨.rows', trivial⟩ ?_
 refine tr_loop_fuel (id := 0) (α := Int × Int) (β := Int) (fun z => (Ze2 slices_0 (sI 3 .i64 z.1) (sI 11 .i64 z.2))) (fun z => [sO 0 (.slc 9000), sI 3 .i64 z, hW 9000 (.bs .u8 slices_0)]) (fun k z => slices_Concat_byte_byte_l0 slices_0 k z.1 z.2) size3 (fun _ => rfl) (((Ze0 slices_0) - (0 : Int)).toNat + 1) ((0 : Int), (0 : Int)) e8 ?_ ?_
 ·skip
  try dsimp only at h
  refine q_b_this (q_k (tr_seq ?_)); obtain ⟨a9, e10, h⟩ := bind_some h; refine tr_rg hT [(1, .call [] (.v (.one (.slc 41))) [(41, .own 5 .u8 a9)])] [sO 0 (.slc 9000), sO 6 (.slc 41), hO 41 5 .u8 a9, hW 9000 (.bs .u8 slices_0)] (hone ((slices_Grow_byte_byte_ok size3 a9 e10).tr1 [(8900, .slc 41)] [] trivial)) ?_; refine q_k (tr_seq (tr_seq (tr_rg hT [] [sO 6 (.slc 41), sO 25 (.slc 9000), sI 26 .i64 (Ze0 slices_0), sI 27 .i64 (0 : Int), hO 41 5 .u8 a9, hW 9000 (.bs .u8 slices_0)] hnil ?_))); refine q_k (tr_block ?_); obtain ⟨newslice13, e17, h⟩ := bind_some h; refine tr_ft [(42, .slc 41)] [sO 6 (.slc 42), sO 25 (.slc 9000), sI 26 .i64 (Ze0 slices_0), sI 27 .i64 (0 : Int), hO 42 5 .u8 a9, hW 9000 (.bs .u8 slices_0)] ⟨.own', .rows', trivial⟩ ?_
  refine tr_loop_fuel (id := 2) (α := List Int × Int) (β := List Int) (fun z => [sO 6 (.slc 42), sO 25 (.slc 9000), sI 26 .i64 (Ze0 slices_0), sI 27 .i64 z.2, hO 42 5 .u8 z.1, hW 9000 (.bs .u8 slices_0)]) (fun z => [sO 6 (.slc 43), hO 43 5 .u8 z]) (fun k z => slices_Concat_byte_byte_l2 slices_0 k z.1 z.2) newslice13 (fun _ => rfl) (((Ze0 slices_0) - (0 : Int)).toNat + 1) (a9, (0 : Int)) e17 ?_ ?_
  ·skip
   try dsimp only at h
   refine q_b_this (q_k (tr_seq (tr_rg hT [] [sO 2 (.slc 43), hO 43 5 .u8 newslice13] hnil ?_))); refine q_k (tr_ret ?_); have h := Option.some.inj h; subst h; refine q_ft [(8900, .slc 43)] [sO 2 (.slc 8900), hO 8900 5 .u8 newslice13] ⟨.own', trivial⟩ ?_; exact q_ret1 hT (.v (.one (.slc 8900))) [(8900, .own 5 .u8 newslice13)] (by kernel_rfl) (by kernel_rfl) (by kernel_rfl)
  ·clear h e17
   intro k ih2 hx2 z h; obtain ⟨newslice11, x12⟩ := z
   dsimp only [slices_Concat_byte_byte_l2] at h
   refine tr_seq (tr_rg hT [] [sO 6 (.slc 42), sO 25 (.slc 9000), sI 26 .i64 (Ze0 slices_0), sI 27 .i64 x12, sB 28 (decide (x12 < (Ze0 slices_0))), hO 42 5 .u8 newslice11, hW 9000 (.bs .u8 slices_0)] hnil ?_); refine q_k (tr_seq ?_)
   rcases ite_split h with ⟨hc14, h⟩ | ⟨hc14, h⟩
   ·refine tr_cond_t (decide (x12 < (Ze0 slices_0))) (by kernel_rfl) hc14 ?_; refine tr_skip (q_k (tr_seq (tr_block (tr_seq ?_)))); obtain ⟨hn15, h⟩ := ite_some h; refine tr_rg hT [(1, .key 44)] [sO 6 (.slc 42), sO 8 (.slc 44), sO 25 (.slc 9000), sI 26 .i64 (Ze0 slices_0), sI 27 .i64 x12, hO 42 5 .u8 newslice11, hR 44 .u8 (slices_0.getD x12.toNat []), hW 9000 (.bs .u8 slices_0)] (hcons hn15 (hone hn15.2)) ?_; refine q_k ?_; obtain ⟨hn16, h⟩ := ite_some h; refine tr_rg hT [(2, .key 45)] [sO 6 (.slc 45), sO 25 (.slc 9000), sI 26 .i64 (Ze0 slices_0), sI 27 .i64 x12, hO 45 5 .u8 (newslice11 ++ (slices_0.getD x12.toNat [])), hW 9000 (.bs .u8 slices_0)] (hone hn16) ?_; refine q_b 3 ?_; refine q_k (tr_rg hT [] [sO 6 (.slc 45), sO 25 (.slc 9000), sI 26 .i64 (Ze0 slices_0), sI 27 .i64 (IntKind.i64.wrap (x12 + (1 : Int))), hO 45 5 .u8 (newslice11 ++ (slices_0.getD x12.toNat [])), hW 9000 (.bs .u8 slices_0)] hnil ?_); refine q_kr ?_; exact trR_ft [(42, .slc 45)] [sO 6 (.slc 42), sO 25 (.slc 9000), sI 26 .i64 (Ze0 slices_0), sI 27 .i64 (IntKind.i64.wrap (x12 + (1 : Int))), hO 42 5 .u8 (newslice11 ++ (slices_0.getD x12.toNat [])), hW 9000 (.bs .u8 slices_0)] ⟨.own', .rows', trivial⟩ (ih2 ((newslice11 ++ (slices_0.getD x12.toNat [])), (IntKind.i64.wrap (x12 + (1 : Int)))) h)
   refine tr_cond_f (decide (x12 < (Ze0 slices_0))) (by kernel_rfl) hc14 ?_; refine tr_exit (q_k_exit (q_kr_exit ?_)); have h := Option.some.inj h; subst h; exact q_ft [(43, .slc 42)] [sO 6 (.slc 43), hO 43 5 .u8 newslice11] ⟨.own', trivial⟩ hx2
 ·clear h e8
  intro k ih0 hx0 z h; obtain ⟨size1, x2⟩ := z
  dsimp only [slices_Concat_byte_byte_l0] at h
  refine tr_seq (tr_rg hT [] [sO 0 (.slc 9000), sI 3 .i64 size1, sO 9 (.slc 9000), sI 10 .i64 (Ze0 slices_0), sI 11 .i64 x2, sB 12 (decide (x2 < (Ze0 slices_0))), hW 9000 (.bs .u8 slices_0)] hnil ?_); refine q_k (tr_seq ?_)
  rcases ite_split h with ⟨hc4, h⟩ | ⟨hc4, h⟩
  ·refine tr_cond_t (decide (x2 < (Ze0 slices_0))) (by kernel_rfl) hc4 ?_; refine tr_skip (q_k (tr_seq ?_)); obtain ⟨rj1, e7, h⟩ := bind_some h; refine tr_join (σ1 := (Ze2 slices_0 (sI 3 .i64 (Ze1 size1 slices_0 x2)) (sI 11 .i64 x2))) ?_ ?_
   ·rcases rj1 with _
    try dsimp only at h
    refine q_k (tr_rg hT [] (Ze2 slices_0 (sI 3 .i64 (Ze1 size1 slices_0 x2)) (sI 11 .i64 (IntKind.i64.wrap (x2 + (1 : Int))))) hnil ?_); refine q_kr ?_; exact trR_ls (Ze2 slices_0 (sI 3 .i64 (Ze1 size1 slices_0 x2)) (sI 11 .i64 (IntKind.i64.wrap (x2 + (1 : Int))))) (ih0 ((Ze1 size1 slices_0 x2), (IntKind.i64.wrap (x2 + (1 : Int)))) h)
   ·intro hj1
    clear h
    have h := e7
    clear e7
    refine tr_block (tr_seq ?_); obtain ⟨hn5, h⟩ := ite_some h; refine tr_rg hT [(1, .key 40)] [sO 0 (.slc 9000), sI 3 .i64 size1, sO 5 (.slc 40), sO 9 (.slc 9000), sI 10 .i64 (Ze0 slices_0), sI 11 .i64 x2, hR 40 .u8 (slices_0.getD x2.toNat []), hW 9000 (.bs .u8 slices_0)] (hcons hn5 (hone hn5.2)) ?_; refine q_k (tr_seq (tr_rg hT [] (Ze2 slices_0 (sI 3 .i64 (Ze1 size1 slices_0 x2)) (sI 11 .i64 x2)) hnil ?_)); refine q_k (tr_seq (tr_rg hT [] [sO 0 (.slc 9000), sI 3 .i64 (Ze1 size1 slices_0 x2), sO 9 (.slc 9000), sI 10 .i64 (Ze0 slices_0), sI 11 .i64 x2, sB 20 (decide ((Ze1 size1 slices_0 x2) < (0 : Int))), hW 9000 (.bs .u8 slices_0)] hnil ?_)); refine q_k ?_
    rcases ite_split h with ⟨hc6, h⟩ | ⟨hc6, h⟩
    ·refine tr_cond_t (decide ((Ze1 size1 slices_0 x2) < (0 : Int))) (by kernel_rfl) hc6 ?_
     cases h
    refine tr_cond_f (decide ((Ze1 size1 slices_0 x2) < (0 : Int))) (by kernel_rfl) hc6 ?_; refine tr_skip (q_b 1 ?_); have h := Option.some.inj h; subst h; exact q_ls (Ze2 slices_0 (sI 3 .i64 (Ze1 size1 slices_0 x2)) (sI 11 .i64 x2)) hj1
  refine tr_cond_f (decide (x2 < (Ze0 slices_0))) (by kernel_rfl) hc4 ?_; refine tr_exit (q_k_exit (q_kr_exit ?_)); have h := Option.some.inj h; subst h; exact q_ls [sO 0 (.slc 9000), sI 3 .i64 size1, hW 9000 (.bs .u8 slices_0)] hx0

abbrev Zf0 (x2 : Int) (m1 : List Int) (ya yb : Gw.Loc × Cont) : List (Gw.Loc × Cont) := [sO 0 (.ptr 0 0), sO 1 (.ptr 1 0), sI 2 .i64 x2, ya, sI 5 .i64 x2, yb, hB 0 139 [.arr .u32 16 (List.replicate 16 0)], hB 1 139 [.arr .u32 16 m1]]
abbrev Zf1 (ya yb : Gw.Loc × Cont) : List (Gw.Loc × Cont) := [sO 0 (.ptr 0 0), sO 1 (.ptr 1 0), ya, hB 0 139 [.arr .u32 16 (List.replicate 16 0)], yb]
abbrev Zf2 (x2 : Int) (m1 : List Int) (ya : Gw.Loc × Cont) : List (Gw.Loc × Cont) := [sO 0 (.ptr 0 0), sO 1 (.ptr 1 0), sI 2 .i64 x2, ya, sI 5 .i64 x2, hB 0 139 [.arr .u32 16 (List.replicate 16 0)], hB 1 139 [.arr .u32 16 m1]]
theorem crc_steps_ok (r : List Int) (h : crc_steps = some r) {pre : List (Nat × Ent)} : CallOk P 73 [] pre (.v (.agg [.arr .u32 16 r])) [] := by
 refine call0 (N := 26) Tryd.func73 (by kernel_rfl) rfl rfl rfl pre ?_; intro _ w; show Tr P (Ge w) 26 _ _ _ (RetQ P Tryd.f73 (R0 _ w)); unfold crc_steps at h; refine tr_seq (tr_rg hT [(0, .key 0)] [sO 0 (.ptr 0 0), hB 0 139 [.arr .u32 16 (List.replicate 16 0)]] hnil ?_); refine q_k (tr_seq (tr_rg hT [(0, .key 1)] [sO 0 (.ptr 0 0), sO 1 (.ptr 1 0), hB 0 139 [.arr .u32 16 (List.replicate 16 0)], hB 1 139 [.arr .u32 16 (List.replicate 16 0)]] hnil ?_)); refine q_k (tr_seq (tr_seq (tr_rg hT [] (Zf1 (sI 5 .i64 (0 : Int)) (hB 1 139 [.arr .u32 16 (List.replicate 16 0)])) hnil ?_))); refine q_k (tr_block ?_); obtain ⟨m3, e14, h⟩ := bind_some h; refine tr_ft [] (Zf1 (sI 5 .i64 (0 : Int)) (hB 1 139 [.arr .u32 16 (List.replicate 16 0)])) ⟨.blk', .blk', trivial⟩ ?_
 refine tr_loop_fuel (id := 0) (α := List Int × Int) (β := List Int) (fun z => (Zf1 (sI 5 .i64 z.2) (hB 1 139 [.arr .u32 16 z.1]))) (fun z => [sO 0 (.ptr 0 0), sO 1 (.ptr 1 0), hB 0 139 [.arr .u32 16 (List.replicate 16 0)], hB 1 139 [.arr .u32 16 z]]) (fun k z => crc_steps_l0 k z.1 z.2) m3 (fun _ => rfl) (((16 : Int) - (0 : Int)).toNat + 1) ((List.replicate 16 0), (0 : Int)) e14 ?_ ?_
 ·skip
  try dsimp only at h
  refine q_b_this (q_k (tr_seq (tr_rg hT [] [sO 0 (.ptr 0 0), hB 0 139 [.arr .u32 16 m3]] hnil ?_))); refine q_k (tr_ret ?_); have h := Option.some.inj h; subst h; exact q_ret0 hT (.v (.agg [.arr .u32 16 m3])) rfl (by kernel_rfl)
 ·clear h e14
  intro k ih0 hx0 z h; obtain ⟨m1, x2⟩ := z
  dsimp only [crc_steps_l0] at h
  refine tr_seq (tr_rg hT [] [sO 0 (.ptr 0 0), sO 1 (.ptr 1 0), sI 5 .i64 x2, sB 6 (decide (x2 < (16 : Int))), hB 0 139 [.arr .u32 16 (List.replicate 16 0)], hB 1 139 [.arr .u32 16 m1]] hnil ?_); refine q_k (tr_seq ?_)
  rcases ite_split h with ⟨hc4, h⟩ | ⟨hc4, h⟩
  ·refine tr_cond_t (decide (x2 < (16 : Int))) (by kernel_rfl) hc4 ?_; refine tr_skip (q_k (tr_seq (tr_block (tr_seq (tr_rg hT [] [sO 0 (.ptr 0 0), sO 1 (.ptr 1 0), sI 2 .i64 x2, sI 5 .i64 x2, hB 0 139 [.arr .u32 16 (List.replicate 16 0)], hB 1 139 [.arr .u32 16 m1]] hnil ?_))))); refine q_k (tr_seq (tr_rg hT [] (Zf2 x2 m1 (sI 3 .u32 (IntKind.u32.wrap x2))) hnil ?_)); refine q_k (tr_seq (tr_seq (tr_rg hT [] (Zf0 x2 m1 (sI 3 .u32 (IntKind.u32.wrap x2)) (sI 10 .i64 (0 : Int))) hnil ?_))); refine q_k (tr_block ?_); obtain ⟨r7, e12, h⟩ := bind_some h; refine tr_ft [] (Zf0 x2 m1 (sI 3 .u32 (IntKind.u32.wrap x2)) (sI 10 .i64 (0 : Int))) ⟨.blk', .blk', trivial⟩ ?_
   refine tr_loop_fuel (id := 2) (α := Int × Int) (β := Int) (fun z => (Zf0 x2 m1 (sI 3 .u32 z.1) (sI 10 .i64 z.2))) (fun z => (Zf2 x2 m1 (sI 3 .u32 z))) (fun k z => crc_steps_l1 m1 x2 k z.1 z.2) r7 (fun _ => rfl) (((4 : Int) - (0 : Int)).toNat + 1) ((IntKind.u32.wrap x2), (0 : Int)) e12 ?_ ?_
   ·skip
    try dsimp only at h
    refine q_b_this (q_k ?_); obtain ⟨hn13, h⟩ := ite_some h; refine tr_rg hT [] (Zf1 (sI 5 .i64 x2) (hB 1 139 [.arr .u32 16 (m1.set x2.toNat r7)])) (hone hn13) ?_; refine q_b 1 ?_; refine q_k (tr_rg hT [] (Zf1 (sI 5 .i64 (IntKind.i64.wrap (x2 + (1 : Int)))) (hB 1 139 [.arr .u32 16 (m1.set x2.toNat r7)])) hnil ?_); refine q_kr ?_; exact trR_ls (Zf1 (sI 5 .i64 (IntKind.i64.wrap (x2 + (1 : Int)))) (hB 1 139 [.arr .u32 16 (m1.set x2.toNat r7)])) (ih0 ((m1.set x2.toNat r7), (IntKind.i64.wrap (x2 + (1 : Int)))) h)
   ·clear h e12
    intro k ih1 hx1 z h; obtain ⟨r5, x6⟩ := z
    dsimp only [crc_steps_l1] at h
    refine tr_seq (tr_rg hT [] [sO 0 (.ptr 0 0), sO 1 (.ptr 1 0), sI 2 .i64 x2, sI 3 .u32 r5, sI 5 .i64 x2, sI 10 .i64 x6, sB 11 (decide (x6 < (4 : Int))), hB 0 139 [.arr .u32 16 (List.replicate 16 0)], hB 1 139 [.arr .u32 16 m1]] hnil ?_); refine q_k (tr_seq ?_)
    rcases ite_split h with ⟨hc8, h⟩ | ⟨hc8, h⟩
    ·refine tr_cond_t (decide (x6 < (4 : Int))) (by kernel_rfl) hc8 ?_; refine tr_skip (q_k (tr_seq ?_)); obtain ⟨r9, e11, h⟩ := bind_some h; refine tr_join (σ1 := (Zf0 x2 m1 (sI 3 .u32 r9) (sI 10 .i64 x6))) ?_ ?_
     ·skip
      try dsimp only at h
      refine q_k (tr_rg hT [] (Zf0 x2 m1 (sI 3 .u32 r9) (sI 10 .i64 (IntKind.i64.wrap (x6 + (1 : Int))))) hnil ?_); refine q_kr ?_; exact trR_ls (Zf0 x2 m1 (sI 3 .u32 r9) (sI 10 .i64 (IntKind.i64.wrap (x6 + (1 : Int))))) (ih1 (r9, (IntKind.i64.wrap (x6 + (1 : Int)))) h)
     ·intro hj2
      clear h
      have h := e11
      clear e11
      refine tr_block (tr_seq (tr_rg hT [] [sO 0 (.ptr 0 0), sO 1 (.ptr 1 0), sI 2 .i64 x2, sI 3 .u32 r5, sI 4 .u32 (band .u32 r5 (1 : Int)), sI 5 .i64 x2, sI 10 .i64 x6, hB 0 139 [.arr .u32 16 (List.replicate 16 0)], hB 1 139 [.arr .u32 16 m1]] hnil ?_)); refine q_k (tr_seq ?_)
      refine tr_rg hT [] [sO 0 (.ptr 0 0), sO 1 (.ptr 1 0), sI 2 .i64 x2, sI 3 .u32 (shr .u32 r5 (1 : Int)), sI 4 .u32 (band .u32 r5 (1 : Int)), sI 5 .i64 x2, sI 10 .i64 x6, hB 0 139 [.arr .u32 16 (List.replicate 16 0)], hB 1 139 [.arr .u32 16 m1]] (hone (show 0 ≤ (1 : Int) from by decide)) ?_
      refine q_k (tr_seq (tr_rg hT [] [sO 0 (.ptr 0 0), sO 1 (.ptr 1 0), sI 2 .i64 x2, sI 3 .u32 (shr .u32 r5 (1 : Int)), sI 5 .i64 x2, sI 10 .i64 x6, sB 17 ((band .u32 r5 (1 : Int)) == (1 : Int)), hB 0 139 [.arr .u32 16 (List.replicate 16 0)], hB 1 139 [.arr .u32 16 m1]] hnil ?_)); refine q_k ?_
      rcases ite_split h with ⟨hc10, h⟩ | ⟨hc10, h⟩
      ·refine tr_cond_t ((band .u32 r5 (1 : Int)) == (1 : Int)) (by kernel_rfl) hc10 ?_; refine tr_rg hT [] (Zf0 x2 m1 (sI 3 .u32 (bxor .u32 (shr .u32 r5 (1 : Int)) (3988292384 : Int))) (sI 10 .i64 x6)) hnil ?_; refine q_b 3 ?_; have h := Option.some.inj h; subst h; exact q_ls (Zf0 x2 m1 (sI 3 .u32 (bxor .u32 (shr .u32 r5 (1 : Int)) (3988292384 : Int))) (sI 10 .i64 x6)) hj2
      refine tr_cond_f ((band .u32 r5 (1 : Int)) == (1 : Int)) (by kernel_rfl) hc10 ?_; refine tr_skip (q_b 3 ?_); have h := Option.some.inj h; subst h; exact q_ls (Zf0 x2 m1 (sI 3 .u32 (shr .u32 r5 (1 : Int))) (sI 10 .i64 x6)) hj2
    refine tr_cond_f (decide (x6 < (4 : Int))) (by kernel_rfl) hc8 ?_; refine tr_exit (q_k_exit (q_kr_exit ?_)); have h := Option.some.inj h; subst h; exact q_ls (Zf2 x2 m1 (sI 3 .u32 r5)) hx1
  refine tr_cond_f (decide (x2 < (16 : Int))) (by kernel_rfl) hc4 ?_; refine tr_exit (q_k_exit (q_kr_exit ?_)); have h := Option.some.inj h; subst h; exact q_ls [sO 0 (.ptr 0 0), sO 1 (.ptr 1 0), hB 0 139 [.arr .u32 16 (List.replicate 16 0)], hB 1 139 [.arr .u32 16 m1]] hx0

abbrev Zg0 (a1 : List Int) (r3 : Int) (b_0 : List Int) (x4 : Int) := (a1.getD (band .u32 (bxor .u32 r3 (IntKind.u32.wrap (b_0.getD x4.toNat 0))) (15 : Int)).toNat 0)
abbrev Zg1 (a1 : List Int) (r3 : Int) (b_0 : List Int) (x4 : Int) := (a1.getD (band .u32 (bxor .u32 (shr .u32 (bxor .u32 r3 (IntKind.u32.wrap (b_0.getD x4.toNat 0))) (4 : Int)) (Zg0 a1 r3 b_0 x4)) (15 : Int)).toNat 0)
abbrev Zg2 (b_0 : List Int) := (↑(List.length b_0) : Int)
abbrev Zg3 (b_0 : List Int) (x4 : Int) := (IntKind.u32.wrap (b_0.getD x4.toNat 0))
abbrev Zg4 (b_0 : List Int) (a1 : List Int) (ya yb : Gw.Loc × Cont) : List (Gw.Loc × Cont) := [sO 3 (.ptr 0 0), ya, sO 8 (.slc 9000), sI 9 .i64 (Zg2 b_0), yb, hB 0 139 [.arr .u32 16 a1], hR 9000 .u8 b_0]
theorem crc_Sum_ok (b_0 : List Int) (r : Int) (h : crc_Sum b_0 = some r) : CallOk P 67 [.v (.one (.slc 9000))] [(9000, .rd .u8 b_0)] (.v (.one (.int .u32 r))) [] := by
 refine call1 (N := 35) Tryd.func67 (by kernel_rfl) rfl rfl rfl [(9000, .rd .u8 b_0)] (by kernel_rfl) ?_; intro _ B w0; show Tr P B 35 w0 _ _ (RetQ P Tryd.f67 (R1 _ _ B w0)); unfold crc_Sum at h; refine tr_seq (tr_rg hT [] [sO 0 (.slc 9000), hR 9000 .u8 b_0] hnil ?_); refine q_k (tr_seq ?_); obtain ⟨a1, e2, h⟩ := bind_some h; refine tr_rg hT [(0, .call [] (.v (.agg [.arr .u32 16 a1])) []), (1, .key 0)] [sO 0 (.slc 9000), sO 3 (.ptr 0 0), sI 4 .u32 (4294967295 : Int), hB 0 139 [.arr .u32 16 a1], hR 9000 .u8 b_0] (hone (crc_steps_ok  a1 e2 (pre := []))) ?_; refine q_k (tr_seq (tr_seq (tr_rg hT [] (Zg4 b_0 a1 (sI 4 .u32 (4294967295 : Int)) (sI 10 .i64 (0 : Int))) hnil ?_))); refine q_k (tr_block ?_); obtain ⟨r5, e10, h⟩ := bind_some h; refine tr_ft [] (Zg4 b_0 a1 (sI 4 .u32 (4294967295 : Int)) (sI 10 .i64 (0 : Int))) ⟨.blk', .rd', trivial⟩ ?_
 refine tr_loop_fuel (id := 0) (α := Int × Int) (β := Int) (fun z => (Zg4 b_0 a1 (sI 4 .u32 z.1) (sI 10 .i64 z.2))) (fun z => [sI 4 .u32 z]) (fun k z => crc_Sum_l0 b_0 a1 k z.1 z.2) r5 (fun _ => rfl) (((Zg2 b_0) - (0 : Int)).toNat + 1) ((4294967295 : Int), (0 : Int)) e10 ?_ ?_
 ·skip
  try dsimp only at h
  refine q_b_this (q_k (tr_seq (tr_rg hT [] [sI 2 .u32 (bxor .u32 r5 (4294967295 : Int))] hnil ?_))); refine q_k (tr_ret ?_); have h := Option.some.inj h; subst h; refine q_ls [sI 2 .u32 (bxor .u32 r5 (4294967295 : Int))] ?_; exact q_ret1 hT (.v (.one (.int .u32 (bxor .u32 r5 (4294967295 : Int))))) [] (by kernel_rfl) (by kernel_rfl) (by kernel_rfl)
 ·clear h e10
  intro k ih0 hx0 z h; obtain ⟨r3, x4⟩ := z
  dsimp only [crc_Sum_l0] at h
  refine tr_seq (tr_rg hT [] [sO 3 (.ptr 0 0), sI 4 .u32 r3, sO 8 (.slc 9000), sI 9 .i64 (Zg2 b_0), sI 10 .i64 x4, sB 11 (decide (x4 < (Zg2 b_0))), hB 0 139 [.arr .u32 16 a1], hR 9000 .u8 b_0] hnil ?_); refine q_k (tr_seq ?_)
  rcases ite_split h with ⟨hc6, h⟩ | ⟨hc6, h⟩
  ·refine tr_cond_t (decide (x4 < (Zg2 b_0))) (by kernel_rfl) hc6 ?_; refine tr_skip (q_k (tr_seq (tr_block (tr_seq ?_)))); obtain ⟨hn7, h⟩ := ite_some h; refine tr_rg hT [] [sO 3 (.ptr 0 0), sI 4 .u32 r3, sI 6 .u8 (b_0.getD x4.toNat 0), sO 8 (.slc 9000), sI 9 .i64 (Zg2 b_0), sI 10 .i64 x4, hB 0 139 [.arr .u32 16 a1], hR 9000 .u8 b_0] (hcons hn7 (hone hn7.2)) ?_; refine q_k (tr_seq (tr_rg hT [] (Zg4 b_0 a1 (sI 4 .u32 (bxor .u32 r3 (Zg3 b_0 x4))) (sI 10 .i64 x4)) hnil ?_)); refine q_k (tr_seq ?_); obtain ⟨hn8, h⟩ := ite_some h
   refine tr_rg hT [] (Zg4 b_0 a1 (sI 4 .u32 (bxor .u32 (shr .u32 (bxor .u32 r3 (Zg3 b_0 x4)) (4 : Int)) (Zg0 a1 r3 b_0 x4))) (sI 10 .i64 x4)) (hcons (show 0 ≤ (4 : Int) from by decide) (hone hn8)) ?_
   refine q_k ?_; obtain ⟨hn9, h⟩ := ite_some h
   refine tr_rg hT [] (Zg4 b_0 a1 (sI 4 .u32 (bxor .u32 (shr .u32 (bxor .u32 (shr .u32 (bxor .u32 r3 (Zg3 b_0 x4)) (4 : Int)) (Zg0 a1 r3 b_0 x4)) (4 : Int)) (Zg1 a1 r3 b_0 x4))) (sI 10 .i64 x4)) (hcons (show 0 ≤ (4 : Int) from by decide) (hone hn9)) ?_
   refine q_b 1 ?_; refine q_k (tr_rg hT [] (Zg4 b_0 a1 (sI 4 .u32 (bxor .u32 (shr .u32 (bxor .u32 (shr .u32 (bxor .u32 r3 (Zg3 b_0 x4)) (4 : Int)) (Zg0 a1 r3 b_0 x4)) (4 : Int)) (Zg1 a1 r3 b_0 x4))) (sI 10 .i64 (IntKind.i64.wrap (x4 + (1 : Int))))) hnil ?_); refine q_kr ?_; exact trR_ls (Zg4 b_0 a1 (sI 4 .u32 (bxor .u32 (shr .u32 (bxor .u32 (shr .u32 (bxor .u32 r3 (Zg3 b_0 x4)) (4 : Int)) (Zg0 a1 r3 b_0 x4)) (4 : Int)) (Zg1 a1 r3 b_0 x4))) (sI 10 .i64 (IntKind.i64.wrap (x4 + (1 : Int))))) (ih0 ((bxor .u32 (shr .u32 (bxor .u32 (shr .u32 (bxor .u32 r3 (Zg3 b_0 x4)) (4 : Int)) (Zg0 a1 r3 b_0 x4)) (4 : Int)) (Zg1 a1 r3 b_0 x4)), (IntKind.i64.wrap (x4 + (1 : Int)))) h)
  refine tr_cond_f (decide (x4 < (Zg2 b_0))) (by kernel_rfl) hc6 ?_; refine tr_exit (q_k_exit (q_kr_exit ?_)); have h := Option.some.inj h; subst h; exact q_ls [sI 4 .u32 r3] hx0

abbrev Zh0 (data_1 : List Int) := (IntKind.u8.wrap (shr .i64 (↑(List.length data_1) : Int) (8 : Int)))
abbrev Zh1 (data_1 : List Int) := (IntKind.u8.wrap (↑(List.length data_1) : Int))
theorem frame_sealed_ok (kind_0 : Int) (data_1 : List Int) (r : List Int) (h : frame_sealed kind_0 data_1 = some r) : CallOk P 51 [.v (.one (.int .i64 kind_0)), .v (.one (.slc 9000))] [(9000, .rd .u8 data_1)] (.v (.one (.slc 8900))) [(8900, .own 5 .u8 r)] := by
 refine call1 (N := 39) Tryd.func51 (by kernel_rfl) rfl rfl rfl [(9000, .rd .u8 data_1)] (by kernel_rfl) ?_; intro _ B w0; show Tr P B 39 w0 _ _ (RetQ P Tryd.f51 (R1 _ _ B w0)); unfold frame_sealed at h; refine tr_seq (tr_rg hT [] [sI 0 .i64 kind_0, sO 1 (.slc 9000), hR 9000 .u8 data_1] hnil ?_); refine q_k (tr_seq (tr_rg hT [] [sI 0 .i64 kind_0, sO 1 (.slc 9000), sI 5 .i64 (↑(List.length data_1) : Int), hR 9000 .u8 data_1] hnil ?_)); refine q_k (tr_seq ?_)
 refine tr_rg hT [(7, .key 0)] [sO 1 (.slc 9000), sO 6 (.slc 0), hO 0 5 .u8 [(IntKind.u8.wrap kind_0), (Zh0 data_1), (Zh1 data_1)], hR 9000 .u8 data_1] (hone (show 0 ≤ (8 : Int) from by decide)) ?_
 refine q_k (tr_seq ?_); obtain ⟨a1, e2, h⟩ := bind_some h; obtain ⟨r3, e4, h⟩ := bind_some h; refine tr_rg hT [(2, .key 1), (3, .call [1] (.v (.one (.slc 2))) [(2, .own 5 .u8 a1)]), (4, .call [2] (.v (.one (.int .u32 r3))) [])] [sO 1 (.slc 9000), sO 6 (.slc 0), sI 7 .u32 r3, hR 0 .u8 [(IntKind.u8.wrap kind_0), (Zh0 data_1), (Zh1 data_1)], hR 9000 .u8 data_1] (hcons ((slices_Concat_byte_byte_ok [[(IntKind.u8.wrap kind_0), (Zh0 data_1), (Zh1 data_1)], data_1] a1 e2).tr1 [(9000, .slc 1), (8900, .slc 2)] [(1, .rows (.bs .u8 [[(IntKind.u8.wrap kind_0), (Zh0 data_1), (Zh1 data_1)], data_1]))] ⟨.rows', trivial⟩) (hone ((crc_Sum_ok a1 r3 e4).tr1 [(9000, .slc 2)] [(2, .own 5 .u8 a1)] ⟨.ownrd' (e := 5), trivial⟩))) ?_; refine q_k (tr_seq ?_); obtain ⟨a5, e6, h⟩ := bind_some h
 refine tr_rg hT [(12, .key 3), (14, .key 4), (15, .call [4] (.v (.one (.slc 5))) [(5, .own 5 .u8 a5)])] [sO 4 (.slc 5), hO 5 5 .u8 a5] (hcons (show 0 ≤ (24 : Int) from by decide) (hcons (show 0 ≤ (16 : Int) from by decide) (hcons (show 0 ≤ (8 : Int) from by decide) (hone ((slices_Concat_byte_byte_ok [[(IntKind.u8.wrap kind_0), (Zh0 data_1), (Zh1 data_1)], [(IntKind.u8.wrap (shr .u32 r3 (24 : Int))), (IntKind.u8.wrap (shr .u32 r3 (16 : Int))), (IntKind.u8.wrap (shr .u32 r3 (8 : Int))), (IntKind.u8.wrap r3)], data_1] a5 e6).tr1 [(9000, .slc 4), (8900, .slc 5)] [(4, .rows (.bs .u8 [[(IntKind.u8.wrap kind_0), (Zh0 data_1), (Zh1 data_1)], [(IntKind.u8.wrap (shr .u32 r3 (24 : Int))), (IntKind.u8.wrap (shr .u32 r3 (16 : Int))), (IntKind.u8.wrap (shr .u32 r3 (8 : Int))), (IntKind.u8.wrap r3)], data_1]))] ⟨.rows', trivial⟩))))) ?_
 refine q_k (tr_ret ?_); have h := Option.some.inj h; subst h; refine q_ft [(8900, .slc 5)] [sO 4 (.slc 8900), hO 8900 5 .u8 a5] ⟨.own', trivial⟩ ?_; exact q_ret1 hT (.v (.one (.slc 8900))) [(8900, .own 5 .u8 a5)] (by kernel_rfl) (by kernel_rfl) (by kernel_rfl)

abbrev Zi0 (s1_0 : List Int) := (↑(List.length s1_0) : Int)
abbrev Zi1 (s1_0 : List Int) (s2_1 : List Int) (ya : Gw.Loc × Cont) : List (Gw.Loc × Cont) := [sO 0 (.slc 9000), sO 1 (.slc 9001), sI 12 .i64 (Zi0 s1_0), ya, hR 9000 .u8 s1_0, hR 9001 .u8 s2_1]
theorem slices_Equal_byte_byte_ok (s1_0 : List Int) (s2_1 : List Int) (r : Bool) (h : slices_Equal_byte_byte s1_0 s2_1 = some r) : CallOk P 59 [.v (.one (.slc 9000)), .v (.one (.slc 9001))] [(9000, .rd .u8 s1_0), (9001, .rd .u8 s2_1)] (.v (.one (.bool r))) [] := by
 refine call1 (N := 26) Tryd.func59 (by kernel_rfl) rfl rfl rfl [(9000, .rd .u8 s1_0), (9001, .rd .u8 s2_1)] (by kernel_rfl) ?_; intro _ B w0; show Tr P B 26 w0 _ _ (RetQ P Tryd.f59 (R1 _ _ B w0)); unfold slices_Equal_byte_byte at h; refine tr_seq (tr_rg hT [] [sO 0 (.slc 9000), sO 1 (.slc 9001), hR 9000 .u8 s1_0, hR 9001 .u8 s2_1] hnil ?_); refine q_k (tr_seq (tr_seq (tr_rg hT [] [sO 0 (.slc 9000), sO 1 (.slc 9001), sB 10 ((Zi0 s1_0) != (↑(List.length s2_1) : Int)), hR 9000 .u8 s1_0, hR 9001 .u8 s2_1] hnil ?_))); refine q_k ?_
 rcases ite_split h with ⟨hc1, h⟩ | ⟨hc1, h⟩
 ·refine tr_cond_t ((Zi0 s1_0) != (↑(List.length s2_1) : Int)) (by kernel_rfl) hc1 ?_; refine tr_seq (tr_rg hT [] [sB 4 false] hnil ?_); refine q_k (tr_ret (q_k_ret ?_)); have h := Option.some.inj h; subst h; refine q_ls [sB 4 false] ?_; exact q_ret1 hT (.v (.one (.bool false))) [] (by kernel_rfl) (by kernel_rfl) (by kernel_rfl)
 refine tr_cond_f ((Zi0 s1_0) != (↑(List.length s2_1) : Int)) (by kernel_rfl) hc1 ?_; refine tr_skip (q_k (tr_seq (tr_seq (tr_rg hT [] (Zi1 s1_0 s2_1 (sI 13 .i64 (0 : Int))) hnil ?_)))); refine q_k (tr_block ?_); obtain ⟨rr0, e7, h⟩ := bind_some h; refine tr_ft [] (Zi1 s1_0 s2_1 (sI 13 .i64 (0 : Int))) ⟨.rd', .rd', trivial⟩ ?_
 refine tr_loop_ret (id := 0) (α := Int) (β := Unit) (ρ := Bool) (fun z => (Zi1 s1_0 s2_1 (sI 13 .i64 z))) (fun z => []) (fun v σ => resS T (Gw.look σ) Tryd.f59.results.toList = some (.v (.one (.bool v))) ∧ Gw.hasAll σ [] = some (Gw.preSS [])) (fun k z => slices_Equal_byte_byte_l0 s1_0 s2_1 k z) rr0 (fun _ => rfl) (((Zi0 s1_0) - (0 : Int)).toNat + 1) (0 : Int) e7 ?_ ?_ ?_
 ·intro z hz; subst hz
  rcases z with _
  try dsimp only at h
  refine q_b_this (q_k (tr_seq (tr_rg hT [] [sB 4 true] hnil ?_))); refine q_k (tr_ret ?_); have h := Option.some.inj h; subst h; refine q_ls [sB 4 true] ?_; exact q_ret1 hT (.v (.one (.bool true))) [] (by kernel_rfl) (by kernel_rfl) (by kernel_rfl)
 ·intro v σ hz hv; subst hz; have h := Option.some.inj h; subst h; refine q_b_ret ?_; refine q_k_ret ?_; exact q_ret1 hT _ _ hv.1 hv.2 (by kernel_rfl)
 ·clear h e7
  intro k ih0 hx0 hr0 x2 h
  try dsimp only at h
  refine tr_seq (tr_rg hT [] [sO 0 (.slc 9000), sO 1 (.slc 9001), sI 12 .i64 (Zi0 s1_0), sI 13 .i64 x2, sB 14 (decide (x2 < (Zi0 s1_0))), hR 9000 .u8 s1_0, hR 9001 .u8 s2_1] hnil ?_); refine q_k (tr_seq ?_)
  rcases ite_split h with ⟨hc3, h⟩ | ⟨hc3, h⟩
  ·refine tr_cond_t (decide (x2 < (Zi0 s1_0))) (by kernel_rfl) hc3 ?_; refine tr_skip (q_k (tr_seq (tr_block (tr_seq (tr_rg hT [] [sO 0 (.slc 9000), sO 1 (.slc 9001), sI 5 .i64 x2, sI 12 .i64 (Zi0 s1_0), sI 13 .i64 x2, hR 9000 .u8 s1_0, hR 9001 .u8 s2_1] hnil ?_))))); refine q_k (tr_seq ?_); obtain ⟨hn4, hn5, h⟩ := it2 h; refine tr_rgd hT hM [] [sO 0 (.slc 9000), sO 1 (.slc 9001), sI 12 .i64 (Zi0 s1_0), sI 13 .i64 x2, sB 24 ((s1_0.getD x2.toNat 0) != (s2_1.getD x2.toNat 0)), hR 9000 .u8 s1_0, hR 9001 .u8 s2_1] (hcons hn4 (hcons hn4.2 (hcons hn5 (hone hn5.2)))) ?_; refine q_k ?_
   rcases ite_split h with ⟨hc6, h⟩ | ⟨hc6, h⟩
   ·refine tr_cond_t ((s1_0.getD x2.toNat 0) != (s2_1.getD x2.toNat 0)) (by kernel_rfl) hc6 ?_; refine tr_seq (tr_rg hT [] [sB 4 false] hnil ?_); refine q_k (tr_ret (q_b_ret (q_k_ret (q_kr_ret ?_)))); have h := Option.some.inj h; subst h
    exact q_ls [sB 4 false] (hr0 false _ rfl ⟨by kernel_rfl, by kernel_rfl⟩)
   refine tr_cond_f ((s1_0.getD x2.toNat 0) != (s2_1.getD x2.toNat 0)) (by kernel_rfl) hc6 ?_; refine tr_skip (q_b 1 ?_); refine q_k (tr_rg hT [] (Zi1 s1_0 s2_1 (sI 13 .i64 (IntKind.i64.wrap (x2 + (1 : Int))))) hnil ?_); refine q_kr ?_; exact trR_ls (Zi1 s1_0 s2_1 (sI 13 .i64 (IntKind.i64.wrap (x2 + (1 : Int))))) (ih0 (IntKind.i64.wrap (x2 + (1 : Int))) h)
  refine tr_cond_f (decide (x2 < (Zi0 s1_0))) (by kernel_rfl) hc3 ?_; refine tr_exit (q_k_exit (q_kr_exit ?_)); have h := Option.some.inj h; subst h; exact q_ls [] (hx0 () rfl)

end Go.Proofs.Se
