/- Walks, printed by a program of this session (gowalk.py): each Go function comes to its plain function's answer. -/
import Derived.Test.YtdbheiibkpendaaSdA
import Derived.Test.YtdbheiibkpendaaSdD
import Derived.Test.YtdbheiibkpendaaMSdS
import Derived.Test.YtdbheiibkpendaaSdV0
import Derived.Test.YtdbheiibkpendaaSdV1
import Derived.Test.YtdbheiibkpendaaSdV2
import Derived.Test.YtdbheiibkpendaaSdV3
namespace Go.Proofs.Sd
open Go Go.Gw D
set_option linter.unusedVariables false
set_option maxRecDepth 20000

abbrev Zp0 (H_0 : AH) : Gw.Loc × Cont := (.h 9000, .e (.arena true [] H_0))
abbrev Zp1 (H12 : AH) (a21 : List Int) (p1 : MV) := (AH.wr (H12 ++ [MO.row 5 1 (a21.map (MV.int .u8))]) p1 0 [MV.slc (List.length H12) 1 0 (List.length a21)])
theorem disk_Disk_Cut_ok (H_0 : AH) (d_1 : MV) (n_2 : Int) (size_3 : Int) (r : Int × AH) (h : disk_Disk_Cut H_0 d_1 n_2 size_3 = some r) : CallOk P 29 [.v (.one (.slc 9001)), .v (.one (.int .i64 n_2)), .v (.one (.int .i64 size_3))] [(9000, .arena true [] H_0), (9001, .apt 9000 d_1)] (.v (.one (.int .i64 r.1))) [(8900, .arena true [9000] r.2), (9000, .dead)] := by
 refine call1 (N := 48) Try.func29 (by kernel_rfl) rfl rfl rfl [(9000, .arena true [] H_0), (9001, .apt 9000 d_1)] (by kernel_rfl) ?_; intro _ B w0; show Tr P B 48 w0 _ _ (RetQ P Try.f29 (R1 _ _ B w0)); unfold disk_Disk_Cut at h; refine tr_seq (tr_rg hT [] [sO 0 (.slc 9001), sI 1 .i64 n_2, sI 2 .i64 size_3, (Zp0 H_0), (.h 9001, .e (.apt 9000 d_1))] hnil ?_); refine q_k (tr_seq ?_); obtain ⟨⟨p1, r2⟩, e3, h⟩ := bind_some h; refine tr_rg hT [(2, .callA [(9000, .ro), (9001, .apt 9000)] (.tup [.one (.slc 0), .one (.int .i64 r2)]) [(0, .apt 9000 p1)])] [sO 0 (.slc 9001), sI 2 .i64 size_3, sO 7 (.slc 0), sI 8 .i64 r2, (.h 0, .e (.apt 9000 p1)), (Zp0 H_0), (.h 9001, .e (.apt 9000 d_1))] (hone ((disk_Disk_find_ok H_0 d_1 n_2 (p1, r2) e3).tr1 [(9001, .slc 9001), (9000, .slc 9000), (8900, .slc 0)] [(9000, .arena false [] H_0), (9001, .apt 9000 d_1)] ⟨.arena' (bs := []), .apts' (κb := 9000), trivial⟩)) ?_; refine q_k (tr_seq (tr_block (tr_seq (tr_rg hT [] [sO 0 (.slc 9001), sI 2 .i64 size_3, sO 7 (.slc 0), sI 8 .i64 r2, sB 15 (r2 != (0 : Int)), (.h 0, .e (.apt 9000 p1)), (Zp0 H_0), (.h 9001, .e (.apt 9000 d_1))] hnil ?_)))); refine q_k ?_
 rcases ite_split h with ⟨hc4, h⟩ | ⟨hc4, h⟩
 ·refine tr_cond_t (r2 != (0 : Int)) (by kernel_rfl) hc4 ?_; refine tr_seq (tr_rg hT [] [sI 6 .i64 r2, (Zp0 H_0)] hnil ?_); refine q_k (tr_ret (q_b_ret (q_k_ret ?_))); have h := Option.some.inj h; subst h; refine q_ft [(8900, .slc 9000)] [sI 6 .i64 r2, (.h 8900, .e (.arena true [9000] H_0)), hD 9000] ⟨.arena' (bs := []), .dead, trivial⟩ ?_; exact q_ret1 hT (.v (.one (.int .i64 r2))) [(8900, .arena true [9000] H_0), (9000, .dead)] (by kernel_rfl) (by kernel_rfl) (by kernel_rfl)
 refine tr_cond_f (r2 != (0 : Int)) (by kernel_rfl) hc4 ?_; refine tr_seq ?_
 rcases ite_split h with ⟨hb5, h⟩ | ⟨hb6, h⟩
 ·refine tr_rg hT [(2, .dec true)] [sO 0 (.slc 9001), sI 2 .i64 size_3, sO 7 (.slc 0), sB 19 true, (.h 0, .e (.apt 9000 p1)), (Zp0 H_0), (.h 9001, .e (.apt 9000 d_1))] (hone hb5) ?_; refine q_k (tr_cond_t true (by kernel_rfl) rfl ?_); refine tr_seq (tr_rg hT [] [sI 6 .i64 (1 : Int), (Zp0 H_0)] hnil ?_); refine q_k (tr_ret (q_b_ret (q_k_ret ?_))); have h := Option.some.inj h; subst h; refine q_ft [(8900, .slc 9000)] [sI 6 .i64 (1 : Int), (.h 8900, .e (.arena true [9000] H_0)), hD 9000] ⟨.arena' (bs := []), .dead, trivial⟩ ?_; exact q_ret1 hT (.v (.one (.int .i64 (1 : Int)))) [(8900, .arena true [9000] H_0), (9000, .dead)] (by kernel_rfl) (by kernel_rfl) (by kernel_rfl)
 obtain ⟨hn7, hn8, hn9, h⟩ := it3 h; refine tr_rg hT [(2, .dec false), (5, .ar 9000 []), (6, .ar 9000 []), (7, .ar 9000 [1]), (8, .ar 9000 [])] [sO 0 (.slc 9001), sI 2 .i64 size_3, sO 7 (.slc 0), sB 19 (decide (size_3 > (↑(MV.len (AH.rd H_0 p1 0)) : Int))), (.h 0, .e (.apt 9000 p1)), (Zp0 H_0), (.h 9001, .e (.apt 9000 d_1))] (hcons hb6 (hcons hn7 (hcons hn7 (hcons hn8 (hone hn9))))) ?_; refine q_k ?_
 rcases ite_split h with ⟨hc10, h⟩ | ⟨hc10, h⟩
 ·refine tr_cond_t (decide (size_3 > (↑(MV.len (AH.rd H_0 p1 0)) : Int))) (by kernel_rfl) hc10 ?_; refine tr_seq (tr_rg hT [] [sI 6 .i64 (1 : Int), (Zp0 H_0)] hnil ?_); refine q_k (tr_ret (q_b_ret (q_k_ret ?_))); have h := Option.some.inj h; subst h; refine q_ft [(8900, .slc 9000)] [sI 6 .i64 (1 : Int), (.h 8900, .e (.arena true [9000] H_0)), hD 9000] ⟨.arena' (bs := []), .dead, trivial⟩ ?_; exact q_ret1 hT (.v (.one (.int .i64 (1 : Int)))) [(8900, .arena true [9000] H_0), (9000, .dead)] (by kernel_rfl) (by kernel_rfl) (by kernel_rfl)
 refine tr_cond_f (decide (size_3 > (↑(MV.len (AH.rd H_0 p1 0)) : Int))) (by kernel_rfl) hc10 ?_; refine tr_skip (q_b 0 ?_); refine q_k (tr_seq ?_); obtain ⟨⟨r11, H12⟩, e13, h⟩ := bind_some h; refine tr_rg hT [(1, .callA [(9000, .rw), (9001, .apt 9000)] (.v (.one (.int .i64 r11))) [(2, .arena true [9000] H12), (9000, .dead)])] [sI 2 .i64 size_3, sO 7 (.slc 0), sI 8 .i64 r11, (.h 0, .e (.apt 9000 p1)), (.h 2, .e (.arena true [9000] H12))] (hone ((disk_Disk_spend_ok H_0 d_1 (r11, H12) e13).tr1 [(9001, .slc 9001), (9000, .slc 9000), (8900, .slc 2)] [(9000, .arena true [] H_0), (9001, .apt 9000 d_1)] ⟨.arena' (bs := []), .apts' (κb := 9000), trivial⟩)) ?_; refine q_k (tr_seq (tr_seq (tr_rg hT [] [sI 2 .i64 size_3, sO 7 (.slc 0), sI 8 .i64 r11, sB 34 (r11 == (0 : Int)), (.h 0, .e (.apt 9000 p1)), (.h 2, .e (.arena true [9000] H12))] hnil ?_))); refine q_k ?_; obtain ⟨H14, e26, h⟩ := bind_some h; refine tr_join (σ1 := [sI 8 .i64 r11, (.h 43, .e (.arena true [9000] H14))]) ?_ ?_
 ·skip
  try dsimp only at h
  refine q_k (tr_seq (tr_rg hT [] [sI 6 .i64 r11, (.h 43, .e (.arena true [9000] H14))] hnil ?_)); refine q_k (tr_ret ?_); have h := Option.some.inj h; subst h; refine q_ft [(8900, .slc 43)] [sI 6 .i64 r11, (.h 8900, .e (.arena true [9000] H14)), hD 9000] ⟨.arena' (bs := [9000]), .dead, trivial⟩ ?_; exact q_ret1 hT (.v (.one (.int .i64 r11))) [(8900, .arena true [9000] H14), (9000, .dead)] (by kernel_rfl) (by kernel_rfl) (by kernel_rfl)
 ·intro hj0
  clear h
  have h := e26
  clear e26
  rcases ite_split h with ⟨hc15, h⟩ | ⟨hc15, h⟩
  ·refine tr_cond_t (r11 == (0 : Int)) (by kernel_rfl) hc15 ?_; refine tr_seq ?_; obtain ⟨hn16, hn17, hn18, hn19, hn20, hn23, h⟩ := it6 h; obtain ⟨a21, e22, h⟩ := bind_some h; refine tr_rg hT [(2, .ar 2 []), (3, .ar 2 []), (4, .ar 2 [44]), (6, .ar 2 [45]), (7, .callA [(45, .rd .u8 2)] (.v (.one (.slc 46))) [(46, .own 5 .u8 a21)]), (8, .ar 2 []), (9, .ar 2 []), (10, .ar 2 [47])] [sO 7 (.slc 0), sI 8 .i64 r11, (.h 0, .e (.apt 9000 p1)), (.h 47, .e (.arena true [2, 9000] (Zp1 H12 a21 p1)))] (hcons hn16 (hcons hn16 (hcons hn17 (hcons hn18 (hcons hn19 (hcons hn20 (hcons hn23 (hcons ((slices_Clone_byte_byte_ok (AH.ints H12 (MV.sub (AH.rd H12 p1 0) 0 size_3.toNat)) a21 e22).tr1 [(9000, .slc 45), (8900, .slc 46)] [(45, .rd .u8 (AH.ints H12 (MV.sub (AH.rd H12 p1 0) 0 size_3.toNat)))] ⟨.rd', trivial⟩) (hcons hn16 (hcons hn16 (hcons hn17 (hone (show 1 ≤ 1 from by decide))))))))))))) ?_; refine q_k ?_; obtain ⟨H24, e25, h⟩ := bind_some h; refine tr_rg hT [(1, .callA [(47, .rw), (0, .apt 47)] (.tup []) [(48, .arena true [47] H24), (47, .dead)])] [sI 8 .i64 r11, (.h 48, .e (.arena true [47, 2, 9000] H24))] (hone ((disk_file_settle_ok (Zp1 H12 a21 p1) p1 H24 e25).tr1 [(9001, .slc 0), (9000, .slc 47), (8900, .slc 48)] [(47, .arena true [] (Zp1 H12 a21 p1)), (0, .apt 47 p1)] ⟨.arena' (bs := []), .apts' (κb := 47), trivial⟩)) ?_; have h := Option.some.inj h; subst h; exact q_ft [(43, .slc 48)] [sI 8 .i64 r11, (.h 43, .e (.arena true [9000] H24))] ⟨.arena' (bs := [47, 2, 9000]), trivial⟩ hj0
  refine tr_cond_f (r11 == (0 : Int)) (by kernel_rfl) hc15 ?_; refine tr_skip ?_; have h := Option.some.inj h; subst h; exact q_ft [(43, .slc 2)] [sI 8 .i64 r11, (.h 43, .e (.arena true [9000] H12))] ⟨.arena' (bs := [9000]), trivial⟩ hj0

theorem keep_Twin_ok (b_0 : List Int) (r : List Int) (h : keep_Twin b_0 = some r) : CallOk P 30 [.v (.one (.slc 9000))] [(9000, .rd .u8 b_0)] (.v (.one (.slc 8900))) [(8900, .own 5 .u8 r)] := by
 refine call1 (N := 7) Try.func30 (by kernel_rfl) rfl rfl rfl [(9000, .rd .u8 b_0)] (by kernel_rfl) ?_
 intro _ B w0
 show Tr P B 7 w0 _ _ (RetQ P Try.f30 (R1 _ _ B w0))
 unfold keep_Twin at h
 refine tr_seq ?_
 refine tr_rg hT [] [sO 0 (.slc 9000), hR 9000 .u8 b_0] hnil ?_
 refine q_k ?_
 refine tr_seq ?_
 refine tr_rg hT [] [sO 0 (.slc 9000), sO 3 (.nils), hR 9000 .u8 b_0] hnil ?_
 refine q_k ?_
 refine tr_seq ?_
 obtain ⟨hn1, h⟩ := ite_some h
 refine tr_rg hT [(2, .key 0)] [sO 2 (.slc 0), hO 0 5 .u8 b_0] (hone hn1) ?_
 refine q_k ?_
 refine tr_ret ?_
 have h := Option.some.inj h
 subst h
 refine q_ft [(8900, .slc 0)] [sO 2 (.slc 8900), hO 8900 5 .u8 b_0] ⟨.own', trivial⟩ ?_
 exact q_ret1 hT (.v (.one (.slc 8900))) [(8900, .own 5 .u8 b_0)] (by kernel_rfl) (by kernel_rfl) (by kernel_rfl)

end Go.Proofs.Sd
