/- Walks, printed by a program of this session (gowalk.py): each Go function comes to its plain function's answer. -/
import Derived.Test.YtdbheiibkpendaaSdA
import Derived.Test.YtdbheiibkpendaaSdD
import Derived.Test.YtdbheiibkpendaaMSdS
import Derived.Test.YtdbheiibkpendaaSdV0
import Derived.Test.YtdbheiibkpendaaSdV1
namespace Go.Proofs.Sd
open Go Go.Gw D
set_option linter.unusedVariables false
set_option maxRecDepth 20000

theorem disk_Disk_Remove_ok (H_0 : AH) (d_1 : MV) (n_2 : Int) (r : Int × AH) (h : disk_Disk_Remove H_0 d_1 n_2 = some r) : CallOk P 22 [.v (.one (.slc 9001)), .v (.one (.int .i64 n_2))] [(9000, .arena true [] H_0), (9001, .apt 9000 d_1)] (.v (.one (.int .i64 r.1))) [(8900, .arena true [9000] r.2), (9000, .dead)] := by
 refine call1 (N := 26) Try.func22 (by kernel_rfl) rfl rfl rfl [(9000, .arena true [] H_0), (9001, .apt 9000 d_1)] (by kernel_rfl) ?_; intro _ B w0; show Tr P B 26 w0 _ _ (RetQ P Try.f22 (R1 _ _ B w0)); unfold disk_Disk_Remove at h; refine tr_seq (tr_rg hT [] [sO 0 (.slc 9001), sI 1 .i64 n_2, (.h 9000, .e (.arena true [] H_0)), (.h 9001, .e (.apt 9000 d_1))] hnil ?_); refine q_k (tr_seq ?_); obtain ⟨⟨p1, r2⟩, e3, h⟩ := bind_some h; refine tr_rg hT [(2, .callA [(9000, .ro), (9001, .apt 9000)] (.tup [.one (.slc 0), .one (.int .i64 r2)]) [(0, .apt 9000 p1)])] [sO 0 (.slc 9001), sI 1 .i64 n_2, sI 6 .i64 r2, (.h 9000, .e (.arena true [] H_0)), (.h 9001, .e (.apt 9000 d_1))] (hone ((disk_Disk_find_ok H_0 d_1 n_2 (p1, r2) e3).tr1 [(9001, .slc 9001), (9000, .slc 9000), (8900, .slc 0)] [(9000, .arena false [] H_0), (9001, .apt 9000 d_1)] ⟨.arena' (bs := []), .apts' (κb := 9000), trivial⟩)) ?_; refine q_k (tr_seq (tr_seq (tr_rg hT [] [sO 0 (.slc 9001), sI 1 .i64 n_2, sI 6 .i64 r2, sB 14 (r2 != (0 : Int)), (.h 9000, .e (.arena true [] H_0)), (.h 9001, .e (.apt 9000 d_1))] hnil ?_))); refine q_k ?_
 rcases ite_split h with ⟨hc4, h⟩ | ⟨hc4, h⟩
 ·refine tr_cond_t (r2 != (0 : Int)) (by kernel_rfl) hc4 ?_; refine tr_seq (tr_rg hT [] [sI 4 .i64 r2, (.h 9000, .e (.arena true [] H_0))] hnil ?_); refine q_k (tr_ret (q_k_ret ?_)); have h := Option.some.inj h; subst h; refine q_ft [(8900, .slc 9000)] [sI 4 .i64 r2, (.h 8900, .e (.arena true [9000] H_0)), hD 9000] ⟨.arena' (bs := []), .dead, trivial⟩ ?_; exact q_ret1 hT (.v (.one (.int .i64 r2))) [(8900, .arena true [9000] H_0), (9000, .dead)] (by kernel_rfl) (by kernel_rfl) (by kernel_rfl)
 refine tr_cond_f (r2 != (0 : Int)) (by kernel_rfl) hc4 ?_; refine tr_skip (q_k (tr_seq ?_)); obtain ⟨⟨r5, H6⟩, e7, h⟩ := bind_some h; refine tr_rg hT [(1, .callA [(9000, .rw), (9001, .apt 9000)] (.v (.one (.int .i64 r5))) [(1, .arena true [9000] H6), (9000, .dead)])] [sO 0 (.slc 9001), sI 1 .i64 n_2, sI 6 .i64 r5, (.h 1, .e (.arena true [9000] H6)), (.h 9001, .e (.apt 9000 d_1))] (hone ((disk_Disk_spend_ok H_0 d_1 (r5, H6) e7).tr1 [(9001, .slc 9001), (9000, .slc 9000), (8900, .slc 1)] [(9000, .arena true [] H_0), (9001, .apt 9000 d_1)] ⟨.arena' (bs := []), .apts' (κb := 9000), trivial⟩)) ?_; refine q_k (tr_seq (tr_seq (tr_rg hT [] [sO 0 (.slc 9001), sI 1 .i64 n_2, sI 6 .i64 r5, sB 19 (r5 == (0 : Int)), (.h 1, .e (.arena true [9000] H6)), (.h 9001, .e (.apt 9000 d_1))] hnil ?_))); refine q_k ?_; obtain ⟨H8, e13, h⟩ := bind_some h; refine tr_join (σ1 := [sI 6 .i64 r5, (.h 42, .e (.arena true [9000] H8))]) ?_ ?_
 ·skip
  try dsimp only at h
  refine q_k (tr_seq (tr_rg hT [] [sI 4 .i64 r5, (.h 42, .e (.arena true [9000] H8))] hnil ?_)); refine q_k (tr_ret ?_); have h := Option.some.inj h; subst h; refine q_ft [(8900, .slc 42)] [sI 4 .i64 r5, (.h 8900, .e (.arena true [9000] H8)), hD 9000] ⟨.arena' (bs := [9000]), .dead, trivial⟩ ?_; exact q_ret1 hT (.v (.one (.int .i64 r5))) [(8900, .arena true [9000] H8), (9000, .dead)] (by kernel_rfl) (by kernel_rfl) (by kernel_rfl)
 ·intro hj0
  clear h
  have h := e13
  clear e13
  rcases ite_split h with ⟨hc9, h⟩ | ⟨hc9, h⟩
  ·refine tr_cond_t (r5 == (0 : Int)) (by kernel_rfl) hc9 ?_; obtain ⟨hn10, hn11, hn12, h⟩ := it3 h; refine tr_rg hT [(1, .ar 1 []), (2, .ar 1 []), (3, .ar 1 [43]), (5, .ar 1 [44])] [sI 6 .i64 r5, (.h 44, .e (.arena true [1, 9000] (AH.mdel H6 (AH.rd H6 d_1 1) n_2)))] (hcons hn10 (hcons hn10 (hcons hn11 (hone hn12)))) ?_; have h := Option.some.inj h; subst h; exact q_ft [(42, .slc 44)] [sI 6 .i64 r5, (.h 42, .e (.arena true [9000] (AH.mdel H6 (AH.rd H6 d_1 1) n_2)))] ⟨.arena' (bs := [1, 9000]), trivial⟩ hj0
  refine tr_cond_f (r5 == (0 : Int)) (by kernel_rfl) hc9 ?_; refine tr_skip ?_; have h := Option.some.inj h; subst h; exact q_ft [(42, .slc 1)] [sI 6 .i64 r5, (.h 42, .e (.arena true [9000] H6))] ⟨.arena' (bs := [9000]), trivial⟩ hj0

abbrev Zn0 (a_0 : List Int) := (↑(List.length a_0) : Int)
abbrev Zn1 (a_0 : List Int) (b_1 : List Int) (ya : Gw.Loc × Cont) : List (Gw.Loc × Cont) := [sO 0 (.slc 9000), sO 1 (.slc 9001), ya, hR 9000 .i64 a_0, hR 9001 .i64 b_1]
theorem keep_Ints_ok (a_0 : List Int) (b_1 : List Int) (r : Bool) (h : keep_Ints a_0 b_1 = some r) : CallOk P 23 [.v (.one (.slc 9000)), .v (.one (.slc 9001))] [(9000, .rd .i64 a_0), (9001, .rd .i64 b_1)] (.v (.one (.bool r))) [] := by
 refine call1 (N := 26) Try.func23 (by kernel_rfl) rfl rfl rfl [(9000, .rd .i64 a_0), (9001, .rd .i64 b_1)] (by kernel_rfl) ?_; intro _ B w0; show Tr P B 26 w0 _ _ (RetQ P Try.f23 (R1 _ _ B w0)); unfold keep_Ints at h; refine tr_seq (tr_rg hT [] [sO 0 (.slc 9000), sO 1 (.slc 9001), hR 9000 .i64 a_0, hR 9001 .i64 b_1] hnil ?_); refine q_k (tr_seq (tr_seq (tr_rg hT [] (Zn1 a_0 b_1 (sB 10 ((Zn0 a_0) != (↑(List.length b_1) : Int)))) hnil ?_))); refine q_k ?_
 rcases ite_split h with ⟨hc1, h⟩ | ⟨hc1, h⟩
 ·refine tr_cond_t ((Zn0 a_0) != (↑(List.length b_1) : Int)) (by kernel_rfl) hc1 ?_; refine tr_seq (tr_rg hT [] [sB 4 false] hnil ?_); refine q_k (tr_ret (q_k_ret ?_)); have h := Option.some.inj h; subst h; refine q_ls [sB 4 false] ?_; exact q_ret1 hT (.v (.one (.bool false))) [] (by kernel_rfl) (by kernel_rfl) (by kernel_rfl)
 refine tr_cond_f ((Zn0 a_0) != (↑(List.length b_1) : Int)) (by kernel_rfl) hc1 ?_; refine tr_skip (q_k (tr_seq (tr_seq (tr_rg hT [] (Zn1 a_0 b_1 (sI 5 .i64 (0 : Int))) hnil ?_)))); refine q_k (tr_block ?_); obtain ⟨rr0, e7, h⟩ := bind_some h; refine tr_ft [] (Zn1 a_0 b_1 (sI 5 .i64 (0 : Int))) ⟨.rd', .rd', trivial⟩ ?_
 refine tr_loop_ret (id := 0) (α := Int) (β := Unit) (ρ := Bool) (fun z => (Zn1 a_0 b_1 (sI 5 .i64 z))) (fun z => []) (fun v σ => resS T (Gw.look σ) Try.f23.results.toList = some (.v (.one (.bool v))) ∧ Gw.hasAll σ [] = some (Gw.preSS [])) (fun k z => keep_Ints_l0 a_0 b_1 k z) rr0 (fun _ => rfl) (((Zn0 a_0) - (0 : Int)).toNat + 1) (0 : Int) e7 ?_ ?_ ?_
 ·intro z hz; subst hz
  rcases z with _
  try dsimp only at h
  refine q_b_this (q_k (tr_seq (tr_rg hT [] [sB 4 true] hnil ?_))); refine q_k (tr_ret ?_); have h := Option.some.inj h; subst h; refine q_ls [sB 4 true] ?_; exact q_ret1 hT (.v (.one (.bool true))) [] (by kernel_rfl) (by kernel_rfl) (by kernel_rfl)
 ·intro v σ hz hv; subst hz; have h := Option.some.inj h; subst h; refine q_b_ret ?_; refine q_k_ret ?_; exact q_ret1 hT _ _ hv.1 hv.2 (by kernel_rfl)
 ·clear h e7
  intro k ih0 hx0 hr0 i2 h
  try dsimp only at h
  refine tr_seq (tr_seq (tr_rg hT [] [sO 0 (.slc 9000), sO 1 (.slc 9001), sI 5 .i64 i2, sB 14 (decide (i2 < (Zn0 a_0))), hR 9000 .i64 a_0, hR 9001 .i64 b_1] hnil ?_)); refine q_k ?_
  rcases ite_split h with ⟨hc3, h⟩ | ⟨hc3, h⟩
  ·refine tr_cond_t (decide (i2 < (Zn0 a_0))) (by kernel_rfl) hc3 ?_; refine tr_skip (q_k (tr_seq (tr_block (tr_seq ?_)))); obtain ⟨hn4, hn5, h⟩ := it2 h; refine tr_rgd hT hM [] [sO 0 (.slc 9000), sO 1 (.slc 9001), sI 5 .i64 i2, sB 25 ((a_0.getD i2.toNat 0) != (b_1.getD i2.toNat 0)), hR 9000 .i64 a_0, hR 9001 .i64 b_1] (hcons hn4 (hcons hn4.2 (hcons hn5 (hone hn5.2)))) ?_; refine q_k ?_
   rcases ite_split h with ⟨hc6, h⟩ | ⟨hc6, h⟩
   ·refine tr_cond_t ((a_0.getD i2.toNat 0) != (b_1.getD i2.toNat 0)) (by kernel_rfl) hc6 ?_; refine tr_seq (tr_rg hT [] [sB 4 false] hnil ?_); refine q_k (tr_ret (q_b_ret (q_k_ret (q_kr_ret ?_)))); have h := Option.some.inj h; subst h
    exact q_ls [sB 4 false] (hr0 false _ rfl ⟨by kernel_rfl, by kernel_rfl⟩)
   refine tr_cond_f ((a_0.getD i2.toNat 0) != (b_1.getD i2.toNat 0)) (by kernel_rfl) hc6 ?_; refine tr_skip (q_b 1 ?_); refine q_k (tr_rg hT [] (Zn1 a_0 b_1 (sI 5 .i64 (IntKind.i64.wrap (i2 + (1 : Int))))) hnil ?_); refine q_kr ?_; exact trR_ls (Zn1 a_0 b_1 (sI 5 .i64 (IntKind.i64.wrap (i2 + (1 : Int))))) (ih0 (IntKind.i64.wrap (i2 + (1 : Int))) h)
  refine tr_cond_f (decide (i2 < (Zn0 a_0))) (by kernel_rfl) hc3 ?_; refine tr_exit (q_k_exit (q_kr_exit ?_)); have h := Option.some.inj h; subst h; exact q_ls [] (hx0 () rfl)

end Go.Proofs.Sd
