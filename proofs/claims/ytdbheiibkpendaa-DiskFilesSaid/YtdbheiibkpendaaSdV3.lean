/- Walks, printed by a program of this session (gowalk.py): each Go function comes to its plain function's answer. -/
import Derived.Test.YtdbheiibkpendaaSdA
import Derived.Test.YtdbheiibkpendaaSdD
import Derived.Test.YtdbheiibkpendaaMSdS
import Derived.Test.YtdbheiibkpendaaSdV0
import Derived.Test.YtdbheiibkpendaaSdV1
import Derived.Test.YtdbheiibkpendaaSdV2
namespace Go.Proofs.Sd
open Go Go.Gw D
set_option linter.unusedVariables false
set_option maxRecDepth 20000

theorem law14_DiskFiles_ok (l_0 : List Int) (gone_1 : List Bool) (r : Bool) (h : law14_DiskFiles l_0 gone_1 = some r) : CallOk P 5 [.v (.one (.slc 9000)), .v (.one (.slc 9001))] [(9000, .rd .i64 l_0), (9001, .rdb gone_1)] (.v (.one (.bool r))) [] := by
  refine call1 (N := 121) Try.func5 (by kernel_rfl) rfl rfl rfl [(9000, .rd .i64 l_0), (9001, .rdb gone_1)] (by kernel_rfl) ?_
  intro _ B w0
  show Tr P B 121 w0 _ _ (RetQ P Try.f5 (R1 _ _ B w0))
  unfold law14_DiskFiles at h
  refine tr_seq ?_
  refine tr_rg hT [] [sO 0 (.slc 9000), sO 1 (.slc 9001), hR 9000 .i64 l_0, (.h 9001, .e (.rdb gone_1))] hnil ?_
  refine q_k ?_
  refine tr_seq ?_
  refine tr_seq ?_
  rcases ite_split h with ⟨hb1, h⟩ | ⟨hb2, h⟩
  · refine tr_rg hT [(3, .dec true)] [sO 0 (.slc 9000), sO 1 (.slc 9001), sB 22 true, hR 9000 .i64 l_0, (.h 9001, .e (.rdb gone_1))] (hone hb1) ?_
    refine q_k ?_
    refine tr_cond_t true (by kernel_rfl) rfl ?_
    refine tr_seq ?_
    refine tr_rg hT [] [sB 4 true] hnil ?_
    refine q_k ?_
    refine tr_ret ?_
    refine q_k_ret ?_
    have h := Option.some.inj h
    subst h
    refine q_ls [sB 4 true] ?_
    exact q_ret1 hT (.v (.one (.bool true))) [] (by kernel_rfl) (by kernel_rfl) (by kernel_rfl)
  · refine tr_rg hT [(3, .dec false), (5, .bb [])] [sO 0 (.slc 9000), sO 1 (.slc 9001), sB 22 (decide ((↑(List.length gone_1) : Int) > (100 : Int))), hR 9000 .i64 l_0, (.h 9001, .e (.rdb gone_1))] (hone hb2) ?_
    refine q_k ?_
    rcases ite_split h with ⟨hc3, h⟩ | ⟨hc3, h⟩
    · refine tr_cond_t (decide ((↑(List.length gone_1) : Int) > (100 : Int))) (by kernel_rfl) hc3 ?_
      refine tr_seq ?_
      refine tr_rg hT [] [sB 4 true] hnil ?_
      refine q_k ?_
      refine tr_ret ?_
      refine q_k_ret ?_
      have h := Option.some.inj h
      subst h
      refine q_ls [sB 4 true] ?_
      exact q_ret1 hT (.v (.one (.bool true))) [] (by kernel_rfl) (by kernel_rfl) (by kernel_rfl)
    · refine tr_cond_f (decide ((↑(List.length gone_1) : Int) > (100 : Int))) (by kernel_rfl) hc3 ?_
      refine tr_skip ?_
      refine q_k ?_
      refine tr_seq ?_
      obtain ⟨⟨p4, r5, H6⟩, e7, h⟩ := bind_some h
      refine tr_rg hT [(0, .callA [] (.tup [.one (.slc 1), .one (.int .i64 r5)]) [(1, .apt 0 p4), (0, .arena true [] H6)])] [sO 0 (.slc 9000), sO 1 (.slc 9001), sO 5 (.slc 1), sI 6 .i64 r5, (.h 0, .e (.arena true [] H6)), (.h 1, .e (.apt 0 p4)), hR 9000 .i64 l_0, (.h 9001, .e (.rdb gone_1))] (hone ((disk_New_ok (10 : Int) (p4, r5, H6) e7).tr1 [(8901, .slc 0), (8900, .slc 1)] [] trivial)) ?_
      refine q_k ?_
      refine tr_seq ?_
      refine tr_seq ?_
      rcases ite_split h with ⟨hb8, h⟩ | ⟨hb9, h⟩
      · refine tr_rg hT [(2, .dec true)] [sO 0 (.slc 9000), sO 1 (.slc 9001), sO 5 (.slc 1), sB 32 true, (.h 0, .e (.arena true [] H6)), (.h 1, .e (.apt 0 p4)), hR 9000 .i64 l_0, (.h 9001, .e (.rdb gone_1))] (hone hb8) ?_
        refine q_k ?_
        refine tr_cond_t true (by kernel_rfl) rfl ?_
        refine tr_seq ?_
        refine tr_rg hT [] [sB 4 false] hnil ?_
        refine q_k ?_
        refine tr_ret ?_
        refine q_k_ret ?_
        have h := Option.some.inj h
        subst h
        refine q_ls [sB 4 false] ?_
        exact q_ret1 hT (.v (.one (.bool false))) [] (by kernel_rfl) (by kernel_rfl) (by kernel_rfl)
      · obtain ⟨hn10, h⟩ := ite_some h
        refine tr_rg hT [(2, .dec false), (4, .ar 0 [])] [sO 0 (.slc 9000), sO 1 (.slc 9001), sO 5 (.slc 1), sB 32 (MV.isN p4), (.h 0, .e (.arena true [] H6)), (.h 1, .e (.apt 0 p4)), hR 9000 .i64 l_0, (.h 9001, .e (.rdb gone_1))] (hcons hb9 (hone hn10)) ?_
        refine q_k ?_
        rcases ite_split h with ⟨hc11, h⟩ | ⟨hc11, h⟩
        · refine tr_cond_t (MV.isN p4) (by kernel_rfl) hc11 ?_
          refine tr_seq ?_
          refine tr_rg hT [] [sB 4 false] hnil ?_
          refine q_k ?_
          refine tr_ret ?_
          refine q_k_ret ?_
          have h := Option.some.inj h
          subst h
          refine q_ls [sB 4 false] ?_
          exact q_ret1 hT (.v (.one (.bool false))) [] (by kernel_rfl) (by kernel_rfl) (by kernel_rfl)
        · refine tr_cond_f (MV.isN p4) (by kernel_rfl) hc11 ?_
          refine tr_skip ?_
          refine q_k ?_
          refine tr_seq ?_
          refine tr_rg hT [(0, .arN 2 [3, 4])] [sO 0 (.slc 9000), sO 1 (.slc 9001), sO 5 (.slc 1), sO 7 (.slc 4), (.h 0, .e (.arena true [] H6)), (.h 1, .e (.apt 0 p4)), (.h 3, .e (.arena true [2] (([] : AH) ++ [MO.cells 42 [MV.bool false, MV.bool false, MV.bool false, MV.bool false, MV.bool false, MV.bool false, MV.bool false, MV.bool false, MV.bool false, MV.bool false, MV.bool false, MV.bool false, MV.bool false, MV.bool false, MV.bool false, MV.bool false, MV.bool false, MV.bool false, MV.bool false, MV.bool false, MV.bool false, MV.bool false, MV.bool false, MV.bool false, MV.bool false, MV.bool false, MV.bool false, MV.bool false, MV.bool false, MV.bool false, MV.bool false, MV.bool false, MV.bool false, MV.bool false, MV.bool false, MV.bool false, MV.bool false, MV.bool false, MV.bool false, MV.bool false, MV.bool false, MV.bool false, MV.bool false, MV.bool false, MV.bool false, MV.bool false, MV.bool false, MV.bool false, MV.bool false, MV.bool false, MV.bool false, MV.bool false, MV.bool false, MV.bool false, MV.bool false, MV.bool false, MV.bool false, MV.bool false, MV.bool false, MV.bool false, MV.bool false, MV.bool false, MV.bool false, MV.bool false]]))), (.h 4, .e (.apt 3 (MV.ptr (List.length ([] : AH)) 0))), hR 9000 .i64 l_0, (.h 9001, .e (.rdb gone_1))] hnil ?_
          refine q_k ?_
          refine tr_seq ?_
          refine tr_seq ?_
          refine tr_rg hT [] [sO 0 (.slc 9000), sO 1 (.slc 9001), sO 5 (.slc 1), sO 7 (.slc 4), sI 8 .i64 (0 : Int), (.h 0, .e (.arena true [] H6)), (.h 1, .e (.apt 0 p4)), (.h 3, .e (.arena true [2] (([] : AH) ++ [MO.cells 42 [MV.bool false, MV.bool false, MV.bool false, MV.bool false, MV.bool false, MV.bool false, MV.bool false, MV.bool false, MV.bool false, MV.bool false, MV.bool false, MV.bool false, MV.bool false, MV.bool false, MV.bool false, MV.bool false, MV.bool false, MV.bool false, MV.bool false, MV.bool false, MV.bool false, MV.bool false, MV.bool false, MV.bool false, MV.bool false, MV.bool false, MV.bool false, MV.bool false, MV.bool false, MV.bool false, MV.bool false, MV.bool false, MV.bool false, MV.bool false, MV.bool false, MV.bool false, MV.bool false, MV.bool false, MV.bool false, MV.bool false, MV.bool false, MV.bool false, MV.bool false, MV.bool false, MV.bool false, MV.bool false, MV.bool false, MV.bool false, MV.bool false, MV.bool false, MV.bool false, MV.bool false, MV.bool false, MV.bool false, MV.bool false, MV.bool false, MV.bool false, MV.bool false, MV.bool false, MV.bool false, MV.bool false, MV.bool false, MV.bool false, MV.bool false]]))), (.h 4, .e (.apt 3 (MV.ptr (List.length ([] : AH)) 0))), hR 9000 .i64 l_0, (.h 9001, .e (.rdb gone_1))] hnil ?_
          refine q_k ?_
          refine tr_block ?_
          obtain ⟨rr0, e115, h⟩ := bind_some h
          refine tr_ft [(5, .slc 3), (6, .slc 0)] [sO 0 (.slc 9000), sO 1 (.slc 9001), sO 5 (.slc 1), sO 7 (.slc 4), sI 8 .i64 (0 : Int), (.h 1, .e (.apt 6 p4)), (.h 4, .e (.apt 5 (MV.ptr (List.length ([] : AH)) 0))), (.h 5, .e (.arena true [] (([] : AH) ++ [MO.cells 42 [MV.bool false, MV.bool false, MV.bool false, MV.bool false, MV.bool false, MV.bool false, MV.bool false, MV.bool false, MV.bool false, MV.bool false, MV.bool false, MV.bool false, MV.bool false, MV.bool false, MV.bool false, MV.bool false, MV.bool false, MV.bool false, MV.bool false, MV.bool false, MV.bool false, MV.bool false, MV.bool false, MV.bool false, MV.bool false, MV.bool false, MV.bool false, MV.bool false, MV.bool false, MV.bool false, MV.bool false, MV.bool false, MV.bool false, MV.bool false, MV.bool false, MV.bool false, MV.bool false, MV.bool false, MV.bool false, MV.bool false, MV.bool false, MV.bool false, MV.bool false, MV.bool false, MV.bool false, MV.bool false, MV.bool false, MV.bool false, MV.bool false, MV.bool false, MV.bool false, MV.bool false, MV.bool false, MV.bool false, MV.bool false, MV.bool false, MV.bool false, MV.bool false, MV.bool false, MV.bool false, MV.bool false, MV.bool false, MV.bool false, MV.bool false]]))), (.h 6, .e (.arena true [] H6)), hR 9000 .i64 l_0, (.h 9001, .e (.rdb gone_1))] ⟨.apt' (κb := 0) (κ0 := 0) (rw := true) (bs := []) (D := H6), .apt' (κb := 3) (κ0 := 3) (rw := true) (bs := [2]) (D := (([] : AH) ++ [MO.cells 42 [MV.bool false, MV.bool false, MV.bool false, MV.bool false, MV.bool false, MV.bool false, MV.bool false, MV.bool false, MV.bool false, MV.bool false, MV.bool false, MV.bool false, MV.bool false, MV.bool false, MV.bool false, MV.bool false, MV.bool false, MV.bool false, MV.bool false, MV.bool false, MV.bool false, MV.bool false, MV.bool false, MV.bool false, MV.bool false, MV.bool false, MV.bool false, MV.bool false, MV.bool false, MV.bool false, MV.bool false, MV.bool false, MV.bool false, MV.bool false, MV.bool false, MV.bool false, MV.bool false, MV.bool false, MV.bool false, MV.bool false, MV.bool false, MV.bool false, MV.bool false, MV.bool false, MV.bool false, MV.bool false, MV.bool false, MV.bool false, MV.bool false, MV.bool false, MV.bool false, MV.bool false, MV.bool false, MV.bool false, MV.bool false, MV.bool false, MV.bool false, MV.bool false, MV.bool false, MV.bool false, MV.bool false, MV.bool false, MV.bool false, MV.bool false]])), .arena' (bs := [2]), .arena' (bs := []), .rd', .rdb', trivial⟩ ?_
          refine tr_loop_ret (id := 0) (α := AH × AH × Int) (β := AH × AH) (ρ := Bool) (fun z => [sO 0 (.slc 9000), sO 1 (.slc 9001), sO 5 (.slc 1), sO 7 (.slc 4), sI 8 .i64 z.2.2, (.h 1, .e (.apt 6 p4)), (.h 4, .e (.apt 5 (MV.ptr (List.length ([] : AH)) 0))), (.h 5, .e (.arena true [] z.1)), (.h 6, .e (.arena true [] z.2.1)), hR 9000 .i64 l_0, (.h 9001, .e (.rdb gone_1))]) (fun z => [sO 5 (.slc 1), sO 7 (.slc 4), (.h 1, .e (.apt 8 p4)), (.h 4, .e (.apt 7 (MV.ptr (List.length ([] : AH)) 0))), (.h 7, .e (.arena true [] z.1)), (.h 8, .e (.arena true [] z.2))]) (fun v σ => resS T (Gw.look σ) Try.f5.results.toList = some (.v (.one (.bool v))) ∧ Gw.hasAll σ [] = some (Gw.preSS [])) (fun k z => law14_DiskFiles_l0 l_0 gone_1 p4 k z.1 z.2.1 z.2.2) rr0 (fun _ => rfl) (((↑(List.length l_0) : Int) - (0 : Int)).toNat + 1) ((([] : AH) ++ [MO.cells 42 [MV.bool false, MV.bool false, MV.bool false, MV.bool false, MV.bool false, MV.bool false, MV.bool false, MV.bool false, MV.bool false, MV.bool false, MV.bool false, MV.bool false, MV.bool false, MV.bool false, MV.bool false, MV.bool false, MV.bool false, MV.bool false, MV.bool false, MV.bool false, MV.bool false, MV.bool false, MV.bool false, MV.bool false, MV.bool false, MV.bool false, MV.bool false, MV.bool false, MV.bool false, MV.bool false, MV.bool false, MV.bool false, MV.bool false, MV.bool false, MV.bool false, MV.bool false, MV.bool false, MV.bool false, MV.bool false, MV.bool false, MV.bool false, MV.bool false, MV.bool false, MV.bool false, MV.bool false, MV.bool false, MV.bool false, MV.bool false, MV.bool false, MV.bool false, MV.bool false, MV.bool false, MV.bool false, MV.bool false, MV.bool false, MV.bool false, MV.bool false, MV.bool false, MV.bool false, MV.bool false, MV.bool false, MV.bool false, MV.bool false, MV.bool false]]), H6, (0 : Int)) e115 ?_ ?_ ?_
          · intro z hz
            subst hz
            rcases z with ⟨H15, H16⟩
            replace h : ((law14_DiskFiles_l7 p4 H15 H16 (((64 : Int) - (0 : Int)).toNat + 1) [] (0 : Int)).bind (fun want118 => (disk_Disk_Files H16 p4).bind (fun a128 => (keep_Ints a128 want118).bind (fun b130 => if b130 = true then (law14_wakes).bind (fun b133 => some b133) else some false)))) = _ := h
            refine q_b_this ?_
            refine q_k ?_
            refine tr_seq ?_
            refine tr_rg hT [] [sO 5 (.slc 1), sO 7 (.slc 4), sO 13 (.nils), (.h 1, .e (.apt 8 p4)), (.h 4, .e (.apt 7 (MV.ptr (List.length ([] : AH)) 0))), (.h 7, .e (.arena true [] H15)), (.h 8, .e (.arena true [] H16))] hnil ?_
            refine q_k ?_
            refine tr_seq ?_
            refine tr_seq ?_
            refine tr_rg hT [] [sO 5 (.slc 1), sO 7 (.slc 4), sO 13 (.nils), sI 14 .i64 (0 : Int), (.h 1, .e (.apt 8 p4)), (.h 4, .e (.apt 7 (MV.ptr (List.length ([] : AH)) 0))), (.h 7, .e (.arena true [] H15)), (.h 8, .e (.arena true [] H16))] hnil ?_
            refine q_k ?_
            refine tr_block ?_
            obtain ⟨want118, e127, h⟩ := bind_some h
            refine tr_ft [(269, .nils)] [sO 5 (.slc 1), sO 7 (.slc 4), sO 13 (.slc 269), sI 14 .i64 (0 : Int), (.h 1, .e (.apt 8 p4)), (.h 4, .e (.apt 7 (MV.ptr (List.length ([] : AH)) 0))), (.h 7, .e (.arena true [] H15)), (.h 8, .e (.arena true [] H16)), hO 269 3 .i64 []] ⟨.apts' (κb := 8), .apts' (κb := 7), .arena' (bs := []), .arena' (bs := []), .nilown, trivial⟩ ?_
            refine tr_loop_fuel (id := 3) (α := List Int × Int) (β := List Int) (fun z => [sO 5 (.slc 1), sO 7 (.slc 4), sO 13 (.slc 269), sI 14 .i64 z.2, (.h 1, .e (.apt 8 p4)), (.h 4, .e (.apt 7 (MV.ptr (List.length ([] : AH)) 0))), (.h 7, .e (.arena true [] H15)), (.h 8, .e (.arena true [] H16)), hO 269 3 .i64 z.1]) (fun z => [sO 5 (.slc 1), sO 13 (.slc 270), (.h 1, .e (.apt 8 p4)), (.h 8, .e (.arena true [] H16)), hO 270 3 .i64 z]) (fun k z => law14_DiskFiles_l7 p4 H15 H16 k z.1 z.2) want118 (fun _ => rfl) (((64 : Int) - (0 : Int)).toNat + 1) ([], (0 : Int)) e127 ?_ ?_
            · skip
              replace h : ((disk_Disk_Files H16 p4).bind (fun a128 => (keep_Ints a128 want118).bind (fun b130 => if b130 = true then (law14_wakes).bind (fun b133 => some b133) else some false))) = _ := h
              refine q_b_this ?_
              refine q_k ?_
              refine tr_seq ?_
              obtain ⟨a128, e129, h⟩ := bind_some h
              obtain ⟨b130, e131, h⟩ := bind_some h
              rcases ite_split h with ⟨hb132, h⟩ | ⟨hb135, h⟩
              · obtain ⟨b133, e134, h⟩ := bind_some h
                refine tr_rg hT [(1, .callA [(8, .ro), (1, .apt 8)] (.v (.one (.slc 314))) [(314, .own 3 .i64 a128)]), (3, .call [314, 270] (.v (.one (.bool b130))) []), (4, .dec true), (5, .call [] (.v (.one (.bool b133))) [])] [sB 4 b133] (hcons ((disk_Disk_Files_ok H16 p4 a128 e129).tr1 [(9001, .slc 1), (9000, .slc 8), (8900, .slc 314)] [(8, .arena false [] H16), (1, .apt 8 p4)] ⟨.arena' (bs := []), .apts' (κb := 8), trivial⟩) (hcons ((keep_Ints_ok a128 want118 b130 e131).tr1 [(9000, .slc 314), (9001, .slc 270)] [(314, .own 3 .i64 a128), (270, .own 3 .i64 want118)] ⟨.ownrd' (e := 3), .ownrd' (e := 3), trivial⟩) (hcons hb132 (hone (law14_wakes_ok  b133 e134 (pre := [])))))) ?_
                refine q_k ?_
                refine tr_ret ?_
                have h := Option.some.inj h
                subst h
                refine q_ls [sB 4 b133] ?_
                exact q_ret1 hT (.v (.one (.bool b133))) [] (by kernel_rfl) (by kernel_rfl) (by kernel_rfl)
              · refine tr_rg hT [(1, .callA [(8, .ro), (1, .apt 8)] (.v (.one (.slc 314))) [(314, .own 3 .i64 a128)]), (3, .call [314, 270] (.v (.one (.bool b130))) []), (4, .dec false)] [sB 4 false] (hcons ((disk_Disk_Files_ok H16 p4 a128 e129).tr1 [(9001, .slc 1), (9000, .slc 8), (8900, .slc 314)] [(8, .arena false [] H16), (1, .apt 8 p4)] ⟨.arena' (bs := []), .apts' (κb := 8), trivial⟩) (hcons ((keep_Ints_ok a128 want118 b130 e131).tr1 [(9000, .slc 314), (9001, .slc 270)] [(314, .own 3 .i64 a128), (270, .own 3 .i64 want118)] ⟨.ownrd' (e := 3), .ownrd' (e := 3), trivial⟩) (hone hb135))) ?_
                refine q_k ?_
                refine tr_ret ?_
                have h := Option.some.inj h
                subst h
                refine q_ls [sB 4 false] ?_
                exact q_ret1 hT (.v (.one (.bool false))) [] (by kernel_rfl) (by kernel_rfl) (by kernel_rfl)
            · clear h e127
              intro k ih7 hx7 z h
              obtain ⟨want116, n117⟩ := z
              replace h : (if (decide (n117 < (64 : Int))) = true then (show Option (List Int) from if (0 ≤ n117 ∧ n117 < ((64 : Nat) : Int)) ∧ MV.isP (MV.ptr (List.length ([] : AH)) 0) = true ∧ AH.ok H15 (MV.ptr (List.length ([] : AH)) 0) 0 1 = true then if AH.ok H15 (MV.ptr (List.length ([] : AH)) 0) (n117.toNat * 1 + 0) 1 = true then if MV.isB (AH.rd H15 (MV.ptr (List.length ([] : AH)) 0) (n117.toNat * 1 + 0)) = true then if (MV.tr (AH.rd H15 (MV.ptr (List.length ([] : AH)) 0) (n117.toNat * 1 + 0))) = true then if List.length (want116 ++ [n117]) ≤ maxN then some (want116 ++ [n117]) else none else some want116 else none else none else none).bind (fun want120 => law14_DiskFiles_l7 p4 H15 H16 k want120 (IntKind.i64.wrap (n117 + (1 : Int)))) else some want116) = _ := h
              refine tr_seq ?_
              refine tr_seq ?_
              refine tr_rg hT [] [sO 5 (.slc 1), sO 7 (.slc 4), sO 13 (.slc 269), sI 14 .i64 n117, sB 104 (decide (n117 < (64 : Int))), (.h 1, .e (.apt 8 p4)), (.h 4, .e (.apt 7 (MV.ptr (List.length ([] : AH)) 0))), (.h 7, .e (.arena true [] H15)), (.h 8, .e (.arena true [] H16)), hO 269 3 .i64 want116] hnil ?_
              refine q_k ?_
              rcases ite_split h with ⟨hc119, h⟩ | ⟨hc119, h⟩
              · refine tr_cond_t (decide (n117 < (64 : Int))) (by kernel_rfl) hc119 ?_
                refine tr_skip ?_
                refine q_k ?_
                refine tr_seq ?_
                obtain ⟨want120, e126, h⟩ := bind_some h
                refine tr_join (σ1 := [sO 5 (.slc 1), sO 7 (.slc 4), sO 13 (.slc 311), sI 14 .i64 n117, (.h 1, .e (.apt 8 p4)), (.h 4, .e (.apt 7 (MV.ptr (List.length ([] : AH)) 0))), (.h 7, .e (.arena true [] H15)), (.h 8, .e (.arena true [] H16)), hO 311 3 .i64 want120]) ?_ ?_
                · skip
                  replace h : (law14_DiskFiles_l7 p4 H15 H16 k want120 (IntKind.i64.wrap (n117 + (1 : Int)))) = _ := h
                  refine q_k ?_
                  refine tr_rg hT [] [sO 5 (.slc 1), sO 7 (.slc 4), sO 13 (.slc 311), sI 14 .i64 (IntKind.i64.wrap (n117 + (1 : Int))), (.h 1, .e (.apt 8 p4)), (.h 4, .e (.apt 7 (MV.ptr (List.length ([] : AH)) 0))), (.h 7, .e (.arena true [] H15)), (.h 8, .e (.arena true [] H16)), hO 311 3 .i64 want120] hnil ?_
                  refine q_kr ?_
                  exact trR_ft [(269, .slc 311)] [sO 5 (.slc 1), sO 7 (.slc 4), sO 13 (.slc 269), sI 14 .i64 (IntKind.i64.wrap (n117 + (1 : Int))), (.h 1, .e (.apt 8 p4)), (.h 4, .e (.apt 7 (MV.ptr (List.length ([] : AH)) 0))), (.h 7, .e (.arena true [] H15)), (.h 8, .e (.arena true [] H16)), hO 269 3 .i64 want120] ⟨.apts' (κb := 8), .apts' (κb := 7), .arena' (bs := []), .arena' (bs := []), .own', trivial⟩ (ih7 (want120, (IntKind.i64.wrap (n117 + (1 : Int)))) h)
                · intro hj8
                  clear h
                  have h := e126
                  clear e126
                  refine tr_block ?_
                  refine tr_seq ?_
                  obtain ⟨hn121, h⟩ := ite_some h
                  obtain ⟨hn122, h⟩ := ite_some h
                  obtain ⟨hn123, h⟩ := ite_some h
                  refine tr_rg hT [(1, .ar 7 []), (2, .ar 7 [])] [sO 5 (.slc 1), sO 7 (.slc 4), sO 13 (.slc 269), sI 14 .i64 n117, sB 109 (MV.tr (AH.rd H15 (MV.ptr (List.length ([] : AH)) 0) (n117.toNat * 1 + 0))), (.h 1, .e (.apt 8 p4)), (.h 4, .e (.apt 7 (MV.ptr (List.length ([] : AH)) 0))), (.h 7, .e (.arena true [] H15)), (.h 8, .e (.arena true [] H16)), hO 269 3 .i64 want116] (hcons hn121 (hcons hn122 (hone hn123))) ?_
                  refine q_k ?_
                  rcases ite_split h with ⟨hc124, h⟩ | ⟨hc124, h⟩
                  · refine tr_cond_t (MV.tr (AH.rd H15 (MV.ptr (List.length ([] : AH)) 0) (n117.toNat * 1 + 0))) (by kernel_rfl) hc124 ?_
                    obtain ⟨hn125, h⟩ := ite_some h
                    refine tr_rg hT [(2, .key 312), (3, .key 313)] [sO 5 (.slc 1), sO 7 (.slc 4), sO 13 (.slc 313), sI 14 .i64 n117, (.h 1, .e (.apt 8 p4)), (.h 4, .e (.apt 7 (MV.ptr (List.length ([] : AH)) 0))), (.h 7, .e (.arena true [] H15)), (.h 8, .e (.arena true [] H16)), hO 313 3 .i64 (want116 ++ [n117])] (hone hn125) ?_
                    refine q_b 4 ?_
                    have h := Option.some.inj h
                    subst h
                    exact q_ft [(311, .slc 313)] [sO 5 (.slc 1), sO 7 (.slc 4), sO 13 (.slc 311), sI 14 .i64 n117, (.h 1, .e (.apt 8 p4)), (.h 4, .e (.apt 7 (MV.ptr (List.length ([] : AH)) 0))), (.h 7, .e (.arena true [] H15)), (.h 8, .e (.arena true [] H16)), hO 311 3 .i64 (want116 ++ [n117])] ⟨.apts' (κb := 8), .apts' (κb := 7), .arena' (bs := []), .arena' (bs := []), .own', trivial⟩ hj8
                  · refine tr_cond_f (MV.tr (AH.rd H15 (MV.ptr (List.length ([] : AH)) 0) (n117.toNat * 1 + 0))) (by kernel_rfl) hc124 ?_
                    refine tr_skip ?_
                    refine q_b 4 ?_
                    have h := Option.some.inj h
                    subst h
                    exact q_ft [(311, .slc 269)] [sO 5 (.slc 1), sO 7 (.slc 4), sO 13 (.slc 311), sI 14 .i64 n117, (.h 1, .e (.apt 8 p4)), (.h 4, .e (.apt 7 (MV.ptr (List.length ([] : AH)) 0))), (.h 7, .e (.arena true [] H15)), (.h 8, .e (.arena true [] H16)), hO 311 3 .i64 want116] ⟨.apts' (κb := 8), .apts' (κb := 7), .arena' (bs := []), .arena' (bs := []), .own', trivial⟩ hj8
              · refine tr_cond_f (decide (n117 < (64 : Int))) (by kernel_rfl) hc119 ?_
                refine tr_exit ?_
                refine q_k_exit ?_
                refine q_kr_exit ?_
                have h := Option.some.inj h
                subst h
                exact q_ft [(270, .slc 269)] [sO 5 (.slc 1), sO 13 (.slc 270), (.h 1, .e (.apt 8 p4)), (.h 8, .e (.arena true [] H16)), hO 270 3 .i64 want116] ⟨.apts' (κb := 8), .arena' (bs := []), .own', trivial⟩ hx7
          · intro v σ hz hv
            subst hz
            have h := Option.some.inj h
            subst h
            refine q_b_ret ?_
            refine q_k_ret ?_
            exact q_ret1 hT _ _ hv.1 hv.2 (by kernel_rfl)
          · clear h e115
            intro k ih0 hx0 hr0 z h
            rcases z with ⟨H12, H13, i14⟩
            replace h : (if (decide (i14 < (↑(List.length l_0) : Int))) = true then if 0 ≤ i14 ∧ i14 < ↑(List.length l_0) then if (decide ((l_0.getD i14.toNat 0) ≥ (0 : Int))) = true then if (decide (i14 < (↑(List.length gone_1) : Int))) = true then if 0 ≤ i14 ∧ i14 < ↑(List.length gone_1) then if (gone_1.getD i14.toNat false) = true then (disk_Disk_Remove H13 p4 (l_0.getD i14.toNat 0)).bind (fun (r23, H24) => if (decide ((l_0.getD i14.toNat 0) < (64 : Int))) = true then if (0 ≤ (if (0 : Int) > (if (63 : Int) < (l_0.getD i14.toNat 0) then (63 : Int) else (l_0.getD i14.toNat 0)) then (0 : Int) else (if (63 : Int) < (l_0.getD i14.toNat 0) then (63 : Int) else (l_0.getD i14.toNat 0))) ∧ (if (0 : Int) > (if (63 : Int) < (l_0.getD i14.toNat 0) then (63 : Int) else (l_0.getD i14.toNat 0)) then (0 : Int) else (if (63 : Int) < (l_0.getD i14.toNat 0) then (63 : Int) else (l_0.getD i14.toNat 0))) < ((64 : Nat) : Int)) ∧ MV.isP (MV.ptr (List.length ([] : AH)) 0) = true ∧ AH.ok H12 (MV.ptr (List.length ([] : AH)) 0) 0 1 = true then if AH.ok H12 (MV.ptr (List.length ([] : AH)) 0) ((if (0 : Int) > (if (63 : Int) < (l_0.getD i14.toNat 0) then (63 : Int) else (l_0.getD i14.toNat 0)) then (0 : Int) else (if (63 : Int) < (l_0.getD i14.toNat 0) then (63 : Int) else (l_0.getD i14.toNat 0))).toNat * 1 + 0) 1 = true then if MV.isB (AH.rd H12 (MV.ptr (List.length ([] : AH)) 0) ((if (0 : Int) > (if (63 : Int) < (l_0.getD i14.toNat 0) then (63 : Int) else (l_0.getD i14.toNat 0)) then (0 : Int) else (if (63 : Int) < (l_0.getD i14.toNat 0) then (63 : Int) else (l_0.getD i14.toNat 0))).toNat * 1 + 0)) = true then if (!((r23 == (0 : Int)) == (MV.tr (AH.rd H12 (MV.ptr (List.length ([] : AH)) 0) ((if (0 : Int) > (if (63 : Int) < (l_0.getD i14.toNat 0) then (63 : Int) else (l_0.getD i14.toNat 0)) then (0 : Int) else (if (63 : Int) < (l_0.getD i14.toNat 0) then (63 : Int) else (l_0.getD i14.toNat 0))).toNat * 1 + 0))))) = true then some (.inr false) else if (r23 != (0 : Int)) = true then if (r23 != (10 : Int)) = true then some (.inr false) else (show Option (AH) from if (r23 == (0 : Int)) = true then if (0 ≤ (l_0.getD i14.toNat 0) ∧ (l_0.getD i14.toNat 0) < ((64 : Nat) : Int)) ∧ MV.isP (MV.ptr (List.length ([] : AH)) 0) = true ∧ AH.ok H12 (MV.ptr (List.length ([] : AH)) 0) 0 1 = true then if AH.ok H12 (MV.ptr (List.length ([] : AH)) 0) ((l_0.getD i14.toNat 0).toNat * 1 + 0) 1 = true then some (AH.wr H12 (MV.ptr (List.length ([] : AH)) 0) ((l_0.getD i14.toNat 0).toNat * 1 + 0) [MV.bool false]) else none else none else some H12).bind (fun H34 => law14_DiskFiles_l0 l_0 gone_1 p4 k H34 H24 (IntKind.i64.wrap (i14 + (1 : Int)))) else (show Option (AH) from if (r23 == (0 : Int)) = true then if (0 ≤ (l_0.getD i14.toNat 0) ∧ (l_0.getD i14.toNat 0) < ((64 : Nat) : Int)) ∧ MV.isP (MV.ptr (List.length ([] : AH)) 0) = true ∧ AH.ok H12 (MV.ptr (List.length ([] : AH)) 0) 0 1 = true then if AH.ok H12 (MV.ptr (List.length ([] : AH)) 0) ((l_0.getD i14.toNat 0).toNat * 1 + 0) 1 = true then some (AH.wr H12 (MV.ptr (List.length ([] : AH)) 0) ((l_0.getD i14.toNat 0).toNat * 1 + 0) [MV.bool false]) else none else none else some H12).bind (fun H40 => law14_DiskFiles_l0 l_0 gone_1 p4 k H40 H24 (IntKind.i64.wrap (i14 + (1 : Int)))) else none else none else none else if (!((r23 == (0 : Int)) == false)) = true then some (.inr false) else if (r23 != (0 : Int)) = true then if (r23 != (10 : Int)) = true then some (.inr false) else (show Option (AH) from if (r23 == (0 : Int)) = true then if (0 ≤ (l_0.getD i14.toNat 0) ∧ (l_0.getD i14.toNat 0) < ((64 : Nat) : Int)) ∧ MV.isP (MV.ptr (List.length ([] : AH)) 0) = true ∧ AH.ok H12 (MV.ptr (List.length ([] : AH)) 0) 0 1 = true then if AH.ok H12 (MV.ptr (List.length ([] : AH)) 0) ((l_0.getD i14.toNat 0).toNat * 1 + 0) 1 = true then some (AH.wr H12 (MV.ptr (List.length ([] : AH)) 0) ((l_0.getD i14.toNat 0).toNat * 1 + 0) [MV.bool false]) else none else none else some H12).bind (fun H50 => law14_DiskFiles_l0 l_0 gone_1 p4 k H50 H24 (IntKind.i64.wrap (i14 + (1 : Int)))) else (show Option (AH) from if (r23 == (0 : Int)) = true then if (0 ≤ (l_0.getD i14.toNat 0) ∧ (l_0.getD i14.toNat 0) < ((64 : Nat) : Int)) ∧ MV.isP (MV.ptr (List.length ([] : AH)) 0) = true ∧ AH.ok H12 (MV.ptr (List.length ([] : AH)) 0) 0 1 = true then if AH.ok H12 (MV.ptr (List.length ([] : AH)) 0) ((l_0.getD i14.toNat 0).toNat * 1 + 0) 1 = true then some (AH.wr H12 (MV.ptr (List.length ([] : AH)) 0) ((l_0.getD i14.toNat 0).toNat * 1 + 0) [MV.bool false]) else none else none else some H12).bind (fun H56 => law14_DiskFiles_l0 l_0 gone_1 p4 k H56 H24 (IntKind.i64.wrap (i14 + (1 : Int))))) else (disk_Disk_Create H13 p4 (l_0.getD i14.toNat 0)).bind (fun (r61, H62) => if (!(decide ((l_0.getD i14.toNat 0) < (64 : Int)))) = true then if (r61 != (1 : Int)) = true then some (.inr false) else law14_DiskFiles_l0 l_0 gone_1 p4 k H12 H62 (IntKind.i64.wrap (i14 + (1 : Int))) else if (0 ≤ (l_0.getD i14.toNat 0) ∧ (l_0.getD i14.toNat 0) < ((64 : Nat) : Int)) ∧ MV.isP (MV.ptr (List.length ([] : AH)) 0) = true ∧ AH.ok H12 (MV.ptr (List.length ([] : AH)) 0) 0 1 = true then if AH.ok H12 (MV.ptr (List.length ([] : AH)) 0) ((l_0.getD i14.toNat 0).toNat * 1 + 0) 1 = true then if MV.isB (AH.rd H12 (MV.ptr (List.length ([] : AH)) 0) ((l_0.getD i14.toNat 0).toNat * 1 + 0)) = true then if (MV.tr (AH.rd H12 (MV.ptr (List.length ([] : AH)) 0) ((l_0.getD i14.toNat 0).toNat * 1 + 0))) = true then if (r61 != (11 : Int)) = true then some (.inr false) else law14_DiskFiles_l0 l_0 gone_1 p4 k H12 H62 (IntKind.i64.wrap (i14 + (1 : Int))) else if (r61 != (0 : Int)) = true then some (.inr false) else law14_DiskFiles_l0 l_0 gone_1 p4 k (AH.wr H12 (MV.ptr (List.length ([] : AH)) 0) ((l_0.getD i14.toNat 0).toNat * 1 + 0) [MV.bool true]) H62 (IntKind.i64.wrap (i14 + (1 : Int))) else none else none else none) else none else (disk_Disk_Create H13 p4 (l_0.getD i14.toNat 0)).bind (fun (r73, H74) => if (!(decide ((l_0.getD i14.toNat 0) < (64 : Int)))) = true then if (r73 != (1 : Int)) = true then some (.inr false) else law14_DiskFiles_l0 l_0 gone_1 p4 k H12 H74 (IntKind.i64.wrap (i14 + (1 : Int))) else if (0 ≤ (l_0.getD i14.toNat 0) ∧ (l_0.getD i14.toNat 0) < ((64 : Nat) : Int)) ∧ MV.isP (MV.ptr (List.length ([] : AH)) 0) = true ∧ AH.ok H12 (MV.ptr (List.length ([] : AH)) 0) 0 1 = true then if AH.ok H12 (MV.ptr (List.length ([] : AH)) 0) ((l_0.getD i14.toNat 0).toNat * 1 + 0) 1 = true then if MV.isB (AH.rd H12 (MV.ptr (List.length ([] : AH)) 0) ((l_0.getD i14.toNat 0).toNat * 1 + 0)) = true then if (MV.tr (AH.rd H12 (MV.ptr (List.length ([] : AH)) 0) ((l_0.getD i14.toNat 0).toNat * 1 + 0))) = true then if (r73 != (11 : Int)) = true then some (.inr false) else law14_DiskFiles_l0 l_0 gone_1 p4 k H12 H74 (IntKind.i64.wrap (i14 + (1 : Int))) else if (r73 != (0 : Int)) = true then some (.inr false) else law14_DiskFiles_l0 l_0 gone_1 p4 k (AH.wr H12 (MV.ptr (List.length ([] : AH)) 0) ((l_0.getD i14.toNat 0).toNat * 1 + 0) [MV.bool true]) H74 (IntKind.i64.wrap (i14 + (1 : Int))) else none else none else none) else if (decide (i14 < (↑(List.length gone_1) : Int))) = true then if 0 ≤ i14 ∧ i14 < ↑(List.length gone_1) then if (gone_1.getD i14.toNat false) = true then (disk_Disk_Remove H13 p4 (l_0.getD i14.toNat 0)).bind (fun (r88, H89) => if (!((r88 == (0 : Int)) == false)) = true then some (.inr false) else if (r88 != (0 : Int)) = true then if (r88 != (10 : Int)) = true then some (.inr false) else (show Option (AH) from if (r88 == (0 : Int)) = true then if (0 ≤ (l_0.getD i14.toNat 0) ∧ (l_0.getD i14.toNat 0) < ((64 : Nat) : Int)) ∧ MV.isP (MV.ptr (List.length ([] : AH)) 0) = true ∧ AH.ok H12 (MV.ptr (List.length ([] : AH)) 0) 0 1 = true then if AH.ok H12 (MV.ptr (List.length ([] : AH)) 0) ((l_0.getD i14.toNat 0).toNat * 1 + 0) 1 = true then some (AH.wr H12 (MV.ptr (List.length ([] : AH)) 0) ((l_0.getD i14.toNat 0).toNat * 1 + 0) [MV.bool false]) else none else none else some H12).bind (fun H95 => law14_DiskFiles_l0 l_0 gone_1 p4 k H95 H89 (IntKind.i64.wrap (i14 + (1 : Int)))) else (show Option (AH) from if (r88 == (0 : Int)) = true then if (0 ≤ (l_0.getD i14.toNat 0) ∧ (l_0.getD i14.toNat 0) < ((64 : Nat) : Int)) ∧ MV.isP (MV.ptr (List.length ([] : AH)) 0) = true ∧ AH.ok H12 (MV.ptr (List.length ([] : AH)) 0) 0 1 = true then if AH.ok H12 (MV.ptr (List.length ([] : AH)) 0) ((l_0.getD i14.toNat 0).toNat * 1 + 0) 1 = true then some (AH.wr H12 (MV.ptr (List.length ([] : AH)) 0) ((l_0.getD i14.toNat 0).toNat * 1 + 0) [MV.bool false]) else none else none else some H12).bind (fun H101 => law14_DiskFiles_l0 l_0 gone_1 p4 k H101 H89 (IntKind.i64.wrap (i14 + (1 : Int))))) else (disk_Disk_Create H13 p4 (l_0.getD i14.toNat 0)).bind (fun (r106, H107) => if (r106 != (1 : Int)) = true then some (.inr false) else law14_DiskFiles_l0 l_0 gone_1 p4 k H12 H107 (IntKind.i64.wrap (i14 + (1 : Int)))) else none else (disk_Disk_Create H13 p4 (l_0.getD i14.toNat 0)).bind (fun (r111, H112) => if (r111 != (1 : Int)) = true then some (.inr false) else law14_DiskFiles_l0 l_0 gone_1 p4 k H12 H112 (IntKind.i64.wrap (i14 + (1 : Int)))) else none else some (.inl (H12, H13))) = _ := h
            refine tr_seq ?_
            refine tr_seq ?_
            refine tr_rg hT [] [sO 0 (.slc 9000), sO 1 (.slc 9001), sO 5 (.slc 1), sO 7 (.slc 4), sI 8 .i64 i14, sB 36 (decide (i14 < (↑(List.length l_0) : Int))), (.h 1, .e (.apt 6 p4)), (.h 4, .e (.apt 5 (MV.ptr (List.length ([] : AH)) 0))), (.h 5, .e (.arena true [] H12)), (.h 6, .e (.arena true [] H13)), hR 9000 .i64 l_0, (.h 9001, .e (.rdb gone_1))] hnil ?_
            refine q_k ?_
            rcases ite_split h with ⟨hc17, h⟩ | ⟨hc17, h⟩
            · refine tr_cond_t (decide (i14 < (↑(List.length l_0) : Int))) (by kernel_rfl) hc17 ?_
              refine tr_skip ?_
              refine q_k ?_
              refine tr_seq ?_
              refine tr_block ?_
              refine tr_seq ?_
              obtain ⟨hn18, h⟩ := ite_some h
              refine tr_rg hT [] [sO 0 (.slc 9000), sO 1 (.slc 9001), sO 5 (.slc 1), sO 7 (.slc 4), sI 8 .i64 i14, sI 9 .i64 (l_0.getD i14.toNat 0), (.h 1, .e (.apt 6 p4)), (.h 4, .e (.apt 5 (MV.ptr (List.length ([] : AH)) 0))), (.h 5, .e (.arena true [] H12)), (.h 6, .e (.arena true [] H13)), hR 9000 .i64 l_0, (.h 9001, .e (.rdb gone_1))] (hcons hn18 (hone hn18.2)) ?_
              refine q_k ?_
              refine tr_seq ?_
              rcases ite_split h with ⟨hb19, h⟩ | ⟨hb84, h⟩
              · refine tr_rg hT [(2, .dec true)] [sO 0 (.slc 9000), sO 1 (.slc 9001), sO 5 (.slc 1), sO 7 (.slc 4), sI 8 .i64 i14, sI 9 .i64 (l_0.getD i14.toNat 0), sB 10 (decide ((l_0.getD i14.toNat 0) < (64 : Int))), (.h 1, .e (.apt 6 p4)), (.h 4, .e (.apt 5 (MV.ptr (List.length ([] : AH)) 0))), (.h 5, .e (.arena true [] H12)), (.h 6, .e (.arena true [] H13)), hR 9000 .i64 l_0, (.h 9001, .e (.rdb gone_1))] (hone hb19) ?_
                refine q_k ?_
                refine tr_seq ?_
                refine tr_seq ?_
                rcases ite_split h with ⟨hb20, h⟩ | ⟨hb72, h⟩
                · obtain ⟨hn21, h⟩ := ite_some h
                  refine tr_rg hT [(2, .bb []), (4, .dec true), (7, .bb []), (8, .bb [])] [sO 0 (.slc 9000), sO 1 (.slc 9001), sO 5 (.slc 1), sO 7 (.slc 4), sI 8 .i64 i14, sI 9 .i64 (l_0.getD i14.toNat 0), sB 10 (decide ((l_0.getD i14.toNat 0) < (64 : Int))), sB 58 (gone_1.getD i14.toNat false), (.h 1, .e (.apt 6 p4)), (.h 4, .e (.apt 5 (MV.ptr (List.length ([] : AH)) 0))), (.h 5, .e (.arena true [] H12)), (.h 6, .e (.arena true [] H13)), hR 9000 .i64 l_0, (.h 9001, .e (.rdb gone_1))] (hcons hb20 (hcons hn21 (hone hn21.2))) ?_
                  refine q_k ?_
                  rcases ite_split h with ⟨hc22, h⟩ | ⟨hc22, h⟩
                  · refine tr_cond_t (gone_1.getD i14.toNat false) (by kernel_rfl) hc22 ?_
                    refine tr_seq ?_
                    obtain ⟨⟨r23, H24⟩, e25, h⟩ := bind_some h
                    refine tr_rg hT [(2, .callA [(6, .rw), (1, .apt 6)] (.v (.one (.int .i64 r23))) [(9, .arena true [6] H24), (6, .dead)])] [sO 0 (.slc 9000), sO 1 (.slc 9001), sO 5 (.slc 1), sO 7 (.slc 4), sI 8 .i64 i14, sI 9 .i64 (l_0.getD i14.toNat 0), sB 10 (decide ((l_0.getD i14.toNat 0) < (64 : Int))), sI 11 .i64 r23, (.h 1, .e (.apt 6 p4)), (.h 4, .e (.apt 5 (MV.ptr (List.length ([] : AH)) 0))), (.h 5, .e (.arena true [] H12)), (.h 9, .e (.arena true [6] H24)), hR 9000 .i64 l_0, (.h 9001, .e (.rdb gone_1))] (hone ((disk_Disk_Remove_ok H13 p4 (l_0.getD i14.toNat 0) (r23, H24) e25).tr1 [(9001, .slc 1), (9000, .slc 6), (8900, .slc 9)] [(6, .arena true [] H13), (1, .apt 6 p4)] ⟨.arena' (bs := []), .apts' (κb := 6), trivial⟩)) ?_
                    refine q_k ?_
                    refine tr_seq ?_
                    refine tr_seq ?_
                    rcases ite_split h with ⟨hb26, h⟩ | ⟨hb45, h⟩
                    · obtain ⟨hn27, h⟩ := ite_some h
                      obtain ⟨hn28, h⟩ := ite_some h
                      obtain ⟨hn29, h⟩ := ite_some h
                      rcases ite_split h with ⟨hb30, h⟩ | ⟨hb31, h⟩
                      · refine tr_rg hT [(3, .dec true), (7, .ar 5 []), (8, .ar 5 []), (11, .dec true)] [sO 0 (.slc 9000), sO 1 (.slc 9001), sO 5 (.slc 1), sO 7 (.slc 4), sI 8 .i64 i14, sI 9 .i64 (l_0.getD i14.toNat 0), sI 11 .i64 r23, sB 80 true, (.h 1, .e (.apt 6 p4)), (.h 4, .e (.apt 5 (MV.ptr (List.length ([] : AH)) 0))), (.h 5, .e (.arena true [] H12)), (.h 9, .e (.arena true [6] H24)), hR 9000 .i64 l_0, (.h 9001, .e (.rdb gone_1))] (hcons hb26 (hcons hn27 (hcons hn28 (hcons hn29 (hone hb30))))) ?_
                        refine q_k ?_
                        refine tr_cond_t true (by kernel_rfl) rfl ?_
                        refine tr_seq ?_
                        refine tr_rg hT [] [sB 4 false] hnil ?_
                        refine q_k ?_
                        refine tr_ret ?_
                        refine q_k_ret ?_
                        refine q_k_ret ?_
                        refine q_b_ret ?_
                        refine q_k_ret ?_
                        refine q_kr_ret ?_
                        have h := Option.some.inj h
                        subst h
                        exact q_ls [sB 4 false] (hr0 false _ rfl ⟨by kernel_rfl, by kernel_rfl⟩)
                      · rcases ite_split h with ⟨hb32, h⟩ | ⟨hb39, h⟩
                        · refine tr_rg hT [(3, .dec true), (7, .ar 5 []), (8, .ar 5 []), (11, .dec false), (14, .dec true)] [sO 0 (.slc 9000), sO 1 (.slc 9001), sO 5 (.slc 1), sO 7 (.slc 4), sI 8 .i64 i14, sI 9 .i64 (l_0.getD i14.toNat 0), sI 11 .i64 r23, sB 80 (r23 != (10 : Int)), (.h 1, .e (.apt 6 p4)), (.h 4, .e (.apt 5 (MV.ptr (List.length ([] : AH)) 0))), (.h 5, .e (.arena true [] H12)), (.h 9, .e (.arena true [6] H24)), hR 9000 .i64 l_0, (.h 9001, .e (.rdb gone_1))] (hcons hb26 (hcons hn27 (hcons hn28 (hcons hn29 (hcons hb31 (hone hb32)))))) ?_
                          refine q_k ?_
                          rcases ite_split h with ⟨hc33, h⟩ | ⟨hc33, h⟩
                          · refine tr_cond_t (r23 != (10 : Int)) (by kernel_rfl) hc33 ?_
                            refine tr_seq ?_
                            refine tr_rg hT [] [sB 4 false] hnil ?_
                            refine q_k ?_
                            refine tr_ret ?_
                            refine q_k_ret ?_
                            refine q_k_ret ?_
                            refine q_b_ret ?_
                            refine q_k_ret ?_
                            refine q_kr_ret ?_
                            have h := Option.some.inj h
                            subst h
                            exact q_ls [sB 4 false] (hr0 false _ rfl ⟨by kernel_rfl, by kernel_rfl⟩)
                          · refine tr_cond_f (r23 != (10 : Int)) (by kernel_rfl) hc33 ?_
                            refine tr_skip ?_
                            refine q_k ?_
                            refine tr_seq ?_
                            refine tr_seq ?_
                            refine tr_rg hT [] [sO 0 (.slc 9000), sO 1 (.slc 9001), sO 5 (.slc 1), sO 7 (.slc 4), sI 8 .i64 i14, sI 9 .i64 (l_0.getD i14.toNat 0), sB 82 (r23 == (0 : Int)), (.h 1, .e (.apt 6 p4)), (.h 4, .e (.apt 5 (MV.ptr (List.length ([] : AH)) 0))), (.h 5, .e (.arena true [] H12)), (.h 9, .e (.arena true [6] H24)), hR 9000 .i64 l_0, (.h 9001, .e (.rdb gone_1))] hnil ?_
                            refine q_k ?_
                            obtain ⟨H34, e38, h⟩ := bind_some h
                            refine tr_join (σ1 := [sO 0 (.slc 9000), sO 1 (.slc 9001), sO 5 (.slc 1), sO 7 (.slc 4), sI 8 .i64 i14, (.h 1, .e (.apt 6 p4)), (.h 4, .e (.apt 50 (MV.ptr (List.length ([] : AH)) 0))), (.h 9, .e (.arena true [6] H24)), (.h 50, .e (.arena true [] H34)), hR 9000 .i64 l_0, (.h 9001, .e (.rdb gone_1))]) ?_ ?_
                            · skip
                              replace h : (law14_DiskFiles_l0 l_0 gone_1 p4 k H34 H24 (IntKind.i64.wrap (i14 + (1 : Int)))) = _ := h
                              refine q_k ?_
                              refine tr_exit ?_
                              refine q_k_exit ?_
                              refine q_b_this ?_
                              refine q_k ?_
                              refine tr_rg hT [] [sO 0 (.slc 9000), sO 1 (.slc 9001), sO 5 (.slc 1), sO 7 (.slc 4), sI 8 .i64 (IntKind.i64.wrap (i14 + (1 : Int))), (.h 1, .e (.apt 6 p4)), (.h 4, .e (.apt 50 (MV.ptr (List.length ([] : AH)) 0))), (.h 9, .e (.arena true [6] H24)), (.h 50, .e (.arena true [] H34)), hR 9000 .i64 l_0, (.h 9001, .e (.rdb gone_1))] hnil ?_
                              refine q_kr ?_
                              exact trR_ft [(5, .slc 50), (6, .slc 9)] [sO 0 (.slc 9000), sO 1 (.slc 9001), sO 5 (.slc 1), sO 7 (.slc 4), sI 8 .i64 (IntKind.i64.wrap (i14 + (1 : Int))), (.h 1, .e (.apt 6 p4)), (.h 4, .e (.apt 5 (MV.ptr (List.length ([] : AH)) 0))), (.h 5, .e (.arena true [] H34)), (.h 6, .e (.arena true [] H24)), hR 9000 .i64 l_0, (.h 9001, .e (.rdb gone_1))] ⟨.apt' (κb := 6) (κ0 := 9) (rw := true) (bs := [6]) (D := H24), .apt' (κb := 50) (κ0 := 50) (rw := true) (bs := []) (D := H34), .arena' (bs := []), .arena' (bs := [6]), .rd', .rdb', trivial⟩ (ih0 (H34, H24, (IntKind.i64.wrap (i14 + (1 : Int)))) h)
                            · intro hj1
                              clear h
                              have h := e38
                              clear e38
                              rcases ite_split h with ⟨hc35, h⟩ | ⟨hc35, h⟩
                              · refine tr_cond_t (r23 == (0 : Int)) (by kernel_rfl) hc35 ?_
                                obtain ⟨hn36, h⟩ := ite_some h
                                obtain ⟨hn37, h⟩ := ite_some h
                                refine tr_rg hT [(1, .ar 5 []), (2, .ar 5 [51])] [sO 0 (.slc 9000), sO 1 (.slc 9001), sO 5 (.slc 1), sO 7 (.slc 4), sI 8 .i64 i14, (.h 1, .e (.apt 6 p4)), (.h 4, .e (.apt 5 (MV.ptr (List.length ([] : AH)) 0))), (.h 9, .e (.arena true [6] H24)), (.h 51, .e (.arena true [5] (AH.wr H12 (MV.ptr (List.length ([] : AH)) 0) ((l_0.getD i14.toNat 0).toNat * 1 + 0) [MV.bool false]))), hR 9000 .i64 l_0, (.h 9001, .e (.rdb gone_1))] (hcons hn36 (hcons hn37 (hone (show 1 ≤ 1 from by decide)))) ?_
                                have h := Option.some.inj h
                                subst h
                                exact q_ft [(50, .slc 51)] [sO 0 (.slc 9000), sO 1 (.slc 9001), sO 5 (.slc 1), sO 7 (.slc 4), sI 8 .i64 i14, (.h 1, .e (.apt 6 p4)), (.h 4, .e (.apt 50 (MV.ptr (List.length ([] : AH)) 0))), (.h 9, .e (.arena true [6] H24)), (.h 50, .e (.arena true [] (AH.wr H12 (MV.ptr (List.length ([] : AH)) 0) ((l_0.getD i14.toNat 0).toNat * 1 + 0) [MV.bool false]))), hR 9000 .i64 l_0, (.h 9001, .e (.rdb gone_1))] ⟨.apts' (κb := 6), .apt' (κb := 5) (κ0 := 51) (rw := true) (bs := [5]) (D := (AH.wr H12 (MV.ptr (List.length ([] : AH)) 0) ((l_0.getD i14.toNat 0).toNat * 1 + 0) [MV.bool false])), .arena' (bs := [6]), .arena' (bs := [5]), .rd', .rdb', trivial⟩ hj1
                              · refine tr_cond_f (r23 == (0 : Int)) (by kernel_rfl) hc35 ?_
                                refine tr_skip ?_
                                have h := Option.some.inj h
                                subst h
                                exact q_ft [(50, .slc 5)] [sO 0 (.slc 9000), sO 1 (.slc 9001), sO 5 (.slc 1), sO 7 (.slc 4), sI 8 .i64 i14, (.h 1, .e (.apt 6 p4)), (.h 4, .e (.apt 50 (MV.ptr (List.length ([] : AH)) 0))), (.h 9, .e (.arena true [6] H24)), (.h 50, .e (.arena true [] H12)), hR 9000 .i64 l_0, (.h 9001, .e (.rdb gone_1))] ⟨.apts' (κb := 6), .apt' (κb := 5) (κ0 := 5) (rw := true) (bs := []) (D := H12), .arena' (bs := [6]), .arena' (bs := []), .rd', .rdb', trivial⟩ hj1
                        · refine tr_rg hT [(3, .dec true), (7, .ar 5 []), (8, .ar 5 []), (11, .dec false), (14, .dec false)] [sO 0 (.slc 9000), sO 1 (.slc 9001), sO 5 (.slc 1), sO 7 (.slc 4), sI 8 .i64 i14, sI 9 .i64 (l_0.getD i14.toNat 0), sI 11 .i64 r23, sB 80 false, (.h 1, .e (.apt 6 p4)), (.h 4, .e (.apt 5 (MV.ptr (List.length ([] : AH)) 0))), (.h 5, .e (.arena true [] H12)), (.h 9, .e (.arena true [6] H24)), hR 9000 .i64 l_0, (.h 9001, .e (.rdb gone_1))] (hcons hb26 (hcons hn27 (hcons hn28 (hcons hn29 (hcons hb31 (hone hb39)))))) ?_
                          refine q_k ?_
                          refine tr_cond_f false (by kernel_rfl) rfl ?_
                          refine tr_skip ?_
                          refine q_k ?_
                          refine tr_seq ?_
                          refine tr_seq ?_
                          refine tr_rg hT [] [sO 0 (.slc 9000), sO 1 (.slc 9001), sO 5 (.slc 1), sO 7 (.slc 4), sI 8 .i64 i14, sI 9 .i64 (l_0.getD i14.toNat 0), sB 82 (r23 == (0 : Int)), (.h 1, .e (.apt 6 p4)), (.h 4, .e (.apt 5 (MV.ptr (List.length ([] : AH)) 0))), (.h 5, .e (.arena true [] H12)), (.h 9, .e (.arena true [6] H24)), hR 9000 .i64 l_0, (.h 9001, .e (.rdb gone_1))] hnil ?_
                          refine q_k ?_
                          obtain ⟨H40, e44, h⟩ := bind_some h
                          refine tr_join (σ1 := [sO 0 (.slc 9000), sO 1 (.slc 9001), sO 5 (.slc 1), sO 7 (.slc 4), sI 8 .i64 i14, (.h 1, .e (.apt 6 p4)), (.h 4, .e (.apt 92 (MV.ptr (List.length ([] : AH)) 0))), (.h 9, .e (.arena true [6] H24)), (.h 92, .e (.arena true [] H40)), hR 9000 .i64 l_0, (.h 9001, .e (.rdb gone_1))]) ?_ ?_
                          · skip
                            replace h : (law14_DiskFiles_l0 l_0 gone_1 p4 k H40 H24 (IntKind.i64.wrap (i14 + (1 : Int)))) = _ := h
                            refine q_k ?_
                            refine tr_exit ?_
                            refine q_k_exit ?_
                            refine q_b_this ?_
                            refine q_k ?_
                            refine tr_rg hT [] [sO 0 (.slc 9000), sO 1 (.slc 9001), sO 5 (.slc 1), sO 7 (.slc 4), sI 8 .i64 (IntKind.i64.wrap (i14 + (1 : Int))), (.h 1, .e (.apt 6 p4)), (.h 4, .e (.apt 92 (MV.ptr (List.length ([] : AH)) 0))), (.h 9, .e (.arena true [6] H24)), (.h 92, .e (.arena true [] H40)), hR 9000 .i64 l_0, (.h 9001, .e (.rdb gone_1))] hnil ?_
                            refine q_kr ?_
                            exact trR_ft [(5, .slc 92), (6, .slc 9)] [sO 0 (.slc 9000), sO 1 (.slc 9001), sO 5 (.slc 1), sO 7 (.slc 4), sI 8 .i64 (IntKind.i64.wrap (i14 + (1 : Int))), (.h 1, .e (.apt 6 p4)), (.h 4, .e (.apt 5 (MV.ptr (List.length ([] : AH)) 0))), (.h 5, .e (.arena true [] H40)), (.h 6, .e (.arena true [] H24)), hR 9000 .i64 l_0, (.h 9001, .e (.rdb gone_1))] ⟨.apt' (κb := 6) (κ0 := 9) (rw := true) (bs := [6]) (D := H24), .apt' (κb := 92) (κ0 := 92) (rw := true) (bs := []) (D := H40), .arena' (bs := []), .arena' (bs := [6]), .rd', .rdb', trivial⟩ (ih0 (H40, H24, (IntKind.i64.wrap (i14 + (1 : Int)))) h)
                          · intro hj2
                            clear h
                            have h := e44
                            clear e44
                            rcases ite_split h with ⟨hc41, h⟩ | ⟨hc41, h⟩
                            · refine tr_cond_t (r23 == (0 : Int)) (by kernel_rfl) hc41 ?_
                              obtain ⟨hn42, h⟩ := ite_some h
                              obtain ⟨hn43, h⟩ := ite_some h
                              refine tr_rg hT [(1, .ar 5 []), (2, .ar 5 [93])] [sO 0 (.slc 9000), sO 1 (.slc 9001), sO 5 (.slc 1), sO 7 (.slc 4), sI 8 .i64 i14, (.h 1, .e (.apt 6 p4)), (.h 4, .e (.apt 5 (MV.ptr (List.length ([] : AH)) 0))), (.h 9, .e (.arena true [6] H24)), (.h 93, .e (.arena true [5] (AH.wr H12 (MV.ptr (List.length ([] : AH)) 0) ((l_0.getD i14.toNat 0).toNat * 1 + 0) [MV.bool false]))), hR 9000 .i64 l_0, (.h 9001, .e (.rdb gone_1))] (hcons hn42 (hcons hn43 (hone (show 1 ≤ 1 from by decide)))) ?_
                              have h := Option.some.inj h
                              subst h
                              exact q_ft [(92, .slc 93)] [sO 0 (.slc 9000), sO 1 (.slc 9001), sO 5 (.slc 1), sO 7 (.slc 4), sI 8 .i64 i14, (.h 1, .e (.apt 6 p4)), (.h 4, .e (.apt 92 (MV.ptr (List.length ([] : AH)) 0))), (.h 9, .e (.arena true [6] H24)), (.h 92, .e (.arena true [] (AH.wr H12 (MV.ptr (List.length ([] : AH)) 0) ((l_0.getD i14.toNat 0).toNat * 1 + 0) [MV.bool false]))), hR 9000 .i64 l_0, (.h 9001, .e (.rdb gone_1))] ⟨.apts' (κb := 6), .apt' (κb := 5) (κ0 := 93) (rw := true) (bs := [5]) (D := (AH.wr H12 (MV.ptr (List.length ([] : AH)) 0) ((l_0.getD i14.toNat 0).toNat * 1 + 0) [MV.bool false])), .arena' (bs := [6]), .arena' (bs := [5]), .rd', .rdb', trivial⟩ hj2
                            · refine tr_cond_f (r23 == (0 : Int)) (by kernel_rfl) hc41 ?_
                              refine tr_skip ?_
                              have h := Option.some.inj h
                              subst h
                              exact q_ft [(92, .slc 5)] [sO 0 (.slc 9000), sO 1 (.slc 9001), sO 5 (.slc 1), sO 7 (.slc 4), sI 8 .i64 i14, (.h 1, .e (.apt 6 p4)), (.h 4, .e (.apt 92 (MV.ptr (List.length ([] : AH)) 0))), (.h 9, .e (.arena true [6] H24)), (.h 92, .e (.arena true [] H12)), hR 9000 .i64 l_0, (.h 9001, .e (.rdb gone_1))] ⟨.apts' (κb := 6), .apt' (κb := 5) (κ0 := 5) (rw := true) (bs := []) (D := H12), .arena' (bs := [6]), .arena' (bs := []), .rd', .rdb', trivial⟩ hj2
                    · rcases ite_split h with ⟨hb46, h⟩ | ⟨hb47, h⟩
                      · refine tr_rg hT [(3, .dec false), (11, .dec true)] [sO 0 (.slc 9000), sO 1 (.slc 9001), sO 5 (.slc 1), sO 7 (.slc 4), sI 8 .i64 i14, sI 9 .i64 (l_0.getD i14.toNat 0), sI 11 .i64 r23, sB 80 true, (.h 1, .e (.apt 6 p4)), (.h 4, .e (.apt 5 (MV.ptr (List.length ([] : AH)) 0))), (.h 5, .e (.arena true [] H12)), (.h 9, .e (.arena true [6] H24)), hR 9000 .i64 l_0, (.h 9001, .e (.rdb gone_1))] (hcons hb45 (hone hb46)) ?_
                        refine q_k ?_
                        refine tr_cond_t true (by kernel_rfl) rfl ?_
                        refine tr_seq ?_
                        refine tr_rg hT [] [sB 4 false] hnil ?_
                        refine q_k ?_
                        refine tr_ret ?_
                        refine q_k_ret ?_
                        refine q_k_ret ?_
                        refine q_b_ret ?_
                        refine q_k_ret ?_
                        refine q_kr_ret ?_
                        have h := Option.some.inj h
                        subst h
                        exact q_ls [sB 4 false] (hr0 false _ rfl ⟨by kernel_rfl, by kernel_rfl⟩)
                      · rcases ite_split h with ⟨hb48, h⟩ | ⟨hb55, h⟩
                        · refine tr_rg hT [(3, .dec false), (11, .dec false), (14, .dec true)] [sO 0 (.slc 9000), sO 1 (.slc 9001), sO 5 (.slc 1), sO 7 (.slc 4), sI 8 .i64 i14, sI 9 .i64 (l_0.getD i14.toNat 0), sI 11 .i64 r23, sB 80 (r23 != (10 : Int)), (.h 1, .e (.apt 6 p4)), (.h 4, .e (.apt 5 (MV.ptr (List.length ([] : AH)) 0))), (.h 5, .e (.arena true [] H12)), (.h 9, .e (.arena true [6] H24)), hR 9000 .i64 l_0, (.h 9001, .e (.rdb gone_1))] (hcons hb45 (hcons hb47 (hone hb48))) ?_
                          refine q_k ?_
                          rcases ite_split h with ⟨hc49, h⟩ | ⟨hc49, h⟩
                          · refine tr_cond_t (r23 != (10 : Int)) (by kernel_rfl) hc49 ?_
                            refine tr_seq ?_
                            refine tr_rg hT [] [sB 4 false] hnil ?_
                            refine q_k ?_
                            refine tr_ret ?_
                            refine q_k_ret ?_
                            refine q_k_ret ?_
                            refine q_b_ret ?_
                            refine q_k_ret ?_
                            refine q_kr_ret ?_
                            have h := Option.some.inj h
                            subst h
                            exact q_ls [sB 4 false] (hr0 false _ rfl ⟨by kernel_rfl, by kernel_rfl⟩)
                          · refine tr_cond_f (r23 != (10 : Int)) (by kernel_rfl) hc49 ?_
                            refine tr_skip ?_
                            refine q_k ?_
                            refine tr_seq ?_
                            refine tr_seq ?_
                            refine tr_rg hT [] [sO 0 (.slc 9000), sO 1 (.slc 9001), sO 5 (.slc 1), sO 7 (.slc 4), sI 8 .i64 i14, sI 9 .i64 (l_0.getD i14.toNat 0), sB 82 (r23 == (0 : Int)), (.h 1, .e (.apt 6 p4)), (.h 4, .e (.apt 5 (MV.ptr (List.length ([] : AH)) 0))), (.h 5, .e (.arena true [] H12)), (.h 9, .e (.arena true [6] H24)), hR 9000 .i64 l_0, (.h 9001, .e (.rdb gone_1))] hnil ?_
                            refine q_k ?_
                            obtain ⟨H50, e54, h⟩ := bind_some h
                            refine tr_join (σ1 := [sO 0 (.slc 9000), sO 1 (.slc 9001), sO 5 (.slc 1), sO 7 (.slc 4), sI 8 .i64 i14, (.h 1, .e (.apt 6 p4)), (.h 4, .e (.apt 134 (MV.ptr (List.length ([] : AH)) 0))), (.h 9, .e (.arena true [6] H24)), (.h 134, .e (.arena true [] H50)), hR 9000 .i64 l_0, (.h 9001, .e (.rdb gone_1))]) ?_ ?_
                            · skip
                              replace h : (law14_DiskFiles_l0 l_0 gone_1 p4 k H50 H24 (IntKind.i64.wrap (i14 + (1 : Int)))) = _ := h
                              refine q_k ?_
                              refine tr_exit ?_
                              refine q_k_exit ?_
                              refine q_b_this ?_
                              refine q_k ?_
                              refine tr_rg hT [] [sO 0 (.slc 9000), sO 1 (.slc 9001), sO 5 (.slc 1), sO 7 (.slc 4), sI 8 .i64 (IntKind.i64.wrap (i14 + (1 : Int))), (.h 1, .e (.apt 6 p4)), (.h 4, .e (.apt 134 (MV.ptr (List.length ([] : AH)) 0))), (.h 9, .e (.arena true [6] H24)), (.h 134, .e (.arena true [] H50)), hR 9000 .i64 l_0, (.h 9001, .e (.rdb gone_1))] hnil ?_
                              refine q_kr ?_
                              exact trR_ft [(5, .slc 134), (6, .slc 9)] [sO 0 (.slc 9000), sO 1 (.slc 9001), sO 5 (.slc 1), sO 7 (.slc 4), sI 8 .i64 (IntKind.i64.wrap (i14 + (1 : Int))), (.h 1, .e (.apt 6 p4)), (.h 4, .e (.apt 5 (MV.ptr (List.length ([] : AH)) 0))), (.h 5, .e (.arena true [] H50)), (.h 6, .e (.arena true [] H24)), hR 9000 .i64 l_0, (.h 9001, .e (.rdb gone_1))] ⟨.apt' (κb := 6) (κ0 := 9) (rw := true) (bs := [6]) (D := H24), .apt' (κb := 134) (κ0 := 134) (rw := true) (bs := []) (D := H50), .arena' (bs := []), .arena' (bs := [6]), .rd', .rdb', trivial⟩ (ih0 (H50, H24, (IntKind.i64.wrap (i14 + (1 : Int)))) h)
                            · intro hj3
                              clear h
                              have h := e54
                              clear e54
                              rcases ite_split h with ⟨hc51, h⟩ | ⟨hc51, h⟩
                              · refine tr_cond_t (r23 == (0 : Int)) (by kernel_rfl) hc51 ?_
                                obtain ⟨hn52, h⟩ := ite_some h
                                obtain ⟨hn53, h⟩ := ite_some h
                                refine tr_rg hT [(1, .ar 5 []), (2, .ar 5 [135])] [sO 0 (.slc 9000), sO 1 (.slc 9001), sO 5 (.slc 1), sO 7 (.slc 4), sI 8 .i64 i14, (.h 1, .e (.apt 6 p4)), (.h 4, .e (.apt 5 (MV.ptr (List.length ([] : AH)) 0))), (.h 9, .e (.arena true [6] H24)), (.h 135, .e (.arena true [5] (AH.wr H12 (MV.ptr (List.length ([] : AH)) 0) ((l_0.getD i14.toNat 0).toNat * 1 + 0) [MV.bool false]))), hR 9000 .i64 l_0, (.h 9001, .e (.rdb gone_1))] (hcons hn52 (hcons hn53 (hone (show 1 ≤ 1 from by decide)))) ?_
                                have h := Option.some.inj h
                                subst h
                                exact q_ft [(134, .slc 135)] [sO 0 (.slc 9000), sO 1 (.slc 9001), sO 5 (.slc 1), sO 7 (.slc 4), sI 8 .i64 i14, (.h 1, .e (.apt 6 p4)), (.h 4, .e (.apt 134 (MV.ptr (List.length ([] : AH)) 0))), (.h 9, .e (.arena true [6] H24)), (.h 134, .e (.arena true [] (AH.wr H12 (MV.ptr (List.length ([] : AH)) 0) ((l_0.getD i14.toNat 0).toNat * 1 + 0) [MV.bool false]))), hR 9000 .i64 l_0, (.h 9001, .e (.rdb gone_1))] ⟨.apts' (κb := 6), .apt' (κb := 5) (κ0 := 135) (rw := true) (bs := [5]) (D := (AH.wr H12 (MV.ptr (List.length ([] : AH)) 0) ((l_0.getD i14.toNat 0).toNat * 1 + 0) [MV.bool false])), .arena' (bs := [6]), .arena' (bs := [5]), .rd', .rdb', trivial⟩ hj3
                              · refine tr_cond_f (r23 == (0 : Int)) (by kernel_rfl) hc51 ?_
                                refine tr_skip ?_
                                have h := Option.some.inj h
                                subst h
                                exact q_ft [(134, .slc 5)] [sO 0 (.slc 9000), sO 1 (.slc 9001), sO 5 (.slc 1), sO 7 (.slc 4), sI 8 .i64 i14, (.h 1, .e (.apt 6 p4)), (.h 4, .e (.apt 134 (MV.ptr (List.length ([] : AH)) 0))), (.h 9, .e (.arena true [6] H24)), (.h 134, .e (.arena true [] H12)), hR 9000 .i64 l_0, (.h 9001, .e (.rdb gone_1))] ⟨.apts' (κb := 6), .apt' (κb := 5) (κ0 := 5) (rw := true) (bs := []) (D := H12), .arena' (bs := [6]), .arena' (bs := []), .rd', .rdb', trivial⟩ hj3
                        · refine tr_rg hT [(3, .dec false), (11, .dec false), (14, .dec false)] [sO 0 (.slc 9000), sO 1 (.slc 9001), sO 5 (.slc 1), sO 7 (.slc 4), sI 8 .i64 i14, sI 9 .i64 (l_0.getD i14.toNat 0), sI 11 .i64 r23, sB 80 false, (.h 1, .e (.apt 6 p4)), (.h 4, .e (.apt 5 (MV.ptr (List.length ([] : AH)) 0))), (.h 5, .e (.arena true [] H12)), (.h 9, .e (.arena true [6] H24)), hR 9000 .i64 l_0, (.h 9001, .e (.rdb gone_1))] (hcons hb45 (hcons hb47 (hone hb55))) ?_
                          refine q_k ?_
                          refine tr_cond_f false (by kernel_rfl) rfl ?_
                          refine tr_skip ?_
                          refine q_k ?_
                          refine tr_seq ?_
                          refine tr_seq ?_
                          refine tr_rg hT [] [sO 0 (.slc 9000), sO 1 (.slc 9001), sO 5 (.slc 1), sO 7 (.slc 4), sI 8 .i64 i14, sI 9 .i64 (l_0.getD i14.toNat 0), sB 82 (r23 == (0 : Int)), (.h 1, .e (.apt 6 p4)), (.h 4, .e (.apt 5 (MV.ptr (List.length ([] : AH)) 0))), (.h 5, .e (.arena true [] H12)), (.h 9, .e (.arena true [6] H24)), hR 9000 .i64 l_0, (.h 9001, .e (.rdb gone_1))] hnil ?_
                          refine q_k ?_
                          obtain ⟨H56, e60, h⟩ := bind_some h
                          refine tr_join (σ1 := [sO 0 (.slc 9000), sO 1 (.slc 9001), sO 5 (.slc 1), sO 7 (.slc 4), sI 8 .i64 i14, (.h 1, .e (.apt 6 p4)), (.h 4, .e (.apt 176 (MV.ptr (List.length ([] : AH)) 0))), (.h 9, .e (.arena true [6] H24)), (.h 176, .e (.arena true [] H56)), hR 9000 .i64 l_0, (.h 9001, .e (.rdb gone_1))]) ?_ ?_
                          · skip
                            replace h : (law14_DiskFiles_l0 l_0 gone_1 p4 k H56 H24 (IntKind.i64.wrap (i14 + (1 : Int)))) = _ := h
                            refine q_k ?_
                            refine tr_exit ?_
                            refine q_k_exit ?_
                            refine q_b_this ?_
                            refine q_k ?_
                            refine tr_rg hT [] [sO 0 (.slc 9000), sO 1 (.slc 9001), sO 5 (.slc 1), sO 7 (.slc 4), sI 8 .i64 (IntKind.i64.wrap (i14 + (1 : Int))), (.h 1, .e (.apt 6 p4)), (.h 4, .e (.apt 176 (MV.ptr (List.length ([] : AH)) 0))), (.h 9, .e (.arena true [6] H24)), (.h 176, .e (.arena true [] H56)), hR 9000 .i64 l_0, (.h 9001, .e (.rdb gone_1))] hnil ?_
                            refine q_kr ?_
                            exact trR_ft [(5, .slc 176), (6, .slc 9)] [sO 0 (.slc 9000), sO 1 (.slc 9001), sO 5 (.slc 1), sO 7 (.slc 4), sI 8 .i64 (IntKind.i64.wrap (i14 + (1 : Int))), (.h 1, .e (.apt 6 p4)), (.h 4, .e (.apt 5 (MV.ptr (List.length ([] : AH)) 0))), (.h 5, .e (.arena true [] H56)), (.h 6, .e (.arena true [] H24)), hR 9000 .i64 l_0, (.h 9001, .e (.rdb gone_1))] ⟨.apt' (κb := 6) (κ0 := 9) (rw := true) (bs := [6]) (D := H24), .apt' (κb := 176) (κ0 := 176) (rw := true) (bs := []) (D := H56), .arena' (bs := []), .arena' (bs := [6]), .rd', .rdb', trivial⟩ (ih0 (H56, H24, (IntKind.i64.wrap (i14 + (1 : Int)))) h)
                          · intro hj4
                            clear h
                            have h := e60
                            clear e60
                            rcases ite_split h with ⟨hc57, h⟩ | ⟨hc57, h⟩
                            · refine tr_cond_t (r23 == (0 : Int)) (by kernel_rfl) hc57 ?_
                              obtain ⟨hn58, h⟩ := ite_some h
                              obtain ⟨hn59, h⟩ := ite_some h
                              refine tr_rg hT [(1, .ar 5 []), (2, .ar 5 [177])] [sO 0 (.slc 9000), sO 1 (.slc 9001), sO 5 (.slc 1), sO 7 (.slc 4), sI 8 .i64 i14, (.h 1, .e (.apt 6 p4)), (.h 4, .e (.apt 5 (MV.ptr (List.length ([] : AH)) 0))), (.h 9, .e (.arena true [6] H24)), (.h 177, .e (.arena true [5] (AH.wr H12 (MV.ptr (List.length ([] : AH)) 0) ((l_0.getD i14.toNat 0).toNat * 1 + 0) [MV.bool false]))), hR 9000 .i64 l_0, (.h 9001, .e (.rdb gone_1))] (hcons hn58 (hcons hn59 (hone (show 1 ≤ 1 from by decide)))) ?_
                              have h := Option.some.inj h
                              subst h
                              exact q_ft [(176, .slc 177)] [sO 0 (.slc 9000), sO 1 (.slc 9001), sO 5 (.slc 1), sO 7 (.slc 4), sI 8 .i64 i14, (.h 1, .e (.apt 6 p4)), (.h 4, .e (.apt 176 (MV.ptr (List.length ([] : AH)) 0))), (.h 9, .e (.arena true [6] H24)), (.h 176, .e (.arena true [] (AH.wr H12 (MV.ptr (List.length ([] : AH)) 0) ((l_0.getD i14.toNat 0).toNat * 1 + 0) [MV.bool false]))), hR 9000 .i64 l_0, (.h 9001, .e (.rdb gone_1))] ⟨.apts' (κb := 6), .apt' (κb := 5) (κ0 := 177) (rw := true) (bs := [5]) (D := (AH.wr H12 (MV.ptr (List.length ([] : AH)) 0) ((l_0.getD i14.toNat 0).toNat * 1 + 0) [MV.bool false])), .arena' (bs := [6]), .arena' (bs := [5]), .rd', .rdb', trivial⟩ hj4
                            · refine tr_cond_f (r23 == (0 : Int)) (by kernel_rfl) hc57 ?_
                              refine tr_skip ?_
                              have h := Option.some.inj h
                              subst h
                              exact q_ft [(176, .slc 5)] [sO 0 (.slc 9000), sO 1 (.slc 9001), sO 5 (.slc 1), sO 7 (.slc 4), sI 8 .i64 i14, (.h 1, .e (.apt 6 p4)), (.h 4, .e (.apt 176 (MV.ptr (List.length ([] : AH)) 0))), (.h 9, .e (.arena true [6] H24)), (.h 176, .e (.arena true [] H12)), hR 9000 .i64 l_0, (.h 9001, .e (.rdb gone_1))] ⟨.apts' (κb := 6), .apt' (κb := 5) (κ0 := 5) (rw := true) (bs := []) (D := H12), .arena' (bs := [6]), .arena' (bs := []), .rd', .rdb', trivial⟩ hj4
                  · refine tr_cond_f (gone_1.getD i14.toNat false) (by kernel_rfl) hc22 ?_
                    refine tr_skip ?_
                    refine q_k ?_
                    refine tr_seq ?_
                    obtain ⟨⟨r61, H62⟩, e63, h⟩ := bind_some h
                    refine tr_rg hT [(2, .callA [(6, .rw), (1, .apt 6)] (.v (.one (.int .i64 r61))) [(178, .arena true [6] H62), (6, .dead)])] [sO 0 (.slc 9000), sO 1 (.slc 9001), sO 5 (.slc 1), sO 7 (.slc 4), sI 8 .i64 i14, sI 9 .i64 (l_0.getD i14.toNat 0), sB 10 (decide ((l_0.getD i14.toNat 0) < (64 : Int))), sI 12 .i64 r61, (.h 1, .e (.apt 6 p4)), (.h 4, .e (.apt 5 (MV.ptr (List.length ([] : AH)) 0))), (.h 5, .e (.arena true [] H12)), (.h 178, .e (.arena true [6] H62)), hR 9000 .i64 l_0, (.h 9001, .e (.rdb gone_1))] (hone ((disk_Disk_Create_ok H13 p4 (l_0.getD i14.toNat 0) (r61, H62) e63).tr1 [(9001, .slc 1), (9000, .slc 6), (8900, .slc 178)] [(6, .arena true [] H13), (1, .apt 6 p4)] ⟨.arena' (bs := []), .apts' (κb := 6), trivial⟩)) ?_
                    refine q_k ?_
                    refine tr_block ?_
                    refine tr_seq ?_
                    refine tr_rg hT [] [sO 0 (.slc 9000), sO 1 (.slc 9001), sO 5 (.slc 1), sO 7 (.slc 4), sI 8 .i64 i14, sI 9 .i64 (l_0.getD i14.toNat 0), sI 12 .i64 r61, sB 92 (!(decide ((l_0.getD i14.toNat 0) < (64 : Int)))), (.h 1, .e (.apt 6 p4)), (.h 4, .e (.apt 5 (MV.ptr (List.length ([] : AH)) 0))), (.h 5, .e (.arena true [] H12)), (.h 178, .e (.arena true [6] H62)), hR 9000 .i64 l_0, (.h 9001, .e (.rdb gone_1))] hnil ?_
                    refine q_k ?_
                    rcases ite_split h with ⟨hc64, h⟩ | ⟨hc64, h⟩
                    · refine tr_cond_t (!(decide ((l_0.getD i14.toNat 0) < (64 : Int)))) (by kernel_rfl) hc64 ?_
                      refine tr_seq ?_
                      refine tr_rg hT [] [sO 0 (.slc 9000), sO 1 (.slc 9001), sO 5 (.slc 1), sO 7 (.slc 4), sI 8 .i64 i14, sB 96 (r61 != (1 : Int)), (.h 1, .e (.apt 6 p4)), (.h 4, .e (.apt 5 (MV.ptr (List.length ([] : AH)) 0))), (.h 5, .e (.arena true [] H12)), (.h 178, .e (.arena true [6] H62)), hR 9000 .i64 l_0, (.h 9001, .e (.rdb gone_1))] hnil ?_
                      refine q_k ?_
                      rcases ite_split h with ⟨hc65, h⟩ | ⟨hc65, h⟩
                      · refine tr_cond_t (r61 != (1 : Int)) (by kernel_rfl) hc65 ?_
                        refine tr_seq ?_
                        refine tr_rg hT [] [sB 4 false] hnil ?_
                        refine q_k ?_
                        refine tr_ret ?_
                        refine q_b_ret ?_
                        refine q_b_ret ?_
                        refine q_k_ret ?_
                        refine q_kr_ret ?_
                        have h := Option.some.inj h
                        subst h
                        exact q_ls [sB 4 false] (hr0 false _ rfl ⟨by kernel_rfl, by kernel_rfl⟩)
                      · refine tr_cond_f (r61 != (1 : Int)) (by kernel_rfl) hc65 ?_
                        refine tr_skip ?_
                        refine q_b 2 ?_
                        refine q_b 1 ?_
                        refine q_k ?_
                        refine tr_rg hT [] [sO 0 (.slc 9000), sO 1 (.slc 9001), sO 5 (.slc 1), sO 7 (.slc 4), sI 8 .i64 (IntKind.i64.wrap (i14 + (1 : Int))), (.h 1, .e (.apt 6 p4)), (.h 4, .e (.apt 5 (MV.ptr (List.length ([] : AH)) 0))), (.h 5, .e (.arena true [] H12)), (.h 178, .e (.arena true [6] H62)), hR 9000 .i64 l_0, (.h 9001, .e (.rdb gone_1))] hnil ?_
                        refine q_kr ?_
                        exact trR_ft [(5, .slc 5), (6, .slc 178)] [sO 0 (.slc 9000), sO 1 (.slc 9001), sO 5 (.slc 1), sO 7 (.slc 4), sI 8 .i64 (IntKind.i64.wrap (i14 + (1 : Int))), (.h 1, .e (.apt 6 p4)), (.h 4, .e (.apt 5 (MV.ptr (List.length ([] : AH)) 0))), (.h 5, .e (.arena true [] H12)), (.h 6, .e (.arena true [] H62)), hR 9000 .i64 l_0, (.h 9001, .e (.rdb gone_1))] ⟨.apt' (κb := 6) (κ0 := 178) (rw := true) (bs := [6]) (D := H62), .apt' (κb := 5) (κ0 := 5) (rw := true) (bs := []) (D := H12), .arena' (bs := []), .arena' (bs := [6]), .rd', .rdb', trivial⟩ (ih0 (H12, H62, (IntKind.i64.wrap (i14 + (1 : Int)))) h)
                    · refine tr_cond_f (!(decide ((l_0.getD i14.toNat 0) < (64 : Int)))) (by kernel_rfl) hc64 ?_
                      refine tr_seq ?_
                      obtain ⟨hn66, h⟩ := ite_some h
                      obtain ⟨hn67, h⟩ := ite_some h
                      obtain ⟨hn68, h⟩ := ite_some h
                      refine tr_rg hT [(1, .ar 5 []), (2, .ar 5 [])] [sO 0 (.slc 9000), sO 1 (.slc 9001), sO 5 (.slc 1), sO 7 (.slc 4), sI 8 .i64 i14, sI 9 .i64 (l_0.getD i14.toNat 0), sI 12 .i64 r61, sB 97 (MV.tr (AH.rd H12 (MV.ptr (List.length ([] : AH)) 0) ((l_0.getD i14.toNat 0).toNat * 1 + 0))), (.h 1, .e (.apt 6 p4)), (.h 4, .e (.apt 5 (MV.ptr (List.length ([] : AH)) 0))), (.h 5, .e (.arena true [] H12)), (.h 178, .e (.arena true [6] H62)), hR 9000 .i64 l_0, (.h 9001, .e (.rdb gone_1))] (hcons hn66 (hcons hn67 (hone hn68))) ?_
                      refine q_k ?_
                      rcases ite_split h with ⟨hc69, h⟩ | ⟨hc69, h⟩
                      · refine tr_cond_t (MV.tr (AH.rd H12 (MV.ptr (List.length ([] : AH)) 0) ((l_0.getD i14.toNat 0).toNat * 1 + 0))) (by kernel_rfl) hc69 ?_
                        refine tr_seq ?_
                        refine tr_rg hT [] [sO 0 (.slc 9000), sO 1 (.slc 9001), sO 5 (.slc 1), sO 7 (.slc 4), sI 8 .i64 i14, sB 102 (r61 != (11 : Int)), (.h 1, .e (.apt 6 p4)), (.h 4, .e (.apt 5 (MV.ptr (List.length ([] : AH)) 0))), (.h 5, .e (.arena true [] H12)), (.h 178, .e (.arena true [6] H62)), hR 9000 .i64 l_0, (.h 9001, .e (.rdb gone_1))] hnil ?_
                        refine q_k ?_
                        rcases ite_split h with ⟨hc70, h⟩ | ⟨hc70, h⟩
                        · refine tr_cond_t (r61 != (11 : Int)) (by kernel_rfl) hc70 ?_
                          refine tr_seq ?_
                          refine tr_rg hT [] [sB 4 false] hnil ?_
                          refine q_k ?_
                          refine tr_ret ?_
                          refine q_b_ret ?_
                          refine q_b_ret ?_
                          refine q_k_ret ?_
                          refine q_kr_ret ?_
                          have h := Option.some.inj h
                          subst h
                          exact q_ls [sB 4 false] (hr0 false _ rfl ⟨by kernel_rfl, by kernel_rfl⟩)
                        · refine tr_cond_f (r61 != (11 : Int)) (by kernel_rfl) hc70 ?_
                          refine tr_skip ?_
                          refine q_b 2 ?_
                          refine q_b 1 ?_
                          refine q_k ?_
                          refine tr_rg hT [] [sO 0 (.slc 9000), sO 1 (.slc 9001), sO 5 (.slc 1), sO 7 (.slc 4), sI 8 .i64 (IntKind.i64.wrap (i14 + (1 : Int))), (.h 1, .e (.apt 6 p4)), (.h 4, .e (.apt 5 (MV.ptr (List.length ([] : AH)) 0))), (.h 5, .e (.arena true [] H12)), (.h 178, .e (.arena true [6] H62)), hR 9000 .i64 l_0, (.h 9001, .e (.rdb gone_1))] hnil ?_
                          refine q_kr ?_
                          exact trR_ft [(5, .slc 5), (6, .slc 178)] [sO 0 (.slc 9000), sO 1 (.slc 9001), sO 5 (.slc 1), sO 7 (.slc 4), sI 8 .i64 (IntKind.i64.wrap (i14 + (1 : Int))), (.h 1, .e (.apt 6 p4)), (.h 4, .e (.apt 5 (MV.ptr (List.length ([] : AH)) 0))), (.h 5, .e (.arena true [] H12)), (.h 6, .e (.arena true [] H62)), hR 9000 .i64 l_0, (.h 9001, .e (.rdb gone_1))] ⟨.apt' (κb := 6) (κ0 := 178) (rw := true) (bs := [6]) (D := H62), .apt' (κb := 5) (κ0 := 5) (rw := true) (bs := []) (D := H12), .arena' (bs := []), .arena' (bs := [6]), .rd', .rdb', trivial⟩ (ih0 (H12, H62, (IntKind.i64.wrap (i14 + (1 : Int)))) h)
                      · refine tr_cond_f (MV.tr (AH.rd H12 (MV.ptr (List.length ([] : AH)) 0) ((l_0.getD i14.toNat 0).toNat * 1 + 0))) (by kernel_rfl) hc69 ?_
                        refine tr_seq ?_
                        refine tr_seq ?_
                        refine tr_rg hT [] [sO 0 (.slc 9000), sO 1 (.slc 9001), sO 5 (.slc 1), sO 7 (.slc 4), sI 8 .i64 i14, sI 9 .i64 (l_0.getD i14.toNat 0), sB 89 (r61 != (0 : Int)), (.h 1, .e (.apt 6 p4)), (.h 4, .e (.apt 5 (MV.ptr (List.length ([] : AH)) 0))), (.h 5, .e (.arena true [] H12)), (.h 178, .e (.arena true [6] H62)), hR 9000 .i64 l_0, (.h 9001, .e (.rdb gone_1))] hnil ?_
                        refine q_k ?_
                        rcases ite_split h with ⟨hc71, h⟩ | ⟨hc71, h⟩
                        · refine tr_cond_t (r61 != (0 : Int)) (by kernel_rfl) hc71 ?_
                          refine tr_seq ?_
                          refine tr_rg hT [] [sB 4 false] hnil ?_
                          refine q_k ?_
                          refine tr_ret ?_
                          refine q_k_ret ?_
                          refine q_b_ret ?_
                          refine q_b_ret ?_
                          refine q_k_ret ?_
                          refine q_kr_ret ?_
                          have h := Option.some.inj h
                          subst h
                          exact q_ls [sB 4 false] (hr0 false _ rfl ⟨by kernel_rfl, by kernel_rfl⟩)
                        · refine tr_cond_f (r61 != (0 : Int)) (by kernel_rfl) hc71 ?_
                          refine tr_skip ?_
                          refine q_k ?_
                          refine tr_rg hT [(1, .ar 5 []), (2, .ar 5 [179])] [sO 0 (.slc 9000), sO 1 (.slc 9001), sO 5 (.slc 1), sO 7 (.slc 4), sI 8 .i64 i14, (.h 1, .e (.apt 6 p4)), (.h 4, .e (.apt 5 (MV.ptr (List.length ([] : AH)) 0))), (.h 178, .e (.arena true [6] H62)), (.h 179, .e (.arena true [5] (AH.wr H12 (MV.ptr (List.length ([] : AH)) 0) ((l_0.getD i14.toNat 0).toNat * 1 + 0) [MV.bool true]))), hR 9000 .i64 l_0, (.h 9001, .e (.rdb gone_1))] (hcons hn66 (hcons hn67 (hone (show 1 ≤ 1 from by decide)))) ?_
                          refine q_b 2 ?_
                          refine q_b 1 ?_
                          refine q_k ?_
                          refine tr_rg hT [] [sO 0 (.slc 9000), sO 1 (.slc 9001), sO 5 (.slc 1), sO 7 (.slc 4), sI 8 .i64 (IntKind.i64.wrap (i14 + (1 : Int))), (.h 1, .e (.apt 6 p4)), (.h 4, .e (.apt 5 (MV.ptr (List.length ([] : AH)) 0))), (.h 178, .e (.arena true [6] H62)), (.h 179, .e (.arena true [5] (AH.wr H12 (MV.ptr (List.length ([] : AH)) 0) ((l_0.getD i14.toNat 0).toNat * 1 + 0) [MV.bool true]))), hR 9000 .i64 l_0, (.h 9001, .e (.rdb gone_1))] hnil ?_
                          refine q_kr ?_
                          exact trR_ft [(5, .slc 179), (6, .slc 178)] [sO 0 (.slc 9000), sO 1 (.slc 9001), sO 5 (.slc 1), sO 7 (.slc 4), sI 8 .i64 (IntKind.i64.wrap (i14 + (1 : Int))), (.h 1, .e (.apt 6 p4)), (.h 4, .e (.apt 5 (MV.ptr (List.length ([] : AH)) 0))), (.h 5, .e (.arena true [] (AH.wr H12 (MV.ptr (List.length ([] : AH)) 0) ((l_0.getD i14.toNat 0).toNat * 1 + 0) [MV.bool true]))), (.h 6, .e (.arena true [] H62)), hR 9000 .i64 l_0, (.h 9001, .e (.rdb gone_1))] ⟨.apt' (κb := 6) (κ0 := 178) (rw := true) (bs := [6]) (D := H62), .apt' (κb := 5) (κ0 := 179) (rw := true) (bs := [5]) (D := (AH.wr H12 (MV.ptr (List.length ([] : AH)) 0) ((l_0.getD i14.toNat 0).toNat * 1 + 0) [MV.bool true])), .arena' (bs := [5]), .arena' (bs := [6]), .rd', .rdb', trivial⟩ (ih0 ((AH.wr H12 (MV.ptr (List.length ([] : AH)) 0) ((l_0.getD i14.toNat 0).toNat * 1 + 0) [MV.bool true]), H62, (IntKind.i64.wrap (i14 + (1 : Int)))) h)
                · refine tr_rg hT [(2, .bb []), (4, .dec false)] [sO 0 (.slc 9000), sO 1 (.slc 9001), sO 5 (.slc 1), sO 7 (.slc 4), sI 8 .i64 i14, sI 9 .i64 (l_0.getD i14.toNat 0), sB 10 (decide ((l_0.getD i14.toNat 0) < (64 : Int))), sB 58 false, (.h 1, .e (.apt 6 p4)), (.h 4, .e (.apt 5 (MV.ptr (List.length ([] : AH)) 0))), (.h 5, .e (.arena true [] H12)), (.h 6, .e (.arena true [] H13)), hR 9000 .i64 l_0, (.h 9001, .e (.rdb gone_1))] (hone hb72) ?_
                  refine q_k ?_
                  refine tr_cond_f false (by kernel_rfl) rfl ?_
                  refine tr_skip ?_
                  refine q_k ?_
                  refine tr_seq ?_
                  obtain ⟨⟨r73, H74⟩, e75, h⟩ := bind_some h
                  refine tr_rg hT [(2, .callA [(6, .rw), (1, .apt 6)] (.v (.one (.int .i64 r73))) [(180, .arena true [6] H74), (6, .dead)])] [sO 0 (.slc 9000), sO 1 (.slc 9001), sO 5 (.slc 1), sO 7 (.slc 4), sI 8 .i64 i14, sI 9 .i64 (l_0.getD i14.toNat 0), sB 10 (decide ((l_0.getD i14.toNat 0) < (64 : Int))), sI 12 .i64 r73, (.h 1, .e (.apt 6 p4)), (.h 4, .e (.apt 5 (MV.ptr (List.length ([] : AH)) 0))), (.h 5, .e (.arena true [] H12)), (.h 180, .e (.arena true [6] H74)), hR 9000 .i64 l_0, (.h 9001, .e (.rdb gone_1))] (hone ((disk_Disk_Create_ok H13 p4 (l_0.getD i14.toNat 0) (r73, H74) e75).tr1 [(9001, .slc 1), (9000, .slc 6), (8900, .slc 180)] [(6, .arena true [] H13), (1, .apt 6 p4)] ⟨.arena' (bs := []), .apts' (κb := 6), trivial⟩)) ?_
                  refine q_k ?_
                  refine tr_block ?_
                  refine tr_seq ?_
                  refine tr_rg hT [] [sO 0 (.slc 9000), sO 1 (.slc 9001), sO 5 (.slc 1), sO 7 (.slc 4), sI 8 .i64 i14, sI 9 .i64 (l_0.getD i14.toNat 0), sI 12 .i64 r73, sB 92 (!(decide ((l_0.getD i14.toNat 0) < (64 : Int)))), (.h 1, .e (.apt 6 p4)), (.h 4, .e (.apt 5 (MV.ptr (List.length ([] : AH)) 0))), (.h 5, .e (.arena true [] H12)), (.h 180, .e (.arena true [6] H74)), hR 9000 .i64 l_0, (.h 9001, .e (.rdb gone_1))] hnil ?_
                  refine q_k ?_
                  rcases ite_split h with ⟨hc76, h⟩ | ⟨hc76, h⟩
                  · refine tr_cond_t (!(decide ((l_0.getD i14.toNat 0) < (64 : Int)))) (by kernel_rfl) hc76 ?_
                    refine tr_seq ?_
                    refine tr_rg hT [] [sO 0 (.slc 9000), sO 1 (.slc 9001), sO 5 (.slc 1), sO 7 (.slc 4), sI 8 .i64 i14, sB 96 (r73 != (1 : Int)), (.h 1, .e (.apt 6 p4)), (.h 4, .e (.apt 5 (MV.ptr (List.length ([] : AH)) 0))), (.h 5, .e (.arena true [] H12)), (.h 180, .e (.arena true [6] H74)), hR 9000 .i64 l_0, (.h 9001, .e (.rdb gone_1))] hnil ?_
                    refine q_k ?_
                    rcases ite_split h with ⟨hc77, h⟩ | ⟨hc77, h⟩
                    · refine tr_cond_t (r73 != (1 : Int)) (by kernel_rfl) hc77 ?_
                      refine tr_seq ?_
                      refine tr_rg hT [] [sB 4 false] hnil ?_
                      refine q_k ?_
                      refine tr_ret ?_
                      refine q_b_ret ?_
                      refine q_b_ret ?_
                      refine q_k_ret ?_
                      refine q_kr_ret ?_
                      have h := Option.some.inj h
                      subst h
                      exact q_ls [sB 4 false] (hr0 false _ rfl ⟨by kernel_rfl, by kernel_rfl⟩)
                    · refine tr_cond_f (r73 != (1 : Int)) (by kernel_rfl) hc77 ?_
                      refine tr_skip ?_
                      refine q_b 2 ?_
                      refine q_b 1 ?_
                      refine q_k ?_
                      refine tr_rg hT [] [sO 0 (.slc 9000), sO 1 (.slc 9001), sO 5 (.slc 1), sO 7 (.slc 4), sI 8 .i64 (IntKind.i64.wrap (i14 + (1 : Int))), (.h 1, .e (.apt 6 p4)), (.h 4, .e (.apt 5 (MV.ptr (List.length ([] : AH)) 0))), (.h 5, .e (.arena true [] H12)), (.h 180, .e (.arena true [6] H74)), hR 9000 .i64 l_0, (.h 9001, .e (.rdb gone_1))] hnil ?_
                      refine q_kr ?_
                      exact trR_ft [(5, .slc 5), (6, .slc 180)] [sO 0 (.slc 9000), sO 1 (.slc 9001), sO 5 (.slc 1), sO 7 (.slc 4), sI 8 .i64 (IntKind.i64.wrap (i14 + (1 : Int))), (.h 1, .e (.apt 6 p4)), (.h 4, .e (.apt 5 (MV.ptr (List.length ([] : AH)) 0))), (.h 5, .e (.arena true [] H12)), (.h 6, .e (.arena true [] H74)), hR 9000 .i64 l_0, (.h 9001, .e (.rdb gone_1))] ⟨.apt' (κb := 6) (κ0 := 180) (rw := true) (bs := [6]) (D := H74), .apt' (κb := 5) (κ0 := 5) (rw := true) (bs := []) (D := H12), .arena' (bs := []), .arena' (bs := [6]), .rd', .rdb', trivial⟩ (ih0 (H12, H74, (IntKind.i64.wrap (i14 + (1 : Int)))) h)
                  · refine tr_cond_f (!(decide ((l_0.getD i14.toNat 0) < (64 : Int)))) (by kernel_rfl) hc76 ?_
                    refine tr_seq ?_
                    obtain ⟨hn78, h⟩ := ite_some h
                    obtain ⟨hn79, h⟩ := ite_some h
                    obtain ⟨hn80, h⟩ := ite_some h
                    refine tr_rg hT [(1, .ar 5 []), (2, .ar 5 [])] [sO 0 (.slc 9000), sO 1 (.slc 9001), sO 5 (.slc 1), sO 7 (.slc 4), sI 8 .i64 i14, sI 9 .i64 (l_0.getD i14.toNat 0), sI 12 .i64 r73, sB 97 (MV.tr (AH.rd H12 (MV.ptr (List.length ([] : AH)) 0) ((l_0.getD i14.toNat 0).toNat * 1 + 0))), (.h 1, .e (.apt 6 p4)), (.h 4, .e (.apt 5 (MV.ptr (List.length ([] : AH)) 0))), (.h 5, .e (.arena true [] H12)), (.h 180, .e (.arena true [6] H74)), hR 9000 .i64 l_0, (.h 9001, .e (.rdb gone_1))] (hcons hn78 (hcons hn79 (hone hn80))) ?_
                    refine q_k ?_
                    rcases ite_split h with ⟨hc81, h⟩ | ⟨hc81, h⟩
                    · refine tr_cond_t (MV.tr (AH.rd H12 (MV.ptr (List.length ([] : AH)) 0) ((l_0.getD i14.toNat 0).toNat * 1 + 0))) (by kernel_rfl) hc81 ?_
                      refine tr_seq ?_
                      refine tr_rg hT [] [sO 0 (.slc 9000), sO 1 (.slc 9001), sO 5 (.slc 1), sO 7 (.slc 4), sI 8 .i64 i14, sB 102 (r73 != (11 : Int)), (.h 1, .e (.apt 6 p4)), (.h 4, .e (.apt 5 (MV.ptr (List.length ([] : AH)) 0))), (.h 5, .e (.arena true [] H12)), (.h 180, .e (.arena true [6] H74)), hR 9000 .i64 l_0, (.h 9001, .e (.rdb gone_1))] hnil ?_
                      refine q_k ?_
                      rcases ite_split h with ⟨hc82, h⟩ | ⟨hc82, h⟩
                      · refine tr_cond_t (r73 != (11 : Int)) (by kernel_rfl) hc82 ?_
                        refine tr_seq ?_
                        refine tr_rg hT [] [sB 4 false] hnil ?_
                        refine q_k ?_
                        refine tr_ret ?_
                        refine q_b_ret ?_
                        refine q_b_ret ?_
                        refine q_k_ret ?_
                        refine q_kr_ret ?_
                        have h := Option.some.inj h
                        subst h
                        exact q_ls [sB 4 false] (hr0 false _ rfl ⟨by kernel_rfl, by kernel_rfl⟩)
                      · refine tr_cond_f (r73 != (11 : Int)) (by kernel_rfl) hc82 ?_
                        refine tr_skip ?_
                        refine q_b 2 ?_
                        refine q_b 1 ?_
                        refine q_k ?_
                        refine tr_rg hT [] [sO 0 (.slc 9000), sO 1 (.slc 9001), sO 5 (.slc 1), sO 7 (.slc 4), sI 8 .i64 (IntKind.i64.wrap (i14 + (1 : Int))), (.h 1, .e (.apt 6 p4)), (.h 4, .e (.apt 5 (MV.ptr (List.length ([] : AH)) 0))), (.h 5, .e (.arena true [] H12)), (.h 180, .e (.arena true [6] H74)), hR 9000 .i64 l_0, (.h 9001, .e (.rdb gone_1))] hnil ?_
                        refine q_kr ?_
                        exact trR_ft [(5, .slc 5), (6, .slc 180)] [sO 0 (.slc 9000), sO 1 (.slc 9001), sO 5 (.slc 1), sO 7 (.slc 4), sI 8 .i64 (IntKind.i64.wrap (i14 + (1 : Int))), (.h 1, .e (.apt 6 p4)), (.h 4, .e (.apt 5 (MV.ptr (List.length ([] : AH)) 0))), (.h 5, .e (.arena true [] H12)), (.h 6, .e (.arena true [] H74)), hR 9000 .i64 l_0, (.h 9001, .e (.rdb gone_1))] ⟨.apt' (κb := 6) (κ0 := 180) (rw := true) (bs := [6]) (D := H74), .apt' (κb := 5) (κ0 := 5) (rw := true) (bs := []) (D := H12), .arena' (bs := []), .arena' (bs := [6]), .rd', .rdb', trivial⟩ (ih0 (H12, H74, (IntKind.i64.wrap (i14 + (1 : Int)))) h)
                    · refine tr_cond_f (MV.tr (AH.rd H12 (MV.ptr (List.length ([] : AH)) 0) ((l_0.getD i14.toNat 0).toNat * 1 + 0))) (by kernel_rfl) hc81 ?_
                      refine tr_seq ?_
                      refine tr_seq ?_
                      refine tr_rg hT [] [sO 0 (.slc 9000), sO 1 (.slc 9001), sO 5 (.slc 1), sO 7 (.slc 4), sI 8 .i64 i14, sI 9 .i64 (l_0.getD i14.toNat 0), sB 89 (r73 != (0 : Int)), (.h 1, .e (.apt 6 p4)), (.h 4, .e (.apt 5 (MV.ptr (List.length ([] : AH)) 0))), (.h 5, .e (.arena true [] H12)), (.h 180, .e (.arena true [6] H74)), hR 9000 .i64 l_0, (.h 9001, .e (.rdb gone_1))] hnil ?_
                      refine q_k ?_
                      rcases ite_split h with ⟨hc83, h⟩ | ⟨hc83, h⟩
                      · refine tr_cond_t (r73 != (0 : Int)) (by kernel_rfl) hc83 ?_
                        refine tr_seq ?_
                        refine tr_rg hT [] [sB 4 false] hnil ?_
                        refine q_k ?_
                        refine tr_ret ?_
                        refine q_k_ret ?_
                        refine q_b_ret ?_
                        refine q_b_ret ?_
                        refine q_k_ret ?_
                        refine q_kr_ret ?_
                        have h := Option.some.inj h
                        subst h
                        exact q_ls [sB 4 false] (hr0 false _ rfl ⟨by kernel_rfl, by kernel_rfl⟩)
                      · refine tr_cond_f (r73 != (0 : Int)) (by kernel_rfl) hc83 ?_
                        refine tr_skip ?_
                        refine q_k ?_
                        refine tr_rg hT [(1, .ar 5 []), (2, .ar 5 [181])] [sO 0 (.slc 9000), sO 1 (.slc 9001), sO 5 (.slc 1), sO 7 (.slc 4), sI 8 .i64 i14, (.h 1, .e (.apt 6 p4)), (.h 4, .e (.apt 5 (MV.ptr (List.length ([] : AH)) 0))), (.h 180, .e (.arena true [6] H74)), (.h 181, .e (.arena true [5] (AH.wr H12 (MV.ptr (List.length ([] : AH)) 0) ((l_0.getD i14.toNat 0).toNat * 1 + 0) [MV.bool true]))), hR 9000 .i64 l_0, (.h 9001, .e (.rdb gone_1))] (hcons hn78 (hcons hn79 (hone (show 1 ≤ 1 from by decide)))) ?_
                        refine q_b 2 ?_
                        refine q_b 1 ?_
                        refine q_k ?_
                        refine tr_rg hT [] [sO 0 (.slc 9000), sO 1 (.slc 9001), sO 5 (.slc 1), sO 7 (.slc 4), sI 8 .i64 (IntKind.i64.wrap (i14 + (1 : Int))), (.h 1, .e (.apt 6 p4)), (.h 4, .e (.apt 5 (MV.ptr (List.length ([] : AH)) 0))), (.h 180, .e (.arena true [6] H74)), (.h 181, .e (.arena true [5] (AH.wr H12 (MV.ptr (List.length ([] : AH)) 0) ((l_0.getD i14.toNat 0).toNat * 1 + 0) [MV.bool true]))), hR 9000 .i64 l_0, (.h 9001, .e (.rdb gone_1))] hnil ?_
                        refine q_kr ?_
                        exact trR_ft [(5, .slc 181), (6, .slc 180)] [sO 0 (.slc 9000), sO 1 (.slc 9001), sO 5 (.slc 1), sO 7 (.slc 4), sI 8 .i64 (IntKind.i64.wrap (i14 + (1 : Int))), (.h 1, .e (.apt 6 p4)), (.h 4, .e (.apt 5 (MV.ptr (List.length ([] : AH)) 0))), (.h 5, .e (.arena true [] (AH.wr H12 (MV.ptr (List.length ([] : AH)) 0) ((l_0.getD i14.toNat 0).toNat * 1 + 0) [MV.bool true]))), (.h 6, .e (.arena true [] H74)), hR 9000 .i64 l_0, (.h 9001, .e (.rdb gone_1))] ⟨.apt' (κb := 6) (κ0 := 180) (rw := true) (bs := [6]) (D := H74), .apt' (κb := 5) (κ0 := 181) (rw := true) (bs := [5]) (D := (AH.wr H12 (MV.ptr (List.length ([] : AH)) 0) ((l_0.getD i14.toNat 0).toNat * 1 + 0) [MV.bool true])), .arena' (bs := [5]), .arena' (bs := [6]), .rd', .rdb', trivial⟩ (ih0 ((AH.wr H12 (MV.ptr (List.length ([] : AH)) 0) ((l_0.getD i14.toNat 0).toNat * 1 + 0) [MV.bool true]), H74, (IntKind.i64.wrap (i14 + (1 : Int)))) h)
              · refine tr_rg hT [(2, .dec false)] [sO 0 (.slc 9000), sO 1 (.slc 9001), sO 5 (.slc 1), sO 7 (.slc 4), sI 8 .i64 i14, sI 9 .i64 (l_0.getD i14.toNat 0), sB 10 false, (.h 1, .e (.apt 6 p4)), (.h 4, .e (.apt 5 (MV.ptr (List.length ([] : AH)) 0))), (.h 5, .e (.arena true [] H12)), (.h 6, .e (.arena true [] H13)), hR 9000 .i64 l_0, (.h 9001, .e (.rdb gone_1))] (hone hb84) ?_
                refine q_k ?_
                refine tr_seq ?_
                refine tr_seq ?_
                rcases ite_split h with ⟨hb85, h⟩ | ⟨hb110, h⟩
                · obtain ⟨hn86, h⟩ := ite_some h
                  refine tr_rg hT [(2, .bb []), (4, .dec true), (7, .bb []), (8, .bb [])] [sO 0 (.slc 9000), sO 1 (.slc 9001), sO 5 (.slc 1), sO 7 (.slc 4), sI 8 .i64 i14, sI 9 .i64 (l_0.getD i14.toNat 0), sB 10 false, sB 58 (gone_1.getD i14.toNat false), (.h 1, .e (.apt 6 p4)), (.h 4, .e (.apt 5 (MV.ptr (List.length ([] : AH)) 0))), (.h 5, .e (.arena true [] H12)), (.h 6, .e (.arena true [] H13)), hR 9000 .i64 l_0, (.h 9001, .e (.rdb gone_1))] (hcons hb85 (hcons hn86 (hone hn86.2))) ?_
                  refine q_k ?_
                  rcases ite_split h with ⟨hc87, h⟩ | ⟨hc87, h⟩
                  · refine tr_cond_t (gone_1.getD i14.toNat false) (by kernel_rfl) hc87 ?_
                    refine tr_seq ?_
                    obtain ⟨⟨r88, H89⟩, e90, h⟩ := bind_some h
                    refine tr_rg hT [(2, .callA [(6, .rw), (1, .apt 6)] (.v (.one (.int .i64 r88))) [(182, .arena true [6] H89), (6, .dead)])] [sO 0 (.slc 9000), sO 1 (.slc 9001), sO 5 (.slc 1), sO 7 (.slc 4), sI 8 .i64 i14, sI 9 .i64 (l_0.getD i14.toNat 0), sB 10 false, sI 11 .i64 r88, (.h 1, .e (.apt 6 p4)), (.h 4, .e (.apt 5 (MV.ptr (List.length ([] : AH)) 0))), (.h 5, .e (.arena true [] H12)), (.h 182, .e (.arena true [6] H89)), hR 9000 .i64 l_0, (.h 9001, .e (.rdb gone_1))] (hone ((disk_Disk_Remove_ok H13 p4 (l_0.getD i14.toNat 0) (r88, H89) e90).tr1 [(9001, .slc 1), (9000, .slc 6), (8900, .slc 182)] [(6, .arena true [] H13), (1, .apt 6 p4)] ⟨.arena' (bs := []), .apts' (κb := 6), trivial⟩)) ?_
                    refine q_k ?_
                    refine tr_seq ?_
                    refine tr_seq ?_
                    rcases ite_split h with ⟨hb91, h⟩ | ⟨hb92, h⟩
                    · refine tr_rg hT [(11, .dec true)] [sO 0 (.slc 9000), sO 1 (.slc 9001), sO 5 (.slc 1), sO 7 (.slc 4), sI 8 .i64 i14, sI 9 .i64 (l_0.getD i14.toNat 0), sI 11 .i64 r88, sB 80 true, (.h 1, .e (.apt 6 p4)), (.h 4, .e (.apt 5 (MV.ptr (List.length ([] : AH)) 0))), (.h 5, .e (.arena true [] H12)), (.h 182, .e (.arena true [6] H89)), hR 9000 .i64 l_0, (.h 9001, .e (.rdb gone_1))] (hone hb91) ?_
                      refine q_k ?_
                      refine tr_cond_t true (by kernel_rfl) rfl ?_
                      refine tr_seq ?_
                      refine tr_rg hT [] [sB 4 false] hnil ?_
                      refine q_k ?_
                      refine tr_ret ?_
                      refine q_k_ret ?_
                      refine q_k_ret ?_
                      refine q_b_ret ?_
                      refine q_k_ret ?_
                      refine q_kr_ret ?_
                      have h := Option.some.inj h
                      subst h
                      exact q_ls [sB 4 false] (hr0 false _ rfl ⟨by kernel_rfl, by kernel_rfl⟩)
                    · rcases ite_split h with ⟨hb93, h⟩ | ⟨hb100, h⟩
                      · refine tr_rg hT [(11, .dec false), (14, .dec true)] [sO 0 (.slc 9000), sO 1 (.slc 9001), sO 5 (.slc 1), sO 7 (.slc 4), sI 8 .i64 i14, sI 9 .i64 (l_0.getD i14.toNat 0), sI 11 .i64 r88, sB 80 (r88 != (10 : Int)), (.h 1, .e (.apt 6 p4)), (.h 4, .e (.apt 5 (MV.ptr (List.length ([] : AH)) 0))), (.h 5, .e (.arena true [] H12)), (.h 182, .e (.arena true [6] H89)), hR 9000 .i64 l_0, (.h 9001, .e (.rdb gone_1))] (hcons hb92 (hone hb93)) ?_
                        refine q_k ?_
                        rcases ite_split h with ⟨hc94, h⟩ | ⟨hc94, h⟩
                        · refine tr_cond_t (r88 != (10 : Int)) (by kernel_rfl) hc94 ?_
                          refine tr_seq ?_
                          refine tr_rg hT [] [sB 4 false] hnil ?_
                          refine q_k ?_
                          refine tr_ret ?_
                          refine q_k_ret ?_
                          refine q_k_ret ?_
                          refine q_b_ret ?_
                          refine q_k_ret ?_
                          refine q_kr_ret ?_
                          have h := Option.some.inj h
                          subst h
                          exact q_ls [sB 4 false] (hr0 false _ rfl ⟨by kernel_rfl, by kernel_rfl⟩)
                        · refine tr_cond_f (r88 != (10 : Int)) (by kernel_rfl) hc94 ?_
                          refine tr_skip ?_
                          refine q_k ?_
                          refine tr_seq ?_
                          refine tr_seq ?_
                          refine tr_rg hT [] [sO 0 (.slc 9000), sO 1 (.slc 9001), sO 5 (.slc 1), sO 7 (.slc 4), sI 8 .i64 i14, sI 9 .i64 (l_0.getD i14.toNat 0), sB 82 (r88 == (0 : Int)), (.h 1, .e (.apt 6 p4)), (.h 4, .e (.apt 5 (MV.ptr (List.length ([] : AH)) 0))), (.h 5, .e (.arena true [] H12)), (.h 182, .e (.arena true [6] H89)), hR 9000 .i64 l_0, (.h 9001, .e (.rdb gone_1))] hnil ?_
                          refine q_k ?_
                          obtain ⟨H95, e99, h⟩ := bind_some h
                          refine tr_join (σ1 := [sO 0 (.slc 9000), sO 1 (.slc 9001), sO 5 (.slc 1), sO 7 (.slc 4), sI 8 .i64 i14, (.h 1, .e (.apt 6 p4)), (.h 4, .e (.apt 223 (MV.ptr (List.length ([] : AH)) 0))), (.h 182, .e (.arena true [6] H89)), (.h 223, .e (.arena true [] H95)), hR 9000 .i64 l_0, (.h 9001, .e (.rdb gone_1))]) ?_ ?_
                          · skip
                            replace h : (law14_DiskFiles_l0 l_0 gone_1 p4 k H95 H89 (IntKind.i64.wrap (i14 + (1 : Int)))) = _ := h
                            refine q_k ?_
                            refine tr_exit ?_
                            refine q_k_exit ?_
                            refine q_b_this ?_
                            refine q_k ?_
                            refine tr_rg hT [] [sO 0 (.slc 9000), sO 1 (.slc 9001), sO 5 (.slc 1), sO 7 (.slc 4), sI 8 .i64 (IntKind.i64.wrap (i14 + (1 : Int))), (.h 1, .e (.apt 6 p4)), (.h 4, .e (.apt 223 (MV.ptr (List.length ([] : AH)) 0))), (.h 182, .e (.arena true [6] H89)), (.h 223, .e (.arena true [] H95)), hR 9000 .i64 l_0, (.h 9001, .e (.rdb gone_1))] hnil ?_
                            refine q_kr ?_
                            exact trR_ft [(5, .slc 223), (6, .slc 182)] [sO 0 (.slc 9000), sO 1 (.slc 9001), sO 5 (.slc 1), sO 7 (.slc 4), sI 8 .i64 (IntKind.i64.wrap (i14 + (1 : Int))), (.h 1, .e (.apt 6 p4)), (.h 4, .e (.apt 5 (MV.ptr (List.length ([] : AH)) 0))), (.h 5, .e (.arena true [] H95)), (.h 6, .e (.arena true [] H89)), hR 9000 .i64 l_0, (.h 9001, .e (.rdb gone_1))] ⟨.apt' (κb := 6) (κ0 := 182) (rw := true) (bs := [6]) (D := H89), .apt' (κb := 223) (κ0 := 223) (rw := true) (bs := []) (D := H95), .arena' (bs := []), .arena' (bs := [6]), .rd', .rdb', trivial⟩ (ih0 (H95, H89, (IntKind.i64.wrap (i14 + (1 : Int)))) h)
                          · intro hj5
                            clear h
                            have h := e99
                            clear e99
                            rcases ite_split h with ⟨hc96, h⟩ | ⟨hc96, h⟩
                            · refine tr_cond_t (r88 == (0 : Int)) (by kernel_rfl) hc96 ?_
                              obtain ⟨hn97, h⟩ := ite_some h
                              obtain ⟨hn98, h⟩ := ite_some h
                              refine tr_rg hT [(1, .ar 5 []), (2, .ar 5 [224])] [sO 0 (.slc 9000), sO 1 (.slc 9001), sO 5 (.slc 1), sO 7 (.slc 4), sI 8 .i64 i14, (.h 1, .e (.apt 6 p4)), (.h 4, .e (.apt 5 (MV.ptr (List.length ([] : AH)) 0))), (.h 182, .e (.arena true [6] H89)), (.h 224, .e (.arena true [5] (AH.wr H12 (MV.ptr (List.length ([] : AH)) 0) ((l_0.getD i14.toNat 0).toNat * 1 + 0) [MV.bool false]))), hR 9000 .i64 l_0, (.h 9001, .e (.rdb gone_1))] (hcons hn97 (hcons hn98 (hone (show 1 ≤ 1 from by decide)))) ?_
                              have h := Option.some.inj h
                              subst h
                              exact q_ft [(223, .slc 224)] [sO 0 (.slc 9000), sO 1 (.slc 9001), sO 5 (.slc 1), sO 7 (.slc 4), sI 8 .i64 i14, (.h 1, .e (.apt 6 p4)), (.h 4, .e (.apt 223 (MV.ptr (List.length ([] : AH)) 0))), (.h 182, .e (.arena true [6] H89)), (.h 223, .e (.arena true [] (AH.wr H12 (MV.ptr (List.length ([] : AH)) 0) ((l_0.getD i14.toNat 0).toNat * 1 + 0) [MV.bool false]))), hR 9000 .i64 l_0, (.h 9001, .e (.rdb gone_1))] ⟨.apts' (κb := 6), .apt' (κb := 5) (κ0 := 224) (rw := true) (bs := [5]) (D := (AH.wr H12 (MV.ptr (List.length ([] : AH)) 0) ((l_0.getD i14.toNat 0).toNat * 1 + 0) [MV.bool false])), .arena' (bs := [6]), .arena' (bs := [5]), .rd', .rdb', trivial⟩ hj5
                            · refine tr_cond_f (r88 == (0 : Int)) (by kernel_rfl) hc96 ?_
                              refine tr_skip ?_
                              have h := Option.some.inj h
                              subst h
                              exact q_ft [(223, .slc 5)] [sO 0 (.slc 9000), sO 1 (.slc 9001), sO 5 (.slc 1), sO 7 (.slc 4), sI 8 .i64 i14, (.h 1, .e (.apt 6 p4)), (.h 4, .e (.apt 223 (MV.ptr (List.length ([] : AH)) 0))), (.h 182, .e (.arena true [6] H89)), (.h 223, .e (.arena true [] H12)), hR 9000 .i64 l_0, (.h 9001, .e (.rdb gone_1))] ⟨.apts' (κb := 6), .apt' (κb := 5) (κ0 := 5) (rw := true) (bs := []) (D := H12), .arena' (bs := [6]), .arena' (bs := []), .rd', .rdb', trivial⟩ hj5
                      · refine tr_rg hT [(11, .dec false), (14, .dec false)] [sO 0 (.slc 9000), sO 1 (.slc 9001), sO 5 (.slc 1), sO 7 (.slc 4), sI 8 .i64 i14, sI 9 .i64 (l_0.getD i14.toNat 0), sI 11 .i64 r88, sB 80 false, (.h 1, .e (.apt 6 p4)), (.h 4, .e (.apt 5 (MV.ptr (List.length ([] : AH)) 0))), (.h 5, .e (.arena true [] H12)), (.h 182, .e (.arena true [6] H89)), hR 9000 .i64 l_0, (.h 9001, .e (.rdb gone_1))] (hcons hb92 (hone hb100)) ?_
                        refine q_k ?_
                        refine tr_cond_f false (by kernel_rfl) rfl ?_
                        refine tr_skip ?_
                        refine q_k ?_
                        refine tr_seq ?_
                        refine tr_seq ?_
                        refine tr_rg hT [] [sO 0 (.slc 9000), sO 1 (.slc 9001), sO 5 (.slc 1), sO 7 (.slc 4), sI 8 .i64 i14, sI 9 .i64 (l_0.getD i14.toNat 0), sB 82 (r88 == (0 : Int)), (.h 1, .e (.apt 6 p4)), (.h 4, .e (.apt 5 (MV.ptr (List.length ([] : AH)) 0))), (.h 5, .e (.arena true [] H12)), (.h 182, .e (.arena true [6] H89)), hR 9000 .i64 l_0, (.h 9001, .e (.rdb gone_1))] hnil ?_
                        refine q_k ?_
                        obtain ⟨H101, e105, h⟩ := bind_some h
                        refine tr_join (σ1 := [sO 0 (.slc 9000), sO 1 (.slc 9001), sO 5 (.slc 1), sO 7 (.slc 4), sI 8 .i64 i14, (.h 1, .e (.apt 6 p4)), (.h 4, .e (.apt 265 (MV.ptr (List.length ([] : AH)) 0))), (.h 182, .e (.arena true [6] H89)), (.h 265, .e (.arena true [] H101)), hR 9000 .i64 l_0, (.h 9001, .e (.rdb gone_1))]) ?_ ?_
                        · skip
                          replace h : (law14_DiskFiles_l0 l_0 gone_1 p4 k H101 H89 (IntKind.i64.wrap (i14 + (1 : Int)))) = _ := h
                          refine q_k ?_
                          refine tr_exit ?_
                          refine q_k_exit ?_
                          refine q_b_this ?_
                          refine q_k ?_
                          refine tr_rg hT [] [sO 0 (.slc 9000), sO 1 (.slc 9001), sO 5 (.slc 1), sO 7 (.slc 4), sI 8 .i64 (IntKind.i64.wrap (i14 + (1 : Int))), (.h 1, .e (.apt 6 p4)), (.h 4, .e (.apt 265 (MV.ptr (List.length ([] : AH)) 0))), (.h 182, .e (.arena true [6] H89)), (.h 265, .e (.arena true [] H101)), hR 9000 .i64 l_0, (.h 9001, .e (.rdb gone_1))] hnil ?_
                          refine q_kr ?_
                          exact trR_ft [(5, .slc 265), (6, .slc 182)] [sO 0 (.slc 9000), sO 1 (.slc 9001), sO 5 (.slc 1), sO 7 (.slc 4), sI 8 .i64 (IntKind.i64.wrap (i14 + (1 : Int))), (.h 1, .e (.apt 6 p4)), (.h 4, .e (.apt 5 (MV.ptr (List.length ([] : AH)) 0))), (.h 5, .e (.arena true [] H101)), (.h 6, .e (.arena true [] H89)), hR 9000 .i64 l_0, (.h 9001, .e (.rdb gone_1))] ⟨.apt' (κb := 6) (κ0 := 182) (rw := true) (bs := [6]) (D := H89), .apt' (κb := 265) (κ0 := 265) (rw := true) (bs := []) (D := H101), .arena' (bs := []), .arena' (bs := [6]), .rd', .rdb', trivial⟩ (ih0 (H101, H89, (IntKind.i64.wrap (i14 + (1 : Int)))) h)
                        · intro hj6
                          clear h
                          have h := e105
                          clear e105
                          rcases ite_split h with ⟨hc102, h⟩ | ⟨hc102, h⟩
                          · refine tr_cond_t (r88 == (0 : Int)) (by kernel_rfl) hc102 ?_
                            obtain ⟨hn103, h⟩ := ite_some h
                            obtain ⟨hn104, h⟩ := ite_some h
                            refine tr_rg hT [(1, .ar 5 []), (2, .ar 5 [266])] [sO 0 (.slc 9000), sO 1 (.slc 9001), sO 5 (.slc 1), sO 7 (.slc 4), sI 8 .i64 i14, (.h 1, .e (.apt 6 p4)), (.h 4, .e (.apt 5 (MV.ptr (List.length ([] : AH)) 0))), (.h 182, .e (.arena true [6] H89)), (.h 266, .e (.arena true [5] (AH.wr H12 (MV.ptr (List.length ([] : AH)) 0) ((l_0.getD i14.toNat 0).toNat * 1 + 0) [MV.bool false]))), hR 9000 .i64 l_0, (.h 9001, .e (.rdb gone_1))] (hcons hn103 (hcons hn104 (hone (show 1 ≤ 1 from by decide)))) ?_
                            have h := Option.some.inj h
                            subst h
                            exact q_ft [(265, .slc 266)] [sO 0 (.slc 9000), sO 1 (.slc 9001), sO 5 (.slc 1), sO 7 (.slc 4), sI 8 .i64 i14, (.h 1, .e (.apt 6 p4)), (.h 4, .e (.apt 265 (MV.ptr (List.length ([] : AH)) 0))), (.h 182, .e (.arena true [6] H89)), (.h 265, .e (.arena true [] (AH.wr H12 (MV.ptr (List.length ([] : AH)) 0) ((l_0.getD i14.toNat 0).toNat * 1 + 0) [MV.bool false]))), hR 9000 .i64 l_0, (.h 9001, .e (.rdb gone_1))] ⟨.apts' (κb := 6), .apt' (κb := 5) (κ0 := 266) (rw := true) (bs := [5]) (D := (AH.wr H12 (MV.ptr (List.length ([] : AH)) 0) ((l_0.getD i14.toNat 0).toNat * 1 + 0) [MV.bool false])), .arena' (bs := [6]), .arena' (bs := [5]), .rd', .rdb', trivial⟩ hj6
                          · refine tr_cond_f (r88 == (0 : Int)) (by kernel_rfl) hc102 ?_
                            refine tr_skip ?_
                            have h := Option.some.inj h
                            subst h
                            exact q_ft [(265, .slc 5)] [sO 0 (.slc 9000), sO 1 (.slc 9001), sO 5 (.slc 1), sO 7 (.slc 4), sI 8 .i64 i14, (.h 1, .e (.apt 6 p4)), (.h 4, .e (.apt 265 (MV.ptr (List.length ([] : AH)) 0))), (.h 182, .e (.arena true [6] H89)), (.h 265, .e (.arena true [] H12)), hR 9000 .i64 l_0, (.h 9001, .e (.rdb gone_1))] ⟨.apts' (κb := 6), .apt' (κb := 5) (κ0 := 5) (rw := true) (bs := []) (D := H12), .arena' (bs := [6]), .arena' (bs := []), .rd', .rdb', trivial⟩ hj6
                  · refine tr_cond_f (gone_1.getD i14.toNat false) (by kernel_rfl) hc87 ?_
                    refine tr_skip ?_
                    refine q_k ?_
                    refine tr_seq ?_
                    obtain ⟨⟨r106, H107⟩, e108, h⟩ := bind_some h
                    refine tr_rg hT [(2, .callA [(6, .rw), (1, .apt 6)] (.v (.one (.int .i64 r106))) [(267, .arena true [6] H107), (6, .dead)])] [sO 0 (.slc 9000), sO 1 (.slc 9001), sO 5 (.slc 1), sO 7 (.slc 4), sI 8 .i64 i14, sI 9 .i64 (l_0.getD i14.toNat 0), sB 10 false, sI 12 .i64 r106, (.h 1, .e (.apt 6 p4)), (.h 4, .e (.apt 5 (MV.ptr (List.length ([] : AH)) 0))), (.h 5, .e (.arena true [] H12)), (.h 267, .e (.arena true [6] H107)), hR 9000 .i64 l_0, (.h 9001, .e (.rdb gone_1))] (hone ((disk_Disk_Create_ok H13 p4 (l_0.getD i14.toNat 0) (r106, H107) e108).tr1 [(9001, .slc 1), (9000, .slc 6), (8900, .slc 267)] [(6, .arena true [] H13), (1, .apt 6 p4)] ⟨.arena' (bs := []), .apts' (κb := 6), trivial⟩)) ?_
                    refine q_k ?_
                    refine tr_block ?_
                    refine tr_seq ?_
                    refine tr_rg hT [] [sO 0 (.slc 9000), sO 1 (.slc 9001), sO 5 (.slc 1), sO 7 (.slc 4), sI 8 .i64 i14, sI 9 .i64 (l_0.getD i14.toNat 0), sI 12 .i64 r106, sB 92 true, (.h 1, .e (.apt 6 p4)), (.h 4, .e (.apt 5 (MV.ptr (List.length ([] : AH)) 0))), (.h 5, .e (.arena true [] H12)), (.h 267, .e (.arena true [6] H107)), hR 9000 .i64 l_0, (.h 9001, .e (.rdb gone_1))] hnil ?_
                    refine q_k ?_
                    refine tr_cond_t true (by kernel_rfl) rfl ?_
                    refine tr_seq ?_
                    refine tr_rg hT [] [sO 0 (.slc 9000), sO 1 (.slc 9001), sO 5 (.slc 1), sO 7 (.slc 4), sI 8 .i64 i14, sB 96 (r106 != (1 : Int)), (.h 1, .e (.apt 6 p4)), (.h 4, .e (.apt 5 (MV.ptr (List.length ([] : AH)) 0))), (.h 5, .e (.arena true [] H12)), (.h 267, .e (.arena true [6] H107)), hR 9000 .i64 l_0, (.h 9001, .e (.rdb gone_1))] hnil ?_
                    refine q_k ?_
                    rcases ite_split h with ⟨hc109, h⟩ | ⟨hc109, h⟩
                    · refine tr_cond_t (r106 != (1 : Int)) (by kernel_rfl) hc109 ?_
                      refine tr_seq ?_
                      refine tr_rg hT [] [sB 4 false] hnil ?_
                      refine q_k ?_
                      refine tr_ret ?_
                      refine q_b_ret ?_
                      refine q_b_ret ?_
                      refine q_k_ret ?_
                      refine q_kr_ret ?_
                      have h := Option.some.inj h
                      subst h
                      exact q_ls [sB 4 false] (hr0 false _ rfl ⟨by kernel_rfl, by kernel_rfl⟩)
                    · refine tr_cond_f (r106 != (1 : Int)) (by kernel_rfl) hc109 ?_
                      refine tr_skip ?_
                      refine q_b 2 ?_
                      refine q_b 1 ?_
                      refine q_k ?_
                      refine tr_rg hT [] [sO 0 (.slc 9000), sO 1 (.slc 9001), sO 5 (.slc 1), sO 7 (.slc 4), sI 8 .i64 (IntKind.i64.wrap (i14 + (1 : Int))), (.h 1, .e (.apt 6 p4)), (.h 4, .e (.apt 5 (MV.ptr (List.length ([] : AH)) 0))), (.h 5, .e (.arena true [] H12)), (.h 267, .e (.arena true [6] H107)), hR 9000 .i64 l_0, (.h 9001, .e (.rdb gone_1))] hnil ?_
                      refine q_kr ?_
                      exact trR_ft [(5, .slc 5), (6, .slc 267)] [sO 0 (.slc 9000), sO 1 (.slc 9001), sO 5 (.slc 1), sO 7 (.slc 4), sI 8 .i64 (IntKind.i64.wrap (i14 + (1 : Int))), (.h 1, .e (.apt 6 p4)), (.h 4, .e (.apt 5 (MV.ptr (List.length ([] : AH)) 0))), (.h 5, .e (.arena true [] H12)), (.h 6, .e (.arena true [] H107)), hR 9000 .i64 l_0, (.h 9001, .e (.rdb gone_1))] ⟨.apt' (κb := 6) (κ0 := 267) (rw := true) (bs := [6]) (D := H107), .apt' (κb := 5) (κ0 := 5) (rw := true) (bs := []) (D := H12), .arena' (bs := []), .arena' (bs := [6]), .rd', .rdb', trivial⟩ (ih0 (H12, H107, (IntKind.i64.wrap (i14 + (1 : Int)))) h)
                · refine tr_rg hT [(2, .bb []), (4, .dec false)] [sO 0 (.slc 9000), sO 1 (.slc 9001), sO 5 (.slc 1), sO 7 (.slc 4), sI 8 .i64 i14, sI 9 .i64 (l_0.getD i14.toNat 0), sB 10 false, sB 58 false, (.h 1, .e (.apt 6 p4)), (.h 4, .e (.apt 5 (MV.ptr (List.length ([] : AH)) 0))), (.h 5, .e (.arena true [] H12)), (.h 6, .e (.arena true [] H13)), hR 9000 .i64 l_0, (.h 9001, .e (.rdb gone_1))] (hone hb110) ?_
                  refine q_k ?_
                  refine tr_cond_f false (by kernel_rfl) rfl ?_
                  refine tr_skip ?_
                  refine q_k ?_
                  refine tr_seq ?_
                  obtain ⟨⟨r111, H112⟩, e113, h⟩ := bind_some h
                  refine tr_rg hT [(2, .callA [(6, .rw), (1, .apt 6)] (.v (.one (.int .i64 r111))) [(268, .arena true [6] H112), (6, .dead)])] [sO 0 (.slc 9000), sO 1 (.slc 9001), sO 5 (.slc 1), sO 7 (.slc 4), sI 8 .i64 i14, sI 9 .i64 (l_0.getD i14.toNat 0), sB 10 false, sI 12 .i64 r111, (.h 1, .e (.apt 6 p4)), (.h 4, .e (.apt 5 (MV.ptr (List.length ([] : AH)) 0))), (.h 5, .e (.arena true [] H12)), (.h 268, .e (.arena true [6] H112)), hR 9000 .i64 l_0, (.h 9001, .e (.rdb gone_1))] (hone ((disk_Disk_Create_ok H13 p4 (l_0.getD i14.toNat 0) (r111, H112) e113).tr1 [(9001, .slc 1), (9000, .slc 6), (8900, .slc 268)] [(6, .arena true [] H13), (1, .apt 6 p4)] ⟨.arena' (bs := []), .apts' (κb := 6), trivial⟩)) ?_
                  refine q_k ?_
                  refine tr_block ?_
                  refine tr_seq ?_
                  refine tr_rg hT [] [sO 0 (.slc 9000), sO 1 (.slc 9001), sO 5 (.slc 1), sO 7 (.slc 4), sI 8 .i64 i14, sI 9 .i64 (l_0.getD i14.toNat 0), sI 12 .i64 r111, sB 92 true, (.h 1, .e (.apt 6 p4)), (.h 4, .e (.apt 5 (MV.ptr (List.length ([] : AH)) 0))), (.h 5, .e (.arena true [] H12)), (.h 268, .e (.arena true [6] H112)), hR 9000 .i64 l_0, (.h 9001, .e (.rdb gone_1))] hnil ?_
                  refine q_k ?_
                  refine tr_cond_t true (by kernel_rfl) rfl ?_
                  refine tr_seq ?_
                  refine tr_rg hT [] [sO 0 (.slc 9000), sO 1 (.slc 9001), sO 5 (.slc 1), sO 7 (.slc 4), sI 8 .i64 i14, sB 96 (r111 != (1 : Int)), (.h 1, .e (.apt 6 p4)), (.h 4, .e (.apt 5 (MV.ptr (List.length ([] : AH)) 0))), (.h 5, .e (.arena true [] H12)), (.h 268, .e (.arena true [6] H112)), hR 9000 .i64 l_0, (.h 9001, .e (.rdb gone_1))] hnil ?_
                  refine q_k ?_
                  rcases ite_split h with ⟨hc114, h⟩ | ⟨hc114, h⟩
                  · refine tr_cond_t (r111 != (1 : Int)) (by kernel_rfl) hc114 ?_
                    refine tr_seq ?_
                    refine tr_rg hT [] [sB 4 false] hnil ?_
                    refine q_k ?_
                    refine tr_ret ?_
                    refine q_b_ret ?_
                    refine q_b_ret ?_
                    refine q_k_ret ?_
                    refine q_kr_ret ?_
                    have h := Option.some.inj h
                    subst h
                    exact q_ls [sB 4 false] (hr0 false _ rfl ⟨by kernel_rfl, by kernel_rfl⟩)
                  · refine tr_cond_f (r111 != (1 : Int)) (by kernel_rfl) hc114 ?_
                    refine tr_skip ?_
                    refine q_b 2 ?_
                    refine q_b 1 ?_
                    refine q_k ?_
                    refine tr_rg hT [] [sO 0 (.slc 9000), sO 1 (.slc 9001), sO 5 (.slc 1), sO 7 (.slc 4), sI 8 .i64 (IntKind.i64.wrap (i14 + (1 : Int))), (.h 1, .e (.apt 6 p4)), (.h 4, .e (.apt 5 (MV.ptr (List.length ([] : AH)) 0))), (.h 5, .e (.arena true [] H12)), (.h 268, .e (.arena true [6] H112)), hR 9000 .i64 l_0, (.h 9001, .e (.rdb gone_1))] hnil ?_
                    refine q_kr ?_
                    exact trR_ft [(5, .slc 5), (6, .slc 268)] [sO 0 (.slc 9000), sO 1 (.slc 9001), sO 5 (.slc 1), sO 7 (.slc 4), sI 8 .i64 (IntKind.i64.wrap (i14 + (1 : Int))), (.h 1, .e (.apt 6 p4)), (.h 4, .e (.apt 5 (MV.ptr (List.length ([] : AH)) 0))), (.h 5, .e (.arena true [] H12)), (.h 6, .e (.arena true [] H112)), hR 9000 .i64 l_0, (.h 9001, .e (.rdb gone_1))] ⟨.apt' (κb := 6) (κ0 := 268) (rw := true) (bs := [6]) (D := H112), .apt' (κb := 5) (κ0 := 5) (rw := true) (bs := []) (D := H12), .arena' (bs := []), .arena' (bs := [6]), .rd', .rdb', trivial⟩ (ih0 (H12, H112, (IntKind.i64.wrap (i14 + (1 : Int)))) h)
            · refine tr_cond_f (decide (i14 < (↑(List.length l_0) : Int))) (by kernel_rfl) hc17 ?_
              refine tr_exit ?_
              refine q_k_exit ?_
              refine q_kr_exit ?_
              have h := Option.some.inj h
              subst h
              exact q_ft [(7, .slc 5), (8, .slc 6)] [sO 5 (.slc 1), sO 7 (.slc 4), (.h 1, .e (.apt 8 p4)), (.h 4, .e (.apt 7 (MV.ptr (List.length ([] : AH)) 0))), (.h 7, .e (.arena true [] H12)), (.h 8, .e (.arena true [] H13))] ⟨.apt' (κb := 6) (κ0 := 6) (rw := true) (bs := []) (D := H13), .apt' (κb := 5) (κ0 := 5) (rw := true) (bs := []) (D := H12), .arena' (bs := []), .arena' (bs := []), trivial⟩ (hx0 (H12, H13) rfl)

end Go.Proofs.Sd
