/- Walks, printed by a program of this session (gowalk.py): each Go function comes to its plain function's answer. -/
import Derived.Test.YtdbheiibkpendaaSdA
import Derived.Test.YtdbheiibkpendaaSdD
import Derived.Test.YtdbheiibkpendaaMSdS
import Derived.Test.YtdbheiibkpendaaSdV0
import Derived.Test.YtdbheiibkpendaaSdV1
import Derived.Test.YtdbheiibkpendaaSdV2
import Derived.Test.YtdbheiibkpendaaSdV3
import Derived.Test.YtdbheiibkpendaaSdV4
namespace Go.Proofs.Sd
open Go Go.Gw D
set_option linter.unusedVariables false
set_option maxRecDepth 20000

theorem law14_DiskTrips_ok (n_0 : Int) (keep_1 : Bool) (r : Bool) (h : law14_DiskTrips n_0 keep_1 = some r) {pre : List (Nat × Ent)} : CallOk P 9 [.v (.one (.int .i64 n_0)), .v (.one (.bool keep_1))] pre (.v (.one (.bool r))) [] := by
  refine call0 (N := 153) Try.func9 (by kernel_rfl) rfl rfl rfl pre ?_
  intro _ w
  show Tr P (Ge w) 153 _ _ _ (RetQ P Try.f9 (R0 _ w))
  unfold law14_DiskTrips at h
  refine tr_seq ?_
  refine tr_rg hT [] [sI 0 .i64 n_0, sB 1 keep_1] hnil ?_
  refine q_k ?_
  refine tr_seq ?_
  refine tr_rg hT [] [sI 0 .i64 (IntKind.i64.wrap ((1 : Int) + (IntKind.i64.wrap ((IntKind.u64.wrap n_0).tmod (20 : Int))))), sB 1 keep_1] (hone (show (20 : Int) ≠ 0 from by decide)) ?_
  refine q_k ?_
  refine tr_seq ?_
  obtain ⟨⟨p1, r2, H3⟩, e4, h⟩ := bind_some h
  refine tr_rg hT [(0, .callA [] (.tup [.one (.slc 1), .one (.int .i64 r2)]) [(1, .apt 0 p1), (0, .arena true [] H3)])] [sI 0 .i64 (IntKind.i64.wrap ((1 : Int) + (IntKind.i64.wrap ((IntKind.u64.wrap n_0).tmod (20 : Int))))), sB 1 keep_1, sO 5 (.slc 1), sI 6 .i64 r2, (.h 0, .e (.arena true [] H3)), (.h 1, .e (.apt 0 p1))] (hone ((disk_New_ok (131072 : Int) (p1, r2, H3) e4).tr1 [(8901, .slc 0), (8900, .slc 1)] [] trivial)) ?_
  refine q_k ?_
  refine tr_seq ?_
  refine tr_seq ?_
  rcases ite_split h with ⟨hb5, h⟩ | ⟨hb6, h⟩
  · refine tr_rg hT [(2, .dec true)] [sI 0 .i64 (IntKind.i64.wrap ((1 : Int) + (IntKind.i64.wrap ((IntKind.u64.wrap n_0).tmod (20 : Int))))), sB 1 keep_1, sO 5 (.slc 1), sB 32 true, (.h 0, .e (.arena true [] H3)), (.h 1, .e (.apt 0 p1))] (hone hb5) ?_
    refine q_k ?_
    refine tr_cond_t true (by kernel_rfl) rfl ?_
    refine tr_seq ?_
    refine tr_rg hT [] [sB 4 false] hnil ?_
    refine q_k ?_
    refine tr_ret ?_
    refine q_k_ret ?_
    have h := Option.some.inj h
    subst h
    exact q_ret0 hT (.v (.one (.bool false))) rfl (by kernel_rfl)
  · obtain ⟨hn7, h⟩ := ite_some h
    rcases ite_split h with ⟨hb8, h⟩ | ⟨hb9, h⟩
    · refine tr_rg hT [(2, .dec false), (4, .ar 0 []), (6, .dec true)] [sI 0 .i64 (IntKind.i64.wrap ((1 : Int) + (IntKind.i64.wrap ((IntKind.u64.wrap n_0).tmod (20 : Int))))), sB 1 keep_1, sO 5 (.slc 1), sB 32 true, (.h 0, .e (.arena true [] H3)), (.h 1, .e (.apt 0 p1))] (hcons hb6 (hcons hn7 (hone hb8))) ?_
      refine q_k ?_
      refine tr_cond_t true (by kernel_rfl) rfl ?_
      refine tr_seq ?_
      refine tr_rg hT [] [sB 4 false] hnil ?_
      refine q_k ?_
      refine tr_ret ?_
      refine q_k_ret ?_
      have h := Option.some.inj h
      subst h
      exact q_ret0 hT (.v (.one (.bool false))) rfl (by kernel_rfl)
    · obtain ⟨⟨r10, H11⟩, e12, h⟩ := bind_some h
      refine tr_rg hT [(2, .dec false), (4, .ar 0 []), (6, .dec false), (8, .callA [(0, .rw), (1, .apt 0)] (.v (.one (.int .i64 r10))) [(2, .arena true [0] H11), (0, .dead)])] [sI 0 .i64 (IntKind.i64.wrap ((1 : Int) + (IntKind.i64.wrap ((IntKind.u64.wrap n_0).tmod (20 : Int))))), sB 1 keep_1, sO 5 (.slc 1), sB 32 (r10 != (0 : Int)), (.h 1, .e (.apt 0 p1)), (.h 2, .e (.arena true [0] H11))] (hcons hb6 (hcons hn7 (hcons hb9 (hone ((disk_Disk_Create_ok H3 p1 (0 : Int) (r10, H11) e12).tr1 [(9001, .slc 1), (9000, .slc 0), (8900, .slc 2)] [(0, .arena true [] H3), (1, .apt 0 p1)] ⟨.arena' (bs := []), .apts' (κb := 0), trivial⟩))))) ?_
      refine q_k ?_
      rcases ite_split h with ⟨hc13, h⟩ | ⟨hc13, h⟩
      · refine tr_cond_t (r10 != (0 : Int)) (by kernel_rfl) hc13 ?_
        refine tr_seq ?_
        refine tr_rg hT [] [sB 4 false] hnil ?_
        refine q_k ?_
        refine tr_ret ?_
        refine q_k_ret ?_
        have h := Option.some.inj h
        subst h
        exact q_ret0 hT (.v (.one (.bool false))) rfl (by kernel_rfl)
      · refine tr_cond_f (r10 != (0 : Int)) (by kernel_rfl) hc13 ?_
        refine tr_skip ?_
        refine q_k ?_
        refine tr_seq ?_
        refine tr_rg hT [(0, .arN 3 [4, 5])] [sI 0 .i64 (IntKind.i64.wrap ((1 : Int) + (IntKind.i64.wrap ((IntKind.u64.wrap n_0).tmod (20 : Int))))), sB 1 keep_1, sO 5 (.slc 1), sO 7 (.slc 5), (.h 1, .e (.apt 0 p1)), (.h 2, .e (.arena true [0] H11)), (.h 4, .e (.arena true [3] (([] : AH) ++ [MO.row 4 1 (List.replicate 40 (MV.bool false))]))), (.h 5, .e (.apt 4 (MV.slc (List.length ([] : AH)) 1 0 40)))] (hcons (show (40 : Int) = (40 : Int) from rfl) (hone (show 0 ≤ (40 : Int) ∧ (40 : Int) ≤ (↑maxR : Int) from by decide))) ?_
        refine q_k ?_
        refine tr_seq ?_
        refine tr_seq ?_
        refine tr_rg hT [] [sI 0 .i64 (IntKind.i64.wrap ((1 : Int) + (IntKind.i64.wrap ((IntKind.u64.wrap n_0).tmod (20 : Int))))), sB 1 keep_1, sO 5 (.slc 1), sO 7 (.slc 5), sI 8 .i64 (0 : Int), (.h 1, .e (.apt 0 p1)), (.h 2, .e (.arena true [0] H11)), (.h 4, .e (.arena true [3] (([] : AH) ++ [MO.row 4 1 (List.replicate 40 (MV.bool false))]))), (.h 5, .e (.apt 4 (MV.slc (List.length ([] : AH)) 1 0 40)))] hnil ?_
        refine q_k ?_
        refine tr_block ?_
        obtain ⟨H16, e21, h⟩ := bind_some h
        refine tr_ft [(6, .slc 4)] [sI 0 .i64 (IntKind.i64.wrap ((1 : Int) + (IntKind.i64.wrap ((IntKind.u64.wrap n_0).tmod (20 : Int))))), sB 1 keep_1, sO 5 (.slc 1), sO 7 (.slc 5), sI 8 .i64 (0 : Int), (.h 1, .e (.apt 0 p1)), (.h 2, .e (.arena true [0] H11)), (.h 5, .e (.apt 6 (MV.slc (List.length ([] : AH)) 1 0 40))), (.h 6, .e (.arena true [] (([] : AH) ++ [MO.row 4 1 (List.replicate 40 (MV.bool false))])))] ⟨.apts' (κb := 0), .arena' (bs := [0]), .apt' (κb := 4) (κ0 := 4) (rw := true) (bs := [3]) (D := (([] : AH) ++ [MO.row 4 1 (List.replicate 40 (MV.bool false))])), .arena' (bs := [3]), trivial⟩ ?_
        refine tr_loop_fuel (id := 0) (α := AH × Int) (β := AH) (fun z => [sI 0 .i64 (IntKind.i64.wrap ((1 : Int) + (IntKind.i64.wrap ((IntKind.u64.wrap n_0).tmod (20 : Int))))), sB 1 keep_1, sO 5 (.slc 1), sO 7 (.slc 5), sI 8 .i64 z.2, (.h 1, .e (.apt 0 p1)), (.h 2, .e (.arena true [0] H11)), (.h 5, .e (.apt 6 (MV.slc (List.length ([] : AH)) 1 0 40))), (.h 6, .e (.arena true [] z.1))]) (fun z => [sI 0 .i64 (IntKind.i64.wrap ((1 : Int) + (IntKind.i64.wrap ((IntKind.u64.wrap n_0).tmod (20 : Int))))), sB 1 keep_1, sO 5 (.slc 1), sO 7 (.slc 5), (.h 1, .e (.apt 0 p1)), (.h 2, .e (.arena true [0] H11)), (.h 5, .e (.apt 7 (MV.slc (List.length ([] : AH)) 1 0 40))), (.h 7, .e (.arena true [] z))]) (fun k z => law14_DiskTrips_l0 n_0 keep_1 p1 H11 k z.1 z.2) H16 (fun _ => rfl) (41) ((([] : AH) ++ [MO.row 4 1 (List.replicate 40 (MV.bool false))]), (0 : Int)) e21 ?_ ?_
        · skip
          replace h : (if AH.isBools H16 (MV.slc (List.length ([] : AH)) 1 0 40) = true then (disk_Disk_Trip H11 p1 (IntKind.i64.wrap ((1 : Int) + (IntKind.i64.wrap ((IntKind.u64.wrap n_0).tmod (20 : Int))))) (AH.bools H16 (MV.slc (List.length ([] : AH)) 1 0 40)) (-1 : Int) (0 : Int)).bind (fun H22 => (law14_DiskTrips_l1 n_0 keep_1 p1 (22) H22 (1 : Int)).bind (fun y => match y with | .inl H27 => (disk_Disk_Off H27 p1).bind (fun b62 => if (!b62) = true then some false else (disk_Disk_Life H27 p1).bind (fun r66 => if (r66 != (1 : Int)) = true then some false else (disk_Disk_Sync H27 p1 (0 : Int)).bind (fun (r70, H71) => if (r70 != (8 : Int)) = true then some false else (disk_Disk_Start H71 p1).bind (fun H74 => (disk_Disk_Read H74 p1 (0 : Int)).bind (fun (a76, r77) => if (r77 != (0 : Int)) = true then some false else if ((↑(List.length a76) : Int) != (IntKind.i64.wrap ((1 : Int) + (IntKind.i64.wrap ((IntKind.u64.wrap n_0).tmod (20 : Int)))))) = true then some false else (law14_DiskTrips_l2 n_0 keep_1 p1 H74 a76 (((IntKind.i64.wrap ((1 : Int) + (IntKind.i64.wrap ((IntKind.u64.wrap n_0).tmod (20 : Int))))) - (0 : Int)).toNat + 1) (0 : Int)).bind (fun y => match y with | .inl _ => (disk_Disk_Sync H74 p1 (0 : Int)).bind (fun (r91, H92) => if (r91 == (0 : Int)) = true then (law14_wakes).bind (fun b95 => some b95) else some false) | .inr v => some v)))))) | .inr v => some v)) else none) = _ := h
          refine q_b_this ?_
          refine q_k ?_
          refine tr_seq ?_
          obtain ⟨hn24, h⟩ := ite_some h
          obtain ⟨H22, e23, h⟩ := bind_some h
          refine tr_rg hT [(3, .callA [(2, .rw), (1, .apt 2), (5, .rdb 7)] (.tup []) [(9, .arena true [2] H22), (2, .dead)])] [sI 0 .i64 (IntKind.i64.wrap ((1 : Int) + (IntKind.i64.wrap ((IntKind.u64.wrap n_0).tmod (20 : Int))))), sB 1 keep_1, sO 5 (.slc 1), (.h 1, .e (.apt 0 p1)), (.h 9, .e (.arena true [2, 0] H22))] (hcons hn24 (hone ((disk_Disk_Trip_ok H11 p1 (IntKind.i64.wrap ((1 : Int) + (IntKind.i64.wrap ((IntKind.u64.wrap n_0).tmod (20 : Int))))) (AH.bools H16 (MV.slc (List.length ([] : AH)) 1 0 40)) (-1 : Int) (0 : Int) H22 e23).tr1 [(9001, .slc 1), (9002, .slc 5), (9000, .slc 2), (8900, .slc 9)] [(2, .arena true [] H11), (1, .apt 2 p1), (5, .rdb (AH.bools H16 (MV.slc (List.length ([] : AH)) 1 0 40)))] ⟨.arena' (bs := []), .apts' (κb := 2), .rdb', trivial⟩))) ?_
          refine q_k ?_
          refine tr_seq ?_
          refine tr_seq ?_
          refine tr_rg hT [] [sI 0 .i64 (IntKind.i64.wrap ((1 : Int) + (IntKind.i64.wrap ((IntKind.u64.wrap n_0).tmod (20 : Int))))), sB 1 keep_1, sO 5 (.slc 1), sI 9 .i64 (1 : Int), (.h 1, .e (.apt 0 p1)), (.h 9, .e (.arena true [2, 0] H22))] hnil ?_
          refine q_k ?_
          refine tr_block ?_
          obtain ⟨rr1, e61, h⟩ := bind_some h
          refine tr_ft [(10, .slc 9)] [sI 0 .i64 (IntKind.i64.wrap ((1 : Int) + (IntKind.i64.wrap ((IntKind.u64.wrap n_0).tmod (20 : Int))))), sB 1 keep_1, sO 5 (.slc 1), sI 9 .i64 (1 : Int), (.h 1, .e (.apt 10 p1)), (.h 10, .e (.arena true [] H22))] ⟨.apt' (κb := 0) (κ0 := 9) (rw := true) (bs := [2, 0]) (D := H22), .arena' (bs := [2, 0]), trivial⟩ ?_
          refine tr_loop_ret (id := 2) (α := AH × Int) (β := AH) (ρ := Bool) (fun z => [sI 0 .i64 (IntKind.i64.wrap ((1 : Int) + (IntKind.i64.wrap ((IntKind.u64.wrap n_0).tmod (20 : Int))))), sB 1 keep_1, sO 5 (.slc 1), sI 9 .i64 z.2, (.h 1, .e (.apt 10 p1)), (.h 10, .e (.arena true [] z.1))]) (fun z => [sI 0 .i64 (IntKind.i64.wrap ((1 : Int) + (IntKind.i64.wrap ((IntKind.u64.wrap n_0).tmod (20 : Int))))), sB 1 keep_1, sO 5 (.slc 1), (.h 1, .e (.apt 11 p1)), (.h 11, .e (.arena true [] z))]) (fun v σ => resS T (Gw.look σ) Try.f9.results.toList = some (.v (.one (.bool v)))) (fun k z => law14_DiskTrips_l1 n_0 keep_1 p1 k z.1 z.2) rr1 (fun _ => rfl) (22) (H22, (1 : Int)) e61 ?_ ?_ ?_
          · intro H27 hz
            subst hz
            replace h : ((disk_Disk_Off H27 p1).bind (fun b62 => if (!b62) = true then some false else (disk_Disk_Life H27 p1).bind (fun r66 => if (r66 != (1 : Int)) = true then some false else (disk_Disk_Sync H27 p1 (0 : Int)).bind (fun (r70, H71) => if (r70 != (8 : Int)) = true then some false else (disk_Disk_Start H71 p1).bind (fun H74 => (disk_Disk_Read H74 p1 (0 : Int)).bind (fun (a76, r77) => if (r77 != (0 : Int)) = true then some false else if ((↑(List.length a76) : Int) != (IntKind.i64.wrap ((1 : Int) + (IntKind.i64.wrap ((IntKind.u64.wrap n_0).tmod (20 : Int)))))) = true then some false else (law14_DiskTrips_l2 n_0 keep_1 p1 H74 a76 (((IntKind.i64.wrap ((1 : Int) + (IntKind.i64.wrap ((IntKind.u64.wrap n_0).tmod (20 : Int))))) - (0 : Int)).toNat + 1) (0 : Int)).bind (fun y => match y with | .inl _ => (disk_Disk_Sync H74 p1 (0 : Int)).bind (fun (r91, H92) => if (r91 == (0 : Int)) = true then (law14_wakes).bind (fun b95 => some b95) else some false) | .inr v => some v))))))) = _ := h
            refine q_b_this ?_
            refine q_k ?_
            refine tr_seq ?_
            refine tr_seq ?_
            obtain ⟨b62, e63, h⟩ := bind_some h
            rcases ite_split h with ⟨hb64, h⟩ | ⟨hb65, h⟩
            · refine tr_rg hT [(1, .callA [(11, .ro), (1, .apt 11)] (.v (.one (.bool b62))) []), (3, .dec true)] [sI 0 .i64 (IntKind.i64.wrap ((1 : Int) + (IntKind.i64.wrap ((IntKind.u64.wrap n_0).tmod (20 : Int))))), sB 1 keep_1, sO 5 (.slc 1), sB 105 true, (.h 1, .e (.apt 11 p1)), (.h 11, .e (.arena true [] H27))] (hcons ((disk_Disk_Off_ok H27 p1 b62 e63).tr1 [(9001, .slc 1), (9000, .slc 11)] [(11, .arena false [] H27), (1, .apt 11 p1)] ⟨.arena' (bs := []), .apts' (κb := 11), trivial⟩) (hone hb64)) ?_
              refine q_k ?_
              refine tr_cond_t true (by kernel_rfl) rfl ?_
              refine tr_seq ?_
              refine tr_rg hT [] [sB 4 false] hnil ?_
              refine q_k ?_
              refine tr_ret ?_
              refine q_k_ret ?_
              have h := Option.some.inj h
              subst h
              exact q_ret0 hT (.v (.one (.bool false))) rfl (by kernel_rfl)
            · obtain ⟨r66, e67, h⟩ := bind_some h
              rcases ite_split h with ⟨hb68, h⟩ | ⟨hb69, h⟩
              · refine tr_rg hT [(1, .callA [(11, .ro), (1, .apt 11)] (.v (.one (.bool b62))) []), (3, .dec false), (5, .callA [(11, .ro), (1, .apt 11)] (.v (.one (.int .i64 r66))) []), (8, .dec true)] [sI 0 .i64 (IntKind.i64.wrap ((1 : Int) + (IntKind.i64.wrap ((IntKind.u64.wrap n_0).tmod (20 : Int))))), sB 1 keep_1, sO 5 (.slc 1), sB 105 true, (.h 1, .e (.apt 11 p1)), (.h 11, .e (.arena true [] H27))] (hcons ((disk_Disk_Off_ok H27 p1 b62 e63).tr1 [(9001, .slc 1), (9000, .slc 11)] [(11, .arena false [] H27), (1, .apt 11 p1)] ⟨.arena' (bs := []), .apts' (κb := 11), trivial⟩) (hcons hb65 (hcons ((disk_Disk_Life_ok H27 p1 r66 e67).tr1 [(9001, .slc 1), (9000, .slc 11)] [(11, .arena false [] H27), (1, .apt 11 p1)] ⟨.arena' (bs := []), .apts' (κb := 11), trivial⟩) (hone hb68)))) ?_
                refine q_k ?_
                refine tr_cond_t true (by kernel_rfl) rfl ?_
                refine tr_seq ?_
                refine tr_rg hT [] [sB 4 false] hnil ?_
                refine q_k ?_
                refine tr_ret ?_
                refine q_k_ret ?_
                have h := Option.some.inj h
                subst h
                exact q_ret0 hT (.v (.one (.bool false))) rfl (by kernel_rfl)
              · obtain ⟨⟨r70, H71⟩, e72, h⟩ := bind_some h
                refine tr_rg hT [(1, .callA [(11, .ro), (1, .apt 11)] (.v (.one (.bool b62))) []), (3, .dec false), (5, .callA [(11, .ro), (1, .apt 11)] (.v (.one (.int .i64 r66))) []), (8, .dec false), (10, .callA [(11, .rw), (1, .apt 11)] (.v (.one (.int .i64 r70))) [(19, .arena true [11] H71), (11, .dead)])] [sI 0 .i64 (IntKind.i64.wrap ((1 : Int) + (IntKind.i64.wrap ((IntKind.u64.wrap n_0).tmod (20 : Int))))), sB 1 keep_1, sO 5 (.slc 1), sB 105 (r70 != (8 : Int)), (.h 1, .e (.apt 11 p1)), (.h 19, .e (.arena true [11] H71))] (hcons ((disk_Disk_Off_ok H27 p1 b62 e63).tr1 [(9001, .slc 1), (9000, .slc 11)] [(11, .arena false [] H27), (1, .apt 11 p1)] ⟨.arena' (bs := []), .apts' (κb := 11), trivial⟩) (hcons hb65 (hcons ((disk_Disk_Life_ok H27 p1 r66 e67).tr1 [(9001, .slc 1), (9000, .slc 11)] [(11, .arena false [] H27), (1, .apt 11 p1)] ⟨.arena' (bs := []), .apts' (κb := 11), trivial⟩) (hcons hb69 (hone ((disk_Disk_Sync_ok H27 p1 (0 : Int) (r70, H71) e72).tr1 [(9001, .slc 1), (9000, .slc 11), (8900, .slc 19)] [(11, .arena true [] H27), (1, .apt 11 p1)] ⟨.arena' (bs := []), .apts' (κb := 11), trivial⟩)))))) ?_
                refine q_k ?_
                rcases ite_split h with ⟨hc73, h⟩ | ⟨hc73, h⟩
                · refine tr_cond_t (r70 != (8 : Int)) (by kernel_rfl) hc73 ?_
                  refine tr_seq ?_
                  refine tr_rg hT [] [sB 4 false] hnil ?_
                  refine q_k ?_
                  refine tr_ret ?_
                  refine q_k_ret ?_
                  have h := Option.some.inj h
                  subst h
                  exact q_ret0 hT (.v (.one (.bool false))) rfl (by kernel_rfl)
                · refine tr_cond_f (r70 != (8 : Int)) (by kernel_rfl) hc73 ?_
                  refine tr_skip ?_
                  refine q_k ?_
                  refine tr_seq ?_
                  obtain ⟨H74, e75, h⟩ := bind_some h
                  refine tr_rg hT [(1, .callA [(19, .rw), (1, .apt 19)] (.tup []) [(20, .arena true [19] H74), (19, .dead)])] [sI 0 .i64 (IntKind.i64.wrap ((1 : Int) + (IntKind.i64.wrap ((IntKind.u64.wrap n_0).tmod (20 : Int))))), sB 1 keep_1, sO 5 (.slc 1), (.h 1, .e (.apt 11 p1)), (.h 20, .e (.arena true [19, 11] H74))] (hone ((disk_Disk_Start_ok H71 p1 H74 e75).tr1 [(9001, .slc 1), (9000, .slc 19), (8900, .slc 20)] [(19, .arena true [] H71), (1, .apt 19 p1)] ⟨.arena' (bs := []), .apts' (κb := 19), trivial⟩)) ?_
                  refine q_k ?_
                  refine tr_seq ?_
                  obtain ⟨⟨a76, r77⟩, e78, h⟩ := bind_some h
                  refine tr_rg hT [(1, .callA [(20, .ro), (1, .apt 20)] (.tup [.one (.slc 21), .one (.int .i64 r77)]) [(21, .own 5 .u8 a76)])] [sI 0 .i64 (IntKind.i64.wrap ((1 : Int) + (IntKind.i64.wrap ((IntKind.u64.wrap n_0).tmod (20 : Int))))), sB 1 keep_1, sO 5 (.slc 1), sI 6 .i64 r77, sO 11 (.slc 21), (.h 1, .e (.apt 11 p1)), (.h 20, .e (.arena true [19, 11] H74)), hO 21 5 .u8 a76] (hone ((disk_Disk_Read_ok H74 p1 (0 : Int) (a76, r77) e78).tr1 [(9001, .slc 1), (9000, .slc 20), (8900, .slc 21)] [(20, .arena false [] H74), (1, .apt 20 p1)] ⟨.arena' (bs := []), .apts' (κb := 20), trivial⟩)) ?_
                  refine q_k ?_
                  refine tr_seq ?_
                  refine tr_seq ?_
                  rcases ite_split h with ⟨hb79, h⟩ | ⟨hb80, h⟩
                  · refine tr_rg hT [(2, .dec true)] [sI 0 .i64 (IntKind.i64.wrap ((1 : Int) + (IntKind.i64.wrap ((IntKind.u64.wrap n_0).tmod (20 : Int))))), sB 1 keep_1, sO 5 (.slc 1), sO 11 (.slc 21), sB 120 true, (.h 1, .e (.apt 11 p1)), (.h 20, .e (.arena true [19, 11] H74)), hO 21 5 .u8 a76] (hone hb79) ?_
                    refine q_k ?_
                    refine tr_cond_t true (by kernel_rfl) rfl ?_
                    refine tr_seq ?_
                    refine tr_rg hT [] [sB 4 false] hnil ?_
                    refine q_k ?_
                    refine tr_ret ?_
                    refine q_k_ret ?_
                    have h := Option.some.inj h
                    subst h
                    exact q_ret0 hT (.v (.one (.bool false))) rfl (by kernel_rfl)
                  · refine tr_rg hT [(2, .dec false)] [sI 0 .i64 (IntKind.i64.wrap ((1 : Int) + (IntKind.i64.wrap ((IntKind.u64.wrap n_0).tmod (20 : Int))))), sB 1 keep_1, sO 5 (.slc 1), sO 11 (.slc 21), sB 120 ((↑(List.length a76) : Int) != (IntKind.i64.wrap ((1 : Int) + (IntKind.i64.wrap ((IntKind.u64.wrap n_0).tmod (20 : Int)))))), (.h 1, .e (.apt 11 p1)), (.h 20, .e (.arena true [19, 11] H74)), hO 21 5 .u8 a76] (hone hb80) ?_
                    refine q_k ?_
                    rcases ite_split h with ⟨hc81, h⟩ | ⟨hc81, h⟩
                    · refine tr_cond_t ((↑(List.length a76) : Int) != (IntKind.i64.wrap ((1 : Int) + (IntKind.i64.wrap ((IntKind.u64.wrap n_0).tmod (20 : Int)))))) (by kernel_rfl) hc81 ?_
                      refine tr_seq ?_
                      refine tr_rg hT [] [sB 4 false] hnil ?_
                      refine q_k ?_
                      refine tr_ret ?_
                      refine q_k_ret ?_
                      have h := Option.some.inj h
                      subst h
                      exact q_ret0 hT (.v (.one (.bool false))) rfl (by kernel_rfl)
                    · refine tr_cond_f ((↑(List.length a76) : Int) != (IntKind.i64.wrap ((1 : Int) + (IntKind.i64.wrap ((IntKind.u64.wrap n_0).tmod (20 : Int)))))) (by kernel_rfl) hc81 ?_
                      refine tr_skip ?_
                      refine q_k ?_
                      refine tr_seq ?_
                      refine tr_seq ?_
                      refine tr_rg hT [] [sI 0 .i64 (IntKind.i64.wrap ((1 : Int) + (IntKind.i64.wrap ((IntKind.u64.wrap n_0).tmod (20 : Int))))), sB 1 keep_1, sO 5 (.slc 1), sO 11 (.slc 21), sI 12 .i64 (0 : Int), (.h 1, .e (.apt 11 p1)), (.h 20, .e (.arena true [19, 11] H74)), hO 21 5 .u8 a76] hnil ?_
                      refine q_k ?_
                      refine tr_block ?_
                      obtain ⟨rr2, e90, h⟩ := bind_some h
                      refine tr_ft [] [sI 0 .i64 (IntKind.i64.wrap ((1 : Int) + (IntKind.i64.wrap ((IntKind.u64.wrap n_0).tmod (20 : Int))))), sB 1 keep_1, sO 5 (.slc 1), sO 11 (.slc 21), sI 12 .i64 (0 : Int), (.h 1, .e (.apt 11 p1)), (.h 20, .e (.arena true [19, 11] H74)), hO 21 5 .u8 a76] ⟨.apts' (κb := 11), .arena' (bs := [19, 11]), .own', trivial⟩ ?_
                      refine tr_loop_ret (id := 4) (α := Int) (β := Unit) (ρ := Bool) (fun z => [sI 0 .i64 (IntKind.i64.wrap ((1 : Int) + (IntKind.i64.wrap ((IntKind.u64.wrap n_0).tmod (20 : Int))))), sB 1 keep_1, sO 5 (.slc 1), sO 11 (.slc 21), sI 12 .i64 z, (.h 1, .e (.apt 11 p1)), (.h 20, .e (.arena true [19, 11] H74)), hO 21 5 .u8 a76]) (fun z => [sO 5 (.slc 1), (.h 1, .e (.apt 11 p1)), (.h 20, .e (.arena true [19, 11] H74))]) (fun v σ => resS T (Gw.look σ) Try.f9.results.toList = some (.v (.one (.bool v)))) (fun k z => law14_DiskTrips_l2 n_0 keep_1 p1 H74 a76 k z) rr2 (fun _ => rfl) (((IntKind.i64.wrap ((1 : Int) + (IntKind.i64.wrap ((IntKind.u64.wrap n_0).tmod (20 : Int))))) - (0 : Int)).toNat + 1) (0 : Int) e90 ?_ ?_ ?_
                      · intro z hz
                        subst hz
                        rcases z with _
                        replace h : ((disk_Disk_Sync H74 p1 (0 : Int)).bind (fun (r91, H92) => if (r91 == (0 : Int)) = true then (law14_wakes).bind (fun b95 => some b95) else some false)) = _ := h
                        refine q_b_this ?_
                        refine q_k ?_
                        refine tr_seq ?_
                        obtain ⟨⟨r91, H92⟩, e93, h⟩ := bind_some h
                        rcases ite_split h with ⟨hb94, h⟩ | ⟨hb97, h⟩
                        · obtain ⟨b95, e96, h⟩ := bind_some h
                          refine tr_rg hT [(1, .callA [(20, .rw), (1, .apt 20)] (.v (.one (.int .i64 r91))) [(22, .arena true [20] H92), (20, .dead)]), (3, .dec true), (4, .call [] (.v (.one (.bool b95))) [])] [sB 4 b95] (hcons ((disk_Disk_Sync_ok H74 p1 (0 : Int) (r91, H92) e93).tr1 [(9001, .slc 1), (9000, .slc 20), (8900, .slc 22)] [(20, .arena true [] H74), (1, .apt 20 p1)] ⟨.arena' (bs := []), .apts' (κb := 20), trivial⟩) (hcons hb94 (hone (law14_wakes_ok  b95 e96 (pre := []))))) ?_
                          refine q_k ?_
                          refine tr_ret ?_
                          have h := Option.some.inj h
                          subst h
                          exact q_ret0 hT (.v (.one (.bool b95))) rfl (by kernel_rfl)
                        · refine tr_rg hT [(1, .callA [(20, .rw), (1, .apt 20)] (.v (.one (.int .i64 r91))) [(22, .arena true [20] H92), (20, .dead)]), (3, .dec false)] [sB 4 false] (hcons ((disk_Disk_Sync_ok H74 p1 (0 : Int) (r91, H92) e93).tr1 [(9001, .slc 1), (9000, .slc 20), (8900, .slc 22)] [(20, .arena true [] H74), (1, .apt 20 p1)] ⟨.arena' (bs := []), .apts' (κb := 20), trivial⟩) (hone hb97)) ?_
                          refine q_k ?_
                          refine tr_ret ?_
                          have h := Option.some.inj h
                          subst h
                          exact q_ret0 hT (.v (.one (.bool false))) rfl (by kernel_rfl)
                      · intro v σ hz hv
                        subst hz
                        have h := Option.some.inj h
                        subst h
                        refine q_b_ret ?_
                        refine q_k_ret ?_
                        exact q_ret0 hT _ rfl hv
                      · clear h e90
                        intro k ih2 hx2 hr2 i82 h
                        replace h : (if (decide (i82 < (IntKind.i64.wrap ((1 : Int) + (IntKind.i64.wrap ((IntKind.u64.wrap n_0).tmod (20 : Int))))))) = true then if 0 ≤ i82 ∧ i82 < ↑(List.length a76) then if (!(((a76.getD i82.toNat 0) == (9 : Int)) == keep_1)) = true then some (.inr false) else if ((a76.getD i82.toNat 0) != (9 : Int)) = true then if ((a76.getD i82.toNat 0) != (0 : Int)) = true then some (.inr false) else law14_DiskTrips_l2 n_0 keep_1 p1 H74 a76 k (IntKind.i64.wrap (i82 + (1 : Int))) else law14_DiskTrips_l2 n_0 keep_1 p1 H74 a76 k (IntKind.i64.wrap (i82 + (1 : Int))) else none else some (.inl ())) = _ := h
                        refine tr_seq ?_
                        refine tr_seq ?_
                        refine tr_rg hT [] [sI 0 .i64 (IntKind.i64.wrap ((1 : Int) + (IntKind.i64.wrap ((IntKind.u64.wrap n_0).tmod (20 : Int))))), sB 1 keep_1, sO 5 (.slc 1), sO 11 (.slc 21), sI 12 .i64 i82, sB 123 (decide (i82 < (IntKind.i64.wrap ((1 : Int) + (IntKind.i64.wrap ((IntKind.u64.wrap n_0).tmod (20 : Int))))))), (.h 1, .e (.apt 11 p1)), (.h 20, .e (.arena true [19, 11] H74)), hO 21 5 .u8 a76] hnil ?_
                        refine q_k ?_
                        rcases ite_split h with ⟨hc83, h⟩ | ⟨hc83, h⟩
                        · refine tr_cond_t (decide (i82 < (IntKind.i64.wrap ((1 : Int) + (IntKind.i64.wrap ((IntKind.u64.wrap n_0).tmod (20 : Int))))))) (by kernel_rfl) hc83 ?_
                          refine tr_skip ?_
                          refine q_k ?_
                          refine tr_seq ?_
                          refine tr_block ?_
                          refine tr_seq ?_
                          obtain ⟨hn84, h⟩ := ite_some h
                          rcases ite_split h with ⟨hb85, h⟩ | ⟨hb86, h⟩
                          · refine tr_rg hT [(7, .dec true)] [sI 0 .i64 (IntKind.i64.wrap ((1 : Int) + (IntKind.i64.wrap ((IntKind.u64.wrap n_0).tmod (20 : Int))))), sB 1 keep_1, sO 5 (.slc 1), sO 11 (.slc 21), sI 12 .i64 i82, sB 146 true, (.h 1, .e (.apt 11 p1)), (.h 20, .e (.arena true [19, 11] H74)), hO 21 5 .u8 a76] (hcons hn84 (hcons hn84.2 (hone hb85))) ?_
                            refine q_k ?_
                            refine tr_cond_t true (by kernel_rfl) rfl ?_
                            refine tr_seq ?_
                            refine tr_rg hT [] [sB 4 false] hnil ?_
                            refine q_k ?_
                            refine tr_ret ?_
                            refine q_b_ret ?_
                            refine q_k_ret ?_
                            refine q_kr_ret ?_
                            have h := Option.some.inj h
                            subst h
                            exact hr2 false _ rfl (by kernel_rfl)
                          · rcases ite_split h with ⟨hb87, h⟩ | ⟨hb89, h⟩
                            · refine tr_rg hT [(7, .dec false), (13, .dec true)] [sI 0 .i64 (IntKind.i64.wrap ((1 : Int) + (IntKind.i64.wrap ((IntKind.u64.wrap n_0).tmod (20 : Int))))), sB 1 keep_1, sO 5 (.slc 1), sO 11 (.slc 21), sI 12 .i64 i82, sB 146 ((a76.getD i82.toNat 0) != (0 : Int)), (.h 1, .e (.apt 11 p1)), (.h 20, .e (.arena true [19, 11] H74)), hO 21 5 .u8 a76] (hcons hn84 (hcons hn84.2 (hcons hb86 (hcons hn84 (hcons hn84.2 (hcons hb87 (hcons hn84 (hone hn84.2)))))))) ?_
                              refine q_k ?_
                              rcases ite_split h with ⟨hc88, h⟩ | ⟨hc88, h⟩
                              · refine tr_cond_t ((a76.getD i82.toNat 0) != (0 : Int)) (by kernel_rfl) hc88 ?_
                                refine tr_seq ?_
                                refine tr_rg hT [] [sB 4 false] hnil ?_
                                refine q_k ?_
                                refine tr_ret ?_
                                refine q_b_ret ?_
                                refine q_k_ret ?_
                                refine q_kr_ret ?_
                                have h := Option.some.inj h
                                subst h
                                exact hr2 false _ rfl (by kernel_rfl)
                              · refine tr_cond_f ((a76.getD i82.toNat 0) != (0 : Int)) (by kernel_rfl) hc88 ?_
                                refine tr_skip ?_
                                refine q_b 5 ?_
                                refine q_k ?_
                                refine tr_rg hT [] [sI 0 .i64 (IntKind.i64.wrap ((1 : Int) + (IntKind.i64.wrap ((IntKind.u64.wrap n_0).tmod (20 : Int))))), sB 1 keep_1, sO 5 (.slc 1), sO 11 (.slc 21), sI 12 .i64 (IntKind.i64.wrap (i82 + (1 : Int))), (.h 1, .e (.apt 11 p1)), (.h 20, .e (.arena true [19, 11] H74)), hO 21 5 .u8 a76] hnil ?_
                                refine q_kr ?_
                                exact trR_ls [sI 0 .i64 (IntKind.i64.wrap ((1 : Int) + (IntKind.i64.wrap ((IntKind.u64.wrap n_0).tmod (20 : Int))))), sB 1 keep_1, sO 5 (.slc 1), sO 11 (.slc 21), sI 12 .i64 (IntKind.i64.wrap (i82 + (1 : Int))), (.h 1, .e (.apt 11 p1)), (.h 20, .e (.arena true [19, 11] H74)), hO 21 5 .u8 a76] (ih2 (IntKind.i64.wrap (i82 + (1 : Int))) h)
                            · refine tr_rg hT [(7, .dec false), (13, .dec false)] [sI 0 .i64 (IntKind.i64.wrap ((1 : Int) + (IntKind.i64.wrap ((IntKind.u64.wrap n_0).tmod (20 : Int))))), sB 1 keep_1, sO 5 (.slc 1), sO 11 (.slc 21), sI 12 .i64 i82, sB 146 false, (.h 1, .e (.apt 11 p1)), (.h 20, .e (.arena true [19, 11] H74)), hO 21 5 .u8 a76] (hcons hn84 (hcons hn84.2 (hcons hb86 (hcons hn84 (hcons hn84.2 (hone hb89)))))) ?_
                              refine q_k ?_
                              refine tr_cond_f false (by kernel_rfl) rfl ?_
                              refine tr_skip ?_
                              refine q_b 5 ?_
                              refine q_k ?_
                              refine tr_rg hT [] [sI 0 .i64 (IntKind.i64.wrap ((1 : Int) + (IntKind.i64.wrap ((IntKind.u64.wrap n_0).tmod (20 : Int))))), sB 1 keep_1, sO 5 (.slc 1), sO 11 (.slc 21), sI 12 .i64 (IntKind.i64.wrap (i82 + (1 : Int))), (.h 1, .e (.apt 11 p1)), (.h 20, .e (.arena true [19, 11] H74)), hO 21 5 .u8 a76] hnil ?_
                              refine q_kr ?_
                              exact trR_ls [sI 0 .i64 (IntKind.i64.wrap ((1 : Int) + (IntKind.i64.wrap ((IntKind.u64.wrap n_0).tmod (20 : Int))))), sB 1 keep_1, sO 5 (.slc 1), sO 11 (.slc 21), sI 12 .i64 (IntKind.i64.wrap (i82 + (1 : Int))), (.h 1, .e (.apt 11 p1)), (.h 20, .e (.arena true [19, 11] H74)), hO 21 5 .u8 a76] (ih2 (IntKind.i64.wrap (i82 + (1 : Int))) h)
                        · refine tr_cond_f (decide (i82 < (IntKind.i64.wrap ((1 : Int) + (IntKind.i64.wrap ((IntKind.u64.wrap n_0).tmod (20 : Int))))))) (by kernel_rfl) hc83 ?_
                          refine tr_exit ?_
                          refine q_k_exit ?_
                          refine q_kr_exit ?_
                          have h := Option.some.inj h
                          subst h
                          exact q_ls [sO 5 (.slc 1), (.h 1, .e (.apt 11 p1)), (.h 20, .e (.arena true [19, 11] H74))] (hx2 () rfl)
          · intro v σ hz hv
            subst hz
            have h := Option.some.inj h
            subst h
            refine q_b_ret ?_
            refine q_k_ret ?_
            exact q_ret0 hT _ rfl hv
          · clear h e61
            intro k ih1 hx1 hr1 z h
            rcases z with ⟨H25, i26⟩
            replace h : (if (decide (i26 ≤ (IntKind.i64.wrap ((1 : Int) + (IntKind.i64.wrap ((IntKind.u64.wrap n_0).tmod (20 : Int))))))) = true then (disk_Disk_Create H25 p1 (0 : Int)).bind (fun (r29, H30) => if (r29 != (11 : Int)) = true then some (.inr false) else (disk_Disk_Sync H30 p1 (5 : Int)).bind (fun (r34, H35) => if (r34 != (10 : Int)) = true then some (.inr false) else (disk_Disk_Cut H35 p1 (0 : Int) (-1 : Int)).bind (fun (r39, H40) => if (r39 != (1 : Int)) = true then some (.inr false) else (disk_Disk_Remove H40 p1 (5 : Int)).bind (fun (r44, H45) => if (r44 != (10 : Int)) = true then some (.inr false) else (disk_Disk_Append H45 p1 (5 : Int) []).bind (fun (r49, H50) => if (r49 != (10 : Int)) = true then some (.inr false) else (disk_Disk_Append H50 p1 (0 : Int) [(9 : Int)]).bind (fun (r53, H54) => if (!((r53 == (8 : Int)) == (i26 == (IntKind.i64.wrap ((1 : Int) + (IntKind.i64.wrap ((IntKind.u64.wrap n_0).tmod (20 : Int)))))))) = true then some (.inr false) else if (r53 != (0 : Int)) = true then if (r53 != (8 : Int)) = true then some (.inr false) else law14_DiskTrips_l1 n_0 keep_1 p1 k H54 (IntKind.i64.wrap (i26 + (1 : Int))) else law14_DiskTrips_l1 n_0 keep_1 p1 k H54 (IntKind.i64.wrap (i26 + (1 : Int))))))))) else some (.inl H25)) = _ := h
            refine tr_seq ?_
            refine tr_seq ?_
            refine tr_rg hT [] [sI 0 .i64 (IntKind.i64.wrap ((1 : Int) + (IntKind.i64.wrap ((IntKind.u64.wrap n_0).tmod (20 : Int))))), sB 1 keep_1, sO 5 (.slc 1), sI 9 .i64 i26, sB 50 (decide (i26 ≤ (IntKind.i64.wrap ((1 : Int) + (IntKind.i64.wrap ((IntKind.u64.wrap n_0).tmod (20 : Int))))))), (.h 1, .e (.apt 10 p1)), (.h 10, .e (.arena true [] H25))] hnil ?_
            refine q_k ?_
            rcases ite_split h with ⟨hc28, h⟩ | ⟨hc28, h⟩
            · refine tr_cond_t (decide (i26 ≤ (IntKind.i64.wrap ((1 : Int) + (IntKind.i64.wrap ((IntKind.u64.wrap n_0).tmod (20 : Int))))))) (by kernel_rfl) hc28 ?_
              refine tr_skip ?_
              refine q_k ?_
              refine tr_seq ?_
              refine tr_block ?_
              refine tr_seq ?_
              refine tr_seq ?_
              obtain ⟨⟨r29, H30⟩, e31, h⟩ := bind_some h
              rcases ite_split h with ⟨hb32, h⟩ | ⟨hb33, h⟩
              · refine tr_rg hT [(1, .callA [(10, .rw), (1, .apt 10)] (.v (.one (.int .i64 r29))) [(12, .arena true [10] H30), (10, .dead)]), (3, .dec true)] [sI 0 .i64 (IntKind.i64.wrap ((1 : Int) + (IntKind.i64.wrap ((IntKind.u64.wrap n_0).tmod (20 : Int))))), sB 1 keep_1, sO 5 (.slc 1), sI 9 .i64 i26, sB 75 true, (.h 1, .e (.apt 10 p1)), (.h 12, .e (.arena true [10] H30))] (hcons ((disk_Disk_Create_ok H25 p1 (0 : Int) (r29, H30) e31).tr1 [(9001, .slc 1), (9000, .slc 10), (8900, .slc 12)] [(10, .arena true [] H25), (1, .apt 10 p1)] ⟨.arena' (bs := []), .apts' (κb := 10), trivial⟩) (hone hb32)) ?_
                refine q_k ?_
                refine tr_cond_t true (by kernel_rfl) rfl ?_
                refine tr_seq ?_
                refine tr_rg hT [] [sB 4 false] hnil ?_
                refine q_k ?_
                refine tr_ret ?_
                refine q_k_ret ?_
                refine q_b_ret ?_
                refine q_k_ret ?_
                refine q_kr_ret ?_
                have h := Option.some.inj h
                subst h
                exact hr1 false _ rfl (by kernel_rfl)
              · obtain ⟨⟨r34, H35⟩, e36, h⟩ := bind_some h
                rcases ite_split h with ⟨hb37, h⟩ | ⟨hb38, h⟩
                · refine tr_rg hT [(1, .callA [(10, .rw), (1, .apt 10)] (.v (.one (.int .i64 r29))) [(12, .arena true [10] H30), (10, .dead)]), (3, .dec false), (5, .callA [(12, .rw), (1, .apt 12)] (.v (.one (.int .i64 r34))) [(13, .arena true [12] H35), (12, .dead)]), (8, .dec true)] [sI 0 .i64 (IntKind.i64.wrap ((1 : Int) + (IntKind.i64.wrap ((IntKind.u64.wrap n_0).tmod (20 : Int))))), sB 1 keep_1, sO 5 (.slc 1), sI 9 .i64 i26, sB 75 true, (.h 1, .e (.apt 10 p1)), (.h 13, .e (.arena true [12, 10] H35))] (hcons ((disk_Disk_Create_ok H25 p1 (0 : Int) (r29, H30) e31).tr1 [(9001, .slc 1), (9000, .slc 10), (8900, .slc 12)] [(10, .arena true [] H25), (1, .apt 10 p1)] ⟨.arena' (bs := []), .apts' (κb := 10), trivial⟩) (hcons hb33 (hcons ((disk_Disk_Sync_ok H30 p1 (5 : Int) (r34, H35) e36).tr1 [(9001, .slc 1), (9000, .slc 12), (8900, .slc 13)] [(12, .arena true [] H30), (1, .apt 12 p1)] ⟨.arena' (bs := []), .apts' (κb := 12), trivial⟩) (hone hb37)))) ?_
                  refine q_k ?_
                  refine tr_cond_t true (by kernel_rfl) rfl ?_
                  refine tr_seq ?_
                  refine tr_rg hT [] [sB 4 false] hnil ?_
                  refine q_k ?_
                  refine tr_ret ?_
                  refine q_k_ret ?_
                  refine q_b_ret ?_
                  refine q_k_ret ?_
                  refine q_kr_ret ?_
                  have h := Option.some.inj h
                  subst h
                  exact hr1 false _ rfl (by kernel_rfl)
                · obtain ⟨⟨r39, H40⟩, e41, h⟩ := bind_some h
                  rcases ite_split h with ⟨hb42, h⟩ | ⟨hb43, h⟩
                  · refine tr_rg hT [(1, .callA [(10, .rw), (1, .apt 10)] (.v (.one (.int .i64 r29))) [(12, .arena true [10] H30), (10, .dead)]), (3, .dec false), (5, .callA [(12, .rw), (1, .apt 12)] (.v (.one (.int .i64 r34))) [(13, .arena true [12] H35), (12, .dead)]), (8, .dec false), (10, .callA [(13, .rw), (1, .apt 13)] (.v (.one (.int .i64 r39))) [(14, .arena true [13] H40), (13, .dead)]), (13, .dec true)] [sI 0 .i64 (IntKind.i64.wrap ((1 : Int) + (IntKind.i64.wrap ((IntKind.u64.wrap n_0).tmod (20 : Int))))), sB 1 keep_1, sO 5 (.slc 1), sI 9 .i64 i26, sB 75 true, (.h 1, .e (.apt 10 p1)), (.h 14, .e (.arena true [13, 12, 10] H40))] (hcons ((disk_Disk_Create_ok H25 p1 (0 : Int) (r29, H30) e31).tr1 [(9001, .slc 1), (9000, .slc 10), (8900, .slc 12)] [(10, .arena true [] H25), (1, .apt 10 p1)] ⟨.arena' (bs := []), .apts' (κb := 10), trivial⟩) (hcons hb33 (hcons ((disk_Disk_Sync_ok H30 p1 (5 : Int) (r34, H35) e36).tr1 [(9001, .slc 1), (9000, .slc 12), (8900, .slc 13)] [(12, .arena true [] H30), (1, .apt 12 p1)] ⟨.arena' (bs := []), .apts' (κb := 12), trivial⟩) (hcons hb38 (hcons ((disk_Disk_Cut_ok H35 p1 (0 : Int) (-1 : Int) (r39, H40) e41).tr1 [(9001, .slc 1), (9000, .slc 13), (8900, .slc 14)] [(13, .arena true [] H35), (1, .apt 13 p1)] ⟨.arena' (bs := []), .apts' (κb := 13), trivial⟩) (hone hb42)))))) ?_
                    refine q_k ?_
                    refine tr_cond_t true (by kernel_rfl) rfl ?_
                    refine tr_seq ?_
                    refine tr_rg hT [] [sB 4 false] hnil ?_
                    refine q_k ?_
                    refine tr_ret ?_
                    refine q_k_ret ?_
                    refine q_b_ret ?_
                    refine q_k_ret ?_
                    refine q_kr_ret ?_
                    have h := Option.some.inj h
                    subst h
                    exact hr1 false _ rfl (by kernel_rfl)
                  · obtain ⟨⟨r44, H45⟩, e46, h⟩ := bind_some h
                    rcases ite_split h with ⟨hb47, h⟩ | ⟨hb48, h⟩
                    · refine tr_rg hT [(1, .callA [(10, .rw), (1, .apt 10)] (.v (.one (.int .i64 r29))) [(12, .arena true [10] H30), (10, .dead)]), (3, .dec false), (5, .callA [(12, .rw), (1, .apt 12)] (.v (.one (.int .i64 r34))) [(13, .arena true [12] H35), (12, .dead)]), (8, .dec false), (10, .callA [(13, .rw), (1, .apt 13)] (.v (.one (.int .i64 r39))) [(14, .arena true [13] H40), (13, .dead)]), (13, .dec false), (15, .callA [(14, .rw), (1, .apt 14)] (.v (.one (.int .i64 r44))) [(15, .arena true [14] H45), (14, .dead)]), (18, .dec true)] [sI 0 .i64 (IntKind.i64.wrap ((1 : Int) + (IntKind.i64.wrap ((IntKind.u64.wrap n_0).tmod (20 : Int))))), sB 1 keep_1, sO 5 (.slc 1), sI 9 .i64 i26, sB 75 true, (.h 1, .e (.apt 10 p1)), (.h 15, .e (.arena true [14, 13, 12, 10] H45))] (hcons ((disk_Disk_Create_ok H25 p1 (0 : Int) (r29, H30) e31).tr1 [(9001, .slc 1), (9000, .slc 10), (8900, .slc 12)] [(10, .arena true [] H25), (1, .apt 10 p1)] ⟨.arena' (bs := []), .apts' (κb := 10), trivial⟩) (hcons hb33 (hcons ((disk_Disk_Sync_ok H30 p1 (5 : Int) (r34, H35) e36).tr1 [(9001, .slc 1), (9000, .slc 12), (8900, .slc 13)] [(12, .arena true [] H30), (1, .apt 12 p1)] ⟨.arena' (bs := []), .apts' (κb := 12), trivial⟩) (hcons hb38 (hcons ((disk_Disk_Cut_ok H35 p1 (0 : Int) (-1 : Int) (r39, H40) e41).tr1 [(9001, .slc 1), (9000, .slc 13), (8900, .slc 14)] [(13, .arena true [] H35), (1, .apt 13 p1)] ⟨.arena' (bs := []), .apts' (κb := 13), trivial⟩) (hcons hb43 (hcons ((disk_Disk_Remove_ok H40 p1 (5 : Int) (r44, H45) e46).tr1 [(9001, .slc 1), (9000, .slc 14), (8900, .slc 15)] [(14, .arena true [] H40), (1, .apt 14 p1)] ⟨.arena' (bs := []), .apts' (κb := 14), trivial⟩) (hone hb47)))))))) ?_
                      refine q_k ?_
                      refine tr_cond_t true (by kernel_rfl) rfl ?_
                      refine tr_seq ?_
                      refine tr_rg hT [] [sB 4 false] hnil ?_
                      refine q_k ?_
                      refine tr_ret ?_
                      refine q_k_ret ?_
                      refine q_b_ret ?_
                      refine q_k_ret ?_
                      refine q_kr_ret ?_
                      have h := Option.some.inj h
                      subst h
                      exact hr1 false _ rfl (by kernel_rfl)
                    · obtain ⟨⟨r49, H50⟩, e51, h⟩ := bind_some h
                      refine tr_rg hT [(1, .callA [(10, .rw), (1, .apt 10)] (.v (.one (.int .i64 r29))) [(12, .arena true [10] H30), (10, .dead)]), (3, .dec false), (5, .callA [(12, .rw), (1, .apt 12)] (.v (.one (.int .i64 r34))) [(13, .arena true [12] H35), (12, .dead)]), (8, .dec false), (10, .callA [(13, .rw), (1, .apt 13)] (.v (.one (.int .i64 r39))) [(14, .arena true [13] H40), (13, .dead)]), (13, .dec false), (15, .callA [(14, .rw), (1, .apt 14)] (.v (.one (.int .i64 r44))) [(15, .arena true [14] H45), (14, .dead)]), (18, .dec false), (20, .callA [(15, .rw), (1, .apt 15)] (.v (.one (.int .i64 r49))) [(16, .arena true [15] H50), (15, .dead)])] [sI 0 .i64 (IntKind.i64.wrap ((1 : Int) + (IntKind.i64.wrap ((IntKind.u64.wrap n_0).tmod (20 : Int))))), sB 1 keep_1, sO 5 (.slc 1), sI 9 .i64 i26, sB 75 (r49 != (10 : Int)), (.h 1, .e (.apt 10 p1)), (.h 16, .e (.arena true [15, 14, 13, 12, 10] H50))] (hcons ((disk_Disk_Create_ok H25 p1 (0 : Int) (r29, H30) e31).tr1 [(9001, .slc 1), (9000, .slc 10), (8900, .slc 12)] [(10, .arena true [] H25), (1, .apt 10 p1)] ⟨.arena' (bs := []), .apts' (κb := 10), trivial⟩) (hcons hb33 (hcons ((disk_Disk_Sync_ok H30 p1 (5 : Int) (r34, H35) e36).tr1 [(9001, .slc 1), (9000, .slc 12), (8900, .slc 13)] [(12, .arena true [] H30), (1, .apt 12 p1)] ⟨.arena' (bs := []), .apts' (κb := 12), trivial⟩) (hcons hb38 (hcons ((disk_Disk_Cut_ok H35 p1 (0 : Int) (-1 : Int) (r39, H40) e41).tr1 [(9001, .slc 1), (9000, .slc 13), (8900, .slc 14)] [(13, .arena true [] H35), (1, .apt 13 p1)] ⟨.arena' (bs := []), .apts' (κb := 13), trivial⟩) (hcons hb43 (hcons ((disk_Disk_Remove_ok H40 p1 (5 : Int) (r44, H45) e46).tr1 [(9001, .slc 1), (9000, .slc 14), (8900, .slc 15)] [(14, .arena true [] H40), (1, .apt 14 p1)] ⟨.arena' (bs := []), .apts' (κb := 14), trivial⟩) (hcons hb48 (hone ((disk_Disk_Append_ok H45 p1 (5 : Int) [] (r49, H50) e51).tr1 [(9001, .slc 1), (9002, .nils), (9000, .slc 15), (8900, .slc 16)] [(15, .arena true [] H45), (1, .apt 15 p1)] ⟨.arena' (bs := []), .apts' (κb := 15), .nilrd, trivial⟩)))))))))) ?_
                      refine q_k ?_
                      rcases ite_split h with ⟨hc52, h⟩ | ⟨hc52, h⟩
                      · refine tr_cond_t (r49 != (10 : Int)) (by kernel_rfl) hc52 ?_
                        refine tr_seq ?_
                        refine tr_rg hT [] [sB 4 false] hnil ?_
                        refine q_k ?_
                        refine tr_ret ?_
                        refine q_k_ret ?_
                        refine q_b_ret ?_
                        refine q_k_ret ?_
                        refine q_kr_ret ?_
                        have h := Option.some.inj h
                        subst h
                        exact hr1 false _ rfl (by kernel_rfl)
                      · refine tr_cond_f (r49 != (10 : Int)) (by kernel_rfl) hc52 ?_
                        refine tr_skip ?_
                        refine q_k ?_
                        refine tr_seq ?_
                        obtain ⟨⟨r53, H54⟩, e55, h⟩ := bind_some h
                        refine tr_rg hT [(1, .key 17), (2, .callA [(16, .rw), (1, .apt 16), (17, .same)] (.v (.one (.int .i64 r53))) [(18, .arena true [16] H54), (16, .dead)])] [sI 0 .i64 (IntKind.i64.wrap ((1 : Int) + (IntKind.i64.wrap ((IntKind.u64.wrap n_0).tmod (20 : Int))))), sB 1 keep_1, sO 5 (.slc 1), sI 9 .i64 i26, sI 10 .i64 r53, (.h 1, .e (.apt 10 p1)), (.h 18, .e (.arena true [16, 15, 14, 13, 12, 10] H54))] (hone ((disk_Disk_Append_ok H50 p1 (0 : Int) [(9 : Int)] (r53, H54) e55).tr1 [(9001, .slc 1), (9002, .slc 17), (9000, .slc 16), (8900, .slc 18)] [(16, .arena true [] H50), (1, .apt 16 p1), (17, .own 5 .u8 [(9 : Int)])] ⟨.arena' (bs := []), .apts' (κb := 16), .ownrd' (e := 5), trivial⟩)) ?_
                        refine q_k ?_
                        refine tr_seq ?_
                        rcases ite_split h with ⟨hb56, h⟩ | ⟨hb57, h⟩
                        · refine tr_rg hT [(6, .dec true)] [sI 0 .i64 (IntKind.i64.wrap ((1 : Int) + (IntKind.i64.wrap ((IntKind.u64.wrap n_0).tmod (20 : Int))))), sB 1 keep_1, sO 5 (.slc 1), sI 9 .i64 i26, sB 92 true, (.h 1, .e (.apt 10 p1)), (.h 18, .e (.arena true [16, 15, 14, 13, 12, 10] H54))] (hone hb56) ?_
                          refine q_k ?_
                          refine tr_cond_t true (by kernel_rfl) rfl ?_
                          refine tr_seq ?_
                          refine tr_rg hT [] [sB 4 false] hnil ?_
                          refine q_k ?_
                          refine tr_ret ?_
                          refine q_b_ret ?_
                          refine q_k_ret ?_
                          refine q_kr_ret ?_
                          have h := Option.some.inj h
                          subst h
                          exact hr1 false _ rfl (by kernel_rfl)
                        · rcases ite_split h with ⟨hb58, h⟩ | ⟨hb60, h⟩
                          · refine tr_rg hT [(6, .dec false), (9, .dec true)] [sI 0 .i64 (IntKind.i64.wrap ((1 : Int) + (IntKind.i64.wrap ((IntKind.u64.wrap n_0).tmod (20 : Int))))), sB 1 keep_1, sO 5 (.slc 1), sI 9 .i64 i26, sB 92 (r53 != (8 : Int)), (.h 1, .e (.apt 10 p1)), (.h 18, .e (.arena true [16, 15, 14, 13, 12, 10] H54))] (hcons hb57 (hone hb58)) ?_
                            refine q_k ?_
                            rcases ite_split h with ⟨hc59, h⟩ | ⟨hc59, h⟩
                            · refine tr_cond_t (r53 != (8 : Int)) (by kernel_rfl) hc59 ?_
                              refine tr_seq ?_
                              refine tr_rg hT [] [sB 4 false] hnil ?_
                              refine q_k ?_
                              refine tr_ret ?_
                              refine q_b_ret ?_
                              refine q_k_ret ?_
                              refine q_kr_ret ?_
                              have h := Option.some.inj h
                              subst h
                              exact hr1 false _ rfl (by kernel_rfl)
                            · refine tr_cond_f (r53 != (8 : Int)) (by kernel_rfl) hc59 ?_
                              refine tr_skip ?_
                              refine q_b 3 ?_
                              refine q_k ?_
                              refine tr_rg hT [] [sI 0 .i64 (IntKind.i64.wrap ((1 : Int) + (IntKind.i64.wrap ((IntKind.u64.wrap n_0).tmod (20 : Int))))), sB 1 keep_1, sO 5 (.slc 1), sI 9 .i64 (IntKind.i64.wrap (i26 + (1 : Int))), (.h 1, .e (.apt 10 p1)), (.h 18, .e (.arena true [16, 15, 14, 13, 12, 10] H54))] hnil ?_
                              refine q_kr ?_
                              exact trR_ft [(10, .slc 18)] [sI 0 .i64 (IntKind.i64.wrap ((1 : Int) + (IntKind.i64.wrap ((IntKind.u64.wrap n_0).tmod (20 : Int))))), sB 1 keep_1, sO 5 (.slc 1), sI 9 .i64 (IntKind.i64.wrap (i26 + (1 : Int))), (.h 1, .e (.apt 10 p1)), (.h 10, .e (.arena true [] H54))] ⟨.apt' (κb := 10) (κ0 := 18) (rw := true) (bs := [16, 15, 14, 13, 12, 10]) (D := H54), .arena' (bs := [16, 15, 14, 13, 12, 10]), trivial⟩ (ih1 (H54, (IntKind.i64.wrap (i26 + (1 : Int)))) h)
                          · refine tr_rg hT [(6, .dec false), (9, .dec false)] [sI 0 .i64 (IntKind.i64.wrap ((1 : Int) + (IntKind.i64.wrap ((IntKind.u64.wrap n_0).tmod (20 : Int))))), sB 1 keep_1, sO 5 (.slc 1), sI 9 .i64 i26, sB 92 false, (.h 1, .e (.apt 10 p1)), (.h 18, .e (.arena true [16, 15, 14, 13, 12, 10] H54))] (hcons hb57 (hone hb60)) ?_
                            refine q_k ?_
                            refine tr_cond_f false (by kernel_rfl) rfl ?_
                            refine tr_skip ?_
                            refine q_b 3 ?_
                            refine q_k ?_
                            refine tr_rg hT [] [sI 0 .i64 (IntKind.i64.wrap ((1 : Int) + (IntKind.i64.wrap ((IntKind.u64.wrap n_0).tmod (20 : Int))))), sB 1 keep_1, sO 5 (.slc 1), sI 9 .i64 (IntKind.i64.wrap (i26 + (1 : Int))), (.h 1, .e (.apt 10 p1)), (.h 18, .e (.arena true [16, 15, 14, 13, 12, 10] H54))] hnil ?_
                            refine q_kr ?_
                            exact trR_ft [(10, .slc 18)] [sI 0 .i64 (IntKind.i64.wrap ((1 : Int) + (IntKind.i64.wrap ((IntKind.u64.wrap n_0).tmod (20 : Int))))), sB 1 keep_1, sO 5 (.slc 1), sI 9 .i64 (IntKind.i64.wrap (i26 + (1 : Int))), (.h 1, .e (.apt 10 p1)), (.h 10, .e (.arena true [] H54))] ⟨.apt' (κb := 10) (κ0 := 18) (rw := true) (bs := [16, 15, 14, 13, 12, 10]) (D := H54), .arena' (bs := [16, 15, 14, 13, 12, 10]), trivial⟩ (ih1 (H54, (IntKind.i64.wrap (i26 + (1 : Int)))) h)
            · refine tr_cond_f (decide (i26 ≤ (IntKind.i64.wrap ((1 : Int) + (IntKind.i64.wrap ((IntKind.u64.wrap n_0).tmod (20 : Int))))))) (by kernel_rfl) hc28 ?_
              refine tr_exit ?_
              refine q_k_exit ?_
              refine q_kr_exit ?_
              have h := Option.some.inj h
              subst h
              exact q_ft [(11, .slc 10)] [sI 0 .i64 (IntKind.i64.wrap ((1 : Int) + (IntKind.i64.wrap ((IntKind.u64.wrap n_0).tmod (20 : Int))))), sB 1 keep_1, sO 5 (.slc 1), (.h 1, .e (.apt 11 p1)), (.h 11, .e (.arena true [] H25))] ⟨.apt' (κb := 10) (κ0 := 10) (rw := true) (bs := []) (D := H25), .arena' (bs := []), trivial⟩ (hx1 H25 rfl)
        · clear h e21
          intro k ih0 hx0 z h
          obtain ⟨H14, i15⟩ := z
          replace h : (if AH.isRow H14 1 (MV.slc (List.length ([] : AH)) 1 0 40) = true then if (decide (i15 < (↑(MV.len (MV.slc (List.length ([] : AH)) 1 0 40)) : Int))) = true then if (0 ≤ i15 ∧ i15 < (↑(MV.len (MV.slc (List.length ([] : AH)) 1 0 40)) : Int)) ∧ AH.isRow H14 1 (MV.slc (List.length ([] : AH)) 1 0 40) = true then if AH.ok H14 (MV.slc (List.length ([] : AH)) 1 0 40) (i15.toNat * 1 + 0) 1 = true then law14_DiskTrips_l0 n_0 keep_1 p1 H11 k (AH.wr H14 (MV.slc (List.length ([] : AH)) 1 0 40) (i15.toNat * 1 + 0) [MV.bool keep_1]) (IntKind.i64.wrap (i15 + (1 : Int))) else none else none else some H14 else none) = _ := h
          refine tr_seq ?_
          refine tr_seq ?_
          obtain ⟨hn17, h⟩ := ite_some h
          refine tr_rg hT [(2, .ar 6 [])] [sI 0 .i64 (IntKind.i64.wrap ((1 : Int) + (IntKind.i64.wrap ((IntKind.u64.wrap n_0).tmod (20 : Int))))), sB 1 keep_1, sO 5 (.slc 1), sO 7 (.slc 5), sI 8 .i64 i15, sB 37 (decide (i15 < (↑(MV.len (MV.slc (List.length ([] : AH)) 1 0 40)) : Int))), (.h 1, .e (.apt 0 p1)), (.h 2, .e (.arena true [0] H11)), (.h 5, .e (.apt 6 (MV.slc (List.length ([] : AH)) 1 0 40))), (.h 6, .e (.arena true [] H14))] (hone hn17) ?_
          refine q_k ?_
          rcases ite_split h with ⟨hc18, h⟩ | ⟨hc18, h⟩
          · refine tr_cond_t (decide (i15 < (↑(MV.len (MV.slc (List.length ([] : AH)) 1 0 40)) : Int))) (by kernel_rfl) hc18 ?_
            refine tr_skip ?_
            refine q_k ?_
            refine tr_seq ?_
            refine tr_block ?_
            obtain ⟨hn19, h⟩ := ite_some h
            obtain ⟨hn20, h⟩ := ite_some h
            refine tr_rg hT [(3, .ar 6 []), (4, .ar 6 [8])] [sI 0 .i64 (IntKind.i64.wrap ((1 : Int) + (IntKind.i64.wrap ((IntKind.u64.wrap n_0).tmod (20 : Int))))), sB 1 keep_1, sO 5 (.slc 1), sO 7 (.slc 5), sI 8 .i64 i15, (.h 1, .e (.apt 0 p1)), (.h 2, .e (.arena true [0] H11)), (.h 5, .e (.apt 6 (MV.slc (List.length ([] : AH)) 1 0 40))), (.h 8, .e (.arena true [6] (AH.wr H14 (MV.slc (List.length ([] : AH)) 1 0 40) (i15.toNat * 1 + 0) [MV.bool keep_1])))] (hcons hn19 (hcons hn20 (hone (show 1 ≤ 1 from by decide)))) ?_
            refine q_b 1 ?_
            refine q_k ?_
            refine tr_rg hT [] [sI 0 .i64 (IntKind.i64.wrap ((1 : Int) + (IntKind.i64.wrap ((IntKind.u64.wrap n_0).tmod (20 : Int))))), sB 1 keep_1, sO 5 (.slc 1), sO 7 (.slc 5), sI 8 .i64 (IntKind.i64.wrap (i15 + (1 : Int))), (.h 1, .e (.apt 0 p1)), (.h 2, .e (.arena true [0] H11)), (.h 5, .e (.apt 6 (MV.slc (List.length ([] : AH)) 1 0 40))), (.h 8, .e (.arena true [6] (AH.wr H14 (MV.slc (List.length ([] : AH)) 1 0 40) (i15.toNat * 1 + 0) [MV.bool keep_1])))] hnil ?_
            refine q_kr ?_
            exact trR_ft [(6, .slc 8)] [sI 0 .i64 (IntKind.i64.wrap ((1 : Int) + (IntKind.i64.wrap ((IntKind.u64.wrap n_0).tmod (20 : Int))))), sB 1 keep_1, sO 5 (.slc 1), sO 7 (.slc 5), sI 8 .i64 (IntKind.i64.wrap (i15 + (1 : Int))), (.h 1, .e (.apt 0 p1)), (.h 2, .e (.arena true [0] H11)), (.h 5, .e (.apt 6 (MV.slc (List.length ([] : AH)) 1 0 40))), (.h 6, .e (.arena true [] (AH.wr H14 (MV.slc (List.length ([] : AH)) 1 0 40) (i15.toNat * 1 + 0) [MV.bool keep_1])))] ⟨.apts' (κb := 0), .arena' (bs := [0]), .apt' (κb := 6) (κ0 := 8) (rw := true) (bs := [6]) (D := (AH.wr H14 (MV.slc (List.length ([] : AH)) 1 0 40) (i15.toNat * 1 + 0) [MV.bool keep_1])), .arena' (bs := [6]), trivial⟩ (ih0 ((AH.wr H14 (MV.slc (List.length ([] : AH)) 1 0 40) (i15.toNat * 1 + 0) [MV.bool keep_1]), (IntKind.i64.wrap (i15 + (1 : Int)))) h)
          · refine tr_cond_f (decide (i15 < (↑(MV.len (MV.slc (List.length ([] : AH)) 1 0 40)) : Int))) (by kernel_rfl) hc18 ?_
            refine tr_exit ?_
            refine q_k_exit ?_
            refine q_kr_exit ?_
            have h := Option.some.inj h
            subst h
            exact q_ft [(7, .slc 6)] [sI 0 .i64 (IntKind.i64.wrap ((1 : Int) + (IntKind.i64.wrap ((IntKind.u64.wrap n_0).tmod (20 : Int))))), sB 1 keep_1, sO 5 (.slc 1), sO 7 (.slc 5), (.h 1, .e (.apt 0 p1)), (.h 2, .e (.arena true [0] H11)), (.h 5, .e (.apt 7 (MV.slc (List.length ([] : AH)) 1 0 40))), (.h 7, .e (.arena true [] H14))] ⟨.apts' (κb := 0), .arena' (bs := [0]), .apt' (κb := 6) (κ0 := 6) (rw := true) (bs := []) (D := H14), .arena' (bs := []), trivial⟩ hx0

end Go.Proofs.Sd
