/- Walks, printed by a program of this session (gowalk.py): each Go function comes to its plain function's answer. -/
import Derived.Test.YtdbheiibkpendaaSdA
import Derived.Test.YtdbheiibkpendaaSdD
import Derived.Test.YtdbheiibkpendaaMSdS
import Derived.Test.YtdbheiibkpendaaSdV0
import Derived.Test.YtdbheiibkpendaaSdV1
import Derived.Test.YtdbheiibkpendaaSdV2
import Derived.Test.YtdbheiibkpendaaSdV3
namespace Go.Proofs.Sd
open Go Go.Gw D
set_option linter.unusedVariables false
set_option maxRecDepth 20000

theorem law14_DiskLives_ok (n_0 : Int) (twice_1 : Bool) (r : Bool) (h : law14_DiskLives n_0 twice_1 = some r) {pre : List (Nat × Ent)} : CallOk P 6 [.v (.one (.int .i64 n_0)), .v (.one (.bool twice_1))] pre (.v (.one (.bool r))) [] := by
  refine call0 (N := 108) Try.func6 (by kernel_rfl) rfl rfl rfl pre ?_
  intro _ w
  show Tr P (Ge w) 108 _ _ _ (RetQ P Try.f6 (R0 _ w))
  unfold law14_DiskLives at h
  refine tr_seq ?_
  refine tr_rg hT [] [sI 0 .i64 n_0, sB 1 twice_1] hnil ?_
  refine q_k ?_
  refine tr_seq ?_
  refine tr_rg hT [] [sI 0 .i64 (IntKind.i64.wrap ((IntKind.u64.wrap n_0).tmod (15 : Int))), sB 1 twice_1] (hone (show (15 : Int) ≠ 0 from by decide)) ?_
  refine q_k ?_
  refine tr_seq ?_
  obtain ⟨⟨p1, r2, H3⟩, e4, h⟩ := bind_some h
  refine tr_rg hT [(0, .callA [] (.tup [.one (.slc 1), .one (.int .i64 r2)]) [(1, .apt 0 p1), (0, .arena true [] H3)])] [sI 0 .i64 (IntKind.i64.wrap ((IntKind.u64.wrap n_0).tmod (15 : Int))), sB 1 twice_1, sO 5 (.slc 1), sI 6 .i64 r2, (.h 0, .e (.arena true [] H3)), (.h 1, .e (.apt 0 p1))] (hone ((disk_New_ok (1000 : Int) (p1, r2, H3) e4).tr1 [(8901, .slc 0), (8900, .slc 1)] [] trivial)) ?_
  refine q_k ?_
  refine tr_seq ?_
  refine tr_seq ?_
  rcases ite_split h with ⟨hb5, h⟩ | ⟨hb6, h⟩
  · refine tr_rg hT [(2, .dec true)] [sI 0 .i64 (IntKind.i64.wrap ((IntKind.u64.wrap n_0).tmod (15 : Int))), sB 1 twice_1, sO 5 (.slc 1), sB 34 true, (.h 0, .e (.arena true [] H3)), (.h 1, .e (.apt 0 p1))] (hone hb5) ?_
    refine q_k ?_
    refine tr_cond_t true (by kernel_rfl) rfl ?_
    refine tr_seq ?_
    refine tr_rg hT [] [sB 4 false] hnil ?_
    refine q_k ?_
    refine tr_ret ?_
    refine q_k_ret ?_
    have h := Option.some.inj h
    subst h
    exact q_ret0 hT (.v (.one (.bool false))) rfl (by kernel_rfl)
  · obtain ⟨hn7, h⟩ := ite_some h
    rcases ite_split h with ⟨hb8, h⟩ | ⟨hb9, h⟩
    · refine tr_rg hT [(2, .dec false), (4, .ar 0 []), (6, .dec true)] [sI 0 .i64 (IntKind.i64.wrap ((IntKind.u64.wrap n_0).tmod (15 : Int))), sB 1 twice_1, sO 5 (.slc 1), sB 34 true, (.h 0, .e (.arena true [] H3)), (.h 1, .e (.apt 0 p1))] (hcons hb6 (hcons hn7 (hone hb8))) ?_
      refine q_k ?_
      refine tr_cond_t true (by kernel_rfl) rfl ?_
      refine tr_seq ?_
      refine tr_rg hT [] [sB 4 false] hnil ?_
      refine q_k ?_
      refine tr_ret ?_
      refine q_k_ret ?_
      have h := Option.some.inj h
      subst h
      exact q_ret0 hT (.v (.one (.bool false))) rfl (by kernel_rfl)
    · obtain ⟨r10, e11, h⟩ := bind_some h
      rcases ite_split h with ⟨hb12, h⟩ | ⟨hb13, h⟩
      · refine tr_rg hT [(2, .dec false), (4, .ar 0 []), (6, .dec false), (8, .callA [(0, .ro), (1, .apt 0)] (.v (.one (.int .i64 r10))) []), (11, .dec true)] [sI 0 .i64 (IntKind.i64.wrap ((IntKind.u64.wrap n_0).tmod (15 : Int))), sB 1 twice_1, sO 5 (.slc 1), sB 34 true, (.h 0, .e (.arena true [] H3)), (.h 1, .e (.apt 0 p1))] (hcons hb6 (hcons hn7 (hcons hb9 (hcons ((disk_Disk_Life_ok H3 p1 r10 e11).tr1 [(9001, .slc 1), (9000, .slc 0)] [(0, .arena false [] H3), (1, .apt 0 p1)] ⟨.arena' (bs := []), .apts' (κb := 0), trivial⟩) (hone hb12))))) ?_
        refine q_k ?_
        refine tr_cond_t true (by kernel_rfl) rfl ?_
        refine tr_seq ?_
        refine tr_rg hT [] [sB 4 false] hnil ?_
        refine q_k ?_
        refine tr_ret ?_
        refine q_k_ret ?_
        have h := Option.some.inj h
        subst h
        exact q_ret0 hT (.v (.one (.bool false))) rfl (by kernel_rfl)
      · obtain ⟨⟨r14, H15⟩, e16, h⟩ := bind_some h
        refine tr_rg hT [(2, .dec false), (4, .ar 0 []), (6, .dec false), (8, .callA [(0, .ro), (1, .apt 0)] (.v (.one (.int .i64 r10))) []), (11, .dec false), (13, .callA [(0, .rw), (1, .apt 0)] (.v (.one (.int .i64 r14))) [(2, .arena true [0] H15), (0, .dead)])] [sI 0 .i64 (IntKind.i64.wrap ((IntKind.u64.wrap n_0).tmod (15 : Int))), sB 1 twice_1, sO 5 (.slc 1), sB 34 (r14 != (0 : Int)), (.h 1, .e (.apt 0 p1)), (.h 2, .e (.arena true [0] H15))] (hcons hb6 (hcons hn7 (hcons hb9 (hcons ((disk_Disk_Life_ok H3 p1 r10 e11).tr1 [(9001, .slc 1), (9000, .slc 0)] [(0, .arena false [] H3), (1, .apt 0 p1)] ⟨.arena' (bs := []), .apts' (κb := 0), trivial⟩) (hcons hb13 (hone ((disk_Disk_Create_ok H3 p1 (0 : Int) (r14, H15) e16).tr1 [(9001, .slc 1), (9000, .slc 0), (8900, .slc 2)] [(0, .arena true [] H3), (1, .apt 0 p1)] ⟨.arena' (bs := []), .apts' (κb := 0), trivial⟩))))))) ?_
        refine q_k ?_
        rcases ite_split h with ⟨hc17, h⟩ | ⟨hc17, h⟩
        · refine tr_cond_t (r14 != (0 : Int)) (by kernel_rfl) hc17 ?_
          refine tr_seq ?_
          refine tr_rg hT [] [sB 4 false] hnil ?_
          refine q_k ?_
          refine tr_ret ?_
          refine q_k_ret ?_
          have h := Option.some.inj h
          subst h
          exact q_ret0 hT (.v (.one (.bool false))) rfl (by kernel_rfl)
        · refine tr_cond_f (r14 != (0 : Int)) (by kernel_rfl) hc17 ?_
          refine tr_skip ?_
          refine q_k ?_
          refine tr_seq ?_
          refine tr_seq ?_
          refine tr_rg hT [] [sI 0 .i64 (IntKind.i64.wrap ((IntKind.u64.wrap n_0).tmod (15 : Int))), sB 1 twice_1, sO 5 (.slc 1), sI 7 .i64 (0 : Int), (.h 1, .e (.apt 0 p1)), (.h 2, .e (.arena true [0] H15))] hnil ?_
          refine q_k ?_
          refine tr_block ?_
          obtain ⟨rr0, e61, h⟩ := bind_some h
          refine tr_ft [(3, .slc 2)] [sI 0 .i64 (IntKind.i64.wrap ((IntKind.u64.wrap n_0).tmod (15 : Int))), sB 1 twice_1, sO 5 (.slc 1), sI 7 .i64 (0 : Int), (.h 1, .e (.apt 3 p1)), (.h 3, .e (.arena true [] H15))] ⟨.apt' (κb := 0) (κ0 := 2) (rw := true) (bs := [0]) (D := H15), .arena' (bs := [0]), trivial⟩ ?_
          refine tr_loop_ret (id := 0) (α := AH × Int) (β := AH) (ρ := Bool) (fun z => [sI 0 .i64 (IntKind.i64.wrap ((IntKind.u64.wrap n_0).tmod (15 : Int))), sB 1 twice_1, sO 5 (.slc 1), sI 7 .i64 z.2, (.h 1, .e (.apt 3 p1)), (.h 3, .e (.arena true [] z.1))]) (fun z => [sI 0 .i64 (IntKind.i64.wrap ((IntKind.u64.wrap n_0).tmod (15 : Int))), sO 5 (.slc 1), (.h 1, .e (.apt 4 p1)), (.h 4, .e (.arena true [] z))]) (fun v σ => resS T (Gw.look σ) Try.f6.results.toList = some (.v (.one (.bool v)))) (fun k z => law14_DiskLives_l0 n_0 twice_1 p1 k z.1 z.2) rr0 (fun _ => rfl) (((IntKind.i64.wrap ((IntKind.u64.wrap n_0).tmod (15 : Int))) - (0 : Int)).toNat + 1) (H15, (0 : Int)) e61 ?_ ?_ ?_
          · intro H20 hz
            subst hz
            replace h : ((disk_Disk_Read H20 p1 (0 : Int)).bind (fun (a62, r63) => if (r63 != (0 : Int)) = true then some false else if ((↑(List.length a62) : Int) != (IntKind.i64.wrap ((IntKind.u64.wrap n_0).tmod (15 : Int)))) = true then some false else (law14_DiskLives_l3 n_0 a62 (((IntKind.i64.wrap ((IntKind.u64.wrap n_0).tmod (15 : Int))) - (0 : Int)).toNat + 1) (0 : Int)).bind (fun y => match y with | .inl _ => (law14_wakes).bind (fun b73 => some b73) | .inr v => some v))) = _ := h
            refine q_b_this ?_
            refine q_k ?_
            refine tr_seq ?_
            obtain ⟨⟨a62, r63⟩, e64, h⟩ := bind_some h
            refine tr_rg hT [(1, .callA [(4, .ro), (1, .apt 4)] (.tup [.one (.slc 60), .one (.int .i64 r63)]) [(60, .own 5 .u8 a62)])] [sI 0 .i64 (IntKind.i64.wrap ((IntKind.u64.wrap n_0).tmod (15 : Int))), sI 6 .i64 r63, sO 9 (.slc 60), hO 60 5 .u8 a62] (hone ((disk_Disk_Read_ok H20 p1 (0 : Int) (a62, r63) e64).tr1 [(9001, .slc 1), (9000, .slc 4), (8900, .slc 60)] [(4, .arena false [] H20), (1, .apt 4 p1)] ⟨.arena' (bs := []), .apts' (κb := 4), trivial⟩)) ?_
            refine q_k ?_
            refine tr_seq ?_
            refine tr_seq ?_
            rcases ite_split h with ⟨hb65, h⟩ | ⟨hb66, h⟩
            · refine tr_rg hT [(2, .dec true)] [sI 0 .i64 (IntKind.i64.wrap ((IntKind.u64.wrap n_0).tmod (15 : Int))), sO 9 (.slc 60), sB 93 true, hO 60 5 .u8 a62] (hone hb65) ?_
              refine q_k ?_
              refine tr_cond_t true (by kernel_rfl) rfl ?_
              refine tr_seq ?_
              refine tr_rg hT [] [sB 4 false] hnil ?_
              refine q_k ?_
              refine tr_ret ?_
              refine q_k_ret ?_
              have h := Option.some.inj h
              subst h
              exact q_ret0 hT (.v (.one (.bool false))) rfl (by kernel_rfl)
            · refine tr_rg hT [(2, .dec false)] [sI 0 .i64 (IntKind.i64.wrap ((IntKind.u64.wrap n_0).tmod (15 : Int))), sO 9 (.slc 60), sB 93 ((↑(List.length a62) : Int) != (IntKind.i64.wrap ((IntKind.u64.wrap n_0).tmod (15 : Int)))), hO 60 5 .u8 a62] (hone hb66) ?_
              refine q_k ?_
              rcases ite_split h with ⟨hc67, h⟩ | ⟨hc67, h⟩
              · refine tr_cond_t ((↑(List.length a62) : Int) != (IntKind.i64.wrap ((IntKind.u64.wrap n_0).tmod (15 : Int)))) (by kernel_rfl) hc67 ?_
                refine tr_seq ?_
                refine tr_rg hT [] [sB 4 false] hnil ?_
                refine q_k ?_
                refine tr_ret ?_
                refine q_k_ret ?_
                have h := Option.some.inj h
                subst h
                exact q_ret0 hT (.v (.one (.bool false))) rfl (by kernel_rfl)
              · refine tr_cond_f ((↑(List.length a62) : Int) != (IntKind.i64.wrap ((IntKind.u64.wrap n_0).tmod (15 : Int)))) (by kernel_rfl) hc67 ?_
                refine tr_skip ?_
                refine q_k ?_
                refine tr_seq ?_
                refine tr_seq ?_
                refine tr_rg hT [] [sI 0 .i64 (IntKind.i64.wrap ((IntKind.u64.wrap n_0).tmod (15 : Int))), sO 9 (.slc 60), sI 10 .i64 (0 : Int), hO 60 5 .u8 a62] hnil ?_
                refine q_k ?_
                refine tr_block ?_
                obtain ⟨rr3, e72, h⟩ := bind_some h
                refine tr_ft [] [sI 0 .i64 (IntKind.i64.wrap ((IntKind.u64.wrap n_0).tmod (15 : Int))), sO 9 (.slc 60), sI 10 .i64 (0 : Int), hO 60 5 .u8 a62] ⟨.own', trivial⟩ ?_
                refine tr_loop_ret (id := 4) (α := Int) (β := Unit) (ρ := Bool) (fun z => [sI 0 .i64 (IntKind.i64.wrap ((IntKind.u64.wrap n_0).tmod (15 : Int))), sO 9 (.slc 60), sI 10 .i64 z, hO 60 5 .u8 a62]) (fun z => []) (fun v σ => resS T (Gw.look σ) Try.f6.results.toList = some (.v (.one (.bool v)))) (fun k z => law14_DiskLives_l3 n_0 a62 k z) rr3 (fun _ => rfl) (((IntKind.i64.wrap ((IntKind.u64.wrap n_0).tmod (15 : Int))) - (0 : Int)).toNat + 1) (0 : Int) e72 ?_ ?_ ?_
                · intro z hz
                  subst hz
                  rcases z with _
                  replace h : ((law14_wakes).bind (fun b73 => some b73)) = _ := h
                  refine q_b_this ?_
                  refine q_k ?_
                  refine tr_seq ?_
                  obtain ⟨b73, e74, h⟩ := bind_some h
                  refine tr_rg hT [(0, .call [] (.v (.one (.bool b73))) [])] [sB 4 b73] (hone (law14_wakes_ok  b73 e74 (pre := []))) ?_
                  refine q_k ?_
                  refine tr_ret ?_
                  have h := Option.some.inj h
                  subst h
                  exact q_ret0 hT (.v (.one (.bool b73))) rfl (by kernel_rfl)
                · intro v σ hz hv
                  subst hz
                  have h := Option.some.inj h
                  subst h
                  refine q_b_ret ?_
                  refine q_k_ret ?_
                  exact q_ret0 hT _ rfl hv
                · clear h e72
                  intro k ih3 hx3 hr3 i68 h
                  replace h : (if (decide (i68 < (IntKind.i64.wrap ((IntKind.u64.wrap n_0).tmod (15 : Int))))) = true then if 0 ≤ i68 ∧ i68 < ↑(List.length a62) then if ((a62.getD i68.toNat 0) != (IntKind.u8.wrap (IntKind.i64.wrap ((1 : Int) + i68)))) = true then some (.inr false) else law14_DiskLives_l3 n_0 a62 k (IntKind.i64.wrap (i68 + (1 : Int))) else none else some (.inl ())) = _ := h
                  refine tr_seq ?_
                  refine tr_seq ?_
                  refine tr_rg hT [] [sI 0 .i64 (IntKind.i64.wrap ((IntKind.u64.wrap n_0).tmod (15 : Int))), sO 9 (.slc 60), sI 10 .i64 i68, sB 96 (decide (i68 < (IntKind.i64.wrap ((IntKind.u64.wrap n_0).tmod (15 : Int))))), hO 60 5 .u8 a62] hnil ?_
                  refine q_k ?_
                  rcases ite_split h with ⟨hc69, h⟩ | ⟨hc69, h⟩
                  · refine tr_cond_t (decide (i68 < (IntKind.i64.wrap ((IntKind.u64.wrap n_0).tmod (15 : Int))))) (by kernel_rfl) hc69 ?_
                    refine tr_skip ?_
                    refine q_k ?_
                    refine tr_seq ?_
                    refine tr_block ?_
                    refine tr_seq ?_
                    obtain ⟨hn70, h⟩ := ite_some h
                    refine tr_rg hT [] [sI 0 .i64 (IntKind.i64.wrap ((IntKind.u64.wrap n_0).tmod (15 : Int))), sO 9 (.slc 60), sI 10 .i64 i68, sB 106 ((a62.getD i68.toNat 0) != (IntKind.u8.wrap (IntKind.i64.wrap ((1 : Int) + i68)))), hO 60 5 .u8 a62] (hcons hn70 (hone hn70.2)) ?_
                    refine q_k ?_
                    rcases ite_split h with ⟨hc71, h⟩ | ⟨hc71, h⟩
                    · refine tr_cond_t ((a62.getD i68.toNat 0) != (IntKind.u8.wrap (IntKind.i64.wrap ((1 : Int) + i68)))) (by kernel_rfl) hc71 ?_
                      refine tr_seq ?_
                      refine tr_rg hT [] [sB 4 false] hnil ?_
                      refine q_k ?_
                      refine tr_ret ?_
                      refine q_b_ret ?_
                      refine q_k_ret ?_
                      refine q_kr_ret ?_
                      have h := Option.some.inj h
                      subst h
                      exact hr3 false _ rfl (by kernel_rfl)
                    · refine tr_cond_f ((a62.getD i68.toNat 0) != (IntKind.u8.wrap (IntKind.i64.wrap ((1 : Int) + i68)))) (by kernel_rfl) hc71 ?_
                      refine tr_skip ?_
                      refine q_b 5 ?_
                      refine q_k ?_
                      refine tr_rg hT [] [sI 0 .i64 (IntKind.i64.wrap ((IntKind.u64.wrap n_0).tmod (15 : Int))), sO 9 (.slc 60), sI 10 .i64 (IntKind.i64.wrap (i68 + (1 : Int))), hO 60 5 .u8 a62] hnil ?_
                      refine q_kr ?_
                      exact trR_ls [sI 0 .i64 (IntKind.i64.wrap ((IntKind.u64.wrap n_0).tmod (15 : Int))), sO 9 (.slc 60), sI 10 .i64 (IntKind.i64.wrap (i68 + (1 : Int))), hO 60 5 .u8 a62] (ih3 (IntKind.i64.wrap (i68 + (1 : Int))) h)
                  · refine tr_cond_f (decide (i68 < (IntKind.i64.wrap ((IntKind.u64.wrap n_0).tmod (15 : Int))))) (by kernel_rfl) hc69 ?_
                    refine tr_exit ?_
                    refine q_k_exit ?_
                    refine q_kr_exit ?_
                    have h := Option.some.inj h
                    subst h
                    exact q_ls [] (hx3 () rfl)
          · intro v σ hz hv
            subst hz
            have h := Option.some.inj h
            subst h
            refine q_b_ret ?_
            refine q_k_ret ?_
            exact q_ret0 hT _ rfl hv
          · clear h e61
            intro k ih0 hx0 hr0 z h
            rcases z with ⟨H18, i19⟩
            replace h : (if (decide (i19 < (IntKind.i64.wrap ((IntKind.u64.wrap n_0).tmod (15 : Int))))) = true then (disk_Disk_Trip H18 p1 (3 : Int) [] (-1 : Int) (0 : Int)).bind (fun H22 => (disk_Disk_Append H22 p1 (0 : Int) [(IntKind.u8.wrap (IntKind.i64.wrap ((1 : Int) + i19)))]).bind (fun (r24, H25) => if (r24 != (0 : Int)) = true then some (.inr false) else if AH.isBools (([] : AH) ++ [MO.row 4 1 [MV.bool true]]) (MV.slc (List.length ([] : AH)) 1 0 1) = true then (disk_Disk_Crash H25 p1 (AH.bools (([] : AH) ++ [MO.row 4 1 [MV.bool true]]) (MV.slc (List.length ([] : AH)) 1 0 1)) (-1 : Int) (0 : Int)).bind (fun H28 => (show Option (AH) from if twice_1 = true then (disk_Disk_Crash H28 p1 [] (0 : Int) (0 : Int)).bind (fun H33 => some H33) else some H28).bind (fun H31 => (disk_Disk_Life H31 p1).bind (fun r35 => if (r35 != (IntKind.i64.wrap (i19 + (1 : Int)))) = true then some (.inr false) else (disk_Disk_Off H31 p1).bind (fun b39 => if (!b39) = true then some (.inr false) else (disk_Disk_Append H31 p1 (0 : Int) []).bind (fun (r43, H44) => if (r43 != (8 : Int)) = true then some (.inr false) else (disk_Disk_Start H44 p1).bind (fun H47 => (disk_Disk_Start H47 p1).bind (fun H49 => (law14_DiskLives_l2 n_0 twice_1 p1 i19 (((4 : Int) - (0 : Int)).toNat + 1) H49 (0 : Int)).bind (fun y => match y with | .inl H53 => law14_DiskLives_l0 n_0 twice_1 p1 k H53 (IntKind.i64.wrap (i19 + (1 : Int))) | .inr v => some (.inr v))))))))) else none)) else some (.inl H18)) = _ := h
            refine tr_seq ?_
            refine tr_seq ?_
            refine tr_rg hT [] [sI 0 .i64 (IntKind.i64.wrap ((IntKind.u64.wrap n_0).tmod (15 : Int))), sB 1 twice_1, sO 5 (.slc 1), sI 7 .i64 i19, sB 37 (decide (i19 < (IntKind.i64.wrap ((IntKind.u64.wrap n_0).tmod (15 : Int))))), (.h 1, .e (.apt 3 p1)), (.h 3, .e (.arena true [] H18))] hnil ?_
            refine q_k ?_
            rcases ite_split h with ⟨hc21, h⟩ | ⟨hc21, h⟩
            · refine tr_cond_t (decide (i19 < (IntKind.i64.wrap ((IntKind.u64.wrap n_0).tmod (15 : Int))))) (by kernel_rfl) hc21 ?_
              refine tr_skip ?_
              refine q_k ?_
              refine tr_seq ?_
              refine tr_block ?_
              refine tr_seq ?_
              obtain ⟨H22, e23, h⟩ := bind_some h
              refine tr_rg hT [(1, .callA [(3, .rw), (1, .apt 3)] (.tup []) [(5, .arena true [3] H22), (3, .dead)])] [sI 0 .i64 (IntKind.i64.wrap ((IntKind.u64.wrap n_0).tmod (15 : Int))), sB 1 twice_1, sO 5 (.slc 1), sI 7 .i64 i19, (.h 1, .e (.apt 3 p1)), (.h 5, .e (.arena true [3] H22))] (hone ((disk_Disk_Trip_ok H18 p1 (3 : Int) [] (-1 : Int) (0 : Int) H22 e23).tr1 [(9001, .slc 1), (9002, .nils), (9000, .slc 3), (8900, .slc 5)] [(3, .arena true [] H18), (1, .apt 3 p1)] ⟨.arena' (bs := []), .apts' (κb := 3), .rdbnil, trivial⟩)) ?_
              refine q_k ?_
              refine tr_seq ?_
              refine tr_seq ?_
              obtain ⟨⟨r24, H25⟩, e26, h⟩ := bind_some h
              refine tr_rg hT [(4, .key 6), (5, .callA [(5, .rw), (1, .apt 5), (6, .same)] (.v (.one (.int .i64 r24))) [(7, .arena true [5] H25), (5, .dead)])] [sI 0 .i64 (IntKind.i64.wrap ((IntKind.u64.wrap n_0).tmod (15 : Int))), sB 1 twice_1, sO 5 (.slc 1), sI 7 .i64 i19, sB 48 (r24 != (0 : Int)), (.h 1, .e (.apt 3 p1)), (.h 7, .e (.arena true [5, 3] H25))] (hone ((disk_Disk_Append_ok H22 p1 (0 : Int) [(IntKind.u8.wrap (IntKind.i64.wrap ((1 : Int) + i19)))] (r24, H25) e26).tr1 [(9001, .slc 1), (9002, .slc 6), (9000, .slc 5), (8900, .slc 7)] [(5, .arena true [] H22), (1, .apt 5 p1), (6, .own 5 .u8 [(IntKind.u8.wrap (IntKind.i64.wrap ((1 : Int) + i19)))])] ⟨.arena' (bs := []), .apts' (κb := 5), .ownrd' (e := 5), trivial⟩)) ?_
              refine q_k ?_
              rcases ite_split h with ⟨hc27, h⟩ | ⟨hc27, h⟩
              · refine tr_cond_t (r24 != (0 : Int)) (by kernel_rfl) hc27 ?_
                refine tr_seq ?_
                refine tr_rg hT [] [sB 4 false] hnil ?_
                refine q_k ?_
                refine tr_ret ?_
                refine q_k_ret ?_
                refine q_b_ret ?_
                refine q_k_ret ?_
                refine q_kr_ret ?_
                have h := Option.some.inj h
                subst h
                exact hr0 false _ rfl (by kernel_rfl)
              · refine tr_cond_f (r24 != (0 : Int)) (by kernel_rfl) hc27 ?_
                refine tr_skip ?_
                refine q_k ?_
                refine tr_seq ?_
                obtain ⟨hn30, h⟩ := ite_some h
                obtain ⟨H28, e29, h⟩ := bind_some h
                refine tr_rg hT [(1, .arN 8 [9, 10]), (2, .callA [(7, .rw), (1, .apt 7), (10, .rdb 9)] (.tup []) [(11, .arena true [7] H28), (7, .dead)])] [sI 0 .i64 (IntKind.i64.wrap ((IntKind.u64.wrap n_0).tmod (15 : Int))), sB 1 twice_1, sO 5 (.slc 1), sI 7 .i64 i19, (.h 1, .e (.apt 3 p1)), (.h 11, .e (.arena true [7, 5, 3] H28))] (hcons hn30 (hone ((disk_Disk_Crash_ok H25 p1 (AH.bools (([] : AH) ++ [MO.row 4 1 [MV.bool true]]) (MV.slc (List.length ([] : AH)) 1 0 1)) (-1 : Int) (0 : Int) H28 e29).tr1 [(9001, .slc 1), (9002, .slc 10), (9000, .slc 7), (8900, .slc 11)] [(7, .arena true [] H25), (1, .apt 7 p1), (10, .rdb (AH.bools (([] : AH) ++ [MO.row 4 1 [MV.bool true]]) (MV.slc (List.length ([] : AH)) 1 0 1)))] ⟨.arena' (bs := []), .apts' (κb := 7), .rdb', trivial⟩))) ?_
                refine q_k ?_
                refine tr_seq ?_
                refine tr_seq ?_
                refine tr_rg hT [] [sI 0 .i64 (IntKind.i64.wrap ((IntKind.u64.wrap n_0).tmod (15 : Int))), sB 1 twice_1, sO 5 (.slc 1), sI 7 .i64 i19, sB 52 twice_1, (.h 1, .e (.apt 3 p1)), (.h 11, .e (.arena true [7, 5, 3] H28))] hnil ?_
                refine q_k ?_
                obtain ⟨H31, e60, h⟩ := bind_some h
                refine tr_join (σ1 := [sI 0 .i64 (IntKind.i64.wrap ((IntKind.u64.wrap n_0).tmod (15 : Int))), sB 1 twice_1, sO 5 (.slc 1), sI 7 .i64 i19, (.h 1, .e (.apt 52 p1)), (.h 52, .e (.arena true [] H31))]) ?_ ?_
                · skip
                  replace h : ((disk_Disk_Life H31 p1).bind (fun r35 => if (r35 != (IntKind.i64.wrap (i19 + (1 : Int)))) = true then some (.inr false) else (disk_Disk_Off H31 p1).bind (fun b39 => if (!b39) = true then some (.inr false) else (disk_Disk_Append H31 p1 (0 : Int) []).bind (fun (r43, H44) => if (r43 != (8 : Int)) = true then some (.inr false) else (disk_Disk_Start H44 p1).bind (fun H47 => (disk_Disk_Start H47 p1).bind (fun H49 => (law14_DiskLives_l2 n_0 twice_1 p1 i19 (((4 : Int) - (0 : Int)).toNat + 1) H49 (0 : Int)).bind (fun y => match y with | .inl H53 => law14_DiskLives_l0 n_0 twice_1 p1 k H53 (IntKind.i64.wrap (i19 + (1 : Int))) | .inr v => some (.inr v)))))))) = _ := h
                  refine q_k ?_
                  refine tr_seq ?_
                  refine tr_seq ?_
                  obtain ⟨r35, e36, h⟩ := bind_some h
                  rcases ite_split h with ⟨hb37, h⟩ | ⟨hb38, h⟩
                  · refine tr_rg hT [(1, .callA [(52, .ro), (1, .apt 52)] (.v (.one (.int .i64 r35))) []), (5, .dec true)] [sI 0 .i64 (IntKind.i64.wrap ((IntKind.u64.wrap n_0).tmod (15 : Int))), sB 1 twice_1, sO 5 (.slc 1), sI 7 .i64 i19, sB 69 true, (.h 1, .e (.apt 52 p1)), (.h 52, .e (.arena true [] H31))] (hcons ((disk_Disk_Life_ok H31 p1 r35 e36).tr1 [(9001, .slc 1), (9000, .slc 52)] [(52, .arena false [] H31), (1, .apt 52 p1)] ⟨.arena' (bs := []), .apts' (κb := 52), trivial⟩) (hone hb37)) ?_
                    refine q_k ?_
                    refine tr_cond_t true (by kernel_rfl) rfl ?_
                    refine tr_seq ?_
                    refine tr_rg hT [] [sB 4 false] hnil ?_
                    refine q_k ?_
                    refine tr_ret ?_
                    refine q_k_ret ?_
                    refine q_b_ret ?_
                    refine q_k_ret ?_
                    refine q_kr_ret ?_
                    have h := Option.some.inj h
                    subst h
                    exact hr0 false _ rfl (by kernel_rfl)
                  · obtain ⟨b39, e40, h⟩ := bind_some h
                    rcases ite_split h with ⟨hb41, h⟩ | ⟨hb42, h⟩
                    · refine tr_rg hT [(1, .callA [(52, .ro), (1, .apt 52)] (.v (.one (.int .i64 r35))) []), (5, .dec false), (7, .callA [(52, .ro), (1, .apt 52)] (.v (.one (.bool b39))) []), (10, .dec true)] [sI 0 .i64 (IntKind.i64.wrap ((IntKind.u64.wrap n_0).tmod (15 : Int))), sB 1 twice_1, sO 5 (.slc 1), sI 7 .i64 i19, sB 69 true, (.h 1, .e (.apt 52 p1)), (.h 52, .e (.arena true [] H31))] (hcons ((disk_Disk_Life_ok H31 p1 r35 e36).tr1 [(9001, .slc 1), (9000, .slc 52)] [(52, .arena false [] H31), (1, .apt 52 p1)] ⟨.arena' (bs := []), .apts' (κb := 52), trivial⟩) (hcons hb38 (hcons ((disk_Disk_Off_ok H31 p1 b39 e40).tr1 [(9001, .slc 1), (9000, .slc 52)] [(52, .arena false [] H31), (1, .apt 52 p1)] ⟨.arena' (bs := []), .apts' (κb := 52), trivial⟩) (hone hb41)))) ?_
                      refine q_k ?_
                      refine tr_cond_t true (by kernel_rfl) rfl ?_
                      refine tr_seq ?_
                      refine tr_rg hT [] [sB 4 false] hnil ?_
                      refine q_k ?_
                      refine tr_ret ?_
                      refine q_k_ret ?_
                      refine q_b_ret ?_
                      refine q_k_ret ?_
                      refine q_kr_ret ?_
                      have h := Option.some.inj h
                      subst h
                      exact hr0 false _ rfl (by kernel_rfl)
                    · obtain ⟨⟨r43, H44⟩, e45, h⟩ := bind_some h
                      refine tr_rg hT [(1, .callA [(52, .ro), (1, .apt 52)] (.v (.one (.int .i64 r35))) []), (5, .dec false), (7, .callA [(52, .ro), (1, .apt 52)] (.v (.one (.bool b39))) []), (10, .dec false), (12, .callA [(52, .rw), (1, .apt 52)] (.v (.one (.int .i64 r43))) [(54, .arena true [52] H44), (52, .dead)])] [sI 0 .i64 (IntKind.i64.wrap ((IntKind.u64.wrap n_0).tmod (15 : Int))), sB 1 twice_1, sO 5 (.slc 1), sI 7 .i64 i19, sB 69 (r43 != (8 : Int)), (.h 1, .e (.apt 52 p1)), (.h 54, .e (.arena true [52] H44))] (hcons ((disk_Disk_Life_ok H31 p1 r35 e36).tr1 [(9001, .slc 1), (9000, .slc 52)] [(52, .arena false [] H31), (1, .apt 52 p1)] ⟨.arena' (bs := []), .apts' (κb := 52), trivial⟩) (hcons hb38 (hcons ((disk_Disk_Off_ok H31 p1 b39 e40).tr1 [(9001, .slc 1), (9000, .slc 52)] [(52, .arena false [] H31), (1, .apt 52 p1)] ⟨.arena' (bs := []), .apts' (κb := 52), trivial⟩) (hcons hb42 (hone ((disk_Disk_Append_ok H31 p1 (0 : Int) [] (r43, H44) e45).tr1 [(9001, .slc 1), (9002, .nils), (9000, .slc 52), (8900, .slc 54)] [(52, .arena true [] H31), (1, .apt 52 p1)] ⟨.arena' (bs := []), .apts' (κb := 52), .nilrd, trivial⟩)))))) ?_
                      refine q_k ?_
                      rcases ite_split h with ⟨hc46, h⟩ | ⟨hc46, h⟩
                      · refine tr_cond_t (r43 != (8 : Int)) (by kernel_rfl) hc46 ?_
                        refine tr_seq ?_
                        refine tr_rg hT [] [sB 4 false] hnil ?_
                        refine q_k ?_
                        refine tr_ret ?_
                        refine q_k_ret ?_
                        refine q_b_ret ?_
                        refine q_k_ret ?_
                        refine q_kr_ret ?_
                        have h := Option.some.inj h
                        subst h
                        exact hr0 false _ rfl (by kernel_rfl)
                      · refine tr_cond_f (r43 != (8 : Int)) (by kernel_rfl) hc46 ?_
                        refine tr_skip ?_
                        refine q_k ?_
                        refine tr_seq ?_
                        obtain ⟨H47, e48, h⟩ := bind_some h
                        refine tr_rg hT [(1, .callA [(54, .rw), (1, .apt 54)] (.tup []) [(55, .arena true [54] H47), (54, .dead)])] [sI 0 .i64 (IntKind.i64.wrap ((IntKind.u64.wrap n_0).tmod (15 : Int))), sB 1 twice_1, sO 5 (.slc 1), sI 7 .i64 i19, (.h 1, .e (.apt 52 p1)), (.h 55, .e (.arena true [54, 52] H47))] (hone ((disk_Disk_Start_ok H44 p1 H47 e48).tr1 [(9001, .slc 1), (9000, .slc 54), (8900, .slc 55)] [(54, .arena true [] H44), (1, .apt 54 p1)] ⟨.arena' (bs := []), .apts' (κb := 54), trivial⟩)) ?_
                        refine q_k ?_
                        refine tr_seq ?_
                        obtain ⟨H49, e50, h⟩ := bind_some h
                        refine tr_rg hT [(1, .callA [(55, .rw), (1, .apt 55)] (.tup []) [(56, .arena true [55] H49), (55, .dead)])] [sI 0 .i64 (IntKind.i64.wrap ((IntKind.u64.wrap n_0).tmod (15 : Int))), sB 1 twice_1, sO 5 (.slc 1), sI 7 .i64 i19, (.h 1, .e (.apt 52 p1)), (.h 56, .e (.arena true [55, 54, 52] H49))] (hone ((disk_Disk_Start_ok H47 p1 H49 e50).tr1 [(9001, .slc 1), (9000, .slc 55), (8900, .slc 56)] [(55, .arena true [] H47), (1, .apt 55 p1)] ⟨.arena' (bs := []), .apts' (κb := 55), trivial⟩)) ?_
                        refine q_k ?_
                        refine tr_seq ?_
                        refine tr_rg hT [] [sI 0 .i64 (IntKind.i64.wrap ((IntKind.u64.wrap n_0).tmod (15 : Int))), sB 1 twice_1, sO 5 (.slc 1), sI 7 .i64 i19, sI 8 .i64 (0 : Int), (.h 1, .e (.apt 52 p1)), (.h 56, .e (.arena true [55, 54, 52] H49))] hnil ?_
                        refine q_k ?_
                        refine tr_block ?_
                        obtain ⟨rr2, e59, h⟩ := bind_some h
                        refine tr_ft [(57, .slc 56)] [sI 0 .i64 (IntKind.i64.wrap ((IntKind.u64.wrap n_0).tmod (15 : Int))), sB 1 twice_1, sO 5 (.slc 1), sI 7 .i64 i19, sI 8 .i64 (0 : Int), (.h 1, .e (.apt 57 p1)), (.h 57, .e (.arena true [] H49))] ⟨.apt' (κb := 52) (κ0 := 56) (rw := true) (bs := [55, 54, 52]) (D := H49), .arena' (bs := [55, 54, 52]), trivial⟩ ?_
                        refine tr_loop_ret (id := 2) (α := AH × Int) (β := AH) (ρ := Bool) (fun z => [sI 0 .i64 (IntKind.i64.wrap ((IntKind.u64.wrap n_0).tmod (15 : Int))), sB 1 twice_1, sO 5 (.slc 1), sI 7 .i64 i19, sI 8 .i64 z.2, (.h 1, .e (.apt 57 p1)), (.h 57, .e (.arena true [] z.1))]) (fun z => [sI 0 .i64 (IntKind.i64.wrap ((IntKind.u64.wrap n_0).tmod (15 : Int))), sB 1 twice_1, sO 5 (.slc 1), sI 7 .i64 i19, (.h 1, .e (.apt 58 p1)), (.h 58, .e (.arena true [] z))]) (fun v σ => resS T (Gw.look σ) Try.f6.results.toList = some (.v (.one (.bool v)))) (fun k z => law14_DiskLives_l2 n_0 twice_1 p1 i19 k z.1 z.2) rr2 (fun _ => rfl) (((4 : Int) - (0 : Int)).toNat + 1) (H49, (0 : Int)) e59 ?_ ?_ ?_
                        · intro H53 hz
                          subst hz
                          replace h : (law14_DiskLives_l0 n_0 twice_1 p1 k H53 (IntKind.i64.wrap (i19 + (1 : Int)))) = _ := h
                          refine q_b_this ?_
                          refine q_b 1 ?_
                          refine q_k ?_
                          refine tr_rg hT [] [sI 0 .i64 (IntKind.i64.wrap ((IntKind.u64.wrap n_0).tmod (15 : Int))), sB 1 twice_1, sO 5 (.slc 1), sI 7 .i64 (IntKind.i64.wrap (i19 + (1 : Int))), (.h 1, .e (.apt 58 p1)), (.h 58, .e (.arena true [] H53))] hnil ?_
                          refine q_kr ?_
                          exact trR_ft [(3, .slc 58)] [sI 0 .i64 (IntKind.i64.wrap ((IntKind.u64.wrap n_0).tmod (15 : Int))), sB 1 twice_1, sO 5 (.slc 1), sI 7 .i64 (IntKind.i64.wrap (i19 + (1 : Int))), (.h 1, .e (.apt 3 p1)), (.h 3, .e (.arena true [] H53))] ⟨.apt' (κb := 58) (κ0 := 58) (rw := true) (bs := []) (D := H53), .arena' (bs := []), trivial⟩ (ih0 (H53, (IntKind.i64.wrap (i19 + (1 : Int)))) h)
                        · intro v σ hz hv
                          subst hz
                          have h := Option.some.inj h
                          subst h
                          refine q_b_ret ?_
                          refine q_b_ret ?_
                          refine q_k_ret ?_
                          refine q_kr_ret ?_
                          exact hr0 v _ rfl hv
                        · clear h e59
                          intro k ih2 hx2 hr2 z h
                          rcases z with ⟨H51, k52⟩
                          replace h : (if (decide (k52 < (4 : Int))) = true then (disk_Disk_Sync H51 p1 (0 : Int)).bind (fun (r55, H56) => if (r55 != (0 : Int)) = true then some (.inr false) else law14_DiskLives_l2 n_0 twice_1 p1 i19 k H56 (IntKind.i64.wrap (k52 + (1 : Int)))) else some (.inl H51)) = _ := h
                          refine tr_seq ?_
                          refine tr_seq ?_
                          refine tr_rg hT [] [sI 0 .i64 (IntKind.i64.wrap ((IntKind.u64.wrap n_0).tmod (15 : Int))), sB 1 twice_1, sO 5 (.slc 1), sI 7 .i64 i19, sI 8 .i64 k52, sB 75 (decide (k52 < (4 : Int))), (.h 1, .e (.apt 57 p1)), (.h 57, .e (.arena true [] H51))] hnil ?_
                          refine q_k ?_
                          rcases ite_split h with ⟨hc54, h⟩ | ⟨hc54, h⟩
                          · refine tr_cond_t (decide (k52 < (4 : Int))) (by kernel_rfl) hc54 ?_
                            refine tr_skip ?_
                            refine q_k ?_
                            refine tr_seq ?_
                            refine tr_block ?_
                            refine tr_seq ?_
                            obtain ⟨⟨r55, H56⟩, e57, h⟩ := bind_some h
                            refine tr_rg hT [(1, .callA [(57, .rw), (1, .apt 57)] (.v (.one (.int .i64 r55))) [(59, .arena true [57] H56), (57, .dead)])] [sI 0 .i64 (IntKind.i64.wrap ((IntKind.u64.wrap n_0).tmod (15 : Int))), sB 1 twice_1, sO 5 (.slc 1), sI 7 .i64 i19, sI 8 .i64 k52, sB 80 (r55 != (0 : Int)), (.h 1, .e (.apt 57 p1)), (.h 59, .e (.arena true [57] H56))] (hone ((disk_Disk_Sync_ok H51 p1 (0 : Int) (r55, H56) e57).tr1 [(9001, .slc 1), (9000, .slc 57), (8900, .slc 59)] [(57, .arena true [] H51), (1, .apt 57 p1)] ⟨.arena' (bs := []), .apts' (κb := 57), trivial⟩)) ?_
                            refine q_k ?_
                            rcases ite_split h with ⟨hc58, h⟩ | ⟨hc58, h⟩
                            · refine tr_cond_t (r55 != (0 : Int)) (by kernel_rfl) hc58 ?_
                              refine tr_seq ?_
                              refine tr_rg hT [] [sB 4 false] hnil ?_
                              refine q_k ?_
                              refine tr_ret ?_
                              refine q_b_ret ?_
                              refine q_k_ret ?_
                              refine q_kr_ret ?_
                              have h := Option.some.inj h
                              subst h
                              exact hr2 false _ rfl (by kernel_rfl)
                            · refine tr_cond_f (r55 != (0 : Int)) (by kernel_rfl) hc58 ?_
                              refine tr_skip ?_
                              refine q_b 3 ?_
                              refine q_k ?_
                              refine tr_rg hT [] [sI 0 .i64 (IntKind.i64.wrap ((IntKind.u64.wrap n_0).tmod (15 : Int))), sB 1 twice_1, sO 5 (.slc 1), sI 7 .i64 i19, sI 8 .i64 (IntKind.i64.wrap (k52 + (1 : Int))), (.h 1, .e (.apt 57 p1)), (.h 59, .e (.arena true [57] H56))] hnil ?_
                              refine q_kr ?_
                              exact trR_ft [(57, .slc 59)] [sI 0 .i64 (IntKind.i64.wrap ((IntKind.u64.wrap n_0).tmod (15 : Int))), sB 1 twice_1, sO 5 (.slc 1), sI 7 .i64 i19, sI 8 .i64 (IntKind.i64.wrap (k52 + (1 : Int))), (.h 1, .e (.apt 57 p1)), (.h 57, .e (.arena true [] H56))] ⟨.apt' (κb := 57) (κ0 := 59) (rw := true) (bs := [57]) (D := H56), .arena' (bs := [57]), trivial⟩ (ih2 (H56, (IntKind.i64.wrap (k52 + (1 : Int)))) h)
                          · refine tr_cond_f (decide (k52 < (4 : Int))) (by kernel_rfl) hc54 ?_
                            refine tr_exit ?_
                            refine q_k_exit ?_
                            refine q_kr_exit ?_
                            have h := Option.some.inj h
                            subst h
                            exact q_ft [(58, .slc 57)] [sI 0 .i64 (IntKind.i64.wrap ((IntKind.u64.wrap n_0).tmod (15 : Int))), sB 1 twice_1, sO 5 (.slc 1), sI 7 .i64 i19, (.h 1, .e (.apt 58 p1)), (.h 58, .e (.arena true [] H51))] ⟨.apt' (κb := 57) (κ0 := 57) (rw := true) (bs := []) (D := H51), .arena' (bs := []), trivial⟩ (hx2 H51 rfl)
                · intro hj1
                  clear h
                  have h := e60
                  clear e60
                  rcases ite_split h with ⟨hc32, h⟩ | ⟨hc32, h⟩
                  · refine tr_cond_t twice_1 (by kernel_rfl) hc32 ?_
                    obtain ⟨H33, e34, h⟩ := bind_some h
                    refine tr_rg hT [(1, .callA [(11, .rw), (1, .apt 11)] (.tup []) [(53, .arena true [11] H33), (11, .dead)])] [sI 0 .i64 (IntKind.i64.wrap ((IntKind.u64.wrap n_0).tmod (15 : Int))), sB 1 twice_1, sO 5 (.slc 1), sI 7 .i64 i19, (.h 1, .e (.apt 3 p1)), (.h 53, .e (.arena true [11, 7, 5, 3] H33))] (hone ((disk_Disk_Crash_ok H28 p1 [] (0 : Int) (0 : Int) H33 e34).tr1 [(9001, .slc 1), (9002, .nils), (9000, .slc 11), (8900, .slc 53)] [(11, .arena true [] H28), (1, .apt 11 p1)] ⟨.arena' (bs := []), .apts' (κb := 11), .rdbnil, trivial⟩)) ?_
                    have h := Option.some.inj h
                    subst h
                    exact q_ft [(52, .slc 53)] [sI 0 .i64 (IntKind.i64.wrap ((IntKind.u64.wrap n_0).tmod (15 : Int))), sB 1 twice_1, sO 5 (.slc 1), sI 7 .i64 i19, (.h 1, .e (.apt 52 p1)), (.h 52, .e (.arena true [] H33))] ⟨.apt' (κb := 3) (κ0 := 53) (rw := true) (bs := [11, 7, 5, 3]) (D := H33), .arena' (bs := [11, 7, 5, 3]), trivial⟩ hj1
                  · refine tr_cond_f twice_1 (by kernel_rfl) hc32 ?_
                    refine tr_skip ?_
                    have h := Option.some.inj h
                    subst h
                    exact q_ft [(52, .slc 11)] [sI 0 .i64 (IntKind.i64.wrap ((IntKind.u64.wrap n_0).tmod (15 : Int))), sB 1 twice_1, sO 5 (.slc 1), sI 7 .i64 i19, (.h 1, .e (.apt 52 p1)), (.h 52, .e (.arena true [] H28))] ⟨.apt' (κb := 3) (κ0 := 11) (rw := true) (bs := [7, 5, 3]) (D := H28), .arena' (bs := [7, 5, 3]), trivial⟩ hj1
            · refine tr_cond_f (decide (i19 < (IntKind.i64.wrap ((IntKind.u64.wrap n_0).tmod (15 : Int))))) (by kernel_rfl) hc21 ?_
              refine tr_exit ?_
              refine q_k_exit ?_
              refine q_kr_exit ?_
              have h := Option.some.inj h
              subst h
              exact q_ft [(4, .slc 3)] [sI 0 .i64 (IntKind.i64.wrap ((IntKind.u64.wrap n_0).tmod (15 : Int))), sO 5 (.slc 1), (.h 1, .e (.apt 4 p1)), (.h 4, .e (.arena true [] H18))] ⟨.apt' (κb := 3) (κ0 := 3) (rw := true) (bs := []) (D := H18), .arena' (bs := []), trivial⟩ (hx0 H18 rfl)

end Go.Proofs.Sd
