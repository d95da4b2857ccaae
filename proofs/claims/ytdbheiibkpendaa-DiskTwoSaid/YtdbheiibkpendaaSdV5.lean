/- Walks, printed by a program of this session (gowalk.py): each Go function comes to its plain function's answer. -/
import Derived.Test.YtdbheiibkpendaaSdA
import Derived.Test.YtdbheiibkpendaaSdD
import Derived.Test.YtdbheiibkpendaaMSdS
import Derived.Test.YtdbheiibkpendaaSdV0
import Derived.Test.YtdbheiibkpendaaSdV1
import Derived.Test.YtdbheiibkpendaaSdV2
import Derived.Test.YtdbheiibkpendaaSdV3
import Derived.Test.YtdbheiibkpendaaSdV4
namespace Go.Proofs.Sd
open Go Go.Gw D
set_option linter.unusedVariables false
set_option maxRecDepth 20000

theorem law14_Heavy_ok (l_0 : List (List DL)) (r : Bool) (h : law14_Heavy l_0 = some r) : CallOk P 31 [.v (.one (.slc 9000))] [(9000, .rows (.gn 7 l_0))] (.v (.one (.bool r))) [] := by
  refine call1 (N := 33) Try.func31 (by kernel_rfl) rfl rfl rfl [(9000, .rows (.gn 7 l_0))] (by kernel_rfl) ?_
  intro _ B w0
  show Tr P B 33 w0 _ _ (RetQ P Try.f31 (R1 _ _ B w0))
  unfold law14_Heavy at h
  refine tr_seq ?_
  refine tr_rg hT [] [sO 0 (.slc 9000), hW 9000 (.gn 7 l_0)] hnil ?_
  refine q_k ?_
  refine tr_seq ?_
  refine tr_seq ?_
  refine tr_rg hT [] [sO 0 (.slc 9000), sB 6 (decide ((↑(List.length l_0) : Int) > (200 : Int))), hW 9000 (.gn 7 l_0)] hnil ?_
  refine q_k ?_
  rcases ite_split h with ⟨hc1, h⟩ | ⟨hc1, h⟩
  · refine tr_cond_t (decide ((↑(List.length l_0) : Int) > (200 : Int))) (by kernel_rfl) hc1 ?_
    refine tr_seq ?_
    refine tr_rg hT [] [sB 2 true] hnil ?_
    refine q_k ?_
    refine tr_ret ?_
    refine q_k_ret ?_
    have h := Option.some.inj h
    subst h
    refine q_ls [sB 2 true] ?_
    exact q_ret1 hT (.v (.one (.bool true))) [] (by kernel_rfl) (by kernel_rfl) (by kernel_rfl)
  · refine tr_cond_f (decide ((↑(List.length l_0) : Int) > (200 : Int))) (by kernel_rfl) hc1 ?_
    refine tr_skip ?_
    refine q_k ?_
    refine tr_seq ?_
    refine tr_seq ?_
    refine tr_rg hT [] [sO 0 (.slc 9000), sI 3 .i64 (0 : Int), hW 9000 (.gn 7 l_0)] hnil ?_
    refine q_k ?_
    refine tr_block ?_
    obtain ⟨rr0, e12, h⟩ := bind_some h
    refine tr_ft [] [sO 0 (.slc 9000), sI 3 .i64 (0 : Int), hW 9000 (.gn 7 l_0)] ⟨.rows', trivial⟩ ?_
    refine tr_loop_ret (id := 0) (α := Int) (β := Unit) (ρ := Bool) (fun z => [sO 0 (.slc 9000), sI 3 .i64 z, hW 9000 (.gn 7 l_0)]) (fun z => []) (fun v σ => resS T (Gw.look σ) Try.f31.results.toList = some (.v (.one (.bool v))) ∧ Gw.hasAll σ [] = some (Gw.preSS [])) (fun k z => law14_Heavy_l0 l_0 k z) rr0 (fun _ => rfl) (((↑(List.length l_0) : Int) - (0 : Int)).toNat + 1) (0 : Int) e12 ?_ ?_ ?_
    · intro z hz
      subst hz
      rcases z with _
      replace h : (some false) = _ := h
      refine q_b_this ?_
      refine q_k ?_
      refine tr_seq ?_
      refine tr_rg hT [] [sB 2 false] hnil ?_
      refine q_k ?_
      refine tr_ret ?_
      have h := Option.some.inj h
      subst h
      refine q_ls [sB 2 false] ?_
      exact q_ret1 hT (.v (.one (.bool false))) [] (by kernel_rfl) (by kernel_rfl) (by kernel_rfl)
    · intro v σ hz hv
      subst hz
      have h := Option.some.inj h
      subst h
      refine q_b_ret ?_
      refine q_k_ret ?_
      exact q_ret1 hT _ _ hv.1 hv.2 (by kernel_rfl)
    · clear h e12
      intro k ih0 hx0 hr0 i2 h
      replace h : (if (decide (i2 < (↑(List.length l_0) : Int))) = true then if (decide (i2 < (50 : Int))) = true then if 0 ≤ i2 ∧ i2 < ↑(List.length l_0) then if gkAll l_0 i2.toNat 3 [.bs .u8 0] = true then if (decide ((↑(List.length (DL.ints (dlAt l_0 i2.toNat 3))) : Int) > (300 : Int))) = true then some (.inr true) else if gkAll l_0 i2.toNat 4 [.bb 0] = true then if (decide ((↑(List.length (DL.boolL (dlAt l_0 i2.toNat 4))) : Int) > (300 : Int))) = true then some (.inr true) else law14_Heavy_l0 l_0 k (IntKind.i64.wrap (i2 + (1 : Int))) else none else none else none else some (.inl ()) else some (.inl ())) = _ := h
      refine tr_seq ?_
      refine tr_seq ?_
      rcases ite_split h with ⟨hb3, h⟩ | ⟨hb11, h⟩
      · refine tr_rg hT [(4, .dec true)] [sO 0 (.slc 9000), sI 3 .i64 i2, sB 14 (decide (i2 < (50 : Int))), hW 9000 (.gn 7 l_0)] (hone hb3) ?_
        refine q_k ?_
        rcases ite_split h with ⟨hc4, h⟩ | ⟨hc4, h⟩
        · refine tr_cond_t (decide (i2 < (50 : Int))) (by kernel_rfl) hc4 ?_
          refine tr_skip ?_
          refine q_k ?_
          refine tr_seq ?_
          refine tr_block ?_
          refine tr_seq ?_
          obtain ⟨hn5, h⟩ := ite_some h
          obtain ⟨hn6, h⟩ := ite_some h
          rcases ite_split h with ⟨hb7, h⟩ | ⟨hb8, h⟩
          · refine tr_rg hT [(4, .gk [.bs .u8 0]), (7, .dec true)] [sO 0 (.slc 9000), sI 3 .i64 i2, sB 32 true, hW 9000 (.gn 7 l_0)] (hcons hn5 (hcons hn5 (hcons hn5.2 (hcons hn6 (hone hb7))))) ?_
            refine q_k ?_
            refine tr_cond_t true (by kernel_rfl) rfl ?_
            refine tr_seq ?_
            refine tr_rg hT [] [sB 2 true] hnil ?_
            refine q_k ?_
            refine tr_ret ?_
            refine q_b_ret ?_
            refine q_k_ret ?_
            refine q_kr_ret ?_
            have h := Option.some.inj h
            subst h
            exact q_ls [sB 2 true] (hr0 true _ rfl ⟨by kernel_rfl, by kernel_rfl⟩)
          · obtain ⟨hn9, h⟩ := ite_some h
            refine tr_rg hT [(4, .gk [.bs .u8 0]), (7, .dec false), (12, .gk [.bb 1]), (13, .bb [])] [sO 0 (.slc 9000), sI 3 .i64 i2, sB 32 (decide ((↑(List.length (DL.boolL (dlAt l_0 i2.toNat 4))) : Int) > (300 : Int))), hW 9000 (.gn 7 l_0)] (hcons hn5 (hcons hn5 (hcons hn5.2 (hcons hn6 (hcons hb8 (hcons hn5 (hcons hn5 (hcons hn5.2 (hone hn9))))))))) ?_
            refine q_k ?_
            rcases ite_split h with ⟨hc10, h⟩ | ⟨hc10, h⟩
            · refine tr_cond_t (decide ((↑(List.length (DL.boolL (dlAt l_0 i2.toNat 4))) : Int) > (300 : Int))) (by kernel_rfl) hc10 ?_
              refine tr_seq ?_
              refine tr_rg hT [] [sB 2 true] hnil ?_
              refine q_k ?_
              refine tr_ret ?_
              refine q_b_ret ?_
              refine q_k_ret ?_
              refine q_kr_ret ?_
              have h := Option.some.inj h
              subst h
              exact q_ls [sB 2 true] (hr0 true _ rfl ⟨by kernel_rfl, by kernel_rfl⟩)
            · refine tr_cond_f (decide ((↑(List.length (DL.boolL (dlAt l_0 i2.toNat 4))) : Int) > (300 : Int))) (by kernel_rfl) hc10 ?_
              refine tr_skip ?_
              refine q_b 1 ?_
              refine q_k ?_
              refine tr_rg hT [] [sO 0 (.slc 9000), sI 3 .i64 (IntKind.i64.wrap (i2 + (1 : Int))), hW 9000 (.gn 7 l_0)] hnil ?_
              refine q_kr ?_
              exact trR_ls [sO 0 (.slc 9000), sI 3 .i64 (IntKind.i64.wrap (i2 + (1 : Int))), hW 9000 (.gn 7 l_0)] (ih0 (IntKind.i64.wrap (i2 + (1 : Int))) h)
        · refine tr_cond_f (decide (i2 < (50 : Int))) (by kernel_rfl) hc4 ?_
          refine tr_exit ?_
          refine q_k_exit ?_
          refine q_kr_exit ?_
          have h := Option.some.inj h
          subst h
          exact q_ls [] (hx0 () rfl)
      · refine tr_rg hT [(4, .dec false)] [sO 0 (.slc 9000), sI 3 .i64 i2, sB 14 false, hW 9000 (.gn 7 l_0)] (hone hb11) ?_
        refine q_k ?_
        refine tr_cond_f false (by kernel_rfl) rfl ?_
        refine tr_exit ?_
        refine q_k_exit ?_
        refine q_kr_exit ?_
        have h := Option.some.inj h
        subst h
        exact q_ls [] (hx0 () rfl)

theorem law14_DiskTwo_ok (rows_0 : List (List Int)) (l_1 : List (List DL)) (r : Bool) (h : law14_DiskTwo rows_0 l_1 = some r) : CallOk P 10 [.v (.one (.slc 9000)), .v (.one (.slc 9001))] [(9000, .rows (.bs .u8 rows_0)), (9001, .rows (.gn 7 l_1))] (.v (.one (.bool r))) [] := by
  refine call1 (N := 180) Try.func10 (by kernel_rfl) rfl rfl rfl [(9000, .rows (.bs .u8 rows_0)), (9001, .rows (.gn 7 l_1))] (by kernel_rfl) ?_
  intro _ B w0
  show Tr P B 180 w0 _ _ (RetQ P Try.f10 (R1 _ _ B w0))
  unfold law14_DiskTwo at h
  refine tr_seq ?_
  refine tr_rg hT [] [sO 0 (.slc 9000), sO 1 (.slc 9001), hW 9000 (.bs .u8 rows_0), hW 9001 (.gn 7 l_1)] hnil ?_
  refine q_k ?_
  refine tr_seq ?_
  refine tr_seq ?_
  obtain ⟨b1, e2, h⟩ := bind_some h
  rcases ite_split h with ⟨hb3, h⟩ | ⟨hb4, h⟩
  · refine tr_rg hT [(1, .call [9001] (.v (.one (.bool b1))) []), (2, .dec true)] [sO 0 (.slc 9000), sO 1 (.slc 9001), sB 20 true, hW 9000 (.bs .u8 rows_0), hW 9001 (.gn 7 l_1)] (hcons ((law14_Heavy_ok l_1 b1 e2).tr1 [(9000, .slc 9001)] [(9001, .rows (.gn 7 l_1))] ⟨.rows', trivial⟩) (hone hb3)) ?_
    refine q_k ?_
    refine tr_cond_t true (by kernel_rfl) rfl ?_
    refine tr_seq ?_
    refine tr_rg hT [] [sB 4 true] hnil ?_
    refine q_k ?_
    refine tr_ret ?_
    refine q_k_ret ?_
    have h := Option.some.inj h
    subst h
    refine q_ls [sB 4 true] ?_
    exact q_ret1 hT (.v (.one (.bool true))) [] (by kernel_rfl) (by kernel_rfl) (by kernel_rfl)
  · refine tr_rg hT [(1, .call [9001] (.v (.one (.bool b1))) []), (2, .dec false)] [sO 0 (.slc 9000), sO 1 (.slc 9001), sB 20 (decide ((↑(List.length rows_0) : Int) > (20 : Int))), hW 9000 (.bs .u8 rows_0), hW 9001 (.gn 7 l_1)] (hcons ((law14_Heavy_ok l_1 b1 e2).tr1 [(9000, .slc 9001)] [(9001, .rows (.gn 7 l_1))] ⟨.rows', trivial⟩) (hone hb4)) ?_
    refine q_k ?_
    rcases ite_split h with ⟨hc5, h⟩ | ⟨hc5, h⟩
    · refine tr_cond_t (decide ((↑(List.length rows_0) : Int) > (20 : Int))) (by kernel_rfl) hc5 ?_
      refine tr_seq ?_
      refine tr_rg hT [] [sB 4 true] hnil ?_
      refine q_k ?_
      refine tr_ret ?_
      refine q_k_ret ?_
      have h := Option.some.inj h
      subst h
      refine q_ls [sB 4 true] ?_
      exact q_ret1 hT (.v (.one (.bool true))) [] (by kernel_rfl) (by kernel_rfl) (by kernel_rfl)
    · refine tr_cond_f (decide ((↑(List.length rows_0) : Int) > (20 : Int))) (by kernel_rfl) hc5 ?_
      refine tr_skip ?_
      refine q_k ?_
      refine tr_seq ?_
      obtain ⟨⟨p6, r7, H8⟩, e9, h⟩ := bind_some h
      refine tr_rg hT [(0, .callA [] (.tup [.one (.slc 1), .one (.int .i64 r7)]) [(1, .apt 0 p6), (0, .arena true [] H8)])] [sO 0 (.slc 9000), sO 1 (.slc 9001), sO 5 (.slc 1), sI 6 .i64 r7, (.h 0, .e (.arena true [] H8)), (.h 1, .e (.apt 0 p6)), hW 9000 (.bs .u8 rows_0), hW 9001 (.gn 7 l_1)] (hone ((disk_New_ok (131072 : Int) (p6, r7, H8) e9).tr1 [(8901, .slc 0), (8900, .slc 1)] [] trivial)) ?_
      refine q_k ?_
      refine tr_seq ?_
      obtain ⟨⟨p10, r11, H12⟩, e13, h⟩ := bind_some h
      refine tr_rg hT [(0, .callA [] (.tup [.one (.slc 3), .one (.int .i64 r11)]) [(3, .apt 2 p10), (2, .arena true [] H12)])] [sO 0 (.slc 9000), sO 1 (.slc 9001), sO 5 (.slc 1), sI 6 .i64 r7, sO 7 (.slc 3), sI 8 .i64 r11, (.h 0, .e (.arena true [] H8)), (.h 1, .e (.apt 0 p6)), (.h 2, .e (.arena true [] H12)), (.h 3, .e (.apt 2 p10)), hW 9000 (.bs .u8 rows_0), hW 9001 (.gn 7 l_1)] (hone ((disk_New_ok (500 : Int) (p10, r11, H12) e13).tr1 [(8901, .slc 2), (8900, .slc 3)] [] trivial)) ?_
      refine q_k ?_
      refine tr_seq ?_
      refine tr_seq ?_
      rcases ite_split h with ⟨hb14, h⟩ | ⟨hb15, h⟩
      · refine tr_rg hT [(2, .dec true)] [sO 0 (.slc 9000), sO 1 (.slc 9001), sO 5 (.slc 1), sO 7 (.slc 3), sB 47 true, (.h 0, .e (.arena true [] H8)), (.h 1, .e (.apt 0 p6)), (.h 2, .e (.arena true [] H12)), (.h 3, .e (.apt 2 p10)), hW 9000 (.bs .u8 rows_0), hW 9001 (.gn 7 l_1)] (hone hb14) ?_
        refine q_k ?_
        refine tr_cond_t true (by kernel_rfl) rfl ?_
        refine tr_seq ?_
        refine tr_rg hT [] [sB 4 false] hnil ?_
        refine q_k ?_
        refine tr_ret ?_
        refine q_k_ret ?_
        have h := Option.some.inj h
        subst h
        refine q_ls [sB 4 false] ?_
        exact q_ret1 hT (.v (.one (.bool false))) [] (by kernel_rfl) (by kernel_rfl) (by kernel_rfl)
      · rcases ite_split h with ⟨hb16, h⟩ | ⟨hb17, h⟩
        · refine tr_rg hT [(2, .dec false), (6, .dec true)] [sO 0 (.slc 9000), sO 1 (.slc 9001), sO 5 (.slc 1), sO 7 (.slc 3), sB 47 true, (.h 0, .e (.arena true [] H8)), (.h 1, .e (.apt 0 p6)), (.h 2, .e (.arena true [] H12)), (.h 3, .e (.apt 2 p10)), hW 9000 (.bs .u8 rows_0), hW 9001 (.gn 7 l_1)] (hcons hb15 (hone hb16)) ?_
          refine q_k ?_
          refine tr_cond_t true (by kernel_rfl) rfl ?_
          refine tr_seq ?_
          refine tr_rg hT [] [sB 4 false] hnil ?_
          refine q_k ?_
          refine tr_ret ?_
          refine q_k_ret ?_
          have h := Option.some.inj h
          subst h
          refine q_ls [sB 4 false] ?_
          exact q_ret1 hT (.v (.one (.bool false))) [] (by kernel_rfl) (by kernel_rfl) (by kernel_rfl)
        · obtain ⟨hn18, h⟩ := ite_some h
          rcases ite_split h with ⟨hb19, h⟩ | ⟨hb20, h⟩
          · refine tr_rg hT [(2, .dec false), (6, .dec false), (8, .ar 0 []), (10, .dec true)] [sO 0 (.slc 9000), sO 1 (.slc 9001), sO 5 (.slc 1), sO 7 (.slc 3), sB 47 true, (.h 0, .e (.arena true [] H8)), (.h 1, .e (.apt 0 p6)), (.h 2, .e (.arena true [] H12)), (.h 3, .e (.apt 2 p10)), hW 9000 (.bs .u8 rows_0), hW 9001 (.gn 7 l_1)] (hcons hb15 (hcons hb17 (hcons hn18 (hone hb19)))) ?_
            refine q_k ?_
            refine tr_cond_t true (by kernel_rfl) rfl ?_
            refine tr_seq ?_
            refine tr_rg hT [] [sB 4 false] hnil ?_
            refine q_k ?_
            refine tr_ret ?_
            refine q_k_ret ?_
            have h := Option.some.inj h
            subst h
            refine q_ls [sB 4 false] ?_
            exact q_ret1 hT (.v (.one (.bool false))) [] (by kernel_rfl) (by kernel_rfl) (by kernel_rfl)
          · obtain ⟨hn21, h⟩ := ite_some h
            rcases ite_split h with ⟨hb22, h⟩ | ⟨hb23, h⟩
            · refine tr_rg hT [(2, .dec false), (6, .dec false), (8, .ar 0 []), (10, .dec false), (12, .ar 2 []), (14, .dec true)] [sO 0 (.slc 9000), sO 1 (.slc 9001), sO 5 (.slc 1), sO 7 (.slc 3), sB 47 true, (.h 0, .e (.arena true [] H8)), (.h 1, .e (.apt 0 p6)), (.h 2, .e (.arena true [] H12)), (.h 3, .e (.apt 2 p10)), hW 9000 (.bs .u8 rows_0), hW 9001 (.gn 7 l_1)] (hcons hb15 (hcons hb17 (hcons hn18 (hcons hb20 (hcons hn21 (hone hb22)))))) ?_
              refine q_k ?_
              refine tr_cond_t true (by kernel_rfl) rfl ?_
              refine tr_seq ?_
              refine tr_rg hT [] [sB 4 false] hnil ?_
              refine q_k ?_
              refine tr_ret ?_
              refine q_k_ret ?_
              have h := Option.some.inj h
              subst h
              refine q_ls [sB 4 false] ?_
              exact q_ret1 hT (.v (.one (.bool false))) [] (by kernel_rfl) (by kernel_rfl) (by kernel_rfl)
            · obtain ⟨⟨r24, H25⟩, e26, h⟩ := bind_some h
              refine tr_rg hT [(2, .dec false), (6, .dec false), (8, .ar 0 []), (10, .dec false), (12, .ar 2 []), (14, .dec false), (16, .callA [(0, .rw), (1, .apt 0)] (.v (.one (.int .i64 r24))) [(4, .arena true [0] H25), (0, .dead)])] [sO 0 (.slc 9000), sO 1 (.slc 9001), sO 5 (.slc 1), sO 7 (.slc 3), sB 47 (r24 != (0 : Int)), (.h 1, .e (.apt 0 p6)), (.h 2, .e (.arena true [] H12)), (.h 3, .e (.apt 2 p10)), (.h 4, .e (.arena true [0] H25)), hW 9000 (.bs .u8 rows_0), hW 9001 (.gn 7 l_1)] (hcons hb15 (hcons hb17 (hcons hn18 (hcons hb20 (hcons hn21 (hcons hb23 (hone ((disk_Disk_Create_ok H8 p6 (1 : Int) (r24, H25) e26).tr1 [(9001, .slc 1), (9000, .slc 0), (8900, .slc 4)] [(0, .arena true [] H8), (1, .apt 0 p6)] ⟨.arena' (bs := []), .apts' (κb := 0), trivial⟩)))))))) ?_
              refine q_k ?_
              rcases ite_split h with ⟨hc27, h⟩ | ⟨hc27, h⟩
              · refine tr_cond_t (r24 != (0 : Int)) (by kernel_rfl) hc27 ?_
                refine tr_seq ?_
                refine tr_rg hT [] [sB 4 false] hnil ?_
                refine q_k ?_
                refine tr_ret ?_
                refine q_k_ret ?_
                have h := Option.some.inj h
                subst h
                refine q_ls [sB 4 false] ?_
                exact q_ret1 hT (.v (.one (.bool false))) [] (by kernel_rfl) (by kernel_rfl) (by kernel_rfl)
              · refine tr_cond_f (r24 != (0 : Int)) (by kernel_rfl) hc27 ?_
                refine tr_skip ?_
                refine q_k ?_
                refine tr_seq ?_
                refine tr_rg hT [] [sO 0 (.slc 9000), sO 1 (.slc 9001), sO 5 (.slc 1), sO 7 (.slc 3), sO 9 (.nils), (.h 1, .e (.apt 0 p6)), (.h 2, .e (.arena true [] H12)), (.h 3, .e (.apt 2 p10)), (.h 4, .e (.arena true [0] H25)), hW 9000 (.bs .u8 rows_0), hW 9001 (.gn 7 l_1)] hnil ?_
                refine q_k ?_
                refine tr_seq ?_
                refine tr_seq ?_
                refine tr_rg hT [] [sO 0 (.slc 9000), sO 1 (.slc 9001), sO 5 (.slc 1), sO 7 (.slc 3), sO 9 (.nils), sI 10 .i64 (0 : Int), (.h 1, .e (.apt 0 p6)), (.h 2, .e (.arena true [] H12)), (.h 3, .e (.apt 2 p10)), (.h 4, .e (.arena true [0] H25)), hW 9000 (.bs .u8 rows_0), hW 9001 (.gn 7 l_1)] hnil ?_
                refine q_k ?_
                refine tr_block ?_
                obtain ⟨rr0, e41, h⟩ := bind_some h
                refine tr_ft [(5, .slc 4), (6, .nils)] [sO 0 (.slc 9000), sO 1 (.slc 9001), sO 5 (.slc 1), sO 7 (.slc 3), sO 9 (.slc 6), sI 10 .i64 (0 : Int), (.h 1, .e (.apt 5 p6)), (.h 2, .e (.arena true [] H12)), (.h 3, .e (.apt 2 p10)), (.h 5, .e (.arena true [] H25)), hO 6 5 .u8 [], hW 9000 (.bs .u8 rows_0), hW 9001 (.gn 7 l_1)] ⟨.apt' (κb := 0) (κ0 := 4) (rw := true) (bs := [0]) (D := H25), .arena' (bs := []), .apts' (κb := 2), .arena' (bs := [0]), .nilown, .rows', .rows', trivial⟩ ?_
                refine tr_loop_ret (id := 0) (α := AH × List Int × Int) (β := AH × List Int) (ρ := Bool) (fun z => [sO 0 (.slc 9000), sO 1 (.slc 9001), sO 5 (.slc 1), sO 7 (.slc 3), sO 9 (.slc 6), sI 10 .i64 z.2.2, (.h 1, .e (.apt 5 p6)), (.h 2, .e (.arena true [] H12)), (.h 3, .e (.apt 2 p10)), (.h 5, .e (.arena true [] z.1)), hO 6 5 .u8 z.2.1, hW 9000 (.bs .u8 rows_0), hW 9001 (.gn 7 l_1)]) (fun z => [sO 1 (.slc 9001), sO 5 (.slc 1), sO 7 (.slc 3), sO 9 (.slc 8), (.h 1, .e (.apt 7 p6)), (.h 2, .e (.arena true [] H12)), (.h 3, .e (.apt 2 p10)), (.h 7, .e (.arena true [] z.1)), hO 8 5 .u8 z.2, hW 9001 (.gn 7 l_1)]) (fun v σ => resS T (Gw.look σ) Try.f10.results.toList = some (.v (.one (.bool v))) ∧ Gw.hasAll σ [] = some (Gw.preSS [])) (fun k z => law14_DiskTwo_l0 rows_0 l_1 p6 p10 H12 k z.1 z.2.1 z.2.2) rr0 (fun _ => rfl) (((↑(List.length rows_0) : Int) - (0 : Int)).toNat + 1) (H25, [], (0 : Int)) e41 ?_ ?_ ?_
                · intro z hz
                  subst hz
                  rcases z with ⟨H31, all32⟩
                  replace h : ((law14_DiskTwo_l1 l_1 p6 p10 H31 all32 (((↑(List.length l_1) : Int) - (0 : Int)).toNat + 1) H12 (0 : Int)).bind (fun _ => (disk_Disk_Read H31 p6 (1 : Int)).bind (fun (a78, r79) => if (r79 == (0 : Int)) = true then (keep_Bytes a78 all32).bind (fun b82 => if b82 = true then (disk_Disk_Files H31 p6).bind (fun a85 => (keep_Ints a85 [(1 : Int)]).bind (fun b87 => if b87 = true then (disk_Disk_Off H31 p6).bind (fun b90 => if (!b90) = true then (disk_Disk_Life H31 p6).bind (fun r93 => if (r93 == (0 : Int)) = true then (law14_wakes).bind (fun b96 => some b96) else some false) else some false) else some false)) else some false) else some false))) = _ := h
                  refine q_b_this ?_
                  refine q_k ?_
                  refine tr_seq ?_
                  refine tr_seq ?_
                  refine tr_rg hT [] [sO 1 (.slc 9001), sO 5 (.slc 1), sO 7 (.slc 3), sO 9 (.slc 8), sI 11 .i64 (0 : Int), (.h 1, .e (.apt 7 p6)), (.h 2, .e (.arena true [] H12)), (.h 3, .e (.apt 2 p10)), (.h 7, .e (.arena true [] H31)), hO 8 5 .u8 all32, hW 9001 (.gn 7 l_1)] hnil ?_
                  refine q_k ?_
                  refine tr_block ?_
                  obtain ⟨rr1, e77, h⟩ := bind_some h
                  refine tr_ft [(14, .slc 2)] [sO 1 (.slc 9001), sO 5 (.slc 1), sO 7 (.slc 3), sO 9 (.slc 8), sI 11 .i64 (0 : Int), (.h 1, .e (.apt 7 p6)), (.h 3, .e (.apt 14 p10)), (.h 7, .e (.arena true [] H31)), hO 8 5 .u8 all32, (.h 14, .e (.arena true [] H12)), hW 9001 (.gn 7 l_1)] ⟨.apts' (κb := 7), .apt' (κb := 2) (κ0 := 2) (rw := true) (bs := []) (D := H12), .arena' (bs := []), .own', .arena' (bs := []), .rows', trivial⟩ ?_
                  refine tr_loop_fuel (id := 2) (α := AH × Int) (β := Unit) (fun z => [sO 1 (.slc 9001), sO 5 (.slc 1), sO 7 (.slc 3), sO 9 (.slc 8), sI 11 .i64 z.2, (.h 1, .e (.apt 7 p6)), (.h 3, .e (.apt 14 p10)), (.h 7, .e (.arena true [] H31)), hO 8 5 .u8 all32, (.h 14, .e (.arena true [] z.1)), hW 9001 (.gn 7 l_1)]) (fun z => [sO 5 (.slc 1), sO 9 (.slc 8), (.h 1, .e (.apt 7 p6)), (.h 7, .e (.arena true [] H31)), hO 8 5 .u8 all32]) (fun k z => law14_DiskTwo_l1 l_1 p6 p10 H31 all32 k z.1 z.2) rr1 (fun _ => rfl) (((↑(List.length l_1) : Int) - (0 : Int)).toNat + 1) (H12, (0 : Int)) e77 ?_ ?_
                  · rcases rr1 with _
                    replace h : ((disk_Disk_Read H31 p6 (1 : Int)).bind (fun (a78, r79) => if (r79 == (0 : Int)) = true then (keep_Bytes a78 all32).bind (fun b82 => if b82 = true then (disk_Disk_Files H31 p6).bind (fun a85 => (keep_Ints a85 [(1 : Int)]).bind (fun b87 => if b87 = true then (disk_Disk_Off H31 p6).bind (fun b90 => if (!b90) = true then (disk_Disk_Life H31 p6).bind (fun r93 => if (r93 == (0 : Int)) = true then (law14_wakes).bind (fun b96 => some b96) else some false) else some false) else some false)) else some false) else some false)) = _ := h
                    refine q_b_this ?_
                    refine q_k ?_
                    refine tr_seq ?_
                    obtain ⟨⟨a78, r79⟩, e80, h⟩ := bind_some h
                    refine tr_rg hT [(1, .callA [(7, .ro), (1, .apt 7)] (.tup [.one (.slc 26), .one (.int .i64 r79)]) [(26, .own 5 .u8 a78)])] [sO 5 (.slc 1), sI 6 .i64 r79, sO 9 (.slc 8), sO 13 (.slc 26), (.h 1, .e (.apt 7 p6)), (.h 7, .e (.arena true [] H31)), hO 8 5 .u8 all32, hO 26 5 .u8 a78] (hone ((disk_Disk_Read_ok H31 p6 (1 : Int) (a78, r79) e80).tr1 [(9001, .slc 1), (9000, .slc 7), (8900, .slc 26)] [(7, .arena false [] H31), (1, .apt 7 p6)] ⟨.arena' (bs := []), .apts' (κb := 7), trivial⟩)) ?_
                    refine q_k ?_
                    refine tr_seq ?_
                    rcases ite_split h with ⟨hb81, h⟩ | ⟨hb102, h⟩
                    · obtain ⟨b82, e83, h⟩ := bind_some h
                      rcases ite_split h with ⟨hb84, h⟩ | ⟨hb101, h⟩
                      · obtain ⟨a85, e86, h⟩ := bind_some h
                        obtain ⟨b87, e88, h⟩ := bind_some h
                        rcases ite_split h with ⟨hb89, h⟩ | ⟨hb100, h⟩
                        · obtain ⟨b90, e91, h⟩ := bind_some h
                          rcases ite_split h with ⟨hb92, h⟩ | ⟨hb99, h⟩
                          · obtain ⟨r93, e94, h⟩ := bind_some h
                            rcases ite_split h with ⟨hb95, h⟩ | ⟨hb98, h⟩
                            · obtain ⟨b96, e97, h⟩ := bind_some h
                              refine tr_rg hT [(2, .dec true), (5, .call [26, 8] (.v (.one (.bool b82))) []), (7, .dec true), (9, .callA [(7, .ro), (1, .apt 7)] (.v (.one (.slc 27))) [(27, .own 3 .i64 a85)]), (10, .key 28), (11, .call [27, 28] (.v (.one (.bool b87))) []), (13, .dec true), (15, .callA [(7, .ro), (1, .apt 7)] (.v (.one (.bool b90))) []), (18, .dec true), (20, .callA [(7, .ro), (1, .apt 7)] (.v (.one (.int .i64 r93))) []), (23, .dec true), (24, .call [] (.v (.one (.bool b96))) [])] [sB 4 b96] (hcons hb81 (hcons ((keep_Bytes_ok a78 all32 b82 e83).tr1 [(9000, .slc 26), (9001, .slc 8)] [(26, .own 5 .u8 a78), (8, .own 5 .u8 all32)] ⟨.ownrd' (e := 5), .ownrd' (e := 5), trivial⟩) (hcons hb84 (hcons ((disk_Disk_Files_ok H31 p6 a85 e86).tr1 [(9001, .slc 1), (9000, .slc 7), (8900, .slc 27)] [(7, .arena false [] H31), (1, .apt 7 p6)] ⟨.arena' (bs := []), .apts' (κb := 7), trivial⟩) (hcons ((keep_Ints_ok a85 [(1 : Int)] b87 e88).tr1 [(9000, .slc 27), (9001, .slc 28)] [(27, .own 3 .i64 a85), (28, .own 3 .i64 [(1 : Int)])] ⟨.ownrd' (e := 3), .ownrd' (e := 3), trivial⟩) (hcons hb89 (hcons ((disk_Disk_Off_ok H31 p6 b90 e91).tr1 [(9001, .slc 1), (9000, .slc 7)] [(7, .arena false [] H31), (1, .apt 7 p6)] ⟨.arena' (bs := []), .apts' (κb := 7), trivial⟩) (hcons hb92 (hcons ((disk_Disk_Life_ok H31 p6 r93 e94).tr1 [(9001, .slc 1), (9000, .slc 7)] [(7, .arena false [] H31), (1, .apt 7 p6)] ⟨.arena' (bs := []), .apts' (κb := 7), trivial⟩) (hcons hb95 (hone (law14_wakes_ok  b96 e97 (pre := []))))))))))))) ?_
                              refine q_k ?_
                              refine tr_ret ?_
                              have h := Option.some.inj h
                              subst h
                              refine q_ls [sB 4 b96] ?_
                              exact q_ret1 hT (.v (.one (.bool b96))) [] (by kernel_rfl) (by kernel_rfl) (by kernel_rfl)
                            · refine tr_rg hT [(2, .dec true), (5, .call [26, 8] (.v (.one (.bool b82))) []), (7, .dec true), (9, .callA [(7, .ro), (1, .apt 7)] (.v (.one (.slc 27))) [(27, .own 3 .i64 a85)]), (10, .key 28), (11, .call [27, 28] (.v (.one (.bool b87))) []), (13, .dec true), (15, .callA [(7, .ro), (1, .apt 7)] (.v (.one (.bool b90))) []), (18, .dec true), (20, .callA [(7, .ro), (1, .apt 7)] (.v (.one (.int .i64 r93))) []), (23, .dec false)] [sB 4 false] (hcons hb81 (hcons ((keep_Bytes_ok a78 all32 b82 e83).tr1 [(9000, .slc 26), (9001, .slc 8)] [(26, .own 5 .u8 a78), (8, .own 5 .u8 all32)] ⟨.ownrd' (e := 5), .ownrd' (e := 5), trivial⟩) (hcons hb84 (hcons ((disk_Disk_Files_ok H31 p6 a85 e86).tr1 [(9001, .slc 1), (9000, .slc 7), (8900, .slc 27)] [(7, .arena false [] H31), (1, .apt 7 p6)] ⟨.arena' (bs := []), .apts' (κb := 7), trivial⟩) (hcons ((keep_Ints_ok a85 [(1 : Int)] b87 e88).tr1 [(9000, .slc 27), (9001, .slc 28)] [(27, .own 3 .i64 a85), (28, .own 3 .i64 [(1 : Int)])] ⟨.ownrd' (e := 3), .ownrd' (e := 3), trivial⟩) (hcons hb89 (hcons ((disk_Disk_Off_ok H31 p6 b90 e91).tr1 [(9001, .slc 1), (9000, .slc 7)] [(7, .arena false [] H31), (1, .apt 7 p6)] ⟨.arena' (bs := []), .apts' (κb := 7), trivial⟩) (hcons hb92 (hcons ((disk_Disk_Life_ok H31 p6 r93 e94).tr1 [(9001, .slc 1), (9000, .slc 7)] [(7, .arena false [] H31), (1, .apt 7 p6)] ⟨.arena' (bs := []), .apts' (κb := 7), trivial⟩) (hone hb98)))))))))) ?_
                              refine q_k ?_
                              refine tr_ret ?_
                              have h := Option.some.inj h
                              subst h
                              refine q_ls [sB 4 false] ?_
                              exact q_ret1 hT (.v (.one (.bool false))) [] (by kernel_rfl) (by kernel_rfl) (by kernel_rfl)
                          · refine tr_rg hT [(2, .dec true), (5, .call [26, 8] (.v (.one (.bool b82))) []), (7, .dec true), (9, .callA [(7, .ro), (1, .apt 7)] (.v (.one (.slc 27))) [(27, .own 3 .i64 a85)]), (10, .key 28), (11, .call [27, 28] (.v (.one (.bool b87))) []), (13, .dec true), (15, .callA [(7, .ro), (1, .apt 7)] (.v (.one (.bool b90))) []), (18, .dec false)] [sB 4 false] (hcons hb81 (hcons ((keep_Bytes_ok a78 all32 b82 e83).tr1 [(9000, .slc 26), (9001, .slc 8)] [(26, .own 5 .u8 a78), (8, .own 5 .u8 all32)] ⟨.ownrd' (e := 5), .ownrd' (e := 5), trivial⟩) (hcons hb84 (hcons ((disk_Disk_Files_ok H31 p6 a85 e86).tr1 [(9001, .slc 1), (9000, .slc 7), (8900, .slc 27)] [(7, .arena false [] H31), (1, .apt 7 p6)] ⟨.arena' (bs := []), .apts' (κb := 7), trivial⟩) (hcons ((keep_Ints_ok a85 [(1 : Int)] b87 e88).tr1 [(9000, .slc 27), (9001, .slc 28)] [(27, .own 3 .i64 a85), (28, .own 3 .i64 [(1 : Int)])] ⟨.ownrd' (e := 3), .ownrd' (e := 3), trivial⟩) (hcons hb89 (hcons ((disk_Disk_Off_ok H31 p6 b90 e91).tr1 [(9001, .slc 1), (9000, .slc 7)] [(7, .arena false [] H31), (1, .apt 7 p6)] ⟨.arena' (bs := []), .apts' (κb := 7), trivial⟩) (hone hb99)))))))) ?_
                            refine q_k ?_
                            refine tr_ret ?_
                            have h := Option.some.inj h
                            subst h
                            refine q_ls [sB 4 false] ?_
                            exact q_ret1 hT (.v (.one (.bool false))) [] (by kernel_rfl) (by kernel_rfl) (by kernel_rfl)
                        · refine tr_rg hT [(2, .dec true), (5, .call [26, 8] (.v (.one (.bool b82))) []), (7, .dec true), (9, .callA [(7, .ro), (1, .apt 7)] (.v (.one (.slc 27))) [(27, .own 3 .i64 a85)]), (10, .key 28), (11, .call [27, 28] (.v (.one (.bool b87))) []), (13, .dec false)] [sB 4 false] (hcons hb81 (hcons ((keep_Bytes_ok a78 all32 b82 e83).tr1 [(9000, .slc 26), (9001, .slc 8)] [(26, .own 5 .u8 a78), (8, .own 5 .u8 all32)] ⟨.ownrd' (e := 5), .ownrd' (e := 5), trivial⟩) (hcons hb84 (hcons ((disk_Disk_Files_ok H31 p6 a85 e86).tr1 [(9001, .slc 1), (9000, .slc 7), (8900, .slc 27)] [(7, .arena false [] H31), (1, .apt 7 p6)] ⟨.arena' (bs := []), .apts' (κb := 7), trivial⟩) (hcons ((keep_Ints_ok a85 [(1 : Int)] b87 e88).tr1 [(9000, .slc 27), (9001, .slc 28)] [(27, .own 3 .i64 a85), (28, .own 3 .i64 [(1 : Int)])] ⟨.ownrd' (e := 3), .ownrd' (e := 3), trivial⟩) (hone hb100)))))) ?_
                          refine q_k ?_
                          refine tr_ret ?_
                          have h := Option.some.inj h
                          subst h
                          refine q_ls [sB 4 false] ?_
                          exact q_ret1 hT (.v (.one (.bool false))) [] (by kernel_rfl) (by kernel_rfl) (by kernel_rfl)
                      · refine tr_rg hT [(2, .dec true), (5, .call [26, 8] (.v (.one (.bool b82))) []), (7, .dec false)] [sB 4 false] (hcons hb81 (hcons ((keep_Bytes_ok a78 all32 b82 e83).tr1 [(9000, .slc 26), (9001, .slc 8)] [(26, .own 5 .u8 a78), (8, .own 5 .u8 all32)] ⟨.ownrd' (e := 5), .ownrd' (e := 5), trivial⟩) (hone hb101))) ?_
                        refine q_k ?_
                        refine tr_ret ?_
                        have h := Option.some.inj h
                        subst h
                        refine q_ls [sB 4 false] ?_
                        exact q_ret1 hT (.v (.one (.bool false))) [] (by kernel_rfl) (by kernel_rfl) (by kernel_rfl)
                    · refine tr_rg hT [(2, .dec false)] [sB 4 false] (hone hb102) ?_
                      refine q_k ?_
                      refine tr_ret ?_
                      have h := Option.some.inj h
                      subst h
                      refine q_ls [sB 4 false] ?_
                      exact q_ret1 hT (.v (.one (.bool false))) [] (by kernel_rfl) (by kernel_rfl) (by kernel_rfl)
                  · clear h e77
                    intro k ih1 hx1 z h
                    obtain ⟨H42, i43⟩ := z
                    replace h : (if (decide (i43 < (↑(List.length l_1) : Int))) = true then if (decide (i43 < (50 : Int))) = true then if 0 ≤ i43 ∧ i43 < ↑(List.length l_1) then if gkAll l_1 i43.toNat 0 [.int .i64, .int .i64, .int .i64, .bs .u8 0, .bb 0, .int .i64, .int .i64] = true then if (((IntKind.u64.wrap (DL.num (dlAt l_1 i43.toNat 0))).tmod (9 : Int)) == (2 : Int)) = true then (disk_Disk_Create H42 p10 (DL.num (dlAt l_1 i43.toNat 1))).bind (fun (r49, H50) => law14_DiskTwo_l1 l_1 p6 p10 H31 all32 k H50 (IntKind.i64.wrap (i43 + (1 : Int)))) else if (((IntKind.u64.wrap (DL.num (dlAt l_1 i43.toNat 0))).tmod (9 : Int)) == (3 : Int)) = true then (disk_Disk_Sync H42 p10 (DL.num (dlAt l_1 i43.toNat 1))).bind (fun (r53, H54) => law14_DiskTwo_l1 l_1 p6 p10 H31 all32 k H54 (IntKind.i64.wrap (i43 + (1 : Int)))) else if (((IntKind.u64.wrap (DL.num (dlAt l_1 i43.toNat 0))).tmod (9 : Int)) == (4 : Int)) = true then (disk_Disk_Cut H42 p10 (DL.num (dlAt l_1 i43.toNat 1)) (DL.num (dlAt l_1 i43.toNat 2))).bind (fun (r57, H58) => law14_DiskTwo_l1 l_1 p6 p10 H31 all32 k H58 (IntKind.i64.wrap (i43 + (1 : Int)))) else if (((IntKind.u64.wrap (DL.num (dlAt l_1 i43.toNat 0))).tmod (9 : Int)) == (5 : Int)) = true then (disk_Disk_Remove H42 p10 (DL.num (dlAt l_1 i43.toNat 1))).bind (fun (r61, H62) => law14_DiskTwo_l1 l_1 p6 p10 H31 all32 k H62 (IntKind.i64.wrap (i43 + (1 : Int)))) else if (((IntKind.u64.wrap (DL.num (dlAt l_1 i43.toNat 0))).tmod (9 : Int)) == (6 : Int)) = true then (disk_Disk_Crash H42 p10 (DL.boolL (dlAt l_1 i43.toNat 4)) (DL.num (dlAt l_1 i43.toNat 5)) (DL.num (dlAt l_1 i43.toNat 6))).bind (fun H65 => law14_DiskTwo_l1 l_1 p6 p10 H31 all32 k H65 (IntKind.i64.wrap (i43 + (1 : Int)))) else if (((IntKind.u64.wrap (DL.num (dlAt l_1 i43.toNat 0))).tmod (9 : Int)) == (7 : Int)) = true then (disk_Disk_Start H42 p10).bind (fun H68 => law14_DiskTwo_l1 l_1 p6 p10 H31 all32 k H68 (IntKind.i64.wrap (i43 + (1 : Int)))) else if (((IntKind.u64.wrap (DL.num (dlAt l_1 i43.toNat 0))).tmod (9 : Int)) == (8 : Int)) = true then (disk_Disk_Trip H42 p10 (DL.num (dlAt l_1 i43.toNat 2)) (DL.boolL (dlAt l_1 i43.toNat 4)) (DL.num (dlAt l_1 i43.toNat 5)) (DL.num (dlAt l_1 i43.toNat 6))).bind (fun H71 => law14_DiskTwo_l1 l_1 p6 p10 H31 all32 k H71 (IntKind.i64.wrap (i43 + (1 : Int)))) else (disk_Disk_Append H42 p10 (DL.num (dlAt l_1 i43.toNat 1)) (DL.ints (dlAt l_1 i43.toNat 3))).bind (fun (r73, H74) => law14_DiskTwo_l1 l_1 p6 p10 H31 all32 k H74 (IntKind.i64.wrap (i43 + (1 : Int)))) else none else none else some () else some ()) = _ := h
                    refine tr_seq ?_
                    refine tr_seq ?_
                    rcases ite_split h with ⟨hb44, h⟩ | ⟨hb76, h⟩
                    · refine tr_rg hT [(4, .dec true)] [sO 1 (.slc 9001), sO 5 (.slc 1), sO 7 (.slc 3), sO 9 (.slc 8), sI 11 .i64 i43, sB 80 (decide (i43 < (50 : Int))), (.h 1, .e (.apt 7 p6)), (.h 3, .e (.apt 14 p10)), (.h 7, .e (.arena true [] H31)), hO 8 5 .u8 all32, (.h 14, .e (.arena true [] H42)), hW 9001 (.gn 7 l_1)] (hone hb44) ?_
                      refine q_k ?_
                      rcases ite_split h with ⟨hc45, h⟩ | ⟨hc45, h⟩
                      · refine tr_cond_t (decide (i43 < (50 : Int))) (by kernel_rfl) hc45 ?_
                        refine tr_skip ?_
                        refine q_k ?_
                        refine tr_seq ?_
                        refine tr_block ?_
                        refine tr_seq ?_
                        obtain ⟨hn46, h⟩ := ite_some h
                        obtain ⟨hn47, h⟩ := ite_some h
                        refine tr_rg hT [(3, .gk [.int .i64, .int .i64, .int .i64, .bs .u8 15, .bb 16, .int .i64, .int .i64]), (4, .key 17)] [sO 1 (.slc 9001), sO 5 (.slc 1), sO 7 (.slc 3), sO 9 (.slc 8), sI 11 .i64 i43, sO 12 (.ptr 17 0), (.h 1, .e (.apt 7 p6)), (.h 3, .e (.apt 14 p10)), (.h 7, .e (.arena true [] H31)), hO 8 5 .u8 all32, (.h 14, .e (.arena true [] H42)), hR 15 .u8 (DL.ints (dlAt l_1 i43.toNat 3)), (.h 16, .e (.rdb (DL.boolL (dlAt l_1 i43.toNat 4)))), hB 17 56 [.int .i64 (DL.num (dlAt l_1 i43.toNat 0)), .int .i64 (DL.num (dlAt l_1 i43.toNat 1)), .int .i64 (DL.num (dlAt l_1 i43.toNat 2)), .slc 15, .slc 16, .int .i64 (DL.num (dlAt l_1 i43.toNat 5)), .int .i64 (DL.num (dlAt l_1 i43.toNat 6))], hW 9001 (.gn 7 l_1)] (hcons hn46 (hcons hn46.2 (hone hn47))) ?_
                        refine q_k ?_
                        refine tr_seq ?_
                        refine tr_rg hT [] [sO 1 (.slc 9001), sO 5 (.slc 1), sO 7 (.slc 3), sO 9 (.slc 8), sI 11 .i64 i43, sO 12 (.ptr 17 0), sI 90 .u64 ((IntKind.u64.wrap (DL.num (dlAt l_1 i43.toNat 0))).tmod (9 : Int)), (.h 1, .e (.apt 7 p6)), (.h 3, .e (.apt 14 p10)), (.h 7, .e (.arena true [] H31)), hO 8 5 .u8 all32, (.h 14, .e (.arena true [] H42)), hR 15 .u8 (DL.ints (dlAt l_1 i43.toNat 3)), (.h 16, .e (.rdb (DL.boolL (dlAt l_1 i43.toNat 4)))), hB 17 56 [.int .i64 (DL.num (dlAt l_1 i43.toNat 0)), .int .i64 (DL.num (dlAt l_1 i43.toNat 1)), .int .i64 (DL.num (dlAt l_1 i43.toNat 2)), .slc 15, .slc 16, .int .i64 (DL.num (dlAt l_1 i43.toNat 5)), .int .i64 (DL.num (dlAt l_1 i43.toNat 6))], hW 9001 (.gn 7 l_1)] (hone (show (9 : Int) ≠ 0 from by decide)) ?_
                        refine q_k ?_
                        refine tr_block ?_
                        refine tr_seq ?_
                        refine tr_rg hT [] [sO 1 (.slc 9001), sO 5 (.slc 1), sO 7 (.slc 3), sO 9 (.slc 8), sI 11 .i64 i43, sO 12 (.ptr 17 0), sI 90 .u64 ((IntKind.u64.wrap (DL.num (dlAt l_1 i43.toNat 0))).tmod (9 : Int)), sB 97 (((IntKind.u64.wrap (DL.num (dlAt l_1 i43.toNat 0))).tmod (9 : Int)) == (2 : Int)), (.h 1, .e (.apt 7 p6)), (.h 3, .e (.apt 14 p10)), (.h 7, .e (.arena true [] H31)), hO 8 5 .u8 all32, (.h 14, .e (.arena true [] H42)), hR 15 .u8 (DL.ints (dlAt l_1 i43.toNat 3)), (.h 16, .e (.rdb (DL.boolL (dlAt l_1 i43.toNat 4)))), hB 17 56 [.int .i64 (DL.num (dlAt l_1 i43.toNat 0)), .int .i64 (DL.num (dlAt l_1 i43.toNat 1)), .int .i64 (DL.num (dlAt l_1 i43.toNat 2)), .slc 15, .slc 16, .int .i64 (DL.num (dlAt l_1 i43.toNat 5)), .int .i64 (DL.num (dlAt l_1 i43.toNat 6))], hW 9001 (.gn 7 l_1)] hnil ?_
                        refine q_k ?_
                        rcases ite_split h with ⟨hc48, h⟩ | ⟨hc48, h⟩
                        · refine tr_cond_t (((IntKind.u64.wrap (DL.num (dlAt l_1 i43.toNat 0))).tmod (9 : Int)) == (2 : Int)) (by kernel_rfl) hc48 ?_
                          obtain ⟨⟨r49, H50⟩, e51, h⟩ := bind_some h
                          refine tr_rg hT [(3, .callA [(14, .rw), (3, .apt 14)] (.v (.one (.int .i64 r49))) [(18, .arena true [14] H50), (14, .dead)])] [sO 1 (.slc 9001), sO 5 (.slc 1), sO 7 (.slc 3), sO 9 (.slc 8), sI 11 .i64 i43, (.h 1, .e (.apt 7 p6)), (.h 3, .e (.apt 14 p10)), (.h 7, .e (.arena true [] H31)), hO 8 5 .u8 all32, (.h 18, .e (.arena true [14] H50)), hW 9001 (.gn 7 l_1)] (hone ((disk_Disk_Create_ok H42 p10 (DL.num (dlAt l_1 i43.toNat 1)) (r49, H50) e51).tr1 [(9001, .slc 3), (9000, .slc 14), (8900, .slc 18)] [(14, .arena true [] H42), (3, .apt 14 p10)] ⟨.arena' (bs := []), .apts' (κb := 14), trivial⟩)) ?_
                          refine q_b 4 ?_
                          refine q_b 3 ?_
                          refine q_k ?_
                          refine tr_rg hT [] [sO 1 (.slc 9001), sO 5 (.slc 1), sO 7 (.slc 3), sO 9 (.slc 8), sI 11 .i64 (IntKind.i64.wrap (i43 + (1 : Int))), (.h 1, .e (.apt 7 p6)), (.h 3, .e (.apt 14 p10)), (.h 7, .e (.arena true [] H31)), hO 8 5 .u8 all32, (.h 18, .e (.arena true [14] H50)), hW 9001 (.gn 7 l_1)] hnil ?_
                          refine q_kr ?_
                          exact trR_ft [(14, .slc 18)] [sO 1 (.slc 9001), sO 5 (.slc 1), sO 7 (.slc 3), sO 9 (.slc 8), sI 11 .i64 (IntKind.i64.wrap (i43 + (1 : Int))), (.h 1, .e (.apt 7 p6)), (.h 3, .e (.apt 14 p10)), (.h 7, .e (.arena true [] H31)), hO 8 5 .u8 all32, (.h 14, .e (.arena true [] H50)), hW 9001 (.gn 7 l_1)] ⟨.apts' (κb := 7), .apt' (κb := 14) (κ0 := 18) (rw := true) (bs := [14]) (D := H50), .arena' (bs := []), .own', .arena' (bs := [14]), .rows', trivial⟩ (ih1 (H50, (IntKind.i64.wrap (i43 + (1 : Int)))) h)
                        · refine tr_cond_f (((IntKind.u64.wrap (DL.num (dlAt l_1 i43.toNat 0))).tmod (9 : Int)) == (2 : Int)) (by kernel_rfl) hc48 ?_
                          refine tr_seq ?_
                          refine tr_rg hT [] [sO 1 (.slc 9001), sO 5 (.slc 1), sO 7 (.slc 3), sO 9 (.slc 8), sI 11 .i64 i43, sO 12 (.ptr 17 0), sI 90 .u64 ((IntKind.u64.wrap (DL.num (dlAt l_1 i43.toNat 0))).tmod (9 : Int)), sB 103 (((IntKind.u64.wrap (DL.num (dlAt l_1 i43.toNat 0))).tmod (9 : Int)) == (3 : Int)), (.h 1, .e (.apt 7 p6)), (.h 3, .e (.apt 14 p10)), (.h 7, .e (.arena true [] H31)), hO 8 5 .u8 all32, (.h 14, .e (.arena true [] H42)), hR 15 .u8 (DL.ints (dlAt l_1 i43.toNat 3)), (.h 16, .e (.rdb (DL.boolL (dlAt l_1 i43.toNat 4)))), hB 17 56 [.int .i64 (DL.num (dlAt l_1 i43.toNat 0)), .int .i64 (DL.num (dlAt l_1 i43.toNat 1)), .int .i64 (DL.num (dlAt l_1 i43.toNat 2)), .slc 15, .slc 16, .int .i64 (DL.num (dlAt l_1 i43.toNat 5)), .int .i64 (DL.num (dlAt l_1 i43.toNat 6))], hW 9001 (.gn 7 l_1)] hnil ?_
                          refine q_k ?_
                          rcases ite_split h with ⟨hc52, h⟩ | ⟨hc52, h⟩
                          · refine tr_cond_t (((IntKind.u64.wrap (DL.num (dlAt l_1 i43.toNat 0))).tmod (9 : Int)) == (3 : Int)) (by kernel_rfl) hc52 ?_
                            obtain ⟨⟨r53, H54⟩, e55, h⟩ := bind_some h
                            refine tr_rg hT [(3, .callA [(14, .rw), (3, .apt 14)] (.v (.one (.int .i64 r53))) [(19, .arena true [14] H54), (14, .dead)])] [sO 1 (.slc 9001), sO 5 (.slc 1), sO 7 (.slc 3), sO 9 (.slc 8), sI 11 .i64 i43, (.h 1, .e (.apt 7 p6)), (.h 3, .e (.apt 14 p10)), (.h 7, .e (.arena true [] H31)), hO 8 5 .u8 all32, (.h 19, .e (.arena true [14] H54)), hW 9001 (.gn 7 l_1)] (hone ((disk_Disk_Sync_ok H42 p10 (DL.num (dlAt l_1 i43.toNat 1)) (r53, H54) e55).tr1 [(9001, .slc 3), (9000, .slc 14), (8900, .slc 19)] [(14, .arena true [] H42), (3, .apt 14 p10)] ⟨.arena' (bs := []), .apts' (κb := 14), trivial⟩)) ?_
                            refine q_b 4 ?_
                            refine q_b 3 ?_
                            refine q_k ?_
                            refine tr_rg hT [] [sO 1 (.slc 9001), sO 5 (.slc 1), sO 7 (.slc 3), sO 9 (.slc 8), sI 11 .i64 (IntKind.i64.wrap (i43 + (1 : Int))), (.h 1, .e (.apt 7 p6)), (.h 3, .e (.apt 14 p10)), (.h 7, .e (.arena true [] H31)), hO 8 5 .u8 all32, (.h 19, .e (.arena true [14] H54)), hW 9001 (.gn 7 l_1)] hnil ?_
                            refine q_kr ?_
                            exact trR_ft [(14, .slc 19)] [sO 1 (.slc 9001), sO 5 (.slc 1), sO 7 (.slc 3), sO 9 (.slc 8), sI 11 .i64 (IntKind.i64.wrap (i43 + (1 : Int))), (.h 1, .e (.apt 7 p6)), (.h 3, .e (.apt 14 p10)), (.h 7, .e (.arena true [] H31)), hO 8 5 .u8 all32, (.h 14, .e (.arena true [] H54)), hW 9001 (.gn 7 l_1)] ⟨.apts' (κb := 7), .apt' (κb := 14) (κ0 := 19) (rw := true) (bs := [14]) (D := H54), .arena' (bs := []), .own', .arena' (bs := [14]), .rows', trivial⟩ (ih1 (H54, (IntKind.i64.wrap (i43 + (1 : Int)))) h)
                          · refine tr_cond_f (((IntKind.u64.wrap (DL.num (dlAt l_1 i43.toNat 0))).tmod (9 : Int)) == (3 : Int)) (by kernel_rfl) hc52 ?_
                            refine tr_seq ?_
                            refine tr_rg hT [] [sO 1 (.slc 9001), sO 5 (.slc 1), sO 7 (.slc 3), sO 9 (.slc 8), sI 11 .i64 i43, sO 12 (.ptr 17 0), sI 90 .u64 ((IntKind.u64.wrap (DL.num (dlAt l_1 i43.toNat 0))).tmod (9 : Int)), sB 109 (((IntKind.u64.wrap (DL.num (dlAt l_1 i43.toNat 0))).tmod (9 : Int)) == (4 : Int)), (.h 1, .e (.apt 7 p6)), (.h 3, .e (.apt 14 p10)), (.h 7, .e (.arena true [] H31)), hO 8 5 .u8 all32, (.h 14, .e (.arena true [] H42)), hR 15 .u8 (DL.ints (dlAt l_1 i43.toNat 3)), (.h 16, .e (.rdb (DL.boolL (dlAt l_1 i43.toNat 4)))), hB 17 56 [.int .i64 (DL.num (dlAt l_1 i43.toNat 0)), .int .i64 (DL.num (dlAt l_1 i43.toNat 1)), .int .i64 (DL.num (dlAt l_1 i43.toNat 2)), .slc 15, .slc 16, .int .i64 (DL.num (dlAt l_1 i43.toNat 5)), .int .i64 (DL.num (dlAt l_1 i43.toNat 6))], hW 9001 (.gn 7 l_1)] hnil ?_
                            refine q_k ?_
                            rcases ite_split h with ⟨hc56, h⟩ | ⟨hc56, h⟩
                            · refine tr_cond_t (((IntKind.u64.wrap (DL.num (dlAt l_1 i43.toNat 0))).tmod (9 : Int)) == (4 : Int)) (by kernel_rfl) hc56 ?_
                              obtain ⟨⟨r57, H58⟩, e59, h⟩ := bind_some h
                              refine tr_rg hT [(5, .callA [(14, .rw), (3, .apt 14)] (.v (.one (.int .i64 r57))) [(20, .arena true [14] H58), (14, .dead)])] [sO 1 (.slc 9001), sO 5 (.slc 1), sO 7 (.slc 3), sO 9 (.slc 8), sI 11 .i64 i43, (.h 1, .e (.apt 7 p6)), (.h 3, .e (.apt 14 p10)), (.h 7, .e (.arena true [] H31)), hO 8 5 .u8 all32, (.h 20, .e (.arena true [14] H58)), hW 9001 (.gn 7 l_1)] (hone ((disk_Disk_Cut_ok H42 p10 (DL.num (dlAt l_1 i43.toNat 1)) (DL.num (dlAt l_1 i43.toNat 2)) (r57, H58) e59).tr1 [(9001, .slc 3), (9000, .slc 14), (8900, .slc 20)] [(14, .arena true [] H42), (3, .apt 14 p10)] ⟨.arena' (bs := []), .apts' (κb := 14), trivial⟩)) ?_
                              refine q_b 4 ?_
                              refine q_b 3 ?_
                              refine q_k ?_
                              refine tr_rg hT [] [sO 1 (.slc 9001), sO 5 (.slc 1), sO 7 (.slc 3), sO 9 (.slc 8), sI 11 .i64 (IntKind.i64.wrap (i43 + (1 : Int))), (.h 1, .e (.apt 7 p6)), (.h 3, .e (.apt 14 p10)), (.h 7, .e (.arena true [] H31)), hO 8 5 .u8 all32, (.h 20, .e (.arena true [14] H58)), hW 9001 (.gn 7 l_1)] hnil ?_
                              refine q_kr ?_
                              exact trR_ft [(14, .slc 20)] [sO 1 (.slc 9001), sO 5 (.slc 1), sO 7 (.slc 3), sO 9 (.slc 8), sI 11 .i64 (IntKind.i64.wrap (i43 + (1 : Int))), (.h 1, .e (.apt 7 p6)), (.h 3, .e (.apt 14 p10)), (.h 7, .e (.arena true [] H31)), hO 8 5 .u8 all32, (.h 14, .e (.arena true [] H58)), hW 9001 (.gn 7 l_1)] ⟨.apts' (κb := 7), .apt' (κb := 14) (κ0 := 20) (rw := true) (bs := [14]) (D := H58), .arena' (bs := []), .own', .arena' (bs := [14]), .rows', trivial⟩ (ih1 (H58, (IntKind.i64.wrap (i43 + (1 : Int)))) h)
                            · refine tr_cond_f (((IntKind.u64.wrap (DL.num (dlAt l_1 i43.toNat 0))).tmod (9 : Int)) == (4 : Int)) (by kernel_rfl) hc56 ?_
                              refine tr_seq ?_
                              refine tr_rg hT [] [sO 1 (.slc 9001), sO 5 (.slc 1), sO 7 (.slc 3), sO 9 (.slc 8), sI 11 .i64 i43, sO 12 (.ptr 17 0), sI 90 .u64 ((IntKind.u64.wrap (DL.num (dlAt l_1 i43.toNat 0))).tmod (9 : Int)), sB 117 (((IntKind.u64.wrap (DL.num (dlAt l_1 i43.toNat 0))).tmod (9 : Int)) == (5 : Int)), (.h 1, .e (.apt 7 p6)), (.h 3, .e (.apt 14 p10)), (.h 7, .e (.arena true [] H31)), hO 8 5 .u8 all32, (.h 14, .e (.arena true [] H42)), hR 15 .u8 (DL.ints (dlAt l_1 i43.toNat 3)), (.h 16, .e (.rdb (DL.boolL (dlAt l_1 i43.toNat 4)))), hB 17 56 [.int .i64 (DL.num (dlAt l_1 i43.toNat 0)), .int .i64 (DL.num (dlAt l_1 i43.toNat 1)), .int .i64 (DL.num (dlAt l_1 i43.toNat 2)), .slc 15, .slc 16, .int .i64 (DL.num (dlAt l_1 i43.toNat 5)), .int .i64 (DL.num (dlAt l_1 i43.toNat 6))], hW 9001 (.gn 7 l_1)] hnil ?_
                              refine q_k ?_
                              rcases ite_split h with ⟨hc60, h⟩ | ⟨hc60, h⟩
                              · refine tr_cond_t (((IntKind.u64.wrap (DL.num (dlAt l_1 i43.toNat 0))).tmod (9 : Int)) == (5 : Int)) (by kernel_rfl) hc60 ?_
                                obtain ⟨⟨r61, H62⟩, e63, h⟩ := bind_some h
                                refine tr_rg hT [(3, .callA [(14, .rw), (3, .apt 14)] (.v (.one (.int .i64 r61))) [(21, .arena true [14] H62), (14, .dead)])] [sO 1 (.slc 9001), sO 5 (.slc 1), sO 7 (.slc 3), sO 9 (.slc 8), sI 11 .i64 i43, (.h 1, .e (.apt 7 p6)), (.h 3, .e (.apt 14 p10)), (.h 7, .e (.arena true [] H31)), hO 8 5 .u8 all32, (.h 21, .e (.arena true [14] H62)), hW 9001 (.gn 7 l_1)] (hone ((disk_Disk_Remove_ok H42 p10 (DL.num (dlAt l_1 i43.toNat 1)) (r61, H62) e63).tr1 [(9001, .slc 3), (9000, .slc 14), (8900, .slc 21)] [(14, .arena true [] H42), (3, .apt 14 p10)] ⟨.arena' (bs := []), .apts' (κb := 14), trivial⟩)) ?_
                                refine q_b 4 ?_
                                refine q_b 3 ?_
                                refine q_k ?_
                                refine tr_rg hT [] [sO 1 (.slc 9001), sO 5 (.slc 1), sO 7 (.slc 3), sO 9 (.slc 8), sI 11 .i64 (IntKind.i64.wrap (i43 + (1 : Int))), (.h 1, .e (.apt 7 p6)), (.h 3, .e (.apt 14 p10)), (.h 7, .e (.arena true [] H31)), hO 8 5 .u8 all32, (.h 21, .e (.arena true [14] H62)), hW 9001 (.gn 7 l_1)] hnil ?_
                                refine q_kr ?_
                                exact trR_ft [(14, .slc 21)] [sO 1 (.slc 9001), sO 5 (.slc 1), sO 7 (.slc 3), sO 9 (.slc 8), sI 11 .i64 (IntKind.i64.wrap (i43 + (1 : Int))), (.h 1, .e (.apt 7 p6)), (.h 3, .e (.apt 14 p10)), (.h 7, .e (.arena true [] H31)), hO 8 5 .u8 all32, (.h 14, .e (.arena true [] H62)), hW 9001 (.gn 7 l_1)] ⟨.apts' (κb := 7), .apt' (κb := 14) (κ0 := 21) (rw := true) (bs := [14]) (D := H62), .arena' (bs := []), .own', .arena' (bs := [14]), .rows', trivial⟩ (ih1 (H62, (IntKind.i64.wrap (i43 + (1 : Int)))) h)
                              · refine tr_cond_f (((IntKind.u64.wrap (DL.num (dlAt l_1 i43.toNat 0))).tmod (9 : Int)) == (5 : Int)) (by kernel_rfl) hc60 ?_
                                refine tr_seq ?_
                                refine tr_rg hT [] [sO 1 (.slc 9001), sO 5 (.slc 1), sO 7 (.slc 3), sO 9 (.slc 8), sI 11 .i64 i43, sO 12 (.ptr 17 0), sI 90 .u64 ((IntKind.u64.wrap (DL.num (dlAt l_1 i43.toNat 0))).tmod (9 : Int)), sB 123 (((IntKind.u64.wrap (DL.num (dlAt l_1 i43.toNat 0))).tmod (9 : Int)) == (6 : Int)), (.h 1, .e (.apt 7 p6)), (.h 3, .e (.apt 14 p10)), (.h 7, .e (.arena true [] H31)), hO 8 5 .u8 all32, (.h 14, .e (.arena true [] H42)), hR 15 .u8 (DL.ints (dlAt l_1 i43.toNat 3)), (.h 16, .e (.rdb (DL.boolL (dlAt l_1 i43.toNat 4)))), hB 17 56 [.int .i64 (DL.num (dlAt l_1 i43.toNat 0)), .int .i64 (DL.num (dlAt l_1 i43.toNat 1)), .int .i64 (DL.num (dlAt l_1 i43.toNat 2)), .slc 15, .slc 16, .int .i64 (DL.num (dlAt l_1 i43.toNat 5)), .int .i64 (DL.num (dlAt l_1 i43.toNat 6))], hW 9001 (.gn 7 l_1)] hnil ?_
                                refine q_k ?_
                                rcases ite_split h with ⟨hc64, h⟩ | ⟨hc64, h⟩
                                · refine tr_cond_t (((IntKind.u64.wrap (DL.num (dlAt l_1 i43.toNat 0))).tmod (9 : Int)) == (6 : Int)) (by kernel_rfl) hc64 ?_
                                  obtain ⟨H65, e66, h⟩ := bind_some h
                                  refine tr_rg hT [(7, .callA [(14, .rw), (3, .apt 14), (16, .same)] (.tup []) [(22, .arena true [14] H65), (14, .dead)])] [sO 1 (.slc 9001), sO 5 (.slc 1), sO 7 (.slc 3), sO 9 (.slc 8), sI 11 .i64 i43, (.h 1, .e (.apt 7 p6)), (.h 3, .e (.apt 14 p10)), (.h 7, .e (.arena true [] H31)), hO 8 5 .u8 all32, (.h 22, .e (.arena true [14] H65)), hW 9001 (.gn 7 l_1)] (hone ((disk_Disk_Crash_ok H42 p10 (DL.boolL (dlAt l_1 i43.toNat 4)) (DL.num (dlAt l_1 i43.toNat 5)) (DL.num (dlAt l_1 i43.toNat 6)) H65 e66).tr1 [(9001, .slc 3), (9002, .slc 16), (9000, .slc 14), (8900, .slc 22)] [(14, .arena true [] H42), (3, .apt 14 p10), (16, .rdb (DL.boolL (dlAt l_1 i43.toNat 4)))] ⟨.arena' (bs := []), .apts' (κb := 14), .rdb', trivial⟩)) ?_
                                  refine q_b 4 ?_
                                  refine q_b 3 ?_
                                  refine q_k ?_
                                  refine tr_rg hT [] [sO 1 (.slc 9001), sO 5 (.slc 1), sO 7 (.slc 3), sO 9 (.slc 8), sI 11 .i64 (IntKind.i64.wrap (i43 + (1 : Int))), (.h 1, .e (.apt 7 p6)), (.h 3, .e (.apt 14 p10)), (.h 7, .e (.arena true [] H31)), hO 8 5 .u8 all32, (.h 22, .e (.arena true [14] H65)), hW 9001 (.gn 7 l_1)] hnil ?_
                                  refine q_kr ?_
                                  exact trR_ft [(14, .slc 22)] [sO 1 (.slc 9001), sO 5 (.slc 1), sO 7 (.slc 3), sO 9 (.slc 8), sI 11 .i64 (IntKind.i64.wrap (i43 + (1 : Int))), (.h 1, .e (.apt 7 p6)), (.h 3, .e (.apt 14 p10)), (.h 7, .e (.arena true [] H31)), hO 8 5 .u8 all32, (.h 14, .e (.arena true [] H65)), hW 9001 (.gn 7 l_1)] ⟨.apts' (κb := 7), .apt' (κb := 14) (κ0 := 22) (rw := true) (bs := [14]) (D := H65), .arena' (bs := []), .own', .arena' (bs := [14]), .rows', trivial⟩ (ih1 (H65, (IntKind.i64.wrap (i43 + (1 : Int)))) h)
                                · refine tr_cond_f (((IntKind.u64.wrap (DL.num (dlAt l_1 i43.toNat 0))).tmod (9 : Int)) == (6 : Int)) (by kernel_rfl) hc64 ?_
                                  refine tr_seq ?_
                                  refine tr_rg hT [] [sO 1 (.slc 9001), sO 5 (.slc 1), sO 7 (.slc 3), sO 9 (.slc 8), sI 11 .i64 i43, sO 12 (.ptr 17 0), sI 90 .u64 ((IntKind.u64.wrap (DL.num (dlAt l_1 i43.toNat 0))).tmod (9 : Int)), sB 133 (((IntKind.u64.wrap (DL.num (dlAt l_1 i43.toNat 0))).tmod (9 : Int)) == (7 : Int)), (.h 1, .e (.apt 7 p6)), (.h 3, .e (.apt 14 p10)), (.h 7, .e (.arena true [] H31)), hO 8 5 .u8 all32, (.h 14, .e (.arena true [] H42)), hR 15 .u8 (DL.ints (dlAt l_1 i43.toNat 3)), (.h 16, .e (.rdb (DL.boolL (dlAt l_1 i43.toNat 4)))), hB 17 56 [.int .i64 (DL.num (dlAt l_1 i43.toNat 0)), .int .i64 (DL.num (dlAt l_1 i43.toNat 1)), .int .i64 (DL.num (dlAt l_1 i43.toNat 2)), .slc 15, .slc 16, .int .i64 (DL.num (dlAt l_1 i43.toNat 5)), .int .i64 (DL.num (dlAt l_1 i43.toNat 6))], hW 9001 (.gn 7 l_1)] hnil ?_
                                  refine q_k ?_
                                  rcases ite_split h with ⟨hc67, h⟩ | ⟨hc67, h⟩
                                  · refine tr_cond_t (((IntKind.u64.wrap (DL.num (dlAt l_1 i43.toNat 0))).tmod (9 : Int)) == (7 : Int)) (by kernel_rfl) hc67 ?_
                                    obtain ⟨H68, e69, h⟩ := bind_some h
                                    refine tr_rg hT [(1, .callA [(14, .rw), (3, .apt 14)] (.tup []) [(23, .arena true [14] H68), (14, .dead)])] [sO 1 (.slc 9001), sO 5 (.slc 1), sO 7 (.slc 3), sO 9 (.slc 8), sI 11 .i64 i43, (.h 1, .e (.apt 7 p6)), (.h 3, .e (.apt 14 p10)), (.h 7, .e (.arena true [] H31)), hO 8 5 .u8 all32, (.h 23, .e (.arena true [14] H68)), hW 9001 (.gn 7 l_1)] (hone ((disk_Disk_Start_ok H42 p10 H68 e69).tr1 [(9001, .slc 3), (9000, .slc 14), (8900, .slc 23)] [(14, .arena true [] H42), (3, .apt 14 p10)] ⟨.arena' (bs := []), .apts' (κb := 14), trivial⟩)) ?_
                                    refine q_b 4 ?_
                                    refine q_b 3 ?_
                                    refine q_k ?_
                                    refine tr_rg hT [] [sO 1 (.slc 9001), sO 5 (.slc 1), sO 7 (.slc 3), sO 9 (.slc 8), sI 11 .i64 (IntKind.i64.wrap (i43 + (1 : Int))), (.h 1, .e (.apt 7 p6)), (.h 3, .e (.apt 14 p10)), (.h 7, .e (.arena true [] H31)), hO 8 5 .u8 all32, (.h 23, .e (.arena true [14] H68)), hW 9001 (.gn 7 l_1)] hnil ?_
                                    refine q_kr ?_
                                    exact trR_ft [(14, .slc 23)] [sO 1 (.slc 9001), sO 5 (.slc 1), sO 7 (.slc 3), sO 9 (.slc 8), sI 11 .i64 (IntKind.i64.wrap (i43 + (1 : Int))), (.h 1, .e (.apt 7 p6)), (.h 3, .e (.apt 14 p10)), (.h 7, .e (.arena true [] H31)), hO 8 5 .u8 all32, (.h 14, .e (.arena true [] H68)), hW 9001 (.gn 7 l_1)] ⟨.apts' (κb := 7), .apt' (κb := 14) (κ0 := 23) (rw := true) (bs := [14]) (D := H68), .arena' (bs := []), .own', .arena' (bs := [14]), .rows', trivial⟩ (ih1 (H68, (IntKind.i64.wrap (i43 + (1 : Int)))) h)
                                  · refine tr_cond_f (((IntKind.u64.wrap (DL.num (dlAt l_1 i43.toNat 0))).tmod (9 : Int)) == (7 : Int)) (by kernel_rfl) hc67 ?_
                                    refine tr_seq ?_
                                    refine tr_rg hT [] [sO 1 (.slc 9001), sO 5 (.slc 1), sO 7 (.slc 3), sO 9 (.slc 8), sI 11 .i64 i43, sO 12 (.ptr 17 0), sB 137 (((IntKind.u64.wrap (DL.num (dlAt l_1 i43.toNat 0))).tmod (9 : Int)) == (8 : Int)), (.h 1, .e (.apt 7 p6)), (.h 3, .e (.apt 14 p10)), (.h 7, .e (.arena true [] H31)), hO 8 5 .u8 all32, (.h 14, .e (.arena true [] H42)), hR 15 .u8 (DL.ints (dlAt l_1 i43.toNat 3)), (.h 16, .e (.rdb (DL.boolL (dlAt l_1 i43.toNat 4)))), hB 17 56 [.int .i64 (DL.num (dlAt l_1 i43.toNat 0)), .int .i64 (DL.num (dlAt l_1 i43.toNat 1)), .int .i64 (DL.num (dlAt l_1 i43.toNat 2)), .slc 15, .slc 16, .int .i64 (DL.num (dlAt l_1 i43.toNat 5)), .int .i64 (DL.num (dlAt l_1 i43.toNat 6))], hW 9001 (.gn 7 l_1)] hnil ?_
                                    refine q_k ?_
                                    rcases ite_split h with ⟨hc70, h⟩ | ⟨hc70, h⟩
                                    · refine tr_cond_t (((IntKind.u64.wrap (DL.num (dlAt l_1 i43.toNat 0))).tmod (9 : Int)) == (8 : Int)) (by kernel_rfl) hc70 ?_
                                      obtain ⟨H71, e72, h⟩ := bind_some h
                                      refine tr_rg hT [(9, .callA [(14, .rw), (3, .apt 14), (16, .same)] (.tup []) [(24, .arena true [14] H71), (14, .dead)])] [sO 1 (.slc 9001), sO 5 (.slc 1), sO 7 (.slc 3), sO 9 (.slc 8), sI 11 .i64 i43, (.h 1, .e (.apt 7 p6)), (.h 3, .e (.apt 14 p10)), (.h 7, .e (.arena true [] H31)), hO 8 5 .u8 all32, (.h 24, .e (.arena true [14] H71)), hW 9001 (.gn 7 l_1)] (hone ((disk_Disk_Trip_ok H42 p10 (DL.num (dlAt l_1 i43.toNat 2)) (DL.boolL (dlAt l_1 i43.toNat 4)) (DL.num (dlAt l_1 i43.toNat 5)) (DL.num (dlAt l_1 i43.toNat 6)) H71 e72).tr1 [(9001, .slc 3), (9002, .slc 16), (9000, .slc 14), (8900, .slc 24)] [(14, .arena true [] H42), (3, .apt 14 p10), (16, .rdb (DL.boolL (dlAt l_1 i43.toNat 4)))] ⟨.arena' (bs := []), .apts' (κb := 14), .rdb', trivial⟩)) ?_
                                      refine q_b 4 ?_
                                      refine q_b 3 ?_
                                      refine q_k ?_
                                      refine tr_rg hT [] [sO 1 (.slc 9001), sO 5 (.slc 1), sO 7 (.slc 3), sO 9 (.slc 8), sI 11 .i64 (IntKind.i64.wrap (i43 + (1 : Int))), (.h 1, .e (.apt 7 p6)), (.h 3, .e (.apt 14 p10)), (.h 7, .e (.arena true [] H31)), hO 8 5 .u8 all32, (.h 24, .e (.arena true [14] H71)), hW 9001 (.gn 7 l_1)] hnil ?_
                                      refine q_kr ?_
                                      exact trR_ft [(14, .slc 24)] [sO 1 (.slc 9001), sO 5 (.slc 1), sO 7 (.slc 3), sO 9 (.slc 8), sI 11 .i64 (IntKind.i64.wrap (i43 + (1 : Int))), (.h 1, .e (.apt 7 p6)), (.h 3, .e (.apt 14 p10)), (.h 7, .e (.arena true [] H31)), hO 8 5 .u8 all32, (.h 14, .e (.arena true [] H71)), hW 9001 (.gn 7 l_1)] ⟨.apts' (κb := 7), .apt' (κb := 14) (κ0 := 24) (rw := true) (bs := [14]) (D := H71), .arena' (bs := []), .own', .arena' (bs := [14]), .rows', trivial⟩ (ih1 (H71, (IntKind.i64.wrap (i43 + (1 : Int)))) h)
                                    · refine tr_cond_f (((IntKind.u64.wrap (DL.num (dlAt l_1 i43.toNat 0))).tmod (9 : Int)) == (8 : Int)) (by kernel_rfl) hc70 ?_
                                      obtain ⟨⟨r73, H74⟩, e75, h⟩ := bind_some h
                                      refine tr_rg hT [(5, .callA [(14, .rw), (3, .apt 14), (15, .same)] (.v (.one (.int .i64 r73))) [(25, .arena true [14] H74), (14, .dead)])] [sO 1 (.slc 9001), sO 5 (.slc 1), sO 7 (.slc 3), sO 9 (.slc 8), sI 11 .i64 i43, (.h 1, .e (.apt 7 p6)), (.h 3, .e (.apt 14 p10)), (.h 7, .e (.arena true [] H31)), hO 8 5 .u8 all32, (.h 25, .e (.arena true [14] H74)), hW 9001 (.gn 7 l_1)] (hone ((disk_Disk_Append_ok H42 p10 (DL.num (dlAt l_1 i43.toNat 1)) (DL.ints (dlAt l_1 i43.toNat 3)) (r73, H74) e75).tr1 [(9001, .slc 3), (9002, .slc 15), (9000, .slc 14), (8900, .slc 25)] [(14, .arena true [] H42), (3, .apt 14 p10), (15, .rd .u8 (DL.ints (dlAt l_1 i43.toNat 3)))] ⟨.arena' (bs := []), .apts' (κb := 14), .rd', trivial⟩)) ?_
                                      refine q_b 4 ?_
                                      refine q_b 3 ?_
                                      refine q_k ?_
                                      refine tr_rg hT [] [sO 1 (.slc 9001), sO 5 (.slc 1), sO 7 (.slc 3), sO 9 (.slc 8), sI 11 .i64 (IntKind.i64.wrap (i43 + (1 : Int))), (.h 1, .e (.apt 7 p6)), (.h 3, .e (.apt 14 p10)), (.h 7, .e (.arena true [] H31)), hO 8 5 .u8 all32, (.h 25, .e (.arena true [14] H74)), hW 9001 (.gn 7 l_1)] hnil ?_
                                      refine q_kr ?_
                                      exact trR_ft [(14, .slc 25)] [sO 1 (.slc 9001), sO 5 (.slc 1), sO 7 (.slc 3), sO 9 (.slc 8), sI 11 .i64 (IntKind.i64.wrap (i43 + (1 : Int))), (.h 1, .e (.apt 7 p6)), (.h 3, .e (.apt 14 p10)), (.h 7, .e (.arena true [] H31)), hO 8 5 .u8 all32, (.h 14, .e (.arena true [] H74)), hW 9001 (.gn 7 l_1)] ⟨.apts' (κb := 7), .apt' (κb := 14) (κ0 := 25) (rw := true) (bs := [14]) (D := H74), .arena' (bs := []), .own', .arena' (bs := [14]), .rows', trivial⟩ (ih1 (H74, (IntKind.i64.wrap (i43 + (1 : Int)))) h)
                      · refine tr_cond_f (decide (i43 < (50 : Int))) (by kernel_rfl) hc45 ?_
                        refine tr_exit ?_
                        refine q_k_exit ?_
                        refine q_kr_exit ?_
                        have h := Option.some.inj h
                        subst h
                        exact q_ls [sO 5 (.slc 1), sO 9 (.slc 8), (.h 1, .e (.apt 7 p6)), (.h 7, .e (.arena true [] H31)), hO 8 5 .u8 all32] hx1
                    · refine tr_rg hT [(4, .dec false)] [sO 1 (.slc 9001), sO 5 (.slc 1), sO 7 (.slc 3), sO 9 (.slc 8), sI 11 .i64 i43, sB 80 false, (.h 1, .e (.apt 7 p6)), (.h 3, .e (.apt 14 p10)), (.h 7, .e (.arena true [] H31)), hO 8 5 .u8 all32, (.h 14, .e (.arena true [] H42)), hW 9001 (.gn 7 l_1)] (hone hb76) ?_
                      refine q_k ?_
                      refine tr_cond_f false (by kernel_rfl) rfl ?_
                      refine tr_exit ?_
                      refine q_k_exit ?_
                      refine q_kr_exit ?_
                      have h := Option.some.inj h
                      subst h
                      exact q_ls [sO 5 (.slc 1), sO 9 (.slc 8), (.h 1, .e (.apt 7 p6)), (.h 7, .e (.arena true [] H31)), hO 8 5 .u8 all32] hx1
                · intro v σ hz hv
                  subst hz
                  have h := Option.some.inj h
                  subst h
                  refine q_b_ret ?_
                  refine q_k_ret ?_
                  exact q_ret1 hT _ _ hv.1 hv.2 (by kernel_rfl)
                · clear h e41
                  intro k ih0 hx0 hr0 z h
                  rcases z with ⟨H28, all29, i30⟩
                  replace h : (if (decide (i30 < (↑(List.length rows_0) : Int))) = true then if 0 ≤ i30 ∧ i30 < ↑(List.length rows_0) then if (decide ((↑(List.length (rows_0.getD i30.toNat [])) : Int) > (300 : Int))) = true then some (.inr true) else (disk_Disk_Append H28 p6 (1 : Int) (rows_0.getD i30.toNat [])).bind (fun (r36, H37) => if (r36 != (0 : Int)) = true then some (.inr false) else if List.length (all29 ++ (rows_0.getD i30.toNat [])) ≤ maxN then law14_DiskTwo_l0 rows_0 l_1 p6 p10 H12 k H37 (all29 ++ (rows_0.getD i30.toNat [])) (IntKind.i64.wrap (i30 + (1 : Int))) else none) else none else some (.inl (H28, all29))) = _ := h
                  refine tr_seq ?_
                  refine tr_seq ?_
                  refine tr_rg hT [] [sO 0 (.slc 9000), sO 1 (.slc 9001), sO 5 (.slc 1), sO 7 (.slc 3), sO 9 (.slc 6), sI 10 .i64 i30, sB 51 (decide (i30 < (↑(List.length rows_0) : Int))), (.h 1, .e (.apt 5 p6)), (.h 2, .e (.arena true [] H12)), (.h 3, .e (.apt 2 p10)), (.h 5, .e (.arena true [] H28)), hO 6 5 .u8 all29, hW 9000 (.bs .u8 rows_0), hW 9001 (.gn 7 l_1)] hnil ?_
                  refine q_k ?_
                  rcases ite_split h with ⟨hc33, h⟩ | ⟨hc33, h⟩
                  · refine tr_cond_t (decide (i30 < (↑(List.length rows_0) : Int))) (by kernel_rfl) hc33 ?_
                    refine tr_skip ?_
                    refine q_k ?_
                    refine tr_seq ?_
                    refine tr_block ?_
                    refine tr_seq ?_
                    refine tr_seq ?_
                    obtain ⟨hn34, h⟩ := ite_some h
                    refine tr_rg hT [(3, .key 9)] [sO 0 (.slc 9000), sO 1 (.slc 9001), sO 5 (.slc 1), sO 7 (.slc 3), sO 9 (.slc 6), sI 10 .i64 i30, sB 59 (decide ((↑(List.length (rows_0.getD i30.toNat [])) : Int) > (300 : Int))), (.h 1, .e (.apt 5 p6)), (.h 2, .e (.arena true [] H12)), (.h 3, .e (.apt 2 p10)), (.h 5, .e (.arena true [] H28)), hO 6 5 .u8 all29, hW 9000 (.bs .u8 rows_0), hW 9001 (.gn 7 l_1)] (hcons hn34 (hone hn34.2)) ?_
                    refine q_k ?_
                    rcases ite_split h with ⟨hc35, h⟩ | ⟨hc35, h⟩
                    · refine tr_cond_t (decide ((↑(List.length (rows_0.getD i30.toNat [])) : Int) > (300 : Int))) (by kernel_rfl) hc35 ?_
                      refine tr_seq ?_
                      refine tr_rg hT [] [sB 4 true] hnil ?_
                      refine q_k ?_
                      refine tr_ret ?_
                      refine q_k_ret ?_
                      refine q_b_ret ?_
                      refine q_k_ret ?_
                      refine q_kr_ret ?_
                      have h := Option.some.inj h
                      subst h
                      exact q_ls [sB 4 true] (hr0 true _ rfl ⟨by kernel_rfl, by kernel_rfl⟩)
                    · refine tr_cond_f (decide ((↑(List.length (rows_0.getD i30.toNat [])) : Int) > (300 : Int))) (by kernel_rfl) hc35 ?_
                      refine tr_skip ?_
                      refine q_k ?_
                      refine tr_seq ?_
                      refine tr_seq ?_
                      obtain ⟨⟨r36, H37⟩, e38, h⟩ := bind_some h
                      refine tr_rg hT [(4, .key 10), (5, .callA [(5, .rw), (1, .apt 5), (10, .same)] (.v (.one (.int .i64 r36))) [(11, .arena true [5] H37), (5, .dead)])] [sO 0 (.slc 9000), sO 1 (.slc 9001), sO 5 (.slc 1), sO 7 (.slc 3), sO 9 (.slc 6), sI 10 .i64 i30, sB 66 (r36 != (0 : Int)), (.h 1, .e (.apt 5 p6)), (.h 2, .e (.arena true [] H12)), (.h 3, .e (.apt 2 p10)), hO 6 5 .u8 all29, (.h 11, .e (.arena true [5] H37)), hW 9000 (.bs .u8 rows_0), hW 9001 (.gn 7 l_1)] (hcons hn34 (hcons hn34.2 (hone ((disk_Disk_Append_ok H28 p6 (1 : Int) (rows_0.getD i30.toNat []) (r36, H37) e38).tr1 [(9001, .slc 1), (9002, .slc 10), (9000, .slc 5), (8900, .slc 11)] [(5, .arena true [] H28), (1, .apt 5 p6), (10, .rd .u8 (rows_0.getD i30.toNat []))] ⟨.arena' (bs := []), .apts' (κb := 5), .rd', trivial⟩)))) ?_
                      refine q_k ?_
                      rcases ite_split h with ⟨hc39, h⟩ | ⟨hc39, h⟩
                      · refine tr_cond_t (r36 != (0 : Int)) (by kernel_rfl) hc39 ?_
                        refine tr_seq ?_
                        refine tr_rg hT [] [sB 4 false] hnil ?_
                        refine q_k ?_
                        refine tr_ret ?_
                        refine q_k_ret ?_
                        refine q_b_ret ?_
                        refine q_k_ret ?_
                        refine q_kr_ret ?_
                        have h := Option.some.inj h
                        subst h
                        exact q_ls [sB 4 false] (hr0 false _ rfl ⟨by kernel_rfl, by kernel_rfl⟩)
                      · refine tr_cond_f (r36 != (0 : Int)) (by kernel_rfl) hc39 ?_
                        refine tr_skip ?_
                        refine q_k ?_
                        obtain ⟨hn40, h⟩ := ite_some h
                        refine tr_rg hT [(4, .key 12), (5, .key 13)] [sO 0 (.slc 9000), sO 1 (.slc 9001), sO 5 (.slc 1), sO 7 (.slc 3), sO 9 (.slc 13), sI 10 .i64 i30, (.h 1, .e (.apt 5 p6)), (.h 2, .e (.arena true [] H12)), (.h 3, .e (.apt 2 p10)), (.h 11, .e (.arena true [5] H37)), hO 13 5 .u8 (all29 ++ (rows_0.getD i30.toNat [])), hW 9000 (.bs .u8 rows_0), hW 9001 (.gn 7 l_1)] (hcons hn34 (hcons hn34.2 (hone hn40))) ?_
                        refine q_b 1 ?_
                        refine q_k ?_
                        refine tr_rg hT [] [sO 0 (.slc 9000), sO 1 (.slc 9001), sO 5 (.slc 1), sO 7 (.slc 3), sO 9 (.slc 13), sI 10 .i64 (IntKind.i64.wrap (i30 + (1 : Int))), (.h 1, .e (.apt 5 p6)), (.h 2, .e (.arena true [] H12)), (.h 3, .e (.apt 2 p10)), (.h 11, .e (.arena true [5] H37)), hO 13 5 .u8 (all29 ++ (rows_0.getD i30.toNat [])), hW 9000 (.bs .u8 rows_0), hW 9001 (.gn 7 l_1)] hnil ?_
                        refine q_kr ?_
                        exact trR_ft [(5, .slc 11), (6, .slc 13)] [sO 0 (.slc 9000), sO 1 (.slc 9001), sO 5 (.slc 1), sO 7 (.slc 3), sO 9 (.slc 6), sI 10 .i64 (IntKind.i64.wrap (i30 + (1 : Int))), (.h 1, .e (.apt 5 p6)), (.h 2, .e (.arena true [] H12)), (.h 3, .e (.apt 2 p10)), (.h 5, .e (.arena true [] H37)), hO 6 5 .u8 (all29 ++ (rows_0.getD i30.toNat [])), hW 9000 (.bs .u8 rows_0), hW 9001 (.gn 7 l_1)] ⟨.apt' (κb := 5) (κ0 := 11) (rw := true) (bs := [5]) (D := H37), .arena' (bs := []), .apts' (κb := 2), .arena' (bs := [5]), .own', .rows', .rows', trivial⟩ (ih0 (H37, (all29 ++ (rows_0.getD i30.toNat [])), (IntKind.i64.wrap (i30 + (1 : Int)))) h)
                  · refine tr_cond_f (decide (i30 < (↑(List.length rows_0) : Int))) (by kernel_rfl) hc33 ?_
                    refine tr_exit ?_
                    refine q_k_exit ?_
                    refine q_kr_exit ?_
                    have h := Option.some.inj h
                    subst h
                    exact q_ft [(7, .slc 5), (8, .slc 6)] [sO 1 (.slc 9001), sO 5 (.slc 1), sO 7 (.slc 3), sO 9 (.slc 8), (.h 1, .e (.apt 7 p6)), (.h 2, .e (.arena true [] H12)), (.h 3, .e (.apt 2 p10)), (.h 7, .e (.arena true [] H28)), hO 8 5 .u8 all29, hW 9001 (.gn 7 l_1)] ⟨.apt' (κb := 5) (κ0 := 5) (rw := true) (bs := []) (D := H28), .arena' (bs := []), .apts' (κb := 2), .arena' (bs := []), .own', .rows', trivial⟩ (hx0 (H28, all29) rfl)

end Go.Proofs.Sd
