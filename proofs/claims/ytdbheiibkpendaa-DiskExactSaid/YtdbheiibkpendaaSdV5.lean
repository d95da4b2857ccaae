/- Walks, printed by a program of this session (gowalk.py): each Go function comes to its plain function's answer. -/
import Derived.Test.YtdbheiibkpendaaSdA
import Derived.Test.YtdbheiibkpendaaSdD
import Derived.Test.YtdbheiibkpendaaMSdS
import Derived.Test.YtdbheiibkpendaaSdV0
import Derived.Test.YtdbheiibkpendaaSdV1
import Derived.Test.YtdbheiibkpendaaSdV2
import Derived.Test.YtdbheiibkpendaaSdV3
import Derived.Test.YtdbheiibkpendaaSdV4
namespace Go.Proofs.Sd
open Go Go.Gw D
set_option linter.unusedVariables false
set_option maxRecDepth 20000

abbrev Zq0 (l_0 : List (List DL)) (i2 : Int) := (decide ((↑(List.length (DL.boolL (dlAt l_0 i2.toNat 4))) : Int) > (300 : Int)))
theorem law14_Heavy_ok (l_0 : List (List DL)) (r : Bool) (h : law14_Heavy l_0 = some r) : CallOk P 31 [.v (.one (.slc 9000))] [(9000, .rows (.gn 7 l_0))] (.v (.one (.bool r))) [] := by
 refine call1 (N := 33) Try.func31 (by kernel_rfl) rfl rfl rfl [(9000, .rows (.gn 7 l_0))] (by kernel_rfl) ?_; intro _ B w0; show Tr P B 33 w0 _ _ (RetQ P Try.f31 (R1 _ _ B w0)); unfold law14_Heavy at h; refine tr_seq (tr_rg hT [] [sO 0 (.slc 9000), hW 9000 (.gn 7 l_0)] hnil ?_); refine q_k (tr_seq (tr_seq (tr_rg hT [] [sO 0 (.slc 9000), sB 6 (decide ((↑(List.length l_0) : Int) > (200 : Int))), hW 9000 (.gn 7 l_0)] hnil ?_))); refine q_k ?_
 rcases ite_split h with ⟨hc1, h⟩ | ⟨hc1, h⟩
 ·refine tr_cond_t (decide ((↑(List.length l_0) : Int) > (200 : Int))) (by kernel_rfl) hc1 ?_; refine tr_seq (tr_rg hT [] [sB 2 true] hnil ?_); refine q_k (tr_ret (q_k_ret ?_)); have h := Option.some.inj h; subst h; refine q_ls [sB 2 true] ?_; exact q_ret1 hT (.v (.one (.bool true))) [] (by kernel_rfl) (by kernel_rfl) (by kernel_rfl)
 refine tr_cond_f (decide ((↑(List.length l_0) : Int) > (200 : Int))) (by kernel_rfl) hc1 ?_; refine tr_skip (q_k (tr_seq (tr_seq (tr_rg hT [] [sO 0 (.slc 9000), sI 3 .i64 (0 : Int), hW 9000 (.gn 7 l_0)] hnil ?_)))); refine q_k (tr_block ?_); obtain ⟨rr0, e12, h⟩ := bind_some h; refine tr_ft [] [sO 0 (.slc 9000), sI 3 .i64 (0 : Int), hW 9000 (.gn 7 l_0)] ⟨.rows', trivial⟩ ?_
 refine tr_loop_ret (id := 0) (α := Int) (β := Unit) (ρ := Bool) (fun z => [sO 0 (.slc 9000), sI 3 .i64 z, hW 9000 (.gn 7 l_0)]) (fun z => []) (fun v σ => resS T (Gw.look σ) Try.f31.results.toList = some (.v (.one (.bool v))) ∧ Gw.hasAll σ [] = some (Gw.preSS [])) (fun k z => law14_Heavy_l0 l_0 k z) rr0 (fun _ => rfl) (((↑(List.length l_0) : Int) - (0 : Int)).toNat + 1) (0 : Int) e12 ?_ ?_ ?_
 ·intro z hz; subst hz
  rcases z with _
  try dsimp only at h
  refine q_b_this (q_k (tr_seq (tr_rg hT [] [sB 2 false] hnil ?_))); refine q_k (tr_ret ?_); have h := Option.some.inj h; subst h; refine q_ls [sB 2 false] ?_; exact q_ret1 hT (.v (.one (.bool false))) [] (by kernel_rfl) (by kernel_rfl) (by kernel_rfl)
 ·intro v σ hz hv; subst hz; have h := Option.some.inj h; subst h; refine q_b_ret ?_; refine q_k_ret ?_; exact q_ret1 hT _ _ hv.1 hv.2 (by kernel_rfl)
 ·clear h e12
  intro k ih0 hx0 hr0 i2 h
  try dsimp only at h
  refine tr_seq (tr_seq ?_)
  rcases ite_split h with ⟨hb3, h⟩ | ⟨hb11, h⟩
  ·refine tr_rg hT [(4, .dec true)] [sO 0 (.slc 9000), sI 3 .i64 i2, sB 14 (decide (i2 < (50 : Int))), hW 9000 (.gn 7 l_0)] (hone hb3) ?_; refine q_k ?_
   rcases ite_split h with ⟨hc4, h⟩ | ⟨hc4, h⟩
   ·refine tr_cond_t (decide (i2 < (50 : Int))) (by kernel_rfl) hc4 ?_; refine tr_skip (q_k (tr_seq (tr_block (tr_seq ?_)))); obtain ⟨hn5, hn6, h⟩ := it2 h
    rcases ite_split h with ⟨hb7, h⟩ | ⟨hb8, h⟩
    ·refine tr_rg hT [(4, .gk [.bs .u8 0]), (7, .dec true)] [sO 0 (.slc 9000), sI 3 .i64 i2, sB 32 true, hW 9000 (.gn 7 l_0)] (hcons hn5 (hcons hn5 (hcons hn5.2 (hcons hn6 (hone hb7))))) ?_; refine q_k (tr_cond_t true (by kernel_rfl) rfl ?_); refine tr_seq (tr_rg hT [] [sB 2 true] hnil ?_); refine q_k (tr_ret (q_b_ret (q_k_ret (q_kr_ret ?_)))); have h := Option.some.inj h; subst h
     exact q_ls [sB 2 true] (hr0 true _ rfl ⟨by kernel_rfl, by kernel_rfl⟩)
    obtain ⟨hn9, h⟩ := ite_some h; refine tr_rg hT [(4, .gk [.bs .u8 0]), (7, .dec false), (12, .gk [.bb 1]), (13, .bb [])] [sO 0 (.slc 9000), sI 3 .i64 i2, sB 32 (Zq0 l_0 i2), hW 9000 (.gn 7 l_0)] (hcons hn5 (hcons hn5 (hcons hn5.2 (hcons hn6 (hcons hb8 (hcons hn5 (hcons hn5 (hcons hn5.2 (hone hn9))))))))) ?_; refine q_k ?_
    rcases ite_split h with ⟨hc10, h⟩ | ⟨hc10, h⟩
    ·refine tr_cond_t (Zq0 l_0 i2) (by kernel_rfl) hc10 ?_; refine tr_seq (tr_rg hT [] [sB 2 true] hnil ?_); refine q_k (tr_ret (q_b_ret (q_k_ret (q_kr_ret ?_)))); have h := Option.some.inj h; subst h
     exact q_ls [sB 2 true] (hr0 true _ rfl ⟨by kernel_rfl, by kernel_rfl⟩)
    refine tr_cond_f (Zq0 l_0 i2) (by kernel_rfl) hc10 ?_; refine tr_skip (q_b 1 ?_); refine q_k (tr_rg hT [] [sO 0 (.slc 9000), sI 3 .i64 (IntKind.i64.wrap (i2 + (1 : Int))), hW 9000 (.gn 7 l_0)] hnil ?_); refine q_kr ?_; exact trR_ls [sO 0 (.slc 9000), sI 3 .i64 (IntKind.i64.wrap (i2 + (1 : Int))), hW 9000 (.gn 7 l_0)] (ih0 (IntKind.i64.wrap (i2 + (1 : Int))) h)
   refine tr_cond_f (decide (i2 < (50 : Int))) (by kernel_rfl) hc4 ?_; refine tr_exit (q_k_exit (q_kr_exit ?_)); have h := Option.some.inj h; subst h; exact q_ls [] (hx0 () rfl)
  refine tr_rg hT [(4, .dec false)] [sO 0 (.slc 9000), sI 3 .i64 i2, sB 14 false, hW 9000 (.gn 7 l_0)] (hone hb11) ?_; refine q_k (tr_cond_f false (by kernel_rfl) rfl ?_); refine tr_exit (q_k_exit (q_kr_exit ?_)); have h := Option.some.inj h; subst h; exact q_ls [] (hx0 () rfl)

end Go.Proofs.Sd
