/- Walks, printed by a program of this session (gowalk.py): each Go function comes to its plain function's answer. -/
import Derived.Test.YtdbheiibkpendaaDoorSeA
import Derived.Test.YtdbheiibkpendaaDoorSeD
import Derived.Test.YtdbheiibkpendaaDoorMSeS
import Derived.Test.YtdbheiibkpendaaDoorMSeE1
import Derived.Test.YtdbheiibkpendaaDoorMSeE1
import Derived.Test.YtdbheiibkpendaaDoorSeV0
import Derived.Test.YtdbheiibkpendaaDoorSeV1
import Derived.Test.YtdbheiibkpendaaDoorSeV2
import Derived.Test.YtdbheiibkpendaaDoorSeV3
namespace Go.Proofs.Se
open Go Go.Gw D
set_option linter.unusedVariables false
set_option maxRecDepth 20000

abbrev ZC0 (r_1 : List Int) := (decide ((↑(List.length r_1) : Int) > (2000 : Int)))
theorem Jem (r_0 : Int) (r_1 : List Int) (r : Int) (h : Wc r_0 r_1 = some r) : CallOk P 16 [.v (.agg [.int .i64 r_0, .slc 9000])] [(9000, .rd .u8 r_1)] (.v (.one (.int .i64 r))) [] := by
 refine Wk (N := 15) Tryd.func16 (by kernel_rfl) rfl rfl rfl [(9000, .rd .u8 r_1)] (by kernel_rfl) ?_; intro _ B w0; show Tr P B 15 w0 _ _ (Xv P Tryd.f16 (R1 _ _ B w0)); unfold Wc at h; refine Ja (Jb hT [(0, .key 0)] [sO 1 (.ptr 0 0), hB 0 34 [.int .i64 r_0, .slc 9000], hR 9000 .u8 r_1] Jr ?_); refine q_k (Ja (Ja ?_))
 rcases Jc h with ⟨hb1, h⟩ | ⟨hb4, h⟩
 ·refine Jb hT [(3, .dec true)] [sO 1 (.ptr 0 0), sB 10 (r_0 != (2 : Int)), hB 0 34 [.int .i64 r_0, .slc 9000], hR 9000 .u8 r_1] (JB hb1) ?_; refine q_k ?_
  rcases Jc h with ⟨hc2, h⟩ | ⟨hc2, h⟩
  ·refine Jd (r_0 != (2 : Int)) (by kernel_rfl) hc2 ?_; refine Ja (Jb hT [] [sI 2 .i64 (1 : Int)] Jr ?_); refine q_k (Jk (Ji ?_)); have h := Option.some.inj h; subst h; refine Xd [sI 2 .i64 (1 : Int)] ?_; exact Jm hT (.v (.one (.int .i64 (1 : Int)))) [] (by kernel_rfl) (by kernel_rfl) (by kernel_rfl)
  refine Jf (r_0 != (2 : Int)) (by kernel_rfl) hc2 ?_; refine Jj (q_k (Ja (Ja (Jb hT [] [sB 14 (ZC0 r_1)] Jr ?_)))); refine q_k ?_
  rcases Jc h with ⟨hc3, h⟩ | ⟨hc3, h⟩
  ·refine Jd (ZC0 r_1) (by kernel_rfl) hc3 ?_; refine Ja (Jb hT [] [sI 2 .i64 (2 : Int)] Jr ?_); refine q_k (Jk (Ji ?_)); have h := Option.some.inj h; subst h; refine Xd [sI 2 .i64 (2 : Int)] ?_; exact Jm hT (.v (.one (.int .i64 (2 : Int)))) [] (by kernel_rfl) (by kernel_rfl) (by kernel_rfl)
  refine Jf (ZC0 r_1) (by kernel_rfl) hc3 ?_; refine Jj (q_k (Ja (Jb hT [] [sI 2 .i64 (0 : Int)] Jr ?_))); refine q_k (Jk ?_); have h := Option.some.inj h; subst h; refine Xd [sI 2 .i64 (0 : Int)] ?_; exact Jm hT (.v (.one (.int .i64 (0 : Int)))) [] (by kernel_rfl) (by kernel_rfl) (by kernel_rfl)
 refine Jb hT [(3, .dec false)] [sO 1 (.ptr 0 0), sB 10 false, hB 0 34 [.int .i64 r_0, .slc 9000], hR 9000 .u8 r_1] (JB hb4) ?_; refine q_k (Jf false (by kernel_rfl) rfl ?_); refine Jj (q_k (Ja (Ja (Jb hT [] [sB 14 (ZC0 r_1)] Jr ?_)))); refine q_k ?_
 rcases Jc h with ⟨hc5, h⟩ | ⟨hc5, h⟩
 ·refine Jd (ZC0 r_1) (by kernel_rfl) hc5 ?_; refine Ja (Jb hT [] [sI 2 .i64 (2 : Int)] Jr ?_); refine q_k (Jk (Ji ?_)); have h := Option.some.inj h; subst h; refine Xd [sI 2 .i64 (2 : Int)] ?_; exact Jm hT (.v (.one (.int .i64 (2 : Int)))) [] (by kernel_rfl) (by kernel_rfl) (by kernel_rfl)
 refine Jf (ZC0 r_1) (by kernel_rfl) hc5 ?_; refine Jj (q_k (Ja (Jb hT [] [sI 2 .i64 (0 : Int)] Jr ?_))); refine q_k (Jk ?_); have h := Option.some.inj h; subst h; refine Xd [sI 2 .i64 (0 : Int)] ?_; exact Jm hT (.v (.one (.int .i64 (0 : Int)))) [] (by kernel_rfl) (by kernel_rfl) (by kernel_rfl)

abbrev ZD0 (a_0 : List (Int × List Int)) (b_1 : List (Int × List Int)) (ya : Gw.Loc × Cont) : List (Gw.Loc × Cont) := [sO 0 (.slc 9000), sO 1 (.slc 9001), ya, hW 9000 (.rc a_0), hW 9001 (.rc b_1)]
theorem Ja3 (a_0 : List (Int × List Int)) (b_1 : List (Int × List Int)) (r : Bool) (h : Xr a_0 b_1 = some r) : CallOk P 21 [.v (.one (.slc 9000)), .v (.one (.slc 9001))] [(9000, .rows (.rc a_0)), (9001, .rows (.rc b_1))] (.v (.one (.bool r))) [] := by
 refine Wk (N := 42) Tryd.func21 (by kernel_rfl) rfl rfl rfl [(9000, .rows (.rc a_0)), (9001, .rows (.rc b_1))] (by kernel_rfl) ?_; intro _ B w0; show Tr P B 42 w0 _ _ (Xv P Tryd.f21 (R1 _ _ B w0)); unfold Xr at h; refine Ja (Jb hT [] [sO 0 (.slc 9000), sO 1 (.slc 9001), hW 9000 (.rc a_0), hW 9001 (.rc b_1)] Jr ?_); refine q_k (Ja (Ja (Jb hT [] (ZD0 a_0 b_1 (sB 10 ((↑(List.length a_0) : Int) != (↑(List.length b_1) : Int)))) Jr ?_))); refine q_k ?_
 rcases Jc h with ⟨hc1, h⟩ | ⟨hc1, h⟩
 ·refine Jd ((↑(List.length a_0) : Int) != (↑(List.length b_1) : Int)) (by kernel_rfl) hc1 ?_; refine Ja (Jb hT [] [sB 4 false] Jr ?_); refine q_k (Jk (Ji ?_)); have h := Option.some.inj h; subst h; refine Xd [sB 4 false] ?_; exact Jm hT (.v (.one (.bool false))) [] (by kernel_rfl) (by kernel_rfl) (by kernel_rfl)
 refine Jf ((↑(List.length a_0) : Int) != (↑(List.length b_1) : Int)) (by kernel_rfl) hc1 ?_; refine Jj (q_k (Ja (Ja (Jb hT [] (ZD0 a_0 b_1 (sI 5 .i64 (0 : Int))) Jr ?_)))); refine q_k (Js ?_); obtain ⟨rr0, e11, h⟩ := bind_some h; refine XW [] (ZD0 a_0 b_1 (sI 5 .i64 (0 : Int))) ⟨.rows', .rows', trivial⟩ ?_
 refine VZ (id := 0) (α := Int) (β := Unit) (ρ := Bool) (fun z => (ZD0 a_0 b_1 (sI 5 .i64 z))) (fun z => []) (fun v σ => Jep T (Gw.look σ) Tryd.f21.results.toList = some (.v (.one (.bool v))) ∧ Gw.hasAll σ [] = some (Gw.preSS [])) (fun k z => WQ a_0 b_1 k z) rr0 (fun _ => rfl) (((↑(List.length a_0) : Int) - (0 : Int)).toNat + 1) (0 : Int) e11 ?_ ?_ ?_
 ·intro z hz; subst hz
  rcases z with _
  try dsimp only at h
  refine Vu (q_k (Ja (Jb hT [] [sB 4 true] Jr ?_))); refine q_k (Jk ?_); have h := Option.some.inj h; subst h; refine Xd [sB 4 true] ?_; exact Jm hT (.v (.one (.bool true))) [] (by kernel_rfl) (by kernel_rfl) (by kernel_rfl)
 ·intro v σ hz hv; subst hz; have h := Option.some.inj h; subst h; refine JE ?_; refine Ji ?_; exact Jm hT _ _ hv.1 hv.2 (by kernel_rfl)
 ·clear h e11
  intro k ih0 hx0 hr0 i2 h
  try dsimp only at h
  refine Ja (Ja (Jb hT [] [sO 0 (.slc 9000), sO 1 (.slc 9001), sI 5 .i64 i2, sB 14 (decide (i2 < (↑(List.length a_0) : Int))), hW 9000 (.rc a_0), hW 9001 (.rc b_1)] Jr ?_)); refine q_k ?_
  rcases Jc h with ⟨hc3, h⟩ | ⟨hc3, h⟩
  ·refine Jd (decide (i2 < (↑(List.length a_0) : Int))) (by kernel_rfl) hc3 ?_; refine Jj (q_k (Ja (Js (Ja ?_)))); obtain ⟨hn4, hn5, h⟩ := it2 h
   rcases Jc h with ⟨hb6, h⟩ | ⟨hb7, h⟩
   ·refine Xe hT hM [(11, .dec true)] [sO 0 (.slc 9000), sO 1 (.slc 9001), sI 5 .i64 i2, sB 41 true, hW 9000 (.rc a_0), hW 9001 (.rc b_1)] (Je hn4 (Je hn4 (Je hn4.2 (Je hn5 (Je hn5 (Je hn5.2 (JB hb6))))))) ?_; refine q_k (Jd true (by kernel_rfl) rfl ?_); refine Ja (Jb hT [] [sB 4 false] Jr ?_); refine q_k (Jk (JE (Ji (Wh ?_)))); have h := Option.some.inj h; subst h
    exact Xd [sB 4 false] (hr0 false _ rfl ⟨by kernel_rfl, by kernel_rfl⟩)
   obtain ⟨b8, e9, h⟩ := bind_some h; refine Xe hT hM [(11, .dec false), (16, .key 0), (21, .key 1), (22, .call [0, 1] (.v (.one (.bool b8))) [])] [sO 0 (.slc 9000), sO 1 (.slc 9001), sI 5 .i64 i2, sB 41 (!b8), hW 9000 (.rc a_0), hW 9001 (.rc b_1)] (Je hn4 (Je hn4 (Je hn4.2 (Je hn5 (Je hn5 (Je hn5.2 (Je hb7 (Je hn4 (Je hn4 (Je hn4.2 (Je hn5 (Je hn5 (Je hn5.2 (JB ((Jc5 ((a_0.getD i2.toNat (0, [])).2) ((b_1.getD i2.toNat (0, [])).2) b8 e9).tr1 [(9000, .slc 0), (9001, .slc 1)] [(0, .rd .u8 ((a_0.getD i2.toNat (0, [])).2)), (1, .rd .u8 ((b_1.getD i2.toNat (0, [])).2))] ⟨.rd', .rd', trivial⟩))))))))))))))) ?_; refine q_k ?_
   rcases Jc h with ⟨hc10, h⟩ | ⟨hc10, h⟩
   ·refine Jd (!b8) (by kernel_rfl) hc10 ?_; refine Ja (Jb hT [] [sB 4 false] Jr ?_); refine q_k (Jk (JE (Ji (Wh ?_)))); have h := Option.some.inj h; subst h
    exact Xd [sB 4 false] (hr0 false _ rfl ⟨by kernel_rfl, by kernel_rfl⟩)
   refine Jf (!b8) (by kernel_rfl) hc10 ?_; refine Jj (q_b 1 ?_); refine q_k (Jb hT [] (ZD0 a_0 b_1 (sI 5 .i64 (IntKind.i64.wrap (i2 + (1 : Int))))) Jr ?_); refine Jch ?_; exact Jau (ZD0 a_0 b_1 (sI 5 .i64 (IntKind.i64.wrap (i2 + (1 : Int))))) (ih0 (IntKind.i64.wrap (i2 + (1 : Int))) h)
  refine Jf (decide (i2 < (↑(List.length a_0) : Int))) (by kernel_rfl) hc3 ?_; refine VT (Vk (Vi ?_)); have h := Option.some.inj h; subst h; exact Xd [] (hx0 () rfl)

end Go.Proofs.Se
