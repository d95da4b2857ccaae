/- Walks, printed by a program of this session (gowalk.py): each Go function comes to its plain function's answer. -/
import Derived.Test.YtdbheiibkpendaaDoorSeA
import Derived.Test.YtdbheiibkpendaaDoorSeD
import Derived.Test.YtdbheiibkpendaaDoorMSeS
import Derived.Test.YtdbheiibkpendaaDoorMSeE1
import Derived.Test.YtdbheiibkpendaaDoorMSeE1
import Derived.Test.YtdbheiibkpendaaDoorSeV0
import Derived.Test.YtdbheiibkpendaaDoorSeV1
import Derived.Test.YtdbheiibkpendaaDoorSeV2
import Derived.Test.YtdbheiibkpendaaDoorSeV3
namespace Go.Proofs.Se
open Go Go.Gw D
set_option linter.unusedVariables false
set_option maxRecDepth 20000

abbrev ZC0 (r_1 : List Int) := (decide ((↑(List.length r_1) : Int) > (2000 : Int)))
theorem JdK (r_0 : Int) (r_1 : List Int) (r : Int) (h : Wp r_0 r_1 = some r) : CallOk P 16 [.v (.agg [.int .i64 r_0, .slc 9000])] [(9000, .rd .u8 r_1)] (.v (.one (.int .i64 r))) [] := by
 refine Wi (N := 15) Tryd.func16 (by kernel_rfl) rfl rfl rfl [(9000, .rd .u8 r_1)] (by kernel_rfl) ?_; intro _ B w0; show Tr P B 15 w0 _ _ (Xx P Tryd.f16 (R1 _ _ B w0)); unfold Wp at h; refine Ja (Jb hT [(0, .key 0)] [sO 1 (.ptr 0 0), hB 0 34 [.int .i64 r_0, .slc 9000], hR 9000 .u8 r_1] Jp ?_); refine q_k (Ja (Ja ?_))
 rcases Jc h with ⟨hb1, h⟩ | ⟨hb4, h⟩
 ·refine Jb hT [(3, .dec true)] [sO 1 (.ptr 0 0), sB 10 (r_0 != (2 : Int)), hB 0 34 [.int .i64 r_0, .slc 9000], hR 9000 .u8 r_1] (JB hb1) ?_; refine q_k ?_
  rcases Jc h with ⟨hc2, h⟩ | ⟨hc2, h⟩
  ·refine Jd (r_0 != (2 : Int)) (by kernel_rfl) hc2 ?_; refine Ja (Jb hT [] [sI 2 .i64 (1 : Int)] Jp ?_); refine q_k (Jj (Ji ?_)); have h := Option.some.inj h; subst h; refine WE [sI 2 .i64 (1 : Int)] ?_; exact Jl hT (.v (.one (.int .i64 (1 : Int)))) [] (by kernel_rfl) (by kernel_rfl) (by kernel_rfl)
  refine Jf (r_0 != (2 : Int)) (by kernel_rfl) hc2 ?_; refine Jk (q_k (Ja (Ja (Jb hT [] [sB 14 (ZC0 r_1)] Jp ?_)))); refine q_k ?_
  rcases Jc h with ⟨hc3, h⟩ | ⟨hc3, h⟩
  ·refine Jd (ZC0 r_1) (by kernel_rfl) hc3 ?_; refine Ja (Jb hT [] [sI 2 .i64 (2 : Int)] Jp ?_); refine q_k (Jj (Ji ?_)); have h := Option.some.inj h; subst h; refine WE [sI 2 .i64 (2 : Int)] ?_; exact Jl hT (.v (.one (.int .i64 (2 : Int)))) [] (by kernel_rfl) (by kernel_rfl) (by kernel_rfl)
  refine Jf (ZC0 r_1) (by kernel_rfl) hc3 ?_; refine Jk (q_k (Ja (Jb hT [] [sI 2 .i64 (0 : Int)] Jp ?_))); refine q_k (Jj ?_); have h := Option.some.inj h; subst h; refine WE [sI 2 .i64 (0 : Int)] ?_; exact Jl hT (.v (.one (.int .i64 (0 : Int)))) [] (by kernel_rfl) (by kernel_rfl) (by kernel_rfl)
 refine Jb hT [(3, .dec false)] [sO 1 (.ptr 0 0), sB 10 false, hB 0 34 [.int .i64 r_0, .slc 9000], hR 9000 .u8 r_1] (JB hb4) ?_; refine q_k (Jf false (by kernel_rfl) rfl ?_); refine Jk (q_k (Ja (Ja (Jb hT [] [sB 14 (ZC0 r_1)] Jp ?_)))); refine q_k ?_
 rcases Jc h with ⟨hc5, h⟩ | ⟨hc5, h⟩
 ·refine Jd (ZC0 r_1) (by kernel_rfl) hc5 ?_; refine Ja (Jb hT [] [sI 2 .i64 (2 : Int)] Jp ?_); refine q_k (Jj (Ji ?_)); have h := Option.some.inj h; subst h; refine WE [sI 2 .i64 (2 : Int)] ?_; exact Jl hT (.v (.one (.int .i64 (2 : Int)))) [] (by kernel_rfl) (by kernel_rfl) (by kernel_rfl)
 refine Jf (ZC0 r_1) (by kernel_rfl) hc5 ?_; refine Jk (q_k (Ja (Jb hT [] [sI 2 .i64 (0 : Int)] Jp ?_))); refine q_k (Jj ?_); have h := Option.some.inj h; subst h; refine WE [sI 2 .i64 (0 : Int)] ?_; exact Jl hT (.v (.one (.int .i64 (0 : Int)))) [] (by kernel_rfl) (by kernel_rfl) (by kernel_rfl)

abbrev ZD0 : Gw.Loc × Cont := (.h 9999, .e (.gv 0 hv))
abbrev ZD1 (p1 : MV) (H11 : AH) (r7 : Int) (p5 : MV) (a6 : List Int) (a8 : List Int) : List (Gw.Loc × Cont) := [(.h 1, .e (.apt 0 p1)), (.h 2, .e (.arena true [0] H11)), hB 3 63 [.slc 4, .slc 5, .int .i64 r7, .slc 6], (.h 4, .e (.apt 2 p5)), (.h 5, .e (.owni 75 2 a6)), (.h 6, .e (.ownf 3 .i64 a8)), ZD0]
theorem Jcl (r : MV × MV × List Int × Int × List Int × AH) (h : WT = some r) : CallOk P 17 [] [(9999, .gv 0 hv)] (.tup [.one (.slc 8900), .one (.ptr 8901 0)]) [(8900, .apt 8905 r.1), (8902, .apt 8905 r.2.1), (8903, .owni 75 2 r.2.2.1), (8904, .ownf 3 .i64 r.2.2.2.2.1), (8901, .blk 63 [.slc 8902, .slc 8903, .int .i64 r.2.2.2.1, .slc 8904]), (8905, .arena true [] r.2.2.2.2.2)] := by
 refine Wi (N := 25) Tryd.func17 (by kernel_rfl) rfl rfl rfl [(9999, .gv 0 hv)] (by kernel_rfl) ?_; intro _ B w0; show Tr P B 25 w0 _ _ (Xx P Tryd.f17 (R1 _ _ B w0)); unfold WT at h; refine Ja (Jb hT [] [ZD0] Jp ?_); refine q_k (Ja ?_); obtain ⟨⟨p1, r2, H3⟩, e4, h⟩ := bind_some h; refine Jb hT [(0, .callA [] (.tup [.one (.slc 1), .one (.int .i64 r2)]) [(1, .apt 0 p1), (0, .arena true [] H3)])] [sO 2 (.slc 1), sI 3 .i64 r2, (.h 0, .e (.arena true [] H3)), (.h 1, .e (.apt 0 p1)), ZD0] (JB ((JbE (131072 : Int) (p1, r2, H3) e4).tr1 [(8901, .slc 0), (8900, .slc 1)] [] trivial)) ?_; refine q_k (Ja ?_); obtain ⟨⟨p5, a6, r7, a8, a9, r10, H11⟩, e12, h⟩ := bind_some h; refine Jb hT [(1, .callA [(0, .rw), (9999, .same), (1, .apt 0)] (.tup [.one (.ptr 3 0), .one (.slc 7), .one (.int .i64 r10)]) [(4, .apt 2 p5), (5, .owni 75 2 a6), (6, .ownf 3 .i64 a8), (3, .blk 63 [.slc 4, .slc 5, .int .i64 r7, .slc 6]), (7, .orows 34 (.rc a9)), (2, .arena true [0] H11), (0, .dead)])] ((sO 2 (.slc 1)) :: (sI 3 .i64 r2) :: (sO 4 (.ptr 3 0)) :: (sI 6 .i64 r10) :: ZD1 p1 H11 r7 p5 a6 a8) (JB ((XF H3 p1 (p5, a6, r7, a8, a9, r10, H11) e12).tr1 [(9999, .slc 9999), (9001, .slc 1), (9000, .slc 0), (8905, .slc 2), (8900, .slc 3), (8901, .slc 4), (8902, .slc 5), (8903, .slc 6), (8904, .slc 7)] [(0, .arena true [] H3), (9999, .gv 0 hv), (1, .apt 0 p1)] ⟨.arena' (bs := []), .apts' (κb := 0), .gv', trivial⟩)) ?_; refine q_k (Ja (Ja ?_))
 rcases Jc h with ⟨hb13, h⟩ | ⟨hb14, h⟩
 ·refine Jb hT [(2, .dec true)] ((sO 2 (.slc 1)) :: (sO 4 (.ptr 3 0)) :: (sB 22 true) :: ZD1 p1 H11 r7 p5 a6 a8) (JB hb13) ?_; refine q_k (Jd true (by kernel_rfl) rfl ?_); refine Ja (Jb hT [] [sO 0 (.nilp), sO 1 (.nilp), ZD0] Jp ?_); refine q_k (Jj (Ji ?_))
  cases h
 refine Jb hT [(2, .dec false)] ((sO 2 (.slc 1)) :: (sO 4 (.ptr 3 0)) :: (sB 22 (r10 != (0 : Int))) :: ZD1 p1 H11 r7 p5 a6 a8) (JB hb14) ?_; refine q_k ?_
 rcases Jc h with ⟨hc15, h⟩ | ⟨hc15, h⟩
 ·refine Jd (r10 != (0 : Int)) (by kernel_rfl) hc15 ?_; refine Ja (Jb hT [] [sO 0 (.nilp), sO 1 (.nilp), ZD0] Jp ?_); refine q_k (Jj (Ji ?_))
  cases h
 refine Jf (r10 != (0 : Int)) (by kernel_rfl) hc15 ?_; refine Jk (q_k (Ja (Jb hT [] ((sO 0 (.slc 1)) :: (sO 1 (.ptr 3 0)) :: ZD1 p1 H11 r7 p5 a6 a8) Jp ?_))); refine q_k (Jj ?_); have h := Option.some.inj h; subst h; refine Vz [(8900, .slc 1), (8901, .slc 3), (8902, .slc 4), (8903, .slc 5), (8904, .slc 6), (8905, .slc 2)] [sO 0 (.slc 8900), sO 1 (.ptr 8901 0), (.h 8900, .e (.apt 8905 p1)), hB 8901 63 [.slc 8902, .slc 8903, .int .i64 r7, .slc 8904], (.h 8902, .e (.apt 8905 p5)), (.h 8903, .e (.owni 75 2 a6)), (.h 8904, .e (.ownf 3 .i64 a8)), (.h 8905, .e (.arena true [] H11))] ⟨.apt' (κb := 0) (κ0 := 2) (rw := true) (bs := [0]) (D := H11), .blk', .apt' (κb := 2) (κ0 := 2) (rw := true) (bs := [0]) (D := H11), .owni', .ownf', .arena' (bs := [0]), trivial⟩ ?_; exact Jl hT (.tup [.one (.slc 8900), .one (.ptr 8901 0)]) [(8900, .apt 8905 p1), (8902, .apt 8905 p5), (8903, .owni 75 2 a6), (8904, .ownf 3 .i64 a8), (8901, .blk 63 [.slc 8902, .slc 8903, .int .i64 r7, .slc 8904]), (8905, .arena true [] H11)] (by kernel_rfl) (by kernel_rfl) (by kernel_rfl)

abbrev ZE0 (a_0 : List (Int × List Int)) (b_1 : List (Int × List Int)) (ya : Gw.Loc × Cont) : List (Gw.Loc × Cont) := [sO 0 (.slc 9000), sO 1 (.slc 9001), ya, hW 9000 (.rc a_0), hW 9001 (.rc b_1)]
theorem Ja7 (a_0 : List (Int × List Int)) (b_1 : List (Int × List Int)) (r : Bool) (h : XT a_0 b_1 = some r) : CallOk P 21 [.v (.one (.slc 9000)), .v (.one (.slc 9001))] [(9000, .rows (.rc a_0)), (9001, .rows (.rc b_1))] (.v (.one (.bool r))) [] := by
 refine Wi (N := 42) Tryd.func21 (by kernel_rfl) rfl rfl rfl [(9000, .rows (.rc a_0)), (9001, .rows (.rc b_1))] (by kernel_rfl) ?_; intro _ B w0; show Tr P B 42 w0 _ _ (Xx P Tryd.f21 (R1 _ _ B w0)); unfold XT at h; refine Ja (Jb hT [] [sO 0 (.slc 9000), sO 1 (.slc 9001), hW 9000 (.rc a_0), hW 9001 (.rc b_1)] Jp ?_); refine q_k (Ja (Ja (Jb hT [] (ZE0 a_0 b_1 (sB 10 ((↑(List.length a_0) : Int) != (↑(List.length b_1) : Int)))) Jp ?_))); refine q_k ?_
 rcases Jc h with ⟨hc1, h⟩ | ⟨hc1, h⟩
 ·refine Jd ((↑(List.length a_0) : Int) != (↑(List.length b_1) : Int)) (by kernel_rfl) hc1 ?_; refine Ja (Jb hT [] [sB 4 false] Jp ?_); refine q_k (Jj (Ji ?_)); have h := Option.some.inj h; subst h; refine WE [sB 4 false] ?_; exact Jl hT (.v (.one (.bool false))) [] (by kernel_rfl) (by kernel_rfl) (by kernel_rfl)
 refine Jf ((↑(List.length a_0) : Int) != (↑(List.length b_1) : Int)) (by kernel_rfl) hc1 ?_; refine Jk (q_k (Ja (Ja (Jb hT [] (ZE0 a_0 b_1 (sI 5 .i64 (0 : Int))) Jp ?_)))); refine q_k (Jn ?_); obtain ⟨rr0, e11, h⟩ := bind_some h; refine Xy [] (ZE0 a_0 b_1 (sI 5 .i64 (0 : Int))) ⟨.rows', .rows', trivial⟩ ?_
 refine Vu (id := 0) (α := Int) (β := Unit) (ρ := Bool) (fun z => (ZE0 a_0 b_1 (sI 5 .i64 z))) (fun z => []) (fun v σ => JcB T (Gw.look σ) Tryd.f21.results.toList = some (.v (.one (.bool v))) ∧ Gw.hasAll σ [] = some (Gw.preSS [])) (fun k z => Xb a_0 b_1 k z) rr0 (fun _ => rfl) (((↑(List.length a_0) : Int) - (0 : Int)).toNat + 1) (0 : Int) e11 ?_ ?_ ?_
 ·intro z hz; subst hz
  rcases z with _
  try dsimp only at h
  refine Vs (q_k (Ja (Jb hT [] [sB 4 true] Jp ?_))); refine q_k (Jj ?_); have h := Option.some.inj h; subst h; refine WE [sB 4 true] ?_; exact Jl hT (.v (.one (.bool true))) [] (by kernel_rfl) (by kernel_rfl) (by kernel_rfl)
 ·intro v σ hz hv; subst hz; have h := Option.some.inj h; subst h; refine Jx ?_; refine Ji ?_; exact Jl hT _ _ hv.1 hv.2 (by kernel_rfl)
 ·clear h e11
  intro k ih0 hx0 hr0 i2 h
  try dsimp only at h
  refine Ja (Ja (Jb hT [] [sO 0 (.slc 9000), sO 1 (.slc 9001), sI 5 .i64 i2, sB 14 (decide (i2 < (↑(List.length a_0) : Int))), hW 9000 (.rc a_0), hW 9001 (.rc b_1)] Jp ?_)); refine q_k ?_
  rcases Jc h with ⟨hc3, h⟩ | ⟨hc3, h⟩
  ·refine Jd (decide (i2 < (↑(List.length a_0) : Int))) (by kernel_rfl) hc3 ?_; refine Jk (q_k (Ja (Jn (Ja ?_)))); obtain ⟨hn4, hn5, h⟩ := it2 h
   rcases Jc h with ⟨hb6, h⟩ | ⟨hb7, h⟩
   ·refine Xh hT hM [(11, .dec true)] [sO 0 (.slc 9000), sO 1 (.slc 9001), sI 5 .i64 i2, sB 41 true, hW 9000 (.rc a_0), hW 9001 (.rc b_1)] (Je hn4 (Je hn4 (Je hn4.2 (Je hn5 (Je hn5 (Je hn5.2 (JB hb6))))))) ?_; refine q_k (Jd true (by kernel_rfl) rfl ?_); refine Ja (Jb hT [] [sB 4 false] Jp ?_); refine q_k (Jj (Jx (Ji (VY ?_)))); have h := Option.some.inj h; subst h
    exact WE [sB 4 false] (hr0 false _ rfl ⟨by kernel_rfl, by kernel_rfl⟩)
   obtain ⟨b8, e9, h⟩ := bind_some h; refine Xh hT hM [(11, .dec false), (16, .key 0), (21, .key 1), (22, .call [0, 1] (.v (.one (.bool b8))) [])] [sO 0 (.slc 9000), sO 1 (.slc 9001), sI 5 .i64 i2, sB 41 (!b8), hW 9000 (.rc a_0), hW 9001 (.rc b_1)] (Je hn4 (Je hn4 (Je hn4.2 (Je hn5 (Je hn5 (Je hn5.2 (Je hb7 (Je hn4 (Je hn4 (Je hn4.2 (Je hn5 (Je hn5 (Je hn5.2 (JB ((Jdy ((a_0.getD i2.toNat (0, [])).2) ((b_1.getD i2.toNat (0, [])).2) b8 e9).tr1 [(9000, .slc 0), (9001, .slc 1)] [(0, .rd .u8 ((a_0.getD i2.toNat (0, [])).2)), (1, .rd .u8 ((b_1.getD i2.toNat (0, [])).2))] ⟨.rd', .rd', trivial⟩))))))))))))))) ?_; refine q_k ?_
   rcases Jc h with ⟨hc10, h⟩ | ⟨hc10, h⟩
   ·refine Jd (!b8) (by kernel_rfl) hc10 ?_; refine Ja (Jb hT [] [sB 4 false] Jp ?_); refine q_k (Jj (Jx (Ji (VY ?_)))); have h := Option.some.inj h; subst h
    exact WE [sB 4 false] (hr0 false _ rfl ⟨by kernel_rfl, by kernel_rfl⟩)
   refine Jf (!b8) (by kernel_rfl) hc10 ?_; refine Jk (q_b 1 ?_); refine q_k (Jb hT [] (ZE0 a_0 b_1 (sI 5 .i64 (IntKind.i64.wrap (i2 + (1 : Int))))) Jp ?_); refine Jch ?_; exact QP (ZE0 a_0 b_1 (sI 5 .i64 (IntKind.i64.wrap (i2 + (1 : Int))))) (ih0 (IntKind.i64.wrap (i2 + (1 : Int))) h)
  refine Jf (decide (i2 < (↑(List.length a_0) : Int))) (by kernel_rfl) hc3 ?_; refine VU (Vi (JX ?_)); have h := Option.some.inj h; subst h; exact WE [] (hx0 () rfl)

end Go.Proofs.Se
