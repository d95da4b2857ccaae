/- Walks, printed by a program of this session (gowalk.py): each Go function comes to its plain function's answer. -/
import Derived.Test.YtdbheiibkpendaaGreatDoorSeA
import Derived.Test.YtdbheiibkpendaaGreatDoorSeD
import Derived.Test.YtdbheiibkpendaaGreatDoorMSeS
import Derived.Test.YtdbheiibkpendaaGreatDoorMSeE1
import Derived.Test.YtdbheiibkpendaaGreatDoorMSeE1
import Derived.Test.YtdbheiibkpendaaGreatDoorMSeE1
import Derived.Test.YtdbheiibkpendaaGreatDoorSeV0
import Derived.Test.YtdbheiibkpendaaGreatDoorSeV2
namespace Go.Proofs.Se
open Go Go.Gw D
set_option linter.unusedVariables false
set_option maxRecDepth 20000

abbrev Zw0 (r_1:List Int):=(decide ((↑(List.length r_1):Int)>(2000:Int)))
theorem Jbl (r_0:Int) (r_1:List Int) (r:Int) (h:Ww r_0 r_1=some r):CallOk P 12 [.v (.agg [.int .i64 r_0,.slc 9000])] [(9000,.rd .u8 r_1)] (.v (.one (.int .i64 r))) []:=by
 refine Wr (N:=15) Tryz.func12 (by kernel_rfl) rfl rfl rfl [(9000,.rd .u8 r_1)] (by kernel_rfl) ?_;intro _ B w0;show Tr P B 15 w0 _ _ (XF P Tryz.f12 (R1 _ _ B w0));unfold Ww at h;refine Ja (Jb hT [(0,.key 0)] [sO 1 (.ptr 0 0),hB 0 37 [.int .i64 r_0,.slc 9000],hR 9000 .u8 r_1] Jr ?_);refine q_k (Ja (Ja ?_))
 rcases Jc h with⟨hb1,h⟩|⟨hb4,h⟩
 ·refine Jb hT [(3,.dec true)] [sO 1 (.ptr 0 0),sB 10 (r_0 !=(2:Int)),hB 0 37 [.int .i64 r_0,.slc 9000],hR 9000 .u8 r_1] (Jz hb1) ?_;refine q_k ?_
  rcases Jc h with⟨hc2,h⟩|⟨hc2,h⟩
  ·refine Jd (r_0 !=(2:Int)) (by kernel_rfl) hc2 ?_;refine Ja (Jb hT [] [sI 2 .i64 (1:Int)] Jr ?_);refine q_k (Jj (Ji ?_));have h:=Option.some.inj h;subst h;refine WJ [sI 2 .i64 (1:Int)] ?_;exact Jl hT (.v (.one (.int .i64 (1:Int)))) [] (by kernel_rfl) (by kernel_rfl) (by kernel_rfl)
  refine Jf (r_0 !=(2:Int)) (by kernel_rfl) hc2 ?_;refine Jk (q_k (Ja (Ja (Jb hT [] [sB 14 (Zw0 r_1)] Jr ?_))));refine q_k ?_
  rcases Jc h with⟨hc3,h⟩|⟨hc3,h⟩
  ·refine Jd (Zw0 r_1) (by kernel_rfl) hc3 ?_;refine Ja (Jb hT [] [sI 2 .i64 (2:Int)] Jr ?_);refine q_k (Jj (Ji ?_));have h:=Option.some.inj h;subst h;refine WJ [sI 2 .i64 (2:Int)] ?_;exact Jl hT (.v (.one (.int .i64 (2:Int)))) [] (by kernel_rfl) (by kernel_rfl) (by kernel_rfl)
  refine Jf (Zw0 r_1) (by kernel_rfl) hc3 ?_;refine Jk (q_k (Ja (Jb hT [] [sI 2 .i64 (0:Int)] Jr ?_)));refine q_k (Jj ?_);have h:=Option.some.inj h;subst h;refine WJ [sI 2 .i64 (0:Int)] ?_;exact Jl hT (.v (.one (.int .i64 (0:Int)))) [] (by kernel_rfl) (by kernel_rfl) (by kernel_rfl)
 refine Jb hT [(3,.dec false)] [sO 1 (.ptr 0 0),sB 10 false,hB 0 37 [.int .i64 r_0,.slc 9000],hR 9000 .u8 r_1] (Jz hb4) ?_;refine q_k (Jf false (by kernel_rfl) rfl ?_);refine Jk (q_k (Ja (Ja (Jb hT [] [sB 14 (Zw0 r_1)] Jr ?_))));refine q_k ?_
 rcases Jc h with⟨hc5,h⟩|⟨hc5,h⟩
 ·refine Jd (Zw0 r_1) (by kernel_rfl) hc5 ?_;refine Ja (Jb hT [] [sI 2 .i64 (2:Int)] Jr ?_);refine q_k (Jj (Ji ?_));have h:=Option.some.inj h;subst h;refine WJ [sI 2 .i64 (2:Int)] ?_;exact Jl hT (.v (.one (.int .i64 (2:Int)))) [] (by kernel_rfl) (by kernel_rfl) (by kernel_rfl)
 refine Jf (Zw0 r_1) (by kernel_rfl) hc5 ?_;refine Jk (q_k (Ja (Jb hT [] [sI 2 .i64 (0:Int)] Jr ?_)));refine q_k (Jj ?_);have h:=Option.some.inj h;subst h;refine WJ [sI 2 .i64 (0:Int)] ?_;exact Jl hT (.v (.one (.int .i64 (0:Int)))) [] (by kernel_rfl) (by kernel_rfl) (by kernel_rfl)

theorem Jej (b_0:List Int) (r_1:Int) (r_2:List Int) (r:List Int×Int) (h:XZ b_0 r_1 r_2=some r):CallOk P 49 [.v (.one (.slc 9000)),.v (.agg [.int .i64 r_1,.slc 9001])] [(9000,.rd .u8 b_0),(9001,.rd .u8 r_2)] (.tup [.one (.slc 8900),.one (.int .i64 r.2)]) [(8900,.own 5 .u8 r.1)]:=by
 refine Wr (N:=24) Tryz.func49 (by kernel_rfl) rfl rfl rfl [(9000,.rd .u8 b_0),(9001,.rd .u8 r_2)] (by kernel_rfl) ?_;intro _ B w0;show Tr P B 24 w0 _ _ (XF P Tryz.f49 (R1 _ _ B w0));unfold XZ at h;refine Ja (Jb hT [(0,.key 0)] [sO 0 (.slc 9000),sO 3 (.ptr 0 0),hB 0 37 [.int .i64 r_1,.slc 9001],hR 9000 .u8 b_0,hR 9001 .u8 r_2] Jr ?_);refine q_k (Ja (Jp (Ja ?_)));obtain⟨b1,e2,h⟩:=bind_some h;refine Jb hT [(2,.call [] (.v (.one (.bool b1))) [])] [sO 0 (.slc 9000),sO 3 (.ptr 0 0),sB 6 (!b1),hB 0 37 [.int .i64 r_1,.slc 9001],hR 9000 .u8 b_0,hR 9001 .u8 r_2] (Jz (Jaa r_1 b1 e2 (pre:=[]))) ?_;refine q_k ?_
 rcases Jc h with⟨hc3,h⟩|⟨hc3,h⟩
 ·refine Jd (!b1) (by kernel_rfl) hc3 ?_;refine Ja (Jb hT [] [sO 4 (.nils),sI 5 .i64 (1:Int)] Jr ?_);refine q_k (Jj (Jy (Ji ?_)));have h:=Option.some.inj h;subst h;refine Vx [(8900,.nils)] [sO 4 (.slc 8900),sI 5 .i64 (1:Int),hO 8900 5 .u8 []] ⟨.nilown,trivial⟩ ?_;exact Jl hT (.tup [.one (.slc 8900),.one (.int .i64 (1:Int))]) [(8900,.own 5 .u8 [])] (by kernel_rfl) (by kernel_rfl) (by kernel_rfl)
 refine Jf (!b1) (by kernel_rfl) hc3 ?_;refine Ja (Jb hT [] [sO 0 (.slc 9000),sO 3 (.ptr 0 0),sB 11 (decide ((↑(List.length r_2):Int)>(2000:Int))),hB 0 37 [.int .i64 r_1,.slc 9001],hR 9000 .u8 b_0,hR 9001 .u8 r_2] Jr ?_);refine q_k ?_
 rcases Jc h with⟨hc4,h⟩|⟨hc4,h⟩
 ·refine Jd (decide ((↑(List.length r_2):Int)>(2000:Int))) (by kernel_rfl) hc4 ?_;refine Ja (Jb hT [] [sO 4 (.nils),sI 5 .i64 (2:Int)] Jr ?_);refine q_k (Jj (Jy (Ji ?_)));have h:=Option.some.inj h;subst h;refine Vx [(8900,.nils)] [sO 4 (.slc 8900),sI 5 .i64 (2:Int),hO 8900 5 .u8 []] ⟨.nilown,trivial⟩ ?_;exact Jl hT (.tup [.one (.slc 8900),.one (.int .i64 (2:Int))]) [(8900,.own 5 .u8 [])] (by kernel_rfl) (by kernel_rfl) (by kernel_rfl)
 refine Jf (decide ((↑(List.length r_2):Int)>(2000:Int))) (by kernel_rfl) hc4 ?_;refine Jk (q_b 0 ?_);refine q_k (Ja ?_);obtain⟨a5,e6,h⟩:=bind_some h;obtain⟨a7,e8,h⟩:=bind_some h;refine Jb hT [(5,.call [9001] (.v (.one (.slc 1))) [(1,.own 5 .u8 a5)]),(6,.key 2),(7,.call [2] (.v (.one (.slc 3))) [(3,.own 5 .u8 a7)])] [sO 4 (.slc 3),sI 5 .i64 (0:Int),hO 3 5 .u8 a7] (Je ((Qp r_1 r_2 a5 e6).tr1 [(9000,.slc 9001),(8900,.slc 1)] [(9001,.rd .u8 r_2)] ⟨.rd',trivial⟩) (Jz ((VA [b_0,a5] a7 e8).tr1 [(9000,.slc 2),(8900,.slc 3)] [(2,.rows (.bs .u8 [b_0,a5]))] ⟨.rows',trivial⟩))) ?_;refine q_k (Jj ?_);have h:=Option.some.inj h;subst h;refine Vx [(8900,.slc 3)] [sO 4 (.slc 8900),sI 5 .i64 (0:Int),hO 8900 5 .u8 a7] ⟨.own',trivial⟩ ?_;exact Jl hT (.tup [.one (.slc 8900),.one (.int .i64 (0:Int))]) [(8900,.own 5 .u8 a7)] (by kernel_rfl) (by kernel_rfl) (by kernel_rfl)

abbrev Zx0 (s_3:Int):=(IntKind.i64.wrap (s_3+(1:Int)))
abbrev Zx1 (s_1:MV):Gw.Loc×Cont:=(.h 9002,.e (.apt 9000 s_1))
abbrev Zx2 (s_2:Nat):Gw.Loc×Cont:=(.h 9003,.e (.rdn s_2))
abbrev Zx3 (H8:AH):Gw.Loc×Cont:=(.h 1,.e (.arena true [9000] H8))
abbrev Zx4 (r10:Int):Gw.Loc×Cont:=(.h 2,.e (.err 124 126 26 r10))
abbrev Zx5 (H_0:AH):Gw.Loc×Cont:=(.h 9000,.e (.arena true [] H_0))
abbrev Zx6 (s_3:Int):Nat×Ent:=(9001,.blk 76 [.slc 9002,.slc 9003,.int .i64 s_3,.slc 9004])
abbrev Zx7 (s_3:Int) (s_1:MV) (s_2:Nat) (s_4:List Int):List (Gw.Loc×Cont):=[hB 9001 76 [.slc 9002,.slc 9003,.int .i64 s_3,.slc 9004],(Zx1 s_1),(Zx2 s_2),hR 9004 .i64 s_4]
theorem Jao (H_0:AH) (s_1:MV) (s_2:Nat) (s_3:Int) (s_4:List Int) (r:Int×Int×AH) (h:Vj H_0 s_1 s_2 s_3 s_4=some r):CallOk P 50 [.v (.one (.ptr 9001 0))] [(9000,.arena true [] H_0),(9001,.blk 76 [.slc 9002,.slc 9003,.int .i64 s_3,.slc 9004]),(9002,.apt 9000 s_1),(9003,.rdn s_2),(9004,.rd .i64 s_4)] (.v (.one (.slc 8900))) [(8900,.err 124 126 26 r.1),(9001,.blk 76 [.slc 9002,.slc 9003,.int .i64 r.2.1,.slc 9004]),(8901,.arena true [9000] r.2.2),(9000,.dead)]:=by
 refine Wr (N:=39) Tryz.func50 (by kernel_rfl) rfl rfl rfl [(9000,.arena true [] H_0),(Zx6 s_3),(9002,.apt 9000 s_1),(9003,.rdn s_2),(9004,.rd .i64 s_4)] (by kernel_rfl) ?_;intro _ B w0;show Tr P B 39 w0 _ _ (XF P Tryz.f50 (R1 _ _ B w0));unfold Vj at h;refine Ja (Jb hT [] ((sO 0 (.ptr 9001 0))::(Zx5 H_0)::Zx7 s_3 s_1 s_2 s_4) Jr ?_);refine q_k (Ja (Ja ?_));obtain⟨r1,e2,h⟩:=bind_some h;refine Wy hT hM [(8,.callA [(9000,.ro),(9002,.apt 9000)] (.v (.one (.int .i64 r1))) [])] ((sO 0 (.ptr 9001 0))::(sB 14 (decide (r1<(4096:Int))))::(Zx5 H_0)::Zx7 s_3 s_1 s_2 s_4) (Jz ((Xv H_0 s_1 s_3 r1 e2).tr1 [(9001,.slc 9002),(9000,.slc 9000)] [(9000,.arena false [] H_0),(9002,.apt 9000 s_1)] ⟨.arena' (bs:=[]),.apts' (κb:=9000),trivial⟩)) ?_;refine q_k ?_
 rcases Jc h with⟨hc3,h⟩|⟨hc3,h⟩
 ·refine Jd (decide (r1<(4096:Int))) (by kernel_rfl) hc3 ?_;refine Ja (Jb hT [] ((sO 2 (.nili))::(Zx5 H_0)::Zx7 s_3 s_1 s_2 s_4) Jr ?_);refine q_k (Jj (Ji ?_));have h:=Option.some.inj h;subst h;refine Vx [(8900,.nili),(8901,.slc 9000)] [sO 2 (.slc 8900),(.h 8900,.e (.err 124 126 26 (0:Int))),(.h 8901,.e (.arena true [9000] H_0)),hD 9000,hB 9001 76 [.slc 9002,.slc 9003,.int .i64 s_3,.slc 9004]] ⟨.erni,.arena' (bs:=[]),.dead,.blk',trivial⟩ ?_;exact Jl hT (.v (.one (.slc 8900))) [(8900,.err 124 126 26 (0:Int)),(Zx6 s_3),(8901,.arena true [9000] H_0),(9000,.dead)] (by kernel_rfl) (by kernel_rfl) (by kernel_rfl)
 refine Jf (decide (r1<(4096:Int))) (by kernel_rfl) hc3 ?_;refine Jk (q_k (Ja (Jb hT [] ((sO 0 (.ptr 9001 0))::(sI 3 .i64 (Zx0 s_3))::(Zx5 H_0)::Zx7 s_3 s_1 s_2 s_4) Jr ?_)));refine q_k (Ja (Ja (Jb hT [] ((sO 0 (.ptr 9001 0))::(sI 3 .i64 (Zx0 s_3))::(sB 21 (decide ((Zx0 s_3)≥(64:Int))))::(Zx5 H_0)::Zx7 s_3 s_1 s_2 s_4) Jr ?_)));refine q_k ?_
 rcases Jc h with⟨hc4,h⟩|⟨hc4,h⟩
 ·refine Jd (decide ((Zx0 s_3)≥(64:Int))) (by kernel_rfl) hc4 ?_;refine Ja ?_;obtain⟨r5,e6,h⟩:=bind_some h;refine Jb hT [(1,.call [] (.v (.one (.slc 0))) [(0,.err 124 126 26 r5)])] ((sO 2 (.slc 0))::(.h 0,.e (.err 124 126 26 r5))::(Zx5 H_0)::Zx7 s_3 s_1 s_2 s_4) (Jz ((VJ ⟨#[109,97,107,105,110,103]⟩ (Zx0 s_3) (9:Int) r5 e6).tr1 [(8900,.slc 0)] [] trivial)) ?_;refine q_k (Jj (Ji ?_));have h:=Option.some.inj h;subst h;refine Vx [(8900,.slc 0),(8901,.slc 9000)] [sO 2 (.slc 8900),(.h 8900,.e (.err 124 126 26 r5)),(.h 8901,.e (.arena true [9000] H_0)),hD 9000,hB 9001 76 [.slc 9002,.slc 9003,.int .i64 s_3,.slc 9004]] ⟨.err',.arena' (bs:=[]),.dead,.blk',trivial⟩ ?_;exact Jl hT (.v (.one (.slc 8900))) [(8900,.err 124 126 26 r5),(Zx6 s_3),(8901,.arena true [9000] H_0),(9000,.dead)] (by kernel_rfl) (by kernel_rfl) (by kernel_rfl)
 refine Jf (decide ((Zx0 s_3)≥(64:Int))) (by kernel_rfl) hc4 ?_;refine Jk (q_k (Ja ?_));obtain⟨⟨r7,H8⟩,e9,h⟩:=bind_some h;obtain⟨r10,e11,h⟩:=bind_some h;refine Jb hT [(6,.callA [(9000,.rw),(9002,.apt 9000)] (.v (.one (.int .i64 r7))) [(1,.arena true [9000] H8),(9000,.dead)]),(7,.call [] (.v (.one (.slc 2))) [(2,.err 124 126 26 r10)])] ((sO 0 (.ptr 9001 0))::(sI 3 .i64 (Zx0 s_3))::(sO 4 (.slc 2))::(Zx3 H8)::(Zx4 r10)::Zx7 s_3 s_1 s_2 s_4) (Je ((XS H_0 s_1 (Zx0 s_3) (r7,H8) e9).tr1 [(9001,.slc 9002),(9000,.slc 9000),(8900,.slc 1)] [(9000,.arena true [] H_0),(9002,.apt 9000 s_1)] ⟨.arena' (bs:=[]),.apts' (κb:=9000),trivial⟩) (Jz ((VJ ⟨#[109,97,107,105,110,103]⟩ (Zx0 s_3) r7 r10 e11).tr1 [(8900,.slc 2)] [] trivial))) ?_;refine q_k (Ja (Ja (Jb hT [(1,.ei)] ((sO 0 (.ptr 9001 0))::(sI 3 .i64 (Zx0 s_3))::(sO 4 (.slc 2))::(sB 33 (decide (r10=0)))::(Zx3 H8)::(Zx4 r10)::Zx7 s_3 s_1 s_2 s_4) Jr ?_)));refine q_k ?_;obtain⟨m12,e14,h⟩:=bind_some h;refine WW (σ1:=[sO 4 (.slc 2),(Zx3 H8),(Zx4 r10),hB 9001 76 [.slc 9002,.slc 9003,.int .i64 m12,.slc 9004],(Zx1 s_1),(Zx2 s_2),hR 9004 .i64 s_4]) ?_ ?_
 ·skip
  try dsimp only at h
  refine q_k (Ja (Jb hT [] [sO 2 (.slc 2),(Zx3 H8),(Zx4 r10),hB 9001 76 [.slc 9002,.slc 9003,.int .i64 m12,.slc 9004],(Zx1 s_1),(Zx2 s_2),hR 9004 .i64 s_4] Jr ?_));refine q_k (Jj ?_);have h:=Option.some.inj h;subst h;refine Vx [(8900,.slc 2),(8901,.slc 1)] [sO 2 (.slc 8900),(.h 8900,.e (.err 124 126 26 r10)),(.h 8901,.e (.arena true [9000] H8)),hD 9000,hB 9001 76 [.slc 9002,.slc 9003,.int .i64 m12,.slc 9004]] ⟨.err',.arena' (bs:=[9000]),.dead,.blk',trivial⟩ ?_;exact Jl hT (.v (.one (.slc 8900))) [(8900,.err 124 126 26 r10),(9001,.blk 76 [.slc 9002,.slc 9003,.int .i64 m12,.slc 9004]),(8901,.arena true [9000] H8),(9000,.dead)] (by kernel_rfl) (by kernel_rfl) (by kernel_rfl)
 ·intro hj0
  clear h
  have h:=e14
  clear e14
  rcases Jc h with⟨hc13,h⟩|⟨hc13,h⟩
  ·refine Jd (decide (r10=0)) (by kernel_rfl) hc13 ?_;refine Jb hT [] [sO 4 (.slc 2),(Zx3 H8),(Zx4 r10),hB 9001 76 [.slc 9002,.slc 9003,.int .i64 (Zx0 s_3),.slc 9004],(Zx1 s_1),(Zx2 s_2),hR 9004 .i64 s_4] Jr ?_;have h:=Option.some.inj h;subst h;exact WJ [sO 4 (.slc 2),(Zx3 H8),(Zx4 r10),hB 9001 76 [.slc 9002,.slc 9003,.int .i64 (Zx0 s_3),.slc 9004],(Zx1 s_1),(Zx2 s_2),hR 9004 .i64 s_4] hj0
  refine Jf (decide (r10=0)) (by kernel_rfl) hc13 ?_;refine Jk ?_;have h:=Option.some.inj h;subst h;exact WJ ((sO 4 (.slc 2))::(Zx3 H8)::(Zx4 r10)::Zx7 s_3 s_1 s_2 s_4) hj0

abbrev Zy0 (H_0:AH) (a13:List Int) (p1:MV):=(AH.wr (H_0++[MO.row 5 1 (a13.map (MV.int .u8))]) p1 0 [MV.slc (List.length H_0) 1 0 (List.length a13)])
abbrev Zy1 (H_0:AH) (a13:List Int) (p1:MV):=(AH.wr (AH.app (Zy0 H_0 a13 p1) (AH.rd (Zy0 H_0 a13 p1) p1 2) 3 1 ([(↑(MV.len (AH.rd (Zy0 H_0 a13 p1) p1 0)):Int)].map (MV.int .i64))) p1 2 [MV.slc (List.length (Zy0 H_0 a13 p1)) 1 0 (MV.len (AH.rd (Zy0 H_0 a13 p1) p1 2)+(List.length [(↑(MV.len (AH.rd (Zy0 H_0 a13 p1) p1 0)):Int)]))])
abbrev Zy2 (H_0:AH):Gw.Loc×Cont:=(.h 9000,.e (.arena true [] H_0))
abbrev Zy3 (d_1:MV):Gw.Loc×Cont:=(.h 9001,.e (.apt 9000 d_1))
abbrev Zy4 (b_3:List Int) (H_0:AH) (d_1:MV) (r8:Int):=(decide ((↑(List.length b_3):Int)>(IntKind.i64.wrap ((MV.num (AH.rd H_0 d_1 0))-r8))))
theorem Jaf (H_0:AH) (d_1:MV) (n_2:Int) (b_3:List Int) (r:Int×AH) (h:WA H_0 d_1 n_2 b_3=some r):CallOk P 28 [.v (.one (.slc 9001)),.v (.one (.int .i64 n_2)),.v (.one (.slc 9002))] [(9000,.arena true [] H_0),(9001,.apt 9000 d_1),(9002,.rd .u8 b_3)] (.v (.one (.int .i64 r.1))) [(8900,.arena true [9000] r.2),(9000,.dead)]:=by
 refine Wr (N:=56) Tryz.func28 (by kernel_rfl) rfl rfl rfl [(9000,.arena true [] H_0),(9001,.apt 9000 d_1),(9002,.rd .u8 b_3)] (by kernel_rfl) ?_;intro _ B w0;show Tr P B 56 w0 _ _ (XF P Tryz.f28 (R1 _ _ B w0));unfold WA at h;refine Ja (Jb hT [] [sO 0 (.slc 9001),sI 1 .i64 n_2,sO 2 (.slc 9002),(Zy2 H_0),(Zy3 d_1),hR 9002 .u8 b_3] Jr ?_);refine q_k (Ja ?_);obtain⟨⟨p1,r2⟩,e3,h⟩:=bind_some h;refine Jb hT [(2,.callA [(9000,.ro),(9001,.apt 9000)] (.tup [.one (.slc 0),.one (.int .i64 r2)]) [(0,.apt 9000 p1)])] [sO 0 (.slc 9001),sO 2 (.slc 9002),sO 7 (.slc 0),sI 8 .i64 r2,(.h 0,.e (.apt 9000 p1)),(Zy2 H_0),(Zy3 d_1),hR 9002 .u8 b_3] (Jz ((Wq H_0 d_1 n_2 (p1,r2) e3).tr1 [(9001,.slc 9001),(9000,.slc 9000),(8900,.slc 0)] [(9000,.arena false [] H_0),(9001,.apt 9000 d_1)] ⟨.arena' (bs:=[]),.apts' (κb:=9000),trivial⟩)) ?_;refine q_k (Ja (Jp (Ja (Jb hT [] [sO 0 (.slc 9001),sO 2 (.slc 9002),sO 7 (.slc 0),sI 8 .i64 r2,sB 15 (r2 !=(0:Int)),(.h 0,.e (.apt 9000 p1)),(Zy2 H_0),(Zy3 d_1),hR 9002 .u8 b_3] Jr ?_))));refine q_k ?_
 rcases Jc h with⟨hc4,h⟩|⟨hc4,h⟩
 ·refine Jd (r2 !=(0:Int)) (by kernel_rfl) hc4 ?_;refine Ja (Jb hT [] [sI 6 .i64 r2,(Zy2 H_0)] Jr ?_);refine q_k (Jj (Jy (Ji ?_)));have h:=Option.some.inj h;subst h;refine Vx [(8900,.slc 9000)] [sI 6 .i64 r2,(.h 8900,.e (.arena true [9000] H_0)),hD 9000] ⟨.arena' (bs:=[]),.dead,trivial⟩ ?_;exact Jl hT (.v (.one (.int .i64 r2))) [(8900,.arena true [9000] H_0),(9000,.dead)] (by kernel_rfl) (by kernel_rfl) (by kernel_rfl)
 refine Jf (r2 !=(0:Int)) (by kernel_rfl) hc4 ?_;refine Ja ?_;obtain⟨hn5,hn6,hn7,h⟩:=it3 h;obtain⟨r8,e9,h⟩:=bind_some h;refine Wy hT hM [(3,.ar 9000 []),(4,.ar 9000 []),(5,.ar 9000 []),(7,.callA [(9000,.ro),(9001,.apt 9000)] (.v (.one (.int .i64 r8))) [])] [sO 0 (.slc 9001),sO 2 (.slc 9002),sO 7 (.slc 0),sB 19 (Zy4 b_3 H_0 d_1 r8),(.h 0,.e (.apt 9000 p1)),(Zy2 H_0),(Zy3 d_1),hR 9002 .u8 b_3] (Je hn5 (Je hn5 (Je hn6 (Je hn7 (Jz ((Ja1 H_0 d_1 r8 e9).tr1 [(9001,.slc 9001),(9000,.slc 9000)] [(9000,.arena false [] H_0),(9001,.apt 9000 d_1)] ⟨.arena' (bs:=[]),.apts' (κb:=9000),trivial⟩)))))) ?_;refine q_k ?_
 rcases Jc h with⟨hc10,h⟩|⟨hc10,h⟩
 ·refine Jd (Zy4 b_3 H_0 d_1 r8) (by kernel_rfl) hc10 ?_;refine Ja (Jb hT [] [sI 6 .i64 (9:Int),(Zy2 H_0)] Jr ?_);refine q_k (Jj (Jy (Ji ?_)));have h:=Option.some.inj h;subst h;refine Vx [(8900,.slc 9000)] [sI 6 .i64 (9:Int),(.h 8900,.e (.arena true [9000] H_0)),hD 9000] ⟨.arena' (bs:=[]),.dead,trivial⟩ ?_;exact Jl hT (.v (.one (.int .i64 (9:Int)))) [(8900,.arena true [9000] H_0),(9000,.dead)] (by kernel_rfl) (by kernel_rfl) (by kernel_rfl)
 refine Jf (Zy4 b_3 H_0 d_1 r8) (by kernel_rfl) hc10 ?_;refine Jk (q_b 0 ?_);refine q_k (Ja ?_);obtain⟨hn11,hn12,hn15,h⟩:=it3 h;obtain⟨a13,e14,h⟩:=bind_some h;refine Jb hT [(2,.ar 9000 []),(3,.ar 9000 []),(4,.ar 9000 [1]),(6,.lk 2),(7,.callA [(2,.rows .u8 9000 1 9002)] (.v (.one (.slc 3))) [(3,.own 5 .u8 a13)]),(8,.ar 9000 []),(9,.ar 9000 []),(10,.ar 9000 [4])] [sO 0 (.slc 9001),sO 7 (.slc 0),(.h 0,.e (.apt 9000 p1)),(.h 4,.e (.arena true [9000] (Zy0 H_0 a13 p1))),(Zy3 d_1)] (Je hn11 (Je hn11 (Je hn12 (Je hn15 (Je ((VA [AH.ints H_0 (AH.rd H_0 p1 0),b_3] a13 e14).tr1 [(9000,.slc 2),(8900,.slc 3)] [(2,.rows (.bs .u8 [AH.ints H_0 (AH.rd H_0 p1 0),b_3]))] ⟨.rows',trivial⟩) (Je hn11 (Je hn11 (Je hn12 (Jz (show 1≤1 from by decide)))))))))) ?_;refine q_k (Ja ?_);obtain⟨hn16,h⟩:=Jo h;refine XE [] [sO 0 (.slc 9001),sO 7 (.slc 0),(.h 0,.e (.ptn 4 p1)),(.h 4,.e (.arena true [9000] (Zy0 H_0 a13 p1))),(Zy3 d_1)] ⟨.ptn' (κb:=9000) (κ0:=4) (rw:=true) (bs:=[9000]) (D:=(Zy0 H_0 a13 p1)) hn16,.arena' (bs:=[9000]),.apts' (κb:=9000),trivial⟩ ?_;obtain⟨hn17,hn18,hn19,hn20,hn21,hn22,h⟩:=it6 h;refine Wy hT hM [(2,.pn),(3,.pn),(4,.ar 4 [5]),(6,.pn),(7,.pn),(8,.ar 4 [6]),(9,.ar 4 []),(10,.key 7),(11,.ar 4 [8,9]),(12,.pn),(13,.pn),(14,.ar 8 [10])] [sO 0 (.slc 9001),(.h 10,.e (.arena true [8,4,9000] (Zy1 H_0 a13 p1))),(Zy3 d_1)] (Je hn17 (Je hn18 (Je hn19 (Je hn20 (Je hn21 (Je hn22 (Jz (show 1≤1 from by decide)))))))) ?_;refine q_k (Ja ?_);obtain⟨⟨r23,H24⟩,e25,h⟩:=bind_some h;refine Jb hT [(1,.callA [(10,.rw),(9001,.apt 10)] (.v (.one (.int .i64 r23))) [(11,.arena true [10] H24),(10,.dead)])] [sI 6 .i64 r23,(.h 11,.e (.arena true [10,8,4,9000] H24))] (Jz ((We (Zy1 H_0 a13 p1) d_1 (r23,H24) e25).tr1 [(9001,.slc 9001),(9000,.slc 10),(8900,.slc 11)] [(10,.arena true [] (Zy1 H_0 a13 p1)),(9001,.apt 10 d_1)] ⟨.arena' (bs:=[]),.apts' (κb:=10),trivial⟩)) ?_
 refine q_k (Jj ?_);have h:=Option.some.inj h;subst h;refine Vx [(8900,.slc 11)] [sI 6 .i64 r23,(.h 8900,.e (.arena true [9000] H24)),hD 9000] ⟨.arena' (bs:=[10,8,4,9000]),.dead,trivial⟩ ?_;exact Jl hT (.v (.one (.int .i64 r23))) [(8900,.arena true [9000] H24),(9000,.dead)] (by kernel_rfl) (by kernel_rfl) (by kernel_rfl)

abbrev Zz0 (s_0:List Int):=(↑(List.length s_0):Int)
theorem YR (s_0:List Int) (v_1:Int) (r:Int) (h:Wk s_0 v_1=some r):CallOk P 79 [.v (.one (.slc 9000)),.v (.one (.int .i64 v_1))] [(9000,.rd .i64 s_0)] (.v (.one (.int .i64 r))) []:=by
 refine Wr (N:=19) Tryz.func79 (by kernel_rfl) rfl rfl rfl [(9000,.rd .i64 s_0)] (by kernel_rfl) ?_;intro _ B w0;show Tr P B 19 w0 _ _ (XF P Tryz.f79 (R1 _ _ B w0));unfold Wk at h;refine Ja (Jb hT [] [sO 0 (.slc 9000),sI 1 .i64 v_1,hR 9000 .i64 s_0] Jr ?_);refine q_k (Ja (Ja (Jb hT [] [sO 0 (.slc 9000),sI 1 .i64 v_1,sI 7 .i64 (Zz0 s_0),sI 8 .i64 (0:Int),hR 9000 .i64 s_0] Jr ?_)));refine q_k (Jp ?_);obtain⟨rr0,e5,h⟩:=bind_some h;refine XE [] [sO 0 (.slc 9000),sI 1 .i64 v_1,sI 7 .i64 (Zz0 s_0),sI 8 .i64 (0:Int),hR 9000 .i64 s_0] ⟨.rd',trivial⟩ ?_
 refine VH (id:=0) (α:=Int) (β:=Unit) (ρ:=Int) (fun z=>[sO 0 (.slc 9000),sI 1 .i64 v_1,sI 7 .i64 (Zz0 s_0),sI 8 .i64 z,hR 9000 .i64 s_0]) (fun z=>[]) (fun v σ=>Jc5 T (Gw.look σ) Tryz.f79.results.toList=some (.v (.one (.int .i64 v)))∧Gw.hasAll σ []=some (Gw.preSS [])) (fun k z=>JB s_0 v_1 k z) rr0 (fun _=>rfl) (((Zz0 s_0)- (0:Int)).toNat+1) (0:Int) e5 ?_ ?_ ?_
 ·intro z hz;subst hz
  rcases z with _
  try dsimp only at h
  refine Vy (q_k (Ja (Jb hT [] [sI 4 .i64 (-1:Int)] Jr ?_)));refine q_k (Jj ?_);have h:=Option.some.inj h;subst h;refine WJ [sI 4 .i64 (-1:Int)] ?_;exact Jl hT (.v (.one (.int .i64 (-1:Int)))) [] (by kernel_rfl) (by kernel_rfl) (by kernel_rfl)
 ·intro v σ hz hv;subst hz;have h:=Option.some.inj h;subst h;refine Jy ?_;refine Ji ?_;exact Jl hT _ _ hv.1 hv.2 (by kernel_rfl)
 ·clear h e5
  intro k ih0 hx0 hr0 x1 h
  try dsimp only at h
  refine Ja (Jb hT [] [sO 0 (.slc 9000),sI 1 .i64 v_1,sI 7 .i64 (Zz0 s_0),sI 8 .i64 x1,sB 9 (decide (x1<(Zz0 s_0))),hR 9000 .i64 s_0] Jr ?_);refine q_k (Ja ?_)
  rcases Jc h with⟨hc2,h⟩|⟨hc2,h⟩
  ·refine Jd (decide (x1<(Zz0 s_0))) (by kernel_rfl) hc2 ?_;refine Jk (q_k (Ja (Jp (Ja (Jb hT [] [sO 0 (.slc 9000),sI 1 .i64 v_1,sI 5 .i64 x1,sI 7 .i64 (Zz0 s_0),sI 8 .i64 x1,hR 9000 .i64 s_0] Jr ?_)))));refine q_k (Ja ?_);obtain⟨hn3,h⟩:=Jo h;refine Jb hT [] [sO 0 (.slc 9000),sI 1 .i64 v_1,sI 5 .i64 x1,sI 7 .i64 (Zz0 s_0),sI 8 .i64 x1,sB 16 (v_1==(s_0.getD x1.toNat 0)),hR 9000 .i64 s_0] (Je hn3 (Jz hn3.2)) ?_;refine q_k ?_
   rcases Jc h with⟨hc4,h⟩|⟨hc4,h⟩
   ·refine Jd (v_1==(s_0.getD x1.toNat 0)) (by kernel_rfl) hc4 ?_;refine Ja (Jb hT [] [sI 4 .i64 x1] Jr ?_);refine q_k (Jj (Jy (Ji (Wj ?_))));have h:=Option.some.inj h;subst h
    exact WJ [sI 4 .i64 x1] (hr0 x1 _ rfl ⟨by kernel_rfl,by kernel_rfl⟩)
   refine Jf (v_1==(s_0.getD x1.toNat 0)) (by kernel_rfl) hc4 ?_;refine Jk (q_b 1 ?_);refine q_k (Jb hT [] [sO 0 (.slc 9000),sI 1 .i64 v_1,sI 7 .i64 (Zz0 s_0),sI 8 .i64 (IntKind.i64.wrap (x1+(1:Int))),hR 9000 .i64 s_0] Jr ?_);refine Jcq ?_;exact Jac [sO 0 (.slc 9000),sI 1 .i64 v_1,sI 7 .i64 (Zz0 s_0),sI 8 .i64 (IntKind.i64.wrap (x1+(1:Int))),hR 9000 .i64 s_0] (ih0 (IntKind.i64.wrap (x1+(1:Int))) h)
  refine Jf (decide (x1<(Zz0 s_0))) (by kernel_rfl) hc2 ?_;refine VY (Vr (JY ?_));have h:=Option.some.inj h;subst h;exact WJ [] (hx0 () rfl)

theorem Yf (s_0:List Int) (v_1:Int) (r:Bool) (h:Vt s_0 v_1=some r):CallOk P 52 [.v (.one (.slc 9000)),.v (.one (.int .i64 v_1))] [(9000,.rd .i64 s_0)] (.v (.one (.bool r))) []:=by
 refine Wr (N:=9) Tryz.func52 (by kernel_rfl) rfl rfl rfl [(9000,.rd .i64 s_0)] (by kernel_rfl) ?_
 intro _ B w0
 show Tr P B 9 w0 _ _ (XF P Tryz.f52 (R1 _ _ B w0))
 unfold Vt at h
 refine Ja ?_
 refine Jb hT [] [sO 0 (.slc 9000),sI 1 .i64 v_1,hR 9000 .i64 s_0] Jr ?_
 refine q_k ?_
 refine Ja ?_
 obtain⟨r1,e2,h⟩:=bind_some h
 refine Jb hT [(2,.call [9000] (.v (.one (.int .i64 r1))) [])] [sB 4 (decide (r1≥(0:Int)))] (Jz ((YR s_0 v_1 r1 e2).tr1 [(9000,.slc 9000)] [(9000,.rd .i64 s_0)] ⟨.rd',trivial⟩)) ?_
 refine q_k ?_
 refine Jj ?_
 have h:=Option.some.inj h
 subst h
 refine WJ [sB 4 (decide (r1≥(0:Int)))] ?_
 exact Jl hT (.v (.one (.bool (decide (r1≥(0:Int)))))) [] (by kernel_rfl) (by kernel_rfl) (by kernel_rfl)

abbrev ZA0:Gw.Loc×Cont:=(.h 9999,.e (.gv 0 hv))
abbrev ZA1 (s_4:List Int):Gw.Loc×Cont:=(.h 9004,.e (.ownf 3 .i64 s_4))
abbrev ZA2 (s_2:List Int):Gw.Loc×Cont:=(.h 9003,.e (.owni 91 2 s_2))
abbrev ZA3 (H12:AH):Gw.Loc×Cont:=(.h 44,.e (.arena true [9000] H12))
abbrev ZA4 (s_1:MV):Gw.Loc×Cont:=(.h 9002,.e (.apt 44 s_1))
abbrev ZA5 (s_1:MV):Gw.Loc×Cont:=(.h 9002,.e (.apt 9000 s_1))
abbrev ZA6 (s_2:List Int) (r9:Int) (r23:Int):Gw.Loc×Cont:=(.h 49,.e (.owni 91 2 (s_2++[r9,r23])))
abbrev ZA7 (H_0:AH):Gw.Loc×Cont:=(.h 9000,.e (.arena true [] H_0))
abbrev ZA8 (r9:Int) (s_2:List Int) (s_4:List Int) (ya:Gw.Loc×Cont):List (Gw.Loc×Cont):=[hB 9001 76 [.slc 9002,.slc 9003,.int .i64 r9,.slc 9004],ya,(ZA2 s_2),(ZA1 s_4),ZA0]
abbrev ZA9 (H_0:AH) (s_3:Int) (s_1:MV) (s_2:List Int) (s_4:List Int):List (Gw.Loc×Cont):=[(ZA7 H_0),hB 9001 76 [.slc 9002,.slc 9003,.int .i64 s_3,.slc 9004],(ZA5 s_1),(ZA2 s_2),(ZA1 s_4),ZA0]
theorem JO (H_0:AH) (s_1:MV) (s_2:List Int) (s_3:Int) (s_4:List Int) (r_5:Int) (r_6:List Int) (r:Int×List Int×Int×List Int×AH) (h:Js H_0 s_1 s_2 s_3 s_4 r_5 r_6=some r):CallOk P 13 [.v (.one (.ptr 9001 0)),.v (.agg [.int .i64 r_5,.slc 9005])] [(9000,.arena true [] H_0),(9001,.blk 76 [.slc 9002,.slc 9003,.int .i64 s_3,.slc 9004]),(9002,.apt 9000 s_1),(9003,.owni 91 2 s_2),(9004,.ownf 3 .i64 s_4),(9005,.rd .u8 r_6),(9999,.gv 0 hv)] (.v (.one (.int .i64 r.1))) [(9003,.dead),(9004,.dead),(8901,.owni 91 2 r.2.1),(8902,.ownf 3 .i64 r.2.2.2.1),(9001,.blk 76 [.slc 9002,.slc 8901,.int .i64 r.2.2.1,.slc 8902]),(8900,.arena true [9000] r.2.2.2.2),(9000,.dead)]:=by
 refine Wr (N:=92) Tryz.func13 (by kernel_rfl) rfl rfl rfl [(9000,.arena true [] H_0),(9001,.blk 76 [.slc 9002,.slc 9003,.int .i64 s_3,.slc 9004]),(9002,.apt 9000 s_1),(9003,.owni 91 2 s_2),(9004,.ownf 3 .i64 s_4),(9005,.rd .u8 r_6),(9999,.gv 0 hv)] (by kernel_rfl) ?_;intro _ B w0;show Tr P B 92 w0 _ _ (XF P Tryz.f13 (R1 _ _ B w0));unfold Js at h;refine Ja (Jb hT [(0,.key 0)] [sO 0 (.ptr 9001 0),sO 3 (.ptr 0 0),hB 0 37 [.int .i64 r_5,.slc 9005],(ZA7 H_0),hB 9001 76 [.slc 9002,.slc 9003,.int .i64 s_3,.slc 9004],(ZA5 s_1),(ZA2 s_2),(ZA1 s_4),hR 9005 .u8 r_6,ZA0] Jr ?_);refine q_k (Ja ?_);obtain⟨⟨a1,r2⟩,e3,h⟩:=bind_some h;refine Jb hT [(1,.call [9005] (.tup [.one (.slc 1),.one (.int .i64 r2)]) [(1,.own 5 .u8 a1)])] ((sO 0 (.ptr 9001 0))::(sO 5 (.slc 1))::(sI 6 .i64 r2)::(hO 1 5 .u8 a1)::ZA9 H_0 s_3 s_1 s_2 s_4) (Jz ((Jej [] r_5 r_6 (a1,r2) e3).tr1 [(9000,.nils),(9001,.slc 9005),(8900,.slc 1)] [(9005,.rd .u8 r_6)] ⟨.nilrd,.rd',trivial⟩)) ?_;refine q_k (Ja (Jp (Ja (Jb hT [] ((sO 0 (.ptr 9001 0))::(sO 5 (.slc 1))::(sI 6 .i64 r2)::(sB 13 (r2 !=(0:Int)))::(hO 1 5 .u8 a1)::ZA9 H_0 s_3 s_1 s_2 s_4) Jr ?_))));refine q_k ?_
 rcases Jc h with⟨hc4,h⟩|⟨hc4,h⟩
 ·refine Jd (r2 !=(0:Int)) (by kernel_rfl) hc4 ?_;refine Ja (Jb hT [] ((sI 4 .i64 r2)::ZA9 H_0 s_3 s_1 s_2 s_4) Jr ?_);refine q_k (Jj (Jy (Ji ?_)));have h:=Option.some.inj h;subst h;refine Vx [(8900,.slc 9000),(8901,.slc 9003),(8902,.slc 9004)] [sI 4 .i64 r2,(.h 8900,.e (.arena true [9000] H_0)),(.h 8901,.e (.owni 91 2 s_2)),(.h 8902,.e (.ownf 3 .i64 s_4)),hD 9000,hB 9001 76 [.slc 9002,.slc 8901,.int .i64 s_3,.slc 8902],hD 9003,hD 9004] ⟨.arena' (bs:=[]),.owni',.ownf',.dead,.blk',.dead,.dead,trivial⟩ ?_;exact Jl hT (.v (.one (.int .i64 r2))) [(9003,.dead),(9004,.dead),(8901,.owni 91 2 s_2),(8902,.ownf 3 .i64 s_4),(9001,.blk 76 [.slc 9002,.slc 8901,.int .i64 s_3,.slc 8902]),(8900,.arena true [9000] H_0),(9000,.dead)] (by kernel_rfl) (by kernel_rfl) (by kernel_rfl)
 refine Jf (r2 !=(0:Int)) (by kernel_rfl) hc4 ?_;refine Ja ?_;obtain⟨b5,e6,h⟩:=bind_some h;refine Jb hT [(4,.callA [(9000,.ro),(9002,.apt 9000)] (.v (.one (.bool b5))) [])] ((sO 0 (.ptr 9001 0))::(sO 5 (.slc 1))::(sB 17 b5)::(hO 1 5 .u8 a1)::ZA9 H_0 s_3 s_1 s_2 s_4) (Jz ((WT H_0 s_1 b5 e6).tr1 [(9001,.slc 9002),(9000,.slc 9000)] [(9000,.arena false [] H_0),(9002,.apt 9000 s_1)] ⟨.arena' (bs:=[]),.apts' (κb:=9000),trivial⟩)) ?_;refine q_k ?_
 rcases Jc h with⟨hc7,h⟩|⟨hc7,h⟩
 ·refine Jd b5 (by kernel_rfl) hc7 ?_;refine Ja (Jb hT [] ((sI 4 .i64 (8:Int))::ZA9 H_0 s_3 s_1 s_2 s_4) Jr ?_);refine q_k (Jj (Jy (Ji ?_)));have h:=Option.some.inj h;subst h;refine Vx [(8900,.slc 9000),(8901,.slc 9003),(8902,.slc 9004)] [sI 4 .i64 (8:Int),(.h 8900,.e (.arena true [9000] H_0)),(.h 8901,.e (.owni 91 2 s_2)),(.h 8902,.e (.ownf 3 .i64 s_4)),hD 9000,hB 9001 76 [.slc 9002,.slc 8901,.int .i64 s_3,.slc 8902],hD 9003,hD 9004] ⟨.arena' (bs:=[]),.owni',.ownf',.dead,.blk',.dead,.dead,trivial⟩ ?_;exact Jl hT (.v (.one (.int .i64 (8:Int)))) [(9003,.dead),(9004,.dead),(8901,.owni 91 2 s_2),(8902,.ownf 3 .i64 s_4),(9001,.blk 76 [.slc 9002,.slc 8901,.int .i64 s_3,.slc 8902]),(8900,.arena true [9000] H_0),(9000,.dead)] (by kernel_rfl) (by kernel_rfl) (by kernel_rfl)
 refine Jf b5 (by kernel_rfl) hc7 ?_;refine Jk (q_b 0 ?_);refine q_k (Ja ?_);obtain⟨⟨r8,r9,H10⟩,e11,h⟩:=bind_some h;refine Jb hT [(1,.callA [(9000,.rw),(9001,.same),(9002,.apt 9000),(9003,.same),(9004,.same)] (.v (.one (.slc 3))) [(3,.err 124 126 26 r8),(9001,.blk 76 [.slc 9002,.slc 9003,.int .i64 r9,.slc 9004]),(2,.arena true [9000] H10),(9000,.dead)])] ((sO 0 (.ptr 9001 0))::(sO 5 (.slc 1))::(sO 7 (.slc 3))::(hO 1 5 .u8 a1)::(.h 2,.e (.arena true [9000] H10))::(.h 3,.e (.err 124 126 26 r8))::ZA8 r9 s_2 s_4 (ZA5 s_1)) (Jz ((Jao H_0 s_1 (List.length s_2/2) s_3 s_4 (r8,r9,H10) e11).tr1 [(9001,.slc 9001),(9002,.slc 9002),(9003,.slc 9003),(9004,.slc 9004),(9000,.slc 9000),(8901,.slc 2),(8900,.slc 3)] [(9000,.arena true [] H_0),(9001,.blk 76 [.slc 9002,.slc 9003,.int .i64 s_3,.slc 9004]),(9002,.apt 9000 s_1),(9003,.owni 91 2 s_2),(9004,.ownf 3 .i64 s_4)] ⟨.arena' (bs:=[]),.blk',.apts' (κb:=9000),.rdni' (e:=91) (sz:=2) (l:=s_2),.ownfr' (e:=3),trivial⟩)) ?_;refine q_k (Ja (Ja (Jb hT [(1,.ei)] ((sO 0 (.ptr 9001 0))::(sO 5 (.slc 1))::(sO 7 (.slc 3))::(sB 26 (decide (r8=0)))::(hO 1 5 .u8 a1)::(.h 2,.e (.arena true [9000] H10))::(.h 3,.e (.err 124 126 26 r8))::ZA8 r9 s_2 s_4 (ZA5 s_1)) Jr ?_)));refine q_k ?_;obtain⟨rj0,e32,h⟩:=bind_some h;refine WW (σ1:=((sO 0 (.ptr 9001 0))::(sO 7 (.slc 45))::(.h 44,.e (.arena true [9000] rj0.1))::(.h 45,.e (.err 124 126 26 rj0.2))::ZA8 r9 s_2 s_4 (ZA4 s_1))) ?_ ?_
 ·rcases rj0 with⟨H12,err13⟩
  try dsimp only at h
  refine q_k (Ja (Ja (Jb hT [(1,.ei)] ((sO 0 (.ptr 9001 0))::(sO 7 (.slc 45))::(sB 43 (!(decide (err13=0))))::(ZA3 H12)::(.h 45,.e (.err 124 126 26 err13))::ZA8 r9 s_2 s_4 (ZA4 s_1)) Jr ?_)));refine q_k ?_
  rcases Jc h with⟨hc20,h⟩|⟨hc20,h⟩
  ·refine Jd (!(decide (err13=0))) (by kernel_rfl) hc20 ?_;refine Ja ?_;obtain⟨r21,e22,h⟩:=bind_some h;refine Jb hT [(1,.call [9999,45] (.v (.one (.int .i64 r21))) [])] ((sI 4 .i64 r21)::(ZA3 H12)::ZA8 r9 s_2 s_4 (ZA4 s_1)) (Jz ((Xk err13 r21 e22).tr1 [(9999,.slc 9999),(9000,.slc 45)] [(9999,.gv 0 hv),(45,.err 124 126 26 err13)] ⟨.err',.gv',trivial⟩)) ?_;refine q_k (Jj (Ji ?_));have h:=Option.some.inj h;subst h;refine Vx [(8900,.slc 44),(8901,.slc 9003),(8902,.slc 9004)] [sI 4 .i64 r21,(.h 8900,.e (.arena true [9000] H12)),(.h 8901,.e (.owni 91 2 s_2)),(.h 8902,.e (.ownf 3 .i64 s_4)),hD 9000,hB 9001 76 [.slc 9002,.slc 8901,.int .i64 r9,.slc 8902],hD 9003,hD 9004] ⟨.arena' (bs:=[9000]),.owni',.ownf',.dead,.blk',.dead,.dead,trivial⟩ ?_;exact Jl hT (.v (.one (.int .i64 r21))) [(9003,.dead),(9004,.dead),(8901,.owni 91 2 s_2),(8902,.ownf 3 .i64 s_4),(9001,.blk 76 [.slc 9002,.slc 8901,.int .i64 r9,.slc 8902]),(8900,.arena true [9000] H12),(9000,.dead)] (by kernel_rfl) (by kernel_rfl) (by kernel_rfl)
  refine Jf (!(decide (err13=0))) (by kernel_rfl) hc20 ?_;refine Jk (q_k (Ja ?_));obtain⟨r23,e24,h⟩:=bind_some h;obtain⟨hn25,h⟩:=Jo h;refine Wy hT hM [(17,.callA [(44,.ro),(9002,.apt 44)] (.v (.one (.int .i64 r23))) []),(19,.oi [48]),(20,.oi [49])] [sO 0 (.ptr 9001 0),(ZA3 H12),(ZA6 s_2 r9 r23),hB 9001 76 [.slc 9002,.slc 49,.int .i64 r9,.slc 9004],(ZA4 s_1),(ZA1 s_4),ZA0] (Je ((Xv H12 s_1 r9 r23 e24).tr1 [(9001,.slc 9002),(9000,.slc 44)] [(44,.arena false [] H12),(9002,.apt 44 s_1)] ⟨.arena' (bs:=[]),.apts' (κb:=44),trivial⟩) (Jz hn25)) ?_;refine q_k (Ja (Ja ?_));obtain⟨b26,e27,h⟩:=bind_some h;refine Wy hT hM [(8,.call [9004] (.v (.one (.bool b26))) [])] [sO 0 (.ptr 9001 0),sB 78 (!b26),(ZA3 H12),(ZA6 s_2 r9 r23),hB 9001 76 [.slc 9002,.slc 49,.int .i64 r9,.slc 9004],(ZA4 s_1),(ZA1 s_4),ZA0] (Jz ((Yf s_4 r9 b26 e27).tr1 [(9000,.slc 9004)] [(9004,.ownf 3 .i64 s_4)] ⟨.ownfr' (e:=3),trivial⟩)) ?_;refine q_k ?_;obtain⟨m28,e31,h⟩:=bind_some h;refine WW (σ1:=[(ZA3 H12),(ZA6 s_2 r9 r23),(.h 90,.e (.ownf 3 .i64 m28)),hB 9001 76 [.slc 9002,.slc 49,.int .i64 r9,.slc 90],(ZA4 s_1),ZA0]) ?_ ?_
  ·skip
   try dsimp only at h
   refine q_k (Ja (Jb hT [] [sI 4 .i64 (0:Int),(ZA3 H12),(ZA6 s_2 r9 r23),(.h 90,.e (.ownf 3 .i64 m28)),hB 9001 76 [.slc 9002,.slc 49,.int .i64 r9,.slc 90],(ZA4 s_1),ZA0] Jr ?_));refine q_k (Jj ?_);have h:=Option.some.inj h;subst h;refine Vx [(8900,.slc 44),(8901,.slc 49),(8902,.slc 90)] [sI 4 .i64 (0:Int),(.h 8900,.e (.arena true [9000] H12)),(.h 8901,.e (.owni 91 2 (s_2++[r9,r23]))),(.h 8902,.e (.ownf 3 .i64 m28)),hD 9000,hB 9001 76 [.slc 9002,.slc 8901,.int .i64 r9,.slc 8902],hD 9003,hD 9004] ⟨.arena' (bs:=[9000]),.owni',.ownf',.dead,.blk',.dead,.dead,trivial⟩ ?_;exact Jl hT (.v (.one (.int .i64 (0:Int)))) [(9003,.dead),(9004,.dead),(8901,.owni 91 2 (s_2++[r9,r23])),(8902,.ownf 3 .i64 m28),(9001,.blk 76 [.slc 9002,.slc 8901,.int .i64 r9,.slc 8902]),(8900,.arena true [9000] H12),(9000,.dead)] (by kernel_rfl) (by kernel_rfl) (by kernel_rfl)
  ·intro hj1
   clear h
   have h:=e31
   clear e31
   rcases Jc h with⟨hc29,h⟩|⟨hc29,h⟩
   ·refine Jd (!b26) (by kernel_rfl) hc29 ?_;obtain⟨hn30,h⟩:=Jo h;refine Wy hT hM [(9,.key 91),(10,.of [92])] [(ZA3 H12),(ZA6 s_2 r9 r23),(.h 92,.e (.ownf 3 .i64 (s_4++[r9]))),hB 9001 76 [.slc 9002,.slc 49,.int .i64 r9,.slc 92],(ZA4 s_1),ZA0] (Jz hn30) ?_;have h:=Option.some.inj h;subst h;exact Vx [(90,.slc 92)] [(ZA3 H12),(ZA6 s_2 r9 r23),(.h 90,.e (.ownf 3 .i64 (s_4++[r9]))),hB 9001 76 [.slc 9002,.slc 49,.int .i64 r9,.slc 90],(ZA4 s_1),ZA0] ⟨.arena' (bs:=[9000]),.owni',.ownf',.blk',.apts' (κb:=44),.gv',trivial⟩ hj1
   refine Jf (!b26) (by kernel_rfl) hc29 ?_;refine Jk ?_;have h:=Option.some.inj h;subst h;exact Vx [(90,.slc 9004)] [(ZA3 H12),(ZA6 s_2 r9 r23),(.h 90,.e (.ownf 3 .i64 s_4)),hB 9001 76 [.slc 9002,.slc 49,.int .i64 r9,.slc 90],(ZA4 s_1),ZA0] ⟨.arena' (bs:=[9000]),.owni',.ownf',.blk',.apts' (κb:=44),.gv',trivial⟩ hj1
 ·intro hj0
  clear h
  have h:=e32
  clear e32
  rcases Jc h with⟨hc14,h⟩|⟨hc14,h⟩
  ·refine Jd (decide (r8=0)) (by kernel_rfl) hc14 ?_;obtain⟨⟨r15,H16⟩,e17,h⟩:=bind_some h;obtain⟨r18,e19,h⟩:=bind_some h;refine Wy hT hM [(13,.callA [(2,.rw),(9002,.apt 2),(1,.same)] (.v (.one (.int .i64 r15))) [(46,.arena true [2] H16),(2,.dead)]),(14,.call [] (.v (.one (.slc 47))) [(47,.err 124 126 26 r18)])] ((sO 0 (.ptr 9001 0))::(sO 7 (.slc 47))::(.h 46,.e (.arena true [2,9000] H16))::(.h 47,.e (.err 124 126 26 r18))::ZA8 r9 s_2 s_4 (ZA5 s_1)) (Je ((Jaf H10 s_1 r9 a1 (r15,H16) e17).tr1 [(9001,.slc 9002),(9002,.slc 1),(9000,.slc 2),(8900,.slc 46)] [(2,.arena true [] H10),(9002,.apt 2 s_1),(1,.own 5 .u8 a1)] ⟨.arena' (bs:=[]),.apts' (κb:=2),.ownrd' (e:=5),trivial⟩) (Jz ((VJ ⟨#[97,112,112,101,110,100,105,110,103]⟩ r9 r15 r18 e19).tr1 [(8900,.slc 47)] [] trivial))) ?_;have h:=Option.some.inj h;subst h;exact Vx [(44,.slc 46),(45,.slc 47)] ((sO 0 (.ptr 9001 0))::(sO 7 (.slc 45))::(.h 44,.e (.arena true [9000] H16))::(.h 45,.e (.err 124 126 26 r18))::ZA8 r9 s_2 s_4 (ZA4 s_1)) ⟨.arena' (bs:=[2,9000]),.err',.blk',.apt' (κb:=9000) (κ0:=46) (rw:=true) (bs:=[2,9000]) (D:=H16),.owni',.ownf',.gv',trivial⟩ hj0
  refine Jf (decide (r8=0)) (by kernel_rfl) hc14 ?_;refine Jk ?_;have h:=Option.some.inj h;subst h;exact Vx [(44,.slc 2),(45,.slc 3)] ((sO 0 (.ptr 9001 0))::(sO 7 (.slc 45))::(.h 44,.e (.arena true [9000] H10))::(.h 45,.e (.err 124 126 26 r8))::ZA8 r9 s_2 s_4 (ZA4 s_1)) ⟨.arena' (bs:=[9000]),.err',.blk',.apt' (κb:=9000) (κ0:=2) (rw:=true) (bs:=[9000]) (D:=H10),.owni',.ownf',.gv',trivial⟩ hj0

abbrev ZB0 (a_0:List Int):=(↑(List.length a_0):Int)
abbrev ZB1 (a_0:List Int) (b_1:List Int) (ya:Gw.Loc×Cont):List (Gw.Loc×Cont):=[sO 0 (.slc 9000),sO 1 (.slc 9001),ya,hR 9000 .u8 a_0,hR 9001 .u8 b_1]
theorem Jdd (a_0:List Int) (b_1:List Int) (r:Bool) (h:Wp a_0 b_1=some r):CallOk P 36 [.v (.one (.slc 9000)),.v (.one (.slc 9001))] [(9000,.rd .u8 a_0),(9001,.rd .u8 b_1)] (.v (.one (.bool r))) []:=by
 refine Wr (N:=26) Tryz.func36 (by kernel_rfl) rfl rfl rfl [(9000,.rd .u8 a_0),(9001,.rd .u8 b_1)] (by kernel_rfl) ?_;intro _ B w0;show Tr P B 26 w0 _ _ (XF P Tryz.f36 (R1 _ _ B w0));unfold Wp at h;refine Ja (Jb hT [] [sO 0 (.slc 9000),sO 1 (.slc 9001),hR 9000 .u8 a_0,hR 9001 .u8 b_1] Jr ?_);refine q_k (Ja (Ja (Jb hT [] (ZB1 a_0 b_1 (sB 10 ((ZB0 a_0) !=(↑(List.length b_1):Int)))) Jr ?_)));refine q_k ?_
 rcases Jc h with⟨hc1,h⟩|⟨hc1,h⟩
 ·refine Jd ((ZB0 a_0) !=(↑(List.length b_1):Int)) (by kernel_rfl) hc1 ?_;refine Ja (Jb hT [] [sB 4 false] Jr ?_);refine q_k (Jj (Ji ?_));have h:=Option.some.inj h;subst h;refine WJ [sB 4 false] ?_;exact Jl hT (.v (.one (.bool false))) [] (by kernel_rfl) (by kernel_rfl) (by kernel_rfl)
 refine Jf ((ZB0 a_0) !=(↑(List.length b_1):Int)) (by kernel_rfl) hc1 ?_;refine Jk (q_k (Ja (Ja (Jb hT [] (ZB1 a_0 b_1 (sI 5 .i64 (0:Int))) Jr ?_))));refine q_k (Jp ?_);obtain⟨rr0,e7,h⟩:=bind_some h;refine XE [] (ZB1 a_0 b_1 (sI 5 .i64 (0:Int))) ⟨.rd',.rd',trivial⟩ ?_
 refine VH (id:=0) (α:=Int) (β:=Unit) (ρ:=Bool) (fun z=>(ZB1 a_0 b_1 (sI 5 .i64 z))) (fun z=>[]) (fun v σ=>Jc5 T (Gw.look σ) Tryz.f36.results.toList=some (.v (.one (.bool v)))∧Gw.hasAll σ []=some (Gw.preSS [])) (fun k z=>JW a_0 b_1 k z) rr0 (fun _=>rfl) (((ZB0 a_0)- (0:Int)).toNat+1) (0:Int) e7 ?_ ?_ ?_
 ·intro z hz;subst hz
  rcases z with _
  try dsimp only at h
  refine Vy (q_k (Ja (Jb hT [] [sB 4 true] Jr ?_)));refine q_k (Jj ?_);have h:=Option.some.inj h;subst h;refine WJ [sB 4 true] ?_;exact Jl hT (.v (.one (.bool true))) [] (by kernel_rfl) (by kernel_rfl) (by kernel_rfl)
 ·intro v σ hz hv;subst hz;have h:=Option.some.inj h;subst h;refine Jy ?_;refine Ji ?_;exact Jl hT _ _ hv.1 hv.2 (by kernel_rfl)
 ·clear h e7
  intro k ih0 hx0 hr0 i2 h
  try dsimp only at h
  refine Ja (Ja (Jb hT [] [sO 0 (.slc 9000),sO 1 (.slc 9001),sI 5 .i64 i2,sB 14 (decide (i2<(ZB0 a_0))),hR 9000 .u8 a_0,hR 9001 .u8 b_1] Jr ?_));refine q_k ?_
  rcases Jc h with⟨hc3,h⟩|⟨hc3,h⟩
  ·refine Jd (decide (i2<(ZB0 a_0))) (by kernel_rfl) hc3 ?_;refine Jk (q_k (Ja (Jp (Ja ?_))));obtain⟨hn4,hn5,h⟩:=it2 h;refine Wy hT hM [] [sO 0 (.slc 9000),sO 1 (.slc 9001),sI 5 .i64 i2,sB 25 ((a_0.getD i2.toNat 0) !=(b_1.getD i2.toNat 0)),hR 9000 .u8 a_0,hR 9001 .u8 b_1] (Je hn4 (Je hn4.2 (Je hn5 (Jz hn5.2)))) ?_;refine q_k ?_
   rcases Jc h with⟨hc6,h⟩|⟨hc6,h⟩
   ·refine Jd ((a_0.getD i2.toNat 0) !=(b_1.getD i2.toNat 0)) (by kernel_rfl) hc6 ?_;refine Ja (Jb hT [] [sB 4 false] Jr ?_);refine q_k (Jj (Jy (Ji (Wj ?_))));have h:=Option.some.inj h;subst h
    exact WJ [sB 4 false] (hr0 false _ rfl ⟨by kernel_rfl,by kernel_rfl⟩)
   refine Jf ((a_0.getD i2.toNat 0) !=(b_1.getD i2.toNat 0)) (by kernel_rfl) hc6 ?_;refine Jk (q_b 1 ?_);refine q_k (Jb hT [] (ZB1 a_0 b_1 (sI 5 .i64 (IntKind.i64.wrap (i2+(1:Int))))) Jr ?_);refine Jcq ?_;exact Jac (ZB1 a_0 b_1 (sI 5 .i64 (IntKind.i64.wrap (i2+(1:Int))))) (ih0 (IntKind.i64.wrap (i2+(1:Int))) h)
  refine Jf (decide (i2<(ZB0 a_0))) (by kernel_rfl) hc3 ?_;refine VY (Vr (JY ?_));have h:=Option.some.inj h;subst h;exact WJ [] (hx0 () rfl)

end Go.Proofs.Se
