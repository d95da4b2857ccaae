/- Walks, printed by a program of this session (gowalk.py): each Go function comes to its plain function's answer. -/
import Derived.Test.YtdbheiibkpendaaGreatDoorSeA
import Derived.Test.YtdbheiibkpendaaGreatDoorSeD
import Derived.Test.YtdbheiibkpendaaGreatDoorMSeS
import Derived.Test.YtdbheiibkpendaaGreatDoorMSeE1
import Derived.Test.YtdbheiibkpendaaGreatDoorMSeE1
import Derived.Test.YtdbheiibkpendaaGreatDoorMSeE1
namespace Go.Proofs.Se
open Go Go.Gw D
set_option linter.unusedVariables false
set_option maxRecDepth 20000

abbrev Za0 (limit_0:Int):=((([]:AH)++[MO.map []])++[MO.cells 73 [MV.int .i64 limit_0,MV.map (List.length ([]:AH)),MV.bool false,MV.int .i64 (0:Int),MV.nilp]])
abbrev Za1:=(MV.ptr (List.length (([]:AH)++[MO.map []])) 0)
theorem Jcl (limit_0:Int) (r:MV×Int×AH) (h:QB limit_0=some r):CallOk P 7 [.v (.one (.int .i64 limit_0))] [] (.tup [.one (.slc 8900),.one (.int .i64 r.2.1)]) [(8900,.apt 8901 r.1),(8901,.arena true [] r.2.2)]:=by
 refine Wr (N:=14) Tryz.func7 (by kernel_rfl) rfl rfl rfl [] (by kernel_rfl) ?_;intro _ B w0;show Tr P B 14 w0 _ _ (XF P Tryz.f7 (R1 _ _ B w0));unfold QB at h;refine Ja (Jb hT [] [sI 0 .i64 limit_0] Jr ?_);refine q_k (Ja (Ja ?_))
 rcases Jc h with⟨hb1,h⟩|⟨hb2,h⟩
 ·refine Jb hT [(2,.dec true)] [sI 0 .i64 limit_0,sB 9 true] (Jz hb1) ?_;refine q_k (Jd true (by kernel_rfl) rfl ?_);refine Ja (Jb hT [] [sO 2 (.nilp),sI 3 .i64 (1:Int)] Jr ?_);refine q_k (Jj (Ji ?_));have h:=Option.some.inj h;subst h;refine Vx [(8900,.nilp),(8901,.fn 0)] [sO 2 (.slc 8900),sI 3 .i64 (1:Int),(.h 8900,.e (.apt 8901 MV.nilp)),(.h 8901,.e (.arena true [] ([]:AH)))] ⟨.aptnil,.arena0,trivial⟩ ?_;exact Jl hT (.tup [.one (.slc 8900),.one (.int .i64 (1:Int))]) [(8900,.apt 8901 MV.nilp),(8901,.arena true [] ([]:AH))] (by kernel_rfl) (by kernel_rfl) (by kernel_rfl)
 refine Jb hT [(2,.dec false)] [sI 0 .i64 limit_0,sB 9 (decide (limit_0>(131072:Int)))] (Jz hb2) ?_;refine q_k ?_
 rcases Jc h with⟨hc3,h⟩|⟨hc3,h⟩
 ·refine Jd (decide (limit_0>(131072:Int))) (by kernel_rfl) hc3 ?_;refine Ja (Jb hT [] [sO 2 (.nilp),sI 3 .i64 (1:Int)] Jr ?_);refine q_k (Jj (Ji ?_));have h:=Option.some.inj h;subst h;refine Vx [(8900,.nilp),(8901,.fn 0)] [sO 2 (.slc 8900),sI 3 .i64 (1:Int),(.h 8900,.e (.apt 8901 MV.nilp)),(.h 8901,.e (.arena true [] ([]:AH)))] ⟨.aptnil,.arena0,trivial⟩ ?_;exact Jl hT (.tup [.one (.slc 8900),.one (.int .i64 (1:Int))]) [(8900,.apt 8901 MV.nilp),(8901,.arena true [] ([]:AH))] (by kernel_rfl) (by kernel_rfl) (by kernel_rfl)
 refine Jf (decide (limit_0>(131072:Int))) (by kernel_rfl) hc3 ?_;refine Jk (q_k (Ja (Jb hT [(1,.arN 0 [1,2]),(3,.ar 1 [3,4])] [sO 2 (.slc 4),sI 3 .i64 (0:Int),(.h 3,.e (.arena true [1,0] (Za0 limit_0))),(.h 4,.e (.apt 3 Za1))] Jr ?_)));refine q_k (Jj ?_);have h:=Option.some.inj h;subst h;refine Vx [(8900,.slc 4),(8901,.slc 3)] [sO 2 (.slc 8900),sI 3 .i64 (0:Int),(.h 8900,.e (.apt 8901 Za1)),(.h 8901,.e (.arena true [] (Za0 limit_0)))] ⟨.apt' (κb:=3) (κ0:=3) (rw:=true) (bs:=[1,0]) (D:=(Za0 limit_0)),.arena' (bs:=[1,0]),trivial⟩ ?_;exact Jl hT (.tup [.one (.slc 8900),.one (.int .i64 (0:Int))]) [(8900,.apt 8901 Za1),(8901,.arena true [] (Za0 limit_0))] (by kernel_rfl) (by kernel_rfl) (by kernel_rfl)

theorem WT (H_0:AH) (d_1:MV) (r:Bool) (h:Vb H_0 d_1=some r):CallOk P 10 [.v (.one (.slc 9001))] [(9000,.arena false [] H_0),(9001,.apt 9000 d_1)] (.v (.one (.bool r))) []:=by
 refine Wr (N:=7) Tryz.func10 (by kernel_rfl) rfl rfl rfl [(9000,.arena false [] H_0),(9001,.apt 9000 d_1)] (by kernel_rfl) ?_
 intro _ B w0
 show Tr P B 7 w0 _ _ (XF P Tryz.f10 (R1 _ _ B w0))
 unfold Vb at h
 refine Ja ?_
 refine Jb hT [] [sO 0 (.slc 9001),(.h 9000,.e (.arena false [] H_0)),(.h 9001,.e (.apt 9000 d_1))] Jr ?_
 refine q_k ?_
 refine Ja ?_
 obtain⟨hn1,h⟩:=Jo h
 obtain⟨hn2,h⟩:=Jo h
 obtain⟨hn3,h⟩:=Jo h
 refine Jb hT [(1,.ar 9000 []),(2,.ar 9000 []),(3,.ar 9000 [])] [sB 2 (MV.tr (AH.rd H_0 d_1 2)),(.h 9000,.e (.arena false [] H_0))] (Je hn1 (Je hn1 (Je hn2 (Jz hn3)))) ?_
 refine q_k ?_
 refine Jj ?_
 have h:=Option.some.inj h
 subst h
 refine WJ [sB 2 (MV.tr (AH.rd H_0 d_1 2)),(.h 9000,.e (.arena false [] H_0))] ?_
 exact Jl hT (.v (.one (.bool (MV.tr (AH.rd H_0 d_1 2))))) [] (by kernel_rfl) (by kernel_rfl) (by kernel_rfl)

abbrev Zb0 (H_0:AH):Gw.Loc×Cont:=(.h 9000,.e (.arena false [] H_0))
abbrev Zb1 (H_0:AH) (d_1:MV) (n_2:Int):=(AH.look H_0 (AH.rd H_0 d_1 1) n_2)
theorem Wq (H_0:AH) (d_1:MV) (n_2:Int) (r:MV×Int) (h:JU H_0 d_1 n_2=some r):CallOk P 65 [.v (.one (.slc 9001)),.v (.one (.int .i64 n_2))] [(9000,.arena false [] H_0),(9001,.apt 9000 d_1)] (.tup [.one (.slc 8900),.one (.int .i64 r.2)]) [(8900,.apt 9000 r.1)]:=by
 refine Wr (N:=22) Tryz.func65 (by kernel_rfl) rfl rfl rfl [(9000,.arena false [] H_0),(9001,.apt 9000 d_1)] (by kernel_rfl) ?_;intro _ B w0;show Tr P B 22 w0 _ _ (XF P Tryz.f65 (R1 _ _ B w0));unfold JU at h;refine Ja (Jb hT [] [sO 0 (.slc 9001),sI 1 .i64 n_2,(Zb0 H_0),(.h 9001,.e (.apt 9000 d_1))] Jr ?_);refine q_k (Ja ?_);obtain⟨hn1,hn2,hn3,h⟩:=it3 h;refine Jb hT [(1,.ar 9000 []),(2,.ar 9000 []),(3,.ar 9000 [0]),(5,.ar 9000 [1])] [sO 0 (.slc 9001),sO 6 (.slc 1),(.h 1,.e (.apt 9000 (Zb1 H_0 d_1 n_2))),(Zb0 H_0),(.h 9001,.e (.apt 9000 d_1))] (Je hn1 (Je hn1 (Je hn2 (Jz hn3)))) ?_;refine q_k (Ja (Jp (Ja ?_)));obtain⟨hn4,hn5,h⟩:=it2 h;refine Jb hT [(1,.ar 9000 []),(2,.ar 9000 []),(3,.ar 9000 [])] [sO 6 (.slc 1),sB 13 (MV.tr (AH.rd H_0 d_1 2)),(.h 1,.e (.apt 9000 (Zb1 H_0 d_1 n_2))),(Zb0 H_0)] (Je hn1 (Je hn1 (Je hn4 (Jz hn5)))) ?_;refine q_k ?_
 rcases Jc h with⟨hc6,h⟩|⟨hc6,h⟩
 ·refine Jd (MV.tr (AH.rd H_0 d_1 2)) (by kernel_rfl) hc6 ?_;refine Ja (Jb hT [] [sO 4 (.nilp),sI 5 .i64 (8:Int),(Zb0 H_0)] Jr ?_);refine q_k (Jj (Jy (Ji ?_)));have h:=Option.some.inj h;subst h;refine Vx [(8900,.nilp)] [sO 4 (.slc 8900),sI 5 .i64 (8:Int),(.h 8900,.e (.apt 9000 MV.nilp)),(Zb0 H_0)] ⟨.aptnil,.arena' (bs:=[]),trivial⟩ ?_;exact Jl hT (.tup [.one (.slc 8900),.one (.int .i64 (8:Int))]) [(8900,.apt 9000 MV.nilp)] (by kernel_rfl) (by kernel_rfl) (by kernel_rfl)
 refine Jf (MV.tr (AH.rd H_0 d_1 2)) (by kernel_rfl) hc6 ?_;refine Ja ?_;obtain⟨hn7,h⟩:=Jo h;refine Jb hT [(1,.ar 9000 [])] [sO 6 (.slc 1),sB 18 (MV.isN (Zb1 H_0 d_1 n_2)),(.h 1,.e (.apt 9000 (Zb1 H_0 d_1 n_2))),(Zb0 H_0)] (Jz hn7) ?_;refine q_k ?_
 rcases Jc h with⟨hc8,h⟩|⟨hc8,h⟩
 ·refine Jd (MV.isN (Zb1 H_0 d_1 n_2)) (by kernel_rfl) hc8 ?_;refine Ja (Jb hT [] [sO 4 (.nilp),sI 5 .i64 (10:Int),(Zb0 H_0)] Jr ?_);refine q_k (Jj (Jy (Ji ?_)));have h:=Option.some.inj h;subst h;refine Vx [(8900,.nilp)] [sO 4 (.slc 8900),sI 5 .i64 (10:Int),(.h 8900,.e (.apt 9000 MV.nilp)),(Zb0 H_0)] ⟨.aptnil,.arena' (bs:=[]),trivial⟩ ?_;exact Jl hT (.tup [.one (.slc 8900),.one (.int .i64 (10:Int))]) [(8900,.apt 9000 MV.nilp)] (by kernel_rfl) (by kernel_rfl) (by kernel_rfl)
 refine Jf (MV.isN (Zb1 H_0 d_1 n_2)) (by kernel_rfl) hc8 ?_;refine Jk (q_b 0 ?_);refine q_k (Ja (Jb hT [] [sO 4 (.slc 1),sI 5 .i64 (0:Int),(.h 1,.e (.apt 9000 (Zb1 H_0 d_1 n_2))),(Zb0 H_0)] Jr ?_));refine q_k (Jj ?_);have h:=Option.some.inj h;subst h;refine Vx [(8900,.slc 1)] [sO 4 (.slc 8900),sI 5 .i64 (0:Int),(.h 8900,.e (.apt 9000 (Zb1 H_0 d_1 n_2))),(Zb0 H_0)] ⟨.apts' (κb:=9000),.arena' (bs:=[]),trivial⟩ ?_;exact Jl hT (.tup [.one (.slc 8900),.one (.int .i64 (0:Int))]) [(8900,.apt 9000 (Zb1 H_0 d_1 n_2))] (by kernel_rfl) (by kernel_rfl) (by kernel_rfl)

theorem Ye (r:List Int) (h:Xd=some r):CallOk P 73 [.v (.one (.nils))] [] (.v (.one (.slc 8900))) [(8900,.own 5 .u8 r)]:=by
 refine Wr (N:=8) Tryz.func73 (by kernel_rfl) rfl rfl rfl [] (by kernel_rfl) ?_
 intro _ B w0
 show Tr P B 8 w0 _ _ (XF P Tryz.f73 (R1 _ _ B w0))
 unfold Xd at h
 refine Ja ?_
 refine Jb hT [] [sO 0 (.nils)] Jr ?_
 refine q_k ?_
 refine Ja ?_
 refine Ja ?_
 refine Jb hT [] [sO 0 (.nils),sB 4 true] Jr ?_
 refine q_k ?_
 refine Jd true (by kernel_rfl) rfl ?_
 refine Ja ?_
 refine Jb hT [] [sO 2 (.nils)] Jr ?_
 refine q_k ?_
 refine Jj ?_
 refine Ji ?_
 have h:=Option.some.inj h
 subst h
 refine Vx [(8900,.nils)] [sO 2 (.slc 8900),hO 8900 5 .u8 []] ⟨.nilown,trivial⟩ ?_
 exact Jl hT (.v (.one (.slc 8900))) [(8900,.own 5 .u8 [])] (by kernel_rfl) (by kernel_rfl) (by kernel_rfl)

theorem XT (s_0:List Int) (r:List Int) (h:VN s_0=some r):CallOk P 73 [.v (.one (.slc 9000))] [(9000,.rdx .u8 s_0)] (.v (.one (.slc 8900))) [(8900,.own 5 .u8 r)]:=by
 refine Wr (N:=8) Tryz.func73 (by kernel_rfl) rfl rfl rfl [(9000,.rdx .u8 s_0)] (by kernel_rfl) ?_
 intro _ B w0
 show Tr P B 8 w0 _ _ (XF P Tryz.f73 (R1 _ _ B w0))
 unfold VN at h
 refine Ja ?_
 refine Jb hT [] [sO 0 (.slc 9000),hX 9000 .u8 s_0] Jr ?_
 refine q_k ?_
 refine Ja ?_
 refine Ja ?_
 refine Jb hT [] [sO 0 (.slc 9000),sB 4 false,hX 9000 .u8 s_0] Jr ?_
 refine q_k ?_
 refine Jf false (by kernel_rfl) rfl ?_
 refine Jk ?_
 refine q_k ?_
 refine Ja ?_
 obtain⟨hn1,h⟩:=Jo h
 refine Jb hT [(0,.key 0),(2,.key 1)] [sO 2 (.slc 1),hO 1 5 .u8 ([]++s_0)] (Jz hn1) ?_
 refine q_k ?_
 refine Jj ?_
 have h:=Option.some.inj h
 subst h
 refine Vx [(8900,.slc 1)] [sO 2 (.slc 8900),hO 8900 5 .u8 ([]++s_0)] ⟨.own',trivial⟩ ?_
 exact Jl hT (.v (.one (.slc 8900))) [(8900,.own 5 .u8 ([]++s_0))] (by kernel_rfl) (by kernel_rfl) (by kernel_rfl)

theorem Wi (s r:List Int) (h:Vd s=some r):CallOk P 73 [.v (.one (.slc 9000))] [(9000,.rd .u8 s)] (.v (.one (.slc 8900))) [(8900,.own 5 .u8 r)]:=
 JlY (fun e=>by subst e;exact Ye r (by rw[←h];kernel_rfl)) (XT s r h) (by rfl)

abbrev Zc0 (H_0:AH):Gw.Loc×Cont:=(.h 9000,.e (.arena false [] H_0))
theorem Ja3 (H_0:AH) (d_1:MV) (n_2:Int) (r:List Int×Int) (h:Wh H_0 d_1 n_2=some r):CallOk P 41 [.v (.one (.slc 9001)),.v (.one (.int .i64 n_2))] [(9000,.arena false [] H_0),(9001,.apt 9000 d_1)] (.tup [.one (.slc 8900),.one (.int .i64 r.2)]) [(8900,.own 5 .u8 r.1)]:=by
 refine Wr (N:=22) Tryz.func41 (by kernel_rfl) rfl rfl rfl [(9000,.arena false [] H_0),(9001,.apt 9000 d_1)] (by kernel_rfl) ?_;intro _ B w0;show Tr P B 22 w0 _ _ (XF P Tryz.f41 (R1 _ _ B w0));unfold Wh at h;refine Ja (Jb hT [] [sO 0 (.slc 9001),sI 1 .i64 n_2,(Zc0 H_0),(.h 9001,.e (.apt 9000 d_1))] Jr ?_);refine q_k (Ja ?_);obtain⟨⟨p1,r2⟩,e3,h⟩:=bind_some h;refine Jb hT [(2,.callA [(9000,.ro),(9001,.apt 9000)] (.tup [.one (.slc 0),.one (.int .i64 r2)]) [(0,.apt 9000 p1)])] [sO 6 (.slc 0),sI 7 .i64 r2,(.h 0,.e (.apt 9000 p1)),(Zc0 H_0)] (Jz ((Wq H_0 d_1 n_2 (p1,r2) e3).tr1 [(9001,.slc 9001),(9000,.slc 9000),(8900,.slc 0)] [(9000,.arena false [] H_0),(9001,.apt 9000 d_1)] ⟨.arena' (bs:=[]),.apts' (κb:=9000),trivial⟩)) ?_;refine q_k (Ja (Ja (Jb hT [] [sO 6 (.slc 0),sI 7 .i64 r2,sB 15 (r2 !=(0:Int)),(.h 0,.e (.apt 9000 p1)),(Zc0 H_0)] Jr ?_)));refine q_k ?_
 rcases Jc h with⟨hc4,h⟩|⟨hc4,h⟩
 ·refine Jd (r2 !=(0:Int)) (by kernel_rfl) hc4 ?_;refine Ja (Jb hT [] [sO 4 (.nils),sI 5 .i64 r2,(Zc0 H_0)] Jr ?_);refine q_k (Jj (Ji ?_));have h:=Option.some.inj h;subst h;refine Vx [(8900,.nils)] [sO 4 (.slc 8900),sI 5 .i64 r2,hO 8900 5 .u8 [],(Zc0 H_0)] ⟨.nilown,.arena' (bs:=[]),trivial⟩ ?_;exact Jl hT (.tup [.one (.slc 8900),.one (.int .i64 r2)]) [(8900,.own 5 .u8 [])] (by kernel_rfl) (by kernel_rfl) (by kernel_rfl)
 refine Jf (r2 !=(0:Int)) (by kernel_rfl) hc4 ?_;refine Jk (q_k (Ja ?_));obtain⟨hn5,hn6,hn9,h⟩:=it3 h;obtain⟨a7,e8,h⟩:=bind_some h;refine Jb hT [(1,.ar 9000 []),(2,.ar 9000 []),(3,.ar 9000 [1]),(4,.callA [(1,.rd .u8 9000)] (.v (.one (.slc 2))) [(2,.own 5 .u8 a7)])] [sO 4 (.slc 2),sI 5 .i64 (0:Int),hO 2 5 .u8 a7,(Zc0 H_0)] (Je hn5 (Je hn5 (Je hn6 (Je hn9 (Jz ((Wi (AH.ints H_0 (AH.rd H_0 p1 0)) a7 e8).tr1 [(9000,.slc 1),(8900,.slc 2)] [(1,.rd .u8 (AH.ints H_0 (AH.rd H_0 p1 0)))] ⟨.rd',trivial⟩)))))) ?_;refine q_k (Jj ?_);have h:=Option.some.inj h;subst h;refine Vx [(8900,.slc 2)] [sO 4 (.slc 8900),sI 5 .i64 (0:Int),hO 8900 5 .u8 a7,(Zc0 H_0)] ⟨.own',.arena' (bs:=[]),trivial⟩ ?_;exact Jl hT (.tup [.one (.slc 8900),.one (.int .i64 (0:Int))]) [(8900,.own 5 .u8 a7)] (by kernel_rfl) (by kernel_rfl) (by kernel_rfl)

theorem Jaa (kind_0:Int) (r:Bool) (h:Xt kind_0=some r) {pre:List (Nat×Ent)}:CallOk P 77 [.v (.one (.int .i64 kind_0))] pre (.v (.one (.bool r))) []:=by
 refine Jmp (N:=9) Tryz.func77 (by kernel_rfl) rfl rfl rfl pre ?_
 intro _ w
 show Tr P (Ge w) 9 _ _ _ (XF P Tryz.f77 (R0 _ w))
 unfold Xt at h
 refine Ja ?_
 refine Jb hT [] [sI 0 .i64 kind_0] Jr ?_
 refine q_k ?_
 refine Ja ?_
 rcases Jc h with⟨hb1,h⟩|⟨hb2,h⟩
 ·refine Jb hT [(2,.dec true)] [sB 2 true] (Jz hb1) ?_
  refine q_k ?_
  refine Jj ?_
  have h:=Option.some.inj h
  subst h
  exact JhL hT (.v (.one (.bool true))) rfl (by kernel_rfl)
 ·refine Jb hT [(2,.dec false)] [sB 2 (kind_0==(2:Int))] (Jz hb2) ?_
  refine q_k ?_
  refine Jj ?_
  have h:=Option.some.inj h
  subst h
  exact JhL hT (.v (.one (.bool (kind_0==(2:Int))))) rfl (by kernel_rfl)

abbrev Zd0 (n_0:Int):=(IntKind.i64.wrap (n_0- (0:Int)))
theorem Yz (n_0:Int) (r:List Int) (h:VM n_0=some r):CallOk P 84 [.v (.one (.nils)),.v (.one (.int .i64 n_0))] [] (.v (.one (.slc 8900))) [(8900,.own 5 .u8 r)]:=by
 refine Wr (N:=27) Tryz.func84 (by kernel_rfl) rfl rfl rfl [] (by kernel_rfl) ?_;intro _ B w0;show Tr P B 27 w0 _ _ (XF P Tryz.f84 (R1 _ _ B w0));unfold VM at h;refine Ja (Jb hT [] [sO 0 (.nils),sI 1 .i64 n_0] Jr ?_);refine q_k (Ja (Ja (Jb hT [] [sO 0 (.nils),sI 1 .i64 n_0,sB 6 (decide (n_0<(0:Int)))] Jr ?_)));refine q_k ?_;obtain⟨rj0,e7,h⟩:=bind_some h;refine WW (σ1:=[sO 0 (.nils),sI 1 .i64 n_0]) ?_ ?_
 ·rcases rj0 with _
  try dsimp only at h
  refine q_k (Ja (Ja (Jb hT [] [sO 0 (.nils),sI 1 .i64 (Zd0 n_0)] Jr ?_)));refine q_k (Ja (Jb hT [] [sO 0 (.nils),sI 1 .i64 (Zd0 n_0),sB 16 (decide ((Zd0 n_0)>(0:Int)))] Jr ?_));refine q_k ?_;obtain⟨s2,e6,h⟩:=bind_some h;refine WW (σ1:=[sO 0 (.slc 80),hO 80 5 .u8 s2]) ?_ ?_
  ·skip
   try dsimp only at h
   refine q_k (Ja (Jb hT [] [sO 4 (.slc 80),hO 80 5 .u8 s2] Jr ?_));refine q_k (Jj ?_);have h:=Option.some.inj h;subst h;refine Vx [(8900,.slc 80)] [sO 4 (.slc 8900),hO 8900 5 .u8 s2] ⟨.own',trivial⟩ ?_;exact Jl hT (.v (.one (.slc 8900))) [(8900,.own 5 .u8 s2)] (by kernel_rfl) (by kernel_rfl) (by kernel_rfl)
  ·intro hj1
   clear h
   have h:=e6
   clear e6
   rcases Jc h with⟨hc3,h⟩|⟨hc3,h⟩
   ·refine Jd (decide ((Zd0 n_0)>(0:Int))) (by kernel_rfl) hc3 ?_;obtain⟨hn4,hn5,h⟩:=it2 h
    refine Jb hT [(5,.key 81),(8,.key 82)] [sO 0 (.slc 82),hO 82 5 .u8 ((List.replicate (Zd0 n_0).toNat (0:Int)).take (0))] (Je (show (0:Int)=0∧(0:Int)=0 from by decide) (Je hn4 (Jz hn5))) ?_
    have h:=Option.some.inj h;subst h
    exact Vx [(80,.slc 82)] [sO 0 (.slc 80),hO 80 5 .u8 ((List.replicate (Zd0 n_0).toNat (0:Int)).take (0))] ⟨.own',trivial⟩ hj1
   refine Jf (decide ((Zd0 n_0)>(0:Int))) (by kernel_rfl) hc3 ?_;refine Jk ?_;have h:=Option.some.inj h;subst h;exact Vx [(80,.nils)] [sO 0 (.slc 80),hO 80 5 .u8 []] ⟨.nilown,trivial⟩ hj1
 ·intro hj0
  clear h
  have h:=e7
  clear e7
  rcases Jc h with⟨hc1,h⟩|⟨hc1,h⟩
  ·refine Jd (decide (n_0<(0:Int))) (by kernel_rfl) hc1 ?_
   cases h
  refine Jf (decide (n_0<(0:Int))) (by kernel_rfl) hc1 ?_;refine Jk ?_;have h:=Option.some.inj h;subst h;exact WJ [sO 0 (.nils),sI 1 .i64 n_0] hj0

abbrev Ze0 (slices_0:List (List Int)):=(↑(List.length slices_0):Int)
abbrev Ze1 (size1:Int) (slices_0:List (List Int)) (x2:Int):=(IntKind.i64.wrap (size1+(↑(List.length (slices_0.getD x2.toNat [])):Int)))
abbrev Ze2 (slices_0:List (List Int)) (ya yb:Gw.Loc×Cont):List (Gw.Loc×Cont):=[sO 0 (.slc 9000),ya,sO 9 (.slc 9000),sI 10 .i64 (Ze0 slices_0),yb,hW 9000 (.bs .u8 slices_0)]
theorem VA (slices_0:List (List Int)) (r:List Int) (h:JC slices_0=some r):CallOk P 67 [.v (.one (.slc 9000))] [(9000,.rows (.bs .u8 slices_0))] (.v (.one (.slc 8900))) [(8900,.own 5 .u8 r)]:=by
 refine Wr (N:=36) Tryz.func67 (by kernel_rfl) rfl rfl rfl [(9000,.rows (.bs .u8 slices_0))] (by kernel_rfl) ?_;intro _ B w0;show Tr P B 36 w0 _ _ (XF P Tryz.f67 (R1 _ _ B w0));unfold JC at h;refine Ja (Jb hT [] [sO 0 (.slc 9000),hW 9000 (.bs .u8 slices_0)] Jr ?_);refine q_k (Ja (Jb hT [] [sO 0 (.slc 9000),sI 3 .i64 (0:Int),hW 9000 (.bs .u8 slices_0)] Jr ?_));refine q_k (Ja (Ja (Jb hT [] (Ze2 slices_0 (sI 3 .i64 (0:Int)) (sI 11 .i64 (0:Int))) Jr ?_)));refine q_k (Jp ?_);obtain⟨size3,e8,h⟩:=bind_some h;refine XE [] (Ze2 slices_0 (sI 3 .i64 (0:Int)) (sI 11 .i64 (0:Int))) ⟨.rows',trivial⟩ ?_
 refine VW (id:=0) (α:=Int×Int) (β:=Int) (fun z=>(Ze2 slices_0 (sI 3 .i64 z.1) (sI 11 .i64 z.2))) (fun z=>[sO 0 (.slc 9000),sI 3 .i64 z,hW 9000 (.bs .u8 slices_0)]) (fun k z=>JH slices_0 k z.1 z.2) size3 (fun _=>rfl) (((Ze0 slices_0)- (0:Int)).toNat+1) ((0:Int),(0:Int)) e8 ?_ ?_
 ·skip
  try dsimp only at h
  refine Vy (q_k (Ja ?_));obtain⟨a9,e10,h⟩:=bind_some h;refine Jb hT [(1,.call [] (.v (.one (.slc 41))) [(41,.own 5 .u8 a9)])] [sO 0 (.slc 9000),sO 6 (.slc 41),hO 41 5 .u8 a9,hW 9000 (.bs .u8 slices_0)] (Jz ((Yz size3 a9 e10).tr1 [(8900,.slc 41)] [] trivial)) ?_;refine q_k (Ja (Ja (Jb hT [] [sO 6 (.slc 41),sO 25 (.slc 9000),sI 26 .i64 (Ze0 slices_0),sI 27 .i64 (0:Int),hO 41 5 .u8 a9,hW 9000 (.bs .u8 slices_0)] Jr ?_)));refine q_k (Jp ?_);obtain⟨newslice13,e17,h⟩:=bind_some h;refine XE [(42,.slc 41)] [sO 6 (.slc 42),sO 25 (.slc 9000),sI 26 .i64 (Ze0 slices_0),sI 27 .i64 (0:Int),hO 42 5 .u8 a9,hW 9000 (.bs .u8 slices_0)] ⟨.own',.rows',trivial⟩ ?_
  refine VW (id:=2) (α:=List Int×Int) (β:=List Int) (fun z=>[sO 6 (.slc 42),sO 25 (.slc 9000),sI 26 .i64 (Ze0 slices_0),sI 27 .i64 z.2,hO 42 5 .u8 z.1,hW 9000 (.bs .u8 slices_0)]) (fun z=>[sO 6 (.slc 43),hO 43 5 .u8 z]) (fun k z=>JG slices_0 k z.1 z.2) newslice13 (fun _=>rfl) (((Ze0 slices_0)- (0:Int)).toNat+1) (a9,(0:Int)) e17 ?_ ?_
  ·skip
   try dsimp only at h
   refine Vy (q_k (Ja (Jb hT [] [sO 2 (.slc 43),hO 43 5 .u8 newslice13] Jr ?_)));refine q_k (Jj ?_);have h:=Option.some.inj h;subst h;refine Vx [(8900,.slc 43)] [sO 2 (.slc 8900),hO 8900 5 .u8 newslice13] ⟨.own',trivial⟩ ?_;exact Jl hT (.v (.one (.slc 8900))) [(8900,.own 5 .u8 newslice13)] (by kernel_rfl) (by kernel_rfl) (by kernel_rfl)
  ·clear h e17
   intro k ih2 hx2 z h;obtain⟨newslice11,x12⟩:=z
   dsimp only [JG] at h
   refine Ja (Jb hT [] [sO 6 (.slc 42),sO 25 (.slc 9000),sI 26 .i64 (Ze0 slices_0),sI 27 .i64 x12,sB 28 (decide (x12<(Ze0 slices_0))),hO 42 5 .u8 newslice11,hW 9000 (.bs .u8 slices_0)] Jr ?_);refine q_k (Ja ?_)
   rcases Jc h with⟨hc14,h⟩|⟨hc14,h⟩
   ·refine Jd (decide (x12<(Ze0 slices_0))) (by kernel_rfl) hc14 ?_;refine Jk (q_k (Ja (Jp (Ja ?_))));obtain⟨hn15,h⟩:=Jo h;refine Jb hT [(1,.key 44)] [sO 6 (.slc 42),sO 8 (.slc 44),sO 25 (.slc 9000),sI 26 .i64 (Ze0 slices_0),sI 27 .i64 x12,hO 42 5 .u8 newslice11,hR 44 .u8 (slices_0.getD x12.toNat []),hW 9000 (.bs .u8 slices_0)] (Je hn15 (Jz hn15.2)) ?_;refine q_k ?_;obtain⟨hn16,h⟩:=Jo h;refine Jb hT [(2,.key 45)] [sO 6 (.slc 45),sO 25 (.slc 9000),sI 26 .i64 (Ze0 slices_0),sI 27 .i64 x12,hO 45 5 .u8 (newslice11++(slices_0.getD x12.toNat [])),hW 9000 (.bs .u8 slices_0)] (Jz hn16) ?_;refine q_b 3 ?_;refine q_k (Jb hT [] [sO 6 (.slc 45),sO 25 (.slc 9000),sI 26 .i64 (Ze0 slices_0),sI 27 .i64 (IntKind.i64.wrap (x12+(1:Int))),hO 45 5 .u8 (newslice11++(slices_0.getD x12.toNat [])),hW 9000 (.bs .u8 slices_0)] Jr ?_);refine Jcq ?_;exact YK [(42,.slc 45)] [sO 6 (.slc 42),sO 25 (.slc 9000),sI 26 .i64 (Ze0 slices_0),sI 27 .i64 (IntKind.i64.wrap (x12+(1:Int))),hO 42 5 .u8 (newslice11++(slices_0.getD x12.toNat [])),hW 9000 (.bs .u8 slices_0)] ⟨.own',.rows',trivial⟩ (ih2 ((newslice11++(slices_0.getD x12.toNat [])),(IntKind.i64.wrap (x12+(1:Int)))) h)
   refine Jf (decide (x12<(Ze0 slices_0))) (by kernel_rfl) hc14 ?_;refine VY (Vr (JY ?_));have h:=Option.some.inj h;subst h;exact Vx [(43,.slc 42)] [sO 6 (.slc 43),hO 43 5 .u8 newslice11] ⟨.own',trivial⟩ hx2
 ·clear h e8
  intro k ih0 hx0 z h;obtain⟨size1,x2⟩:=z
  dsimp only [JH] at h
  refine Ja (Jb hT [] [sO 0 (.slc 9000),sI 3 .i64 size1,sO 9 (.slc 9000),sI 10 .i64 (Ze0 slices_0),sI 11 .i64 x2,sB 12 (decide (x2<(Ze0 slices_0))),hW 9000 (.bs .u8 slices_0)] Jr ?_);refine q_k (Ja ?_)
  rcases Jc h with⟨hc4,h⟩|⟨hc4,h⟩
  ·refine Jd (decide (x2<(Ze0 slices_0))) (by kernel_rfl) hc4 ?_;refine Jk (q_k (Ja ?_));obtain⟨rj1,e7,h⟩:=bind_some h;refine WW (σ1:=(Ze2 slices_0 (sI 3 .i64 (Ze1 size1 slices_0 x2)) (sI 11 .i64 x2))) ?_ ?_
   ·rcases rj1 with _
    try dsimp only at h
    refine q_k (Jb hT [] (Ze2 slices_0 (sI 3 .i64 (Ze1 size1 slices_0 x2)) (sI 11 .i64 (IntKind.i64.wrap (x2+(1:Int))))) Jr ?_);refine Jcq ?_;exact Jac (Ze2 slices_0 (sI 3 .i64 (Ze1 size1 slices_0 x2)) (sI 11 .i64 (IntKind.i64.wrap (x2+(1:Int))))) (ih0 ((Ze1 size1 slices_0 x2),(IntKind.i64.wrap (x2+(1:Int)))) h)
   ·intro hj1
    clear h
    have h:=e7
    clear e7
    refine Jp (Ja ?_);obtain⟨hn5,h⟩:=Jo h;refine Jb hT [(1,.key 40)] [sO 0 (.slc 9000),sI 3 .i64 size1,sO 5 (.slc 40),sO 9 (.slc 9000),sI 10 .i64 (Ze0 slices_0),sI 11 .i64 x2,hR 40 .u8 (slices_0.getD x2.toNat []),hW 9000 (.bs .u8 slices_0)] (Je hn5 (Jz hn5.2)) ?_;refine q_k (Ja (Jb hT [] (Ze2 slices_0 (sI 3 .i64 (Ze1 size1 slices_0 x2)) (sI 11 .i64 x2)) Jr ?_));refine q_k (Ja (Jb hT [] [sO 0 (.slc 9000),sI 3 .i64 (Ze1 size1 slices_0 x2),sO 9 (.slc 9000),sI 10 .i64 (Ze0 slices_0),sI 11 .i64 x2,sB 20 (decide ((Ze1 size1 slices_0 x2)<(0:Int))),hW 9000 (.bs .u8 slices_0)] Jr ?_));refine q_k ?_
    rcases Jc h with⟨hc6,h⟩|⟨hc6,h⟩
    ·refine Jd (decide ((Ze1 size1 slices_0 x2)<(0:Int))) (by kernel_rfl) hc6 ?_
     cases h
    refine Jf (decide ((Ze1 size1 slices_0 x2)<(0:Int))) (by kernel_rfl) hc6 ?_;refine Jk (q_b 1 ?_);have h:=Option.some.inj h;subst h;exact WJ (Ze2 slices_0 (sI 3 .i64 (Ze1 size1 slices_0 x2)) (sI 11 .i64 x2)) hj1
  refine Jf (decide (x2<(Ze0 slices_0))) (by kernel_rfl) hc4 ?_;refine VY (Vr (JY ?_));have h:=Option.some.inj h;subst h;exact WJ [sO 0 (.slc 9000),sI 3 .i64 size1,hW 9000 (.bs .u8 slices_0)] hx0

abbrev Zf0 (x2:Int) (m1:List Int) (ya yb:Gw.Loc×Cont):List (Gw.Loc×Cont):=[sO 0 (.ptr 0 0),sO 1 (.ptr 1 0),sI 2 .i64 x2,ya,sI 5 .i64 x2,yb,hB 0 167 [.arr .u32 16 (List.replicate 16 0)],hB 1 167 [.arr .u32 16 m1]]
abbrev Zf1 (ya yb:Gw.Loc×Cont):List (Gw.Loc×Cont):=[sO 0 (.ptr 0 0),sO 1 (.ptr 1 0),ya,hB 0 167 [.arr .u32 16 (List.replicate 16 0)],yb]
abbrev Zf2 (x2:Int) (m1:List Int) (ya:Gw.Loc×Cont):List (Gw.Loc×Cont):=[sO 0 (.ptr 0 0),sO 1 (.ptr 1 0),sI 2 .i64 x2,ya,sI 5 .i64 x2,hB 0 167 [.arr .u32 16 (List.replicate 16 0)],hB 1 167 [.arr .u32 16 m1]]
theorem JdZ (r:List Int) (h:JaO=some r) {pre:List (Nat×Ent)}:CallOk P 101 [] pre (.v (.agg [.arr .u32 16 r])) []:=by
 refine Jmp (N:=26) Tryz.func101 (by kernel_rfl) rfl rfl rfl pre ?_;intro _ w;show Tr P (Ge w) 26 _ _ _ (XF P Tryz.f101 (R0 _ w));unfold JaO at h;refine Ja (Jb hT [(0,.key 0)] [sO 0 (.ptr 0 0),hB 0 167 [.arr .u32 16 (List.replicate 16 0)]] Jr ?_);refine q_k (Ja (Jb hT [(0,.key 1)] [sO 0 (.ptr 0 0),sO 1 (.ptr 1 0),hB 0 167 [.arr .u32 16 (List.replicate 16 0)],hB 1 167 [.arr .u32 16 (List.replicate 16 0)]] Jr ?_));refine q_k (Ja (Ja (Jb hT [] (Zf1 (sI 5 .i64 (0:Int)) (hB 1 167 [.arr .u32 16 (List.replicate 16 0)])) Jr ?_)));refine q_k (Jp ?_);obtain⟨m3,e14,h⟩:=bind_some h;refine XE [] (Zf1 (sI 5 .i64 (0:Int)) (hB 1 167 [.arr .u32 16 (List.replicate 16 0)])) ⟨.blk',.blk',trivial⟩ ?_
 refine VW (id:=0) (α:=List Int×Int) (β:=List Int) (fun z=>(Zf1 (sI 5 .i64 z.2) (hB 1 167 [.arr .u32 16 z.1]))) (fun z=>[sO 0 (.ptr 0 0),sO 1 (.ptr 1 0),hB 0 167 [.arr .u32 16 (List.replicate 16 0)],hB 1 167 [.arr .u32 16 z]]) (fun k z=>Yo k z.1 z.2) m3 (fun _=>rfl) (((16:Int)- (0:Int)).toNat+1) ((List.replicate 16 0),(0:Int)) e14 ?_ ?_
 ·skip
  try dsimp only at h
  refine Vy (q_k (Ja (Jb hT [] [sO 0 (.ptr 0 0),hB 0 167 [.arr .u32 16 m3]] Jr ?_)));refine q_k (Jj ?_);have h:=Option.some.inj h;subst h;exact JhL hT (.v (.agg [.arr .u32 16 m3])) rfl (by kernel_rfl)
 ·clear h e14
  intro k ih0 hx0 z h;obtain⟨m1,x2⟩:=z
  dsimp only [Yo] at h
  refine Ja (Jb hT [] [sO 0 (.ptr 0 0),sO 1 (.ptr 1 0),sI 5 .i64 x2,sB 6 (decide (x2<(16:Int))),hB 0 167 [.arr .u32 16 (List.replicate 16 0)],hB 1 167 [.arr .u32 16 m1]] Jr ?_);refine q_k (Ja ?_)
  rcases Jc h with⟨hc4,h⟩|⟨hc4,h⟩
  ·refine Jd (decide (x2<(16:Int))) (by kernel_rfl) hc4 ?_;refine Jk (q_k (Ja (Jp (Ja (Jb hT [] [sO 0 (.ptr 0 0),sO 1 (.ptr 1 0),sI 2 .i64 x2,sI 5 .i64 x2,hB 0 167 [.arr .u32 16 (List.replicate 16 0)],hB 1 167 [.arr .u32 16 m1]] Jr ?_)))));refine q_k (Ja (Jb hT [] (Zf2 x2 m1 (sI 3 .u32 (IntKind.u32.wrap x2))) Jr ?_));refine q_k (Ja (Ja (Jb hT [] (Zf0 x2 m1 (sI 3 .u32 (IntKind.u32.wrap x2)) (sI 10 .i64 (0:Int))) Jr ?_)));refine q_k (Jp ?_);obtain⟨r7,e12,h⟩:=bind_some h;refine XE [] (Zf0 x2 m1 (sI 3 .u32 (IntKind.u32.wrap x2)) (sI 10 .i64 (0:Int))) ⟨.blk',.blk',trivial⟩ ?_
   refine VW (id:=2) (α:=Int×Int) (β:=Int) (fun z=>(Zf0 x2 m1 (sI 3 .u32 z.1) (sI 10 .i64 z.2))) (fun z=>(Zf2 x2 m1 (sI 3 .u32 z))) (fun k z=>Ym m1 x2 k z.1 z.2) r7 (fun _=>rfl) (((4:Int)- (0:Int)).toNat+1) ((IntKind.u32.wrap x2),(0:Int)) e12 ?_ ?_
   ·skip
    try dsimp only at h
    refine Vy (q_k ?_);obtain⟨hn13,h⟩:=Jo h;refine Jb hT [] (Zf1 (sI 5 .i64 x2) (hB 1 167 [.arr .u32 16 (m1.set x2.toNat r7)])) (Jz hn13) ?_;refine q_b 1 ?_;refine q_k (Jb hT [] (Zf1 (sI 5 .i64 (IntKind.i64.wrap (x2+(1:Int)))) (hB 1 167 [.arr .u32 16 (m1.set x2.toNat r7)])) Jr ?_);refine Jcq ?_;exact Jac (Zf1 (sI 5 .i64 (IntKind.i64.wrap (x2+(1:Int)))) (hB 1 167 [.arr .u32 16 (m1.set x2.toNat r7)])) (ih0 ((m1.set x2.toNat r7),(IntKind.i64.wrap (x2+(1:Int)))) h)
   ·clear h e12
    intro k ih1 hx1 z h;obtain⟨r5,x6⟩:=z
    dsimp only [Ym] at h
    refine Ja (Jb hT [] [sO 0 (.ptr 0 0),sO 1 (.ptr 1 0),sI 2 .i64 x2,sI 3 .u32 r5,sI 5 .i64 x2,sI 10 .i64 x6,sB 11 (decide (x6<(4:Int))),hB 0 167 [.arr .u32 16 (List.replicate 16 0)],hB 1 167 [.arr .u32 16 m1]] Jr ?_);refine q_k (Ja ?_)
    rcases Jc h with⟨hc8,h⟩|⟨hc8,h⟩
    ·refine Jd (decide (x6<(4:Int))) (by kernel_rfl) hc8 ?_;refine Jk (q_k (Ja ?_));obtain⟨r9,e11,h⟩:=bind_some h;refine WW (σ1:=(Zf0 x2 m1 (sI 3 .u32 r9) (sI 10 .i64 x6))) ?_ ?_
     ·skip
      try dsimp only at h
      refine q_k (Jb hT [] (Zf0 x2 m1 (sI 3 .u32 r9) (sI 10 .i64 (IntKind.i64.wrap (x6+(1:Int))))) Jr ?_);refine Jcq ?_;exact Jac (Zf0 x2 m1 (sI 3 .u32 r9) (sI 10 .i64 (IntKind.i64.wrap (x6+(1:Int))))) (ih1 (r9,(IntKind.i64.wrap (x6+(1:Int)))) h)
     ·intro hj2
      clear h
      have h:=e11
      clear e11
      refine Jp (Ja (Jb hT [] [sO 0 (.ptr 0 0),sO 1 (.ptr 1 0),sI 2 .i64 x2,sI 3 .u32 r5,sI 4 .u32 (JaB .u32 r5 (1:Int)),sI 5 .i64 x2,sI 10 .i64 x6,hB 0 167 [.arr .u32 16 (List.replicate 16 0)],hB 1 167 [.arr .u32 16 m1]] Jr ?_));refine q_k (Ja ?_)
      refine Jb hT [] [sO 0 (.ptr 0 0),sO 1 (.ptr 1 0),sI 2 .i64 x2,sI 3 .u32 (shr .u32 r5 (1:Int)),sI 4 .u32 (JaB .u32 r5 (1:Int)),sI 5 .i64 x2,sI 10 .i64 x6,hB 0 167 [.arr .u32 16 (List.replicate 16 0)],hB 1 167 [.arr .u32 16 m1]] (Jz (show 0≤(1:Int) from by decide)) ?_
      refine q_k (Ja (Jb hT [] [sO 0 (.ptr 0 0),sO 1 (.ptr 1 0),sI 2 .i64 x2,sI 3 .u32 (shr .u32 r5 (1:Int)),sI 5 .i64 x2,sI 10 .i64 x6,sB 17 ((JaB .u32 r5 (1:Int))==(1:Int)),hB 0 167 [.arr .u32 16 (List.replicate 16 0)],hB 1 167 [.arr .u32 16 m1]] Jr ?_));refine q_k ?_
      rcases Jc h with⟨hc10,h⟩|⟨hc10,h⟩
      ·refine Jd ((JaB .u32 r5 (1:Int))==(1:Int)) (by kernel_rfl) hc10 ?_;refine Jb hT [] (Zf0 x2 m1 (sI 3 .u32 (XG .u32 (shr .u32 r5 (1:Int)) (3988292384:Int))) (sI 10 .i64 x6)) Jr ?_;refine q_b 3 ?_;have h:=Option.some.inj h;subst h;exact WJ (Zf0 x2 m1 (sI 3 .u32 (XG .u32 (shr .u32 r5 (1:Int)) (3988292384:Int))) (sI 10 .i64 x6)) hj2
      refine Jf ((JaB .u32 r5 (1:Int))==(1:Int)) (by kernel_rfl) hc10 ?_;refine Jk (q_b 3 ?_);have h:=Option.some.inj h;subst h;exact WJ (Zf0 x2 m1 (sI 3 .u32 (shr .u32 r5 (1:Int))) (sI 10 .i64 x6)) hj2
    refine Jf (decide (x6<(4:Int))) (by kernel_rfl) hc8 ?_;refine VY (Vr (JY ?_));have h:=Option.some.inj h;subst h;exact WJ (Zf2 x2 m1 (sI 3 .u32 r5)) hx1
  refine Jf (decide (x2<(16:Int))) (by kernel_rfl) hc4 ?_;refine VY (Vr (JY ?_));have h:=Option.some.inj h;subst h;exact WJ [sO 0 (.ptr 0 0),sO 1 (.ptr 1 0),hB 0 167 [.arr .u32 16 (List.replicate 16 0)],hB 1 167 [.arr .u32 16 m1]] hx0

abbrev Zg0 (a1:List Int) (r3:Int) (b_0:List Int) (x4:Int):=(a1.getD (JaB .u32 (XG .u32 r3 (IntKind.u32.wrap (b_0.getD x4.toNat 0))) (15:Int)).toNat 0)
abbrev Zg1 (a1:List Int) (r3:Int) (b_0:List Int) (x4:Int):=(a1.getD (JaB .u32 (XG .u32 (shr .u32 (XG .u32 r3 (IntKind.u32.wrap (b_0.getD x4.toNat 0))) (4:Int)) (Zg0 a1 r3 b_0 x4)) (15:Int)).toNat 0)
abbrev Zg2 (b_0:List Int):=(↑(List.length b_0):Int)
abbrev Zg3 (b_0:List Int) (x4:Int):=(IntKind.u32.wrap (b_0.getD x4.toNat 0))
abbrev Zg4 (b_0:List Int) (a1:List Int) (ya yb:Gw.Loc×Cont):List (Gw.Loc×Cont):=[sO 3 (.ptr 0 0),ya,sO 8 (.slc 9000),sI 9 .i64 (Zg2 b_0),yb,hB 0 167 [.arr .u32 16 a1],hR 9000 .u8 b_0]
theorem JgF (b_0:List Int) (r:Int) (h:Jah b_0=some r):CallOk P 95 [.v (.one (.slc 9000))] [(9000,.rd .u8 b_0)] (.v (.one (.int .u32 r))) []:=by
 refine Wr (N:=35) Tryz.func95 (by kernel_rfl) rfl rfl rfl [(9000,.rd .u8 b_0)] (by kernel_rfl) ?_;intro _ B w0;show Tr P B 35 w0 _ _ (XF P Tryz.f95 (R1 _ _ B w0));unfold Jah at h;refine Ja (Jb hT [] [sO 0 (.slc 9000),hR 9000 .u8 b_0] Jr ?_);refine q_k (Ja ?_);obtain⟨a1,e2,h⟩:=bind_some h;refine Jb hT [(0,.call [] (.v (.agg [.arr .u32 16 a1])) []),(1,.key 0)] [sO 0 (.slc 9000),sO 3 (.ptr 0 0),sI 4 .u32 (4294967295:Int),hB 0 167 [.arr .u32 16 a1],hR 9000 .u8 b_0] (Jz (JdZ  a1 e2 (pre:=[]))) ?_;refine q_k (Ja (Ja (Jb hT [] (Zg4 b_0 a1 (sI 4 .u32 (4294967295:Int)) (sI 10 .i64 (0:Int))) Jr ?_)));refine q_k (Jp ?_);obtain⟨r5,e10,h⟩:=bind_some h;refine XE [] (Zg4 b_0 a1 (sI 4 .u32 (4294967295:Int)) (sI 10 .i64 (0:Int))) ⟨.blk',.rd',trivial⟩ ?_
 refine VW (id:=0) (α:=Int×Int) (β:=Int) (fun z=>(Zg4 b_0 a1 (sI 4 .u32 z.1) (sI 10 .i64 z.2))) (fun z=>[sI 4 .u32 z]) (fun k z=>Xa b_0 a1 k z.1 z.2) r5 (fun _=>rfl) (((Zg2 b_0)- (0:Int)).toNat+1) ((4294967295:Int),(0:Int)) e10 ?_ ?_
 ·skip
  try dsimp only at h
  refine Vy (q_k (Ja (Jb hT [] [sI 2 .u32 (XG .u32 r5 (4294967295:Int))] Jr ?_)));refine q_k (Jj ?_);have h:=Option.some.inj h;subst h;refine WJ [sI 2 .u32 (XG .u32 r5 (4294967295:Int))] ?_;exact Jl hT (.v (.one (.int .u32 (XG .u32 r5 (4294967295:Int))))) [] (by kernel_rfl) (by kernel_rfl) (by kernel_rfl)
 ·clear h e10
  intro k ih0 hx0 z h;obtain⟨r3,x4⟩:=z
  dsimp only [Xa] at h
  refine Ja (Jb hT [] [sO 3 (.ptr 0 0),sI 4 .u32 r3,sO 8 (.slc 9000),sI 9 .i64 (Zg2 b_0),sI 10 .i64 x4,sB 11 (decide (x4<(Zg2 b_0))),hB 0 167 [.arr .u32 16 a1],hR 9000 .u8 b_0] Jr ?_);refine q_k (Ja ?_)
  rcases Jc h with⟨hc6,h⟩|⟨hc6,h⟩
  ·refine Jd (decide (x4<(Zg2 b_0))) (by kernel_rfl) hc6 ?_;refine Jk (q_k (Ja (Jp (Ja ?_))));obtain⟨hn7,h⟩:=Jo h;refine Jb hT [] [sO 3 (.ptr 0 0),sI 4 .u32 r3,sI 6 .u8 (b_0.getD x4.toNat 0),sO 8 (.slc 9000),sI 9 .i64 (Zg2 b_0),sI 10 .i64 x4,hB 0 167 [.arr .u32 16 a1],hR 9000 .u8 b_0] (Je hn7 (Jz hn7.2)) ?_;refine q_k (Ja (Jb hT [] (Zg4 b_0 a1 (sI 4 .u32 (XG .u32 r3 (Zg3 b_0 x4))) (sI 10 .i64 x4)) Jr ?_));refine q_k (Ja ?_);obtain⟨hn8,h⟩:=Jo h
   refine Jb hT [] (Zg4 b_0 a1 (sI 4 .u32 (XG .u32 (shr .u32 (XG .u32 r3 (Zg3 b_0 x4)) (4:Int)) (Zg0 a1 r3 b_0 x4))) (sI 10 .i64 x4)) (Je (show 0≤(4:Int) from by decide) (Jz hn8)) ?_
   refine q_k ?_;obtain⟨hn9,h⟩:=Jo h
   refine Jb hT [] (Zg4 b_0 a1 (sI 4 .u32 (XG .u32 (shr .u32 (XG .u32 (shr .u32 (XG .u32 r3 (Zg3 b_0 x4)) (4:Int)) (Zg0 a1 r3 b_0 x4)) (4:Int)) (Zg1 a1 r3 b_0 x4))) (sI 10 .i64 x4)) (Je (show 0≤(4:Int) from by decide) (Jz hn9)) ?_
   refine q_b 1 ?_;refine q_k (Jb hT [] (Zg4 b_0 a1 (sI 4 .u32 (XG .u32 (shr .u32 (XG .u32 (shr .u32 (XG .u32 r3 (Zg3 b_0 x4)) (4:Int)) (Zg0 a1 r3 b_0 x4)) (4:Int)) (Zg1 a1 r3 b_0 x4))) (sI 10 .i64 (IntKind.i64.wrap (x4+(1:Int))))) Jr ?_);refine Jcq ?_;exact Jac (Zg4 b_0 a1 (sI 4 .u32 (XG .u32 (shr .u32 (XG .u32 (shr .u32 (XG .u32 r3 (Zg3 b_0 x4)) (4:Int)) (Zg0 a1 r3 b_0 x4)) (4:Int)) (Zg1 a1 r3 b_0 x4))) (sI 10 .i64 (IntKind.i64.wrap (x4+(1:Int))))) (ih0 ((XG .u32 (shr .u32 (XG .u32 (shr .u32 (XG .u32 r3 (Zg3 b_0 x4)) (4:Int)) (Zg0 a1 r3 b_0 x4)) (4:Int)) (Zg1 a1 r3 b_0 x4)),(IntKind.i64.wrap (x4+(1:Int)))) h)
  refine Jf (decide (x4<(Zg2 b_0))) (by kernel_rfl) hc6 ?_;refine VY (Vr (JY ?_));have h:=Option.some.inj h;subst h;exact WJ [sI 4 .u32 r3] hx0

abbrev Zh0 (data_1:List Int):=(IntKind.u8.wrap (shr .i64 (↑(List.length data_1):Int) (8:Int)))
abbrev Zh1 (data_1:List Int):=(IntKind.u8.wrap (↑(List.length data_1):Int))
theorem Qp (kind_0:Int) (data_1:List Int) (r:List Int) (h:Xe kind_0 data_1=some r):CallOk P 78 [.v (.one (.int .i64 kind_0)),.v (.one (.slc 9000))] [(9000,.rd .u8 data_1)] (.v (.one (.slc 8900))) [(8900,.own 5 .u8 r)]:=by
 refine Wr (N:=39) Tryz.func78 (by kernel_rfl) rfl rfl rfl [(9000,.rd .u8 data_1)] (by kernel_rfl) ?_;intro _ B w0;show Tr P B 39 w0 _ _ (XF P Tryz.f78 (R1 _ _ B w0));unfold Xe at h;refine Ja (Jb hT [] [sI 0 .i64 kind_0,sO 1 (.slc 9000),hR 9000 .u8 data_1] Jr ?_);refine q_k (Ja (Jb hT [] [sI 0 .i64 kind_0,sO 1 (.slc 9000),sI 5 .i64 (↑(List.length data_1):Int),hR 9000 .u8 data_1] Jr ?_));refine q_k (Ja ?_)
 refine Jb hT [(7,.key 0)] [sO 1 (.slc 9000),sO 6 (.slc 0),hO 0 5 .u8 [(IntKind.u8.wrap kind_0),(Zh0 data_1),(Zh1 data_1)],hR 9000 .u8 data_1] (Jz (show 0≤(8:Int) from by decide)) ?_
 refine q_k (Ja ?_);obtain⟨a1,e2,h⟩:=bind_some h;obtain⟨r3,e4,h⟩:=bind_some h;refine Jb hT [(2,.key 1),(3,.call [1] (.v (.one (.slc 2))) [(2,.own 5 .u8 a1)]),(4,.call [2] (.v (.one (.int .u32 r3))) [])] [sO 1 (.slc 9000),sO 6 (.slc 0),sI 7 .u32 r3,hR 0 .u8 [(IntKind.u8.wrap kind_0),(Zh0 data_1),(Zh1 data_1)],hR 9000 .u8 data_1] (Je ((VA [[(IntKind.u8.wrap kind_0),(Zh0 data_1),(Zh1 data_1)],data_1] a1 e2).tr1 [(9000,.slc 1),(8900,.slc 2)] [(1,.rows (.bs .u8 [[(IntKind.u8.wrap kind_0),(Zh0 data_1),(Zh1 data_1)],data_1]))] ⟨.rows',trivial⟩) (Jz ((JgF a1 r3 e4).tr1 [(9000,.slc 2)] [(2,.own 5 .u8 a1)] ⟨.ownrd' (e:=5),trivial⟩))) ?_;refine q_k (Ja ?_);obtain⟨a5,e6,h⟩:=bind_some h
 refine Jb hT [(12,.key 3),(14,.key 4),(15,.call [4] (.v (.one (.slc 5))) [(5,.own 5 .u8 a5)])] [sO 4 (.slc 5),hO 5 5 .u8 a5] (Je (show 0≤(24:Int) from by decide) (Je (show 0≤(16:Int) from by decide) (Je (show 0≤(8:Int) from by decide) (Jz ((VA [[(IntKind.u8.wrap kind_0),(Zh0 data_1),(Zh1 data_1)],[(IntKind.u8.wrap (shr .u32 r3 (24:Int))),(IntKind.u8.wrap (shr .u32 r3 (16:Int))),(IntKind.u8.wrap (shr .u32 r3 (8:Int))),(IntKind.u8.wrap r3)],data_1] a5 e6).tr1 [(9000,.slc 4),(8900,.slc 5)] [(4,.rows (.bs .u8 [[(IntKind.u8.wrap kind_0),(Zh0 data_1),(Zh1 data_1)],[(IntKind.u8.wrap (shr .u32 r3 (24:Int))),(IntKind.u8.wrap (shr .u32 r3 (16:Int))),(IntKind.u8.wrap (shr .u32 r3 (8:Int))),(IntKind.u8.wrap r3)],data_1]))] ⟨.rows',trivial⟩))))) ?_
 refine q_k (Jj ?_);have h:=Option.some.inj h;subst h;refine Vx [(8900,.slc 5)] [sO 4 (.slc 8900),hO 8900 5 .u8 a5] ⟨.own',trivial⟩ ?_;exact Jl hT (.v (.one (.slc 8900))) [(8900,.own 5 .u8 a5)] (by kernel_rfl) (by kernel_rfl) (by kernel_rfl)

end Go.Proofs.Se
