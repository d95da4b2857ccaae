/- Walks, printed by a program of this session (gowalk.py): each Go function comes to its plain function's answer. -/
import Derived.Test.YtdbheiibkpendaaGreatDoorSeA
import Derived.Test.YtdbheiibkpendaaGreatDoorSeD
import Derived.Test.YtdbheiibkpendaaGreatDoorMSeS
import Derived.Test.YtdbheiibkpendaaGreatDoorMSeE1
import Derived.Test.YtdbheiibkpendaaGreatDoorMSeE1
import Derived.Test.YtdbheiibkpendaaGreatDoorMSeE1
import Derived.Test.YtdbheiibkpendaaGreatDoorSeV0
import Derived.Test.YtdbheiibkpendaaGreatDoorSeV1
import Derived.Test.YtdbheiibkpendaaGreatDoorSeV2
import Derived.Test.YtdbheiibkpendaaGreatDoorSeV3
namespace Go.Proofs.Se
open Go Go.Gw D
set_option linter.unusedVariables false
set_option maxRecDepth 20000

abbrev ZC0 (a_0:List (Int×List Int)) (b_1:List (Int×List Int)) (ya:Gw.Loc×Cont):List (Gw.Loc×Cont):=[sO 0 (.slc 9000),sO 1 (.slc 9001),ya,hW 9000 (.rc a_0),hW 9001 (.rc b_1)]
theorem XB (a_0:List (Int×List Int)) (b_1:List (Int×List Int)) (r:Bool) (h:Ya a_0 b_1=some r):CallOk P 17 [.v (.one (.slc 9000)),.v (.one (.slc 9001))] [(9000,.rows (.rc a_0)),(9001,.rows (.rc b_1))] (.v (.one (.bool r))) []:=by
 refine Wr (N:=42) Tryz.func17 (by kernel_rfl) rfl rfl rfl [(9000,.rows (.rc a_0)),(9001,.rows (.rc b_1))] (by kernel_rfl) ?_;intro _ B w0;show Tr P B 42 w0 _ _ (XF P Tryz.f17 (R1 _ _ B w0));unfold Ya at h;refine Ja (Jb hT [] [sO 0 (.slc 9000),sO 1 (.slc 9001),hW 9000 (.rc a_0),hW 9001 (.rc b_1)] Jr ?_);refine q_k (Ja (Ja (Jb hT [] (ZC0 a_0 b_1 (sB 10 ((↑(List.length a_0):Int) !=(↑(List.length b_1):Int)))) Jr ?_)));refine q_k ?_
 rcases Jc h with⟨hc1,h⟩|⟨hc1,h⟩
 ·refine Jd ((↑(List.length a_0):Int) !=(↑(List.length b_1):Int)) (by kernel_rfl) hc1 ?_;refine Ja (Jb hT [] [sB 4 false] Jr ?_);refine q_k (Jj (Ji ?_));have h:=Option.some.inj h;subst h;refine WJ [sB 4 false] ?_;exact Jl hT (.v (.one (.bool false))) [] (by kernel_rfl) (by kernel_rfl) (by kernel_rfl)
 refine Jf ((↑(List.length a_0):Int) !=(↑(List.length b_1):Int)) (by kernel_rfl) hc1 ?_;refine Jk (q_k (Ja (Ja (Jb hT [] (ZC0 a_0 b_1 (sI 5 .i64 (0:Int))) Jr ?_))));refine q_k (Jp ?_);obtain⟨rr0,e11,h⟩:=bind_some h;refine XE [] (ZC0 a_0 b_1 (sI 5 .i64 (0:Int))) ⟨.rows',.rows',trivial⟩ ?_
 refine VH (id:=0) (α:=Int) (β:=Unit) (ρ:=Bool) (fun z=>(ZC0 a_0 b_1 (sI 5 .i64 z))) (fun z=>[]) (fun v σ=>Jc5 T (Gw.look σ) Tryz.f17.results.toList=some (.v (.one (.bool v)))∧Gw.hasAll σ []=some (Gw.preSS [])) (fun k z=>Xf a_0 b_1 k z) rr0 (fun _=>rfl) (((↑(List.length a_0):Int)- (0:Int)).toNat+1) (0:Int) e11 ?_ ?_ ?_
 ·intro z hz;subst hz
  rcases z with _
  try dsimp only at h
  refine Vy (q_k (Ja (Jb hT [] [sB 4 true] Jr ?_)));refine q_k (Jj ?_);have h:=Option.some.inj h;subst h;refine WJ [sB 4 true] ?_;exact Jl hT (.v (.one (.bool true))) [] (by kernel_rfl) (by kernel_rfl) (by kernel_rfl)
 ·intro v σ hz hv;subst hz;have h:=Option.some.inj h;subst h;refine Jy ?_;refine Ji ?_;exact Jl hT _ _ hv.1 hv.2 (by kernel_rfl)
 ·clear h e11
  intro k ih0 hx0 hr0 i2 h
  try dsimp only at h
  refine Ja (Ja (Jb hT [] [sO 0 (.slc 9000),sO 1 (.slc 9001),sI 5 .i64 i2,sB 14 (decide (i2<(↑(List.length a_0):Int))),hW 9000 (.rc a_0),hW 9001 (.rc b_1)] Jr ?_));refine q_k ?_
  rcases Jc h with⟨hc3,h⟩|⟨hc3,h⟩
  ·refine Jd (decide (i2<(↑(List.length a_0):Int))) (by kernel_rfl) hc3 ?_;refine Jk (q_k (Ja (Jp (Ja ?_))));obtain⟨hn4,hn5,h⟩:=it2 h
   rcases Jc h with⟨hb6,h⟩|⟨hb7,h⟩
   ·refine Wy hT hM [(11,.dec true)] [sO 0 (.slc 9000),sO 1 (.slc 9001),sI 5 .i64 i2,sB 41 true,hW 9000 (.rc a_0),hW 9001 (.rc b_1)] (Je hn4 (Je hn4 (Je hn4.2 (Je hn5 (Je hn5 (Je hn5.2 (Jz hb6))))))) ?_;refine q_k (Jd true (by kernel_rfl) rfl ?_);refine Ja (Jb hT [] [sB 4 false] Jr ?_);refine q_k (Jj (Jy (Ji (Wj ?_))));have h:=Option.some.inj h;subst h
    exact WJ [sB 4 false] (hr0 false _ rfl ⟨by kernel_rfl,by kernel_rfl⟩)
   obtain⟨b8,e9,h⟩:=bind_some h;refine Wy hT hM [(11,.dec false),(16,.key 0),(21,.key 1),(22,.call [0,1] (.v (.one (.bool b8))) [])] [sO 0 (.slc 9000),sO 1 (.slc 9001),sI 5 .i64 i2,sB 41 (!b8),hW 9000 (.rc a_0),hW 9001 (.rc b_1)] (Je hn4 (Je hn4 (Je hn4.2 (Je hn5 (Je hn5 (Je hn5.2 (Je hb7 (Je hn4 (Je hn4 (Je hn4.2 (Je hn5 (Je hn5 (Je hn5.2 (Jz ((Jdd ((a_0.getD i2.toNat (0,[])).2) ((b_1.getD i2.toNat (0,[])).2) b8 e9).tr1 [(9000,.slc 0),(9001,.slc 1)] [(0,.rd .u8 ((a_0.getD i2.toNat (0,[])).2)),(1,.rd .u8 ((b_1.getD i2.toNat (0,[])).2))] ⟨.rd',.rd',trivial⟩))))))))))))))) ?_;refine q_k ?_
   rcases Jc h with⟨hc10,h⟩|⟨hc10,h⟩
   ·refine Jd (!b8) (by kernel_rfl) hc10 ?_;refine Ja (Jb hT [] [sB 4 false] Jr ?_);refine q_k (Jj (Jy (Ji (Wj ?_))));have h:=Option.some.inj h;subst h
    exact WJ [sB 4 false] (hr0 false _ rfl ⟨by kernel_rfl,by kernel_rfl⟩)
   refine Jf (!b8) (by kernel_rfl) hc10 ?_;refine Jk (q_b 1 ?_);refine q_k (Jb hT [] (ZC0 a_0 b_1 (sI 5 .i64 (IntKind.i64.wrap (i2+(1:Int))))) Jr ?_);refine Jcq ?_;exact Jac (ZC0 a_0 b_1 (sI 5 .i64 (IntKind.i64.wrap (i2+(1:Int))))) (ih0 (IntKind.i64.wrap (i2+(1:Int))) h)
  refine Jf (decide (i2<(↑(List.length a_0):Int))) (by kernel_rfl) hc3 ?_;refine VY (Vr (JY ?_));have h:=Option.some.inj h;subst h;exact WJ [] (hx0 () rfl)

theorem Yh (H_0:AH) (d_1:MV) (r:AH) (h:Vs H_0 d_1=some r):CallOk P 16 [.v (.one (.slc 9001))] [(9000,.arena true [] H_0),(9001,.apt 9000 d_1)] (.tup []) [(8900,.arena true [9000] r),(9000,.dead)]:=by
 refine Wr (N:=5) Tryz.func16 (by kernel_rfl) rfl rfl rfl [(9000,.arena true [] H_0),(9001,.apt 9000 d_1)] (by kernel_rfl) ?_
 intro _ B w0
 show Tr P B 5 w0 _ _ (XF P Tryz.f16 (R1 _ _ B w0))
 unfold Vs at h
 obtain⟨hn1,h⟩:=Jo h
 obtain⟨hn2,h⟩:=Jo h
 refine Jb hT [(1,.ar 9000 []),(2,.ar 9000 []),(3,.ar 9000 [0])] [(.h 0,.e (.arena true [9000] (AH.wr H_0 d_1 2 [MV.bool false])))] (Je hn1 (Je hn1 (Je hn2 (Jz (show 1≤1 from by decide))))) ?_
 have h:=Option.some.inj h
 subst h
 refine Vx [(8900,.slc 0)] [(.h 8900,.e (.arena true [9000] (AH.wr H_0 d_1 2 [MV.bool false]))),hD 9000] ⟨.arena' (bs:=[9000]),.dead,trivial⟩ ?_
 exact Jgb hT (.tup []) [(8900,.arena true [9000] (AH.wr H_0 d_1 2 [MV.bool false])),(9000,.dead)] (by kernel_rfl) (by kernel_rfl) (by kernel_rfl)

theorem VR (H_0:AH) (s_1:MV) (s_2:Nat) (s_3:Int) (s_4:List Int) (r:Int) (h:VG H_0 s_1 s_2 s_3 s_4=some r):CallOk P 18 [.v (.one (.ptr 9001 0))] [(9000,.arena false [] H_0),(9001,.rblk 76 [.slc 9002,.slc 9003,.int .i64 s_3,.slc 9004]),(9002,.apt 9000 s_1),(9003,.rdn s_2),(9004,.rd .i64 s_4)] (.v (.one (.int .i64 r))) []:=by
 refine Wr (N:=8) Tryz.func18 (by kernel_rfl) rfl rfl rfl [(9000,.arena false [] H_0),(9001,.rblk 76 [.slc 9002,.slc 9003,.int .i64 s_3,.slc 9004]),(9002,.apt 9000 s_1),(9003,.rdn s_2),(9004,.rd .i64 s_4)] (by kernel_rfl) ?_
 intro _ B w0
 show Tr P B 8 w0 _ _ (XF P Tryz.f18 (R1 _ _ B w0))
 unfold VG at h
 refine Ja ?_
 refine Jb hT [] [sO 0 (.ptr 9001 0),(.h 9000,.e (.arena false [] H_0)),hF 9001 76 [.slc 9002,.slc 9003,.int .i64 s_3,.slc 9004],(.h 9002,.e (.apt 9000 s_1)),(.h 9003,.e (.rdn s_2)),hR 9004 .i64 s_4] Jr ?_
 refine q_k ?_
 refine Ja ?_
 refine Jb hT [(4,.oi [])] [sI 2 .i64 (s_2:Int),(.h 9000,.e (.arena false [] H_0))] Jr ?_
 refine q_k ?_
 refine Jj ?_
 have h:=Option.some.inj h
 subst h
 refine WJ [sI 2 .i64 (s_2:Int),(.h 9000,.e (.arena false [] H_0))] ?_
 exact Jl hT (.v (.one (.int .i64 (s_2:Int)))) [] (by kernel_rfl) (by kernel_rfl) (by kernel_rfl)

abbrev ZD0 (r20:Int) (a21:List Int) (a23:List Int) (r22:Int) (H24:AH):Nat×Hint:=(2,.callA [(2,.rw),(9999,.same),(3,.same),(4,.apt 2),(5,.same),(6,.same),(9,.same)] (.v (.one (.int .i64 r20))) [(5,.dead),(6,.dead),(12,.owni 91 2 a21),(13,.ownf 3 .i64 a23),(3,.blk 76 [.slc 4,.slc 12,.int .i64 r22,.slc 13]),(11,.arena true [2] H24),(2,.dead)])
abbrev ZD1:Gw.Loc×Cont:=(.h 9999,.e (.gv 0 hv))
abbrev ZD2 (r28:Int) (a30:List Int) (r29:Int) (H31:AH):Nat×Hint:=(6,.callA [(11,.rw),(9999,.same),(3,.same),(4,.apt 11),(12,.same),(13,.same)] (.v (.one (.int .i64 r28))) [(13,.dead),(15,.ownf 3 .i64 a30),(3,.blk 76 [.slc 4,.slc 12,.int .i64 r29,.slc 15]),(14,.arena true [11] H31),(11,.dead)])
abbrev ZD3 (r35:Int) (a36:List Int) (a38:List Int) (r37:Int) (H39:AH):Nat×Hint:=(12,.callA [(14,.rw),(9999,.same),(3,.same),(4,.apt 14),(12,.same),(15,.same)] (.v (.one (.int .i64 r35))) [(12,.dead),(15,.dead),(17,.owni 91 2 a36),(18,.ownf 3 .i64 a38),(3,.blk 76 [.slc 4,.slc 17,.int .i64 r37,.slc 18]),(16,.arena true [14] H39),(14,.dead)])
abbrev ZD4 (r7:Int):Nat×Ent:=(3,.blk 76 [.slc 4,.slc 5,.int .i64 r7,.slc 6])
abbrev ZD5 (a54:List (Int×List Int)):=((strOfNums ((a54.getD 0 (0,[])).2)).data.toList==(ByteArray.mk #[111,110,101]).data.toList)
abbrev ZD6:Nat×Ent:=(9,.rd .u8 [(111:Int),(110:Int),(101:Int)])
abbrev ZD7 (H11:AH):Gw.Loc×Cont:=(.h 2,.e (.arena true [0] H11))
abbrev ZD8 (p1:MV) (H11:AH) (r7:Int) (p5:MV) (a6:List Int) (a8:List Int) (ya:Gw.Loc×Cont):List (Gw.Loc×Cont):=[sO 3 (.ptr 3 0),ya,(.h 1,.e (.apt 0 p1)),(ZD7 H11),hB 3 76 [.slc 4,.slc 5,.int .i64 r7,.slc 6],(.h 4,.e (.apt 2 p5)),(.h 5,.e (.owni 91 2 a6)),(.h 6,.e (.ownf 3 .i64 a8)),ZD1]
theorem JcH (r:Bool) (h:XW=some r):CallOk P 19 [] [(9999,.gv 0 hv)] (.v (.one (.bool r))) []:=by
 refine Wr (N:=81) Tryz.func19 (by kernel_rfl) rfl rfl rfl [(9999,.gv 0 hv)] (by kernel_rfl) ?_;intro _ B w0;show Tr P B 81 w0 _ _ (XF P Tryz.f19 (R1 _ _ B w0));unfold XW at h;refine Ja (Jb hT [] [ZD1] Jr ?_);refine q_k (Ja ?_);obtain⟨⟨p1,r2,H3⟩,e4,h⟩:=bind_some h;refine Jb hT [(0,.callA [] (.tup [.one (.slc 1),.one (.int .i64 r2)]) [(1,.apt 0 p1),(0,.arena true [] H3)])] [sO 1 (.slc 1),sI 2 .i64 r2,(.h 0,.e (.arena true [] H3)),(.h 1,.e (.apt 0 p1)),ZD1] (Jz ((Jcl (1000:Int) (p1,r2,H3) e4).tr1 [(8901,.slc 0),(8900,.slc 1)] [] trivial)) ?_;refine q_k (Ja ?_);obtain⟨⟨p5,a6,r7,a8,a9,r10,H11⟩,e12,h⟩:=bind_some h;refine Jb hT [(1,.callA [(0,.rw),(9999,.same),(1,.apt 0)] (.tup [.one (.ptr 3 0),.one (.slc 7),.one (.int .i64 r10)]) [(4,.apt 2 p5),(5,.owni 91 2 a6),(6,.ownf 3 .i64 a8),(ZD4 r7),(7,.orows 37 (.rc a9)),(2,.arena true [0] H11),(0,.dead)])] ((sO 1 (.slc 1))::(sI 2 .i64 r2)::ZD8 p1 H11 r7 p5 a6 a8 (sI 5 .i64 r10)) (Jz ((XJ H3 p1 (p5,a6,r7,a8,a9,r10,H11) e12).tr1 [(9999,.slc 9999),(9001,.slc 1),(9000,.slc 0),(8905,.slc 2),(8900,.slc 3),(8901,.slc 4),(8902,.slc 5),(8903,.slc 6),(8904,.slc 7)] [(0,.arena true [] H3),(9999,.gv 0 hv),(1,.apt 0 p1)] ⟨.arena' (bs:=[]),.apts' (κb:=0),.gv',trivial⟩)) ?_;refine q_k (Ja (Ja ?_))
 rcases Jc h with⟨hb13,h⟩|⟨hb14,h⟩
 ·refine Jb hT [(2,.dec true)] ((sO 1 (.slc 1))::ZD8 p1 H11 r7 p5 a6 a8 (sB 32 true)) (Jz hb13) ?_;refine q_k (Jd true (by kernel_rfl) rfl ?_);refine Ja (Jb hT [] [sB 0 false,ZD1] Jr ?_);refine q_k (Jj (Ji ?_));have h:=Option.some.inj h;subst h;refine WJ [sB 0 false] ?_;exact Jl hT (.v (.one (.bool false))) [] (by kernel_rfl) (by kernel_rfl) (by kernel_rfl)
 rcases Jc h with⟨hb15,h⟩|⟨hb16,h⟩
 ·refine Jb hT [(2,.dec false),(6,.dec true)] ((sO 1 (.slc 1))::ZD8 p1 H11 r7 p5 a6 a8 (sB 32 true)) (Je hb14 (Jz hb15)) ?_;refine q_k (Jd true (by kernel_rfl) rfl ?_);refine Ja (Jb hT [] [sB 0 false,ZD1] Jr ?_);refine q_k (Jj (Ji ?_));have h:=Option.some.inj h;subst h;refine WJ [sB 0 false] ?_;exact Jl hT (.v (.one (.bool false))) [] (by kernel_rfl) (by kernel_rfl) (by kernel_rfl)
 obtain⟨hn17,h⟩:=Jo h
 rcases Jc h with⟨hb18,h⟩|⟨hb19,h⟩
 ·refine Jb hT [(2,.dec false),(6,.dec false),(8,.ar 2 []),(10,.dec true)] ((sO 1 (.slc 1))::ZD8 p1 H11 r7 p5 a6 a8 (sB 32 true)) (Je hb14 (Je hb16 (Je hn17 (Jz hb18)))) ?_;refine q_k (Jd true (by kernel_rfl) rfl ?_);refine Ja (Jb hT [] [sB 0 false,ZD1] Jr ?_);refine q_k (Jj (Ji ?_));have h:=Option.some.inj h;subst h;refine WJ [sB 0 false] ?_;exact Jl hT (.v (.one (.bool false))) [] (by kernel_rfl) (by kernel_rfl) (by kernel_rfl)
 refine Jb hT [(2,.dec false),(6,.dec false),(8,.ar 2 []),(10,.dec false)] ((sO 1 (.slc 1))::ZD8 p1 H11 r7 p5 a6 a8 (sB 32 false)) (Je hb14 (Je hb16 (Je hn17 (Jz hb19)))) ?_;refine q_k (Jf false (by kernel_rfl) rfl ?_);refine Jk (q_k (Ja ?_))
 refine Jb hT [(0,.key 8),(1,.key 9),(3,.key 10)] [sO 1 (.slc 1),sO 3 (.ptr 3 0),sO 6 (.ptr 10 0),(.h 1,.e (.apt 0 p1)),(ZD7 H11),hB 3 76 [.slc 4,.slc 5,.int .i64 r7,.slc 6],(.h 4,.e (.apt 2 p5)),(.h 5,.e (.owni 91 2 a6)),(.h 6,.e (.ownf 3 .i64 a8)),hR 9 .u8 [(111:Int),(110:Int),(101:Int)],hB 10 37 [.int .i64 (1:Int),.slc 9],ZD1] (Jz (show 0<List.length [(111:Int),(110:Int),(101:Int)] from by decide)) ?_
 refine q_k (Ja (Ja ?_));obtain⟨⟨r20,a21,r22,a23,H24⟩,e25,h⟩:=bind_some h
 rcases Jc h with⟨hb26,h⟩|⟨hb27,h⟩
 ·refine Jb hT [(ZD0 r20 a21 a23 r22 H24),(4,.dec true)] [sO 1 (.slc 1),sB 55 true,(.h 1,.e (.apt 0 p1)),(.h 11,.e (.arena true [2,0] H24)),ZD1] (Je ((JO H11 p5 a6 r7 a8 (1:Int) [(111:Int),(110:Int),(101:Int)] (r20,a21,r22,a23,H24) e25).tr1 [(9999,.slc 9999),(9001,.slc 3),(9002,.slc 4),(9003,.slc 5),(9004,.slc 6),(9005,.slc 9),(9000,.slc 2),(8900,.slc 11),(8901,.slc 12),(8902,.slc 13)] [(2,.arena true [] H11),(9999,.gv 0 hv),(ZD4 r7),(4,.apt 2 p5),(5,.owni 91 2 a6),(6,.ownf 3 .i64 a8),ZD6] ⟨.arena' (bs:=[]),.blk',.apts' (κb:=2),.owni',.ownf',.rd',.gv',trivial⟩) (Jz hb26)) ?_;refine q_k (Jd true (by kernel_rfl) rfl ?_);refine Ja (Jb hT [] [sB 0 false,ZD1] Jr ?_);refine q_k (Jj (Ji ?_));have h:=Option.some.inj h;subst h;refine WJ [sB 0 false] ?_;exact Jl hT (.v (.one (.bool false))) [] (by kernel_rfl) (by kernel_rfl) (by kernel_rfl)
 obtain⟨⟨r28,r29,a30,H31⟩,e32,h⟩:=bind_some h
 rcases Jc h with⟨hb33,h⟩|⟨hb34,h⟩
 ·refine Jb hT [(ZD0 r20 a21 a23 r22 H24),(4,.dec false),(ZD2 r28 a30 r29 H31),(9,.dec true)] [sO 1 (.slc 1),sB 55 true,(.h 1,.e (.apt 0 p1)),(.h 14,.e (.arena true [11,2,0] H31)),ZD1] (Je ((JO H11 p5 a6 r7 a8 (1:Int) [(111:Int),(110:Int),(101:Int)] (r20,a21,r22,a23,H24) e25).tr1 [(9999,.slc 9999),(9001,.slc 3),(9002,.slc 4),(9003,.slc 5),(9004,.slc 6),(9005,.slc 9),(9000,.slc 2),(8900,.slc 11),(8901,.slc 12),(8902,.slc 13)] [(2,.arena true [] H11),(9999,.gv 0 hv),(ZD4 r7),(4,.apt 2 p5),(5,.owni 91 2 a6),(6,.ownf 3 .i64 a8),ZD6] ⟨.arena' (bs:=[]),.blk',.apts' (κb:=2),.owni',.ownf',.rd',.gv',trivial⟩) (Je hb27 (Je ((Wv H24 p5 (List.length a21/2) r22 a23 (r28,r29,a30,H31) e32).tr1 [(9999,.slc 9999),(9001,.slc 3),(9002,.slc 4),(9003,.slc 12),(9004,.slc 13),(9000,.slc 11),(8900,.slc 14),(8901,.slc 15)] [(11,.arena true [] H24),(9999,.gv 0 hv),(3,.blk 76 [.slc 4,.slc 12,.int .i64 r22,.slc 13]),(4,.apt 11 p5),(12,.owni 91 2 a21),(13,.ownf 3 .i64 a23)] ⟨.arena' (bs:=[]),.blk',.apts' (κb:=11),.rdni' (e:=91) (sz:=2) (l:=a21),.ownf',.gv',trivial⟩) (Jz hb33)))) ?_;refine q_k (Jd true (by kernel_rfl) rfl ?_);refine Ja (Jb hT [] [sB 0 false,ZD1] Jr ?_);refine q_k (Jj (Ji ?_));have h:=Option.some.inj h;subst h;refine WJ [sB 0 false] ?_;exact Jl hT (.v (.one (.bool false))) [] (by kernel_rfl) (by kernel_rfl) (by kernel_rfl)
 obtain⟨⟨r35,a36,r37,a38,H39⟩,e40,h⟩:=bind_some h
 rcases Jc h with⟨hb41,h⟩|⟨hb42,h⟩
 ·refine Jb hT [(ZD0 r20 a21 a23 r22 H24),(4,.dec false),(ZD2 r28 a30 r29 H31),(9,.dec false),(ZD3 r35 a36 a38 r37 H39),(15,.dec true)] [sO 1 (.slc 1),sB 55 true,(.h 1,.e (.apt 0 p1)),(.h 16,.e (.arena true [14,11,2,0] H39)),ZD1] (Je ((JO H11 p5 a6 r7 a8 (1:Int) [(111:Int),(110:Int),(101:Int)] (r20,a21,r22,a23,H24) e25).tr1 [(9999,.slc 9999),(9001,.slc 3),(9002,.slc 4),(9003,.slc 5),(9004,.slc 6),(9005,.slc 9),(9000,.slc 2),(8900,.slc 11),(8901,.slc 12),(8902,.slc 13)] [(2,.arena true [] H11),(9999,.gv 0 hv),(ZD4 r7),(4,.apt 2 p5),(5,.owni 91 2 a6),(6,.ownf 3 .i64 a8),ZD6] ⟨.arena' (bs:=[]),.blk',.apts' (κb:=2),.owni',.ownf',.rd',.gv',trivial⟩) (Je hb27 (Je ((Wv H24 p5 (List.length a21/2) r22 a23 (r28,r29,a30,H31) e32).tr1 [(9999,.slc 9999),(9001,.slc 3),(9002,.slc 4),(9003,.slc 12),(9004,.slc 13),(9000,.slc 11),(8900,.slc 14),(8901,.slc 15)] [(11,.arena true [] H24),(9999,.gv 0 hv),(3,.blk 76 [.slc 4,.slc 12,.int .i64 r22,.slc 13]),(4,.apt 11 p5),(12,.owni 91 2 a21),(13,.ownf 3 .i64 a23)] ⟨.arena' (bs:=[]),.blk',.apts' (κb:=11),.rdni' (e:=91) (sz:=2) (l:=a21),.ownf',.gv',trivial⟩) (Je hb34 (Je ((JO H31 p5 a21 r29 a30 (2:Int) [] (r35,a36,r37,a38,H39) e40).tr1 [(9999,.slc 9999),(9001,.slc 3),(9002,.slc 4),(9003,.slc 12),(9004,.slc 15),(9005,.nils),(9000,.slc 14),(8900,.slc 16),(8901,.slc 17),(8902,.slc 18)] [(14,.arena true [] H31),(9999,.gv 0 hv),(3,.blk 76 [.slc 4,.slc 12,.int .i64 r29,.slc 15]),(4,.apt 14 p5),(12,.owni 91 2 a21),(15,.ownf 3 .i64 a30)] ⟨.arena' (bs:=[]),.blk',.apts' (κb:=14),.owni',.ownf',.nilrd,.gv',trivial⟩) (Jz hb41)))))) ?_;refine q_k (Jd true (by kernel_rfl) rfl ?_);refine Ja (Jb hT [] [sB 0 false,ZD1] Jr ?_);refine q_k (Jj (Ji ?_));have h:=Option.some.inj h
  subst h;refine WJ [sB 0 false] ?_;exact Jl hT (.v (.one (.bool false))) [] (by kernel_rfl) (by kernel_rfl) (by kernel_rfl)
 obtain⟨r43,e44,h⟩:=bind_some h;refine Jb hT [(ZD0 r20 a21 a23 r22 H24),(4,.dec false),(ZD2 r28 a30 r29 H31),(9,.dec false),(ZD3 r35 a36 a38 r37 H39),(15,.dec false),(17,.callA [(16,.ro),(3,.same),(4,.apt 16),(17,.same),(18,.same)] (.v (.one (.int .i64 r43))) [])] [sO 1 (.slc 1),sB 55 (r43 !=(2:Int)),(.h 1,.e (.apt 0 p1)),(.h 16,.e (.arena true [14,11,2,0] H39)),ZD1] (Je ((JO H11 p5 a6 r7 a8 (1:Int) [(111:Int),(110:Int),(101:Int)] (r20,a21,r22,a23,H24) e25).tr1 [(9999,.slc 9999),(9001,.slc 3),(9002,.slc 4),(9003,.slc 5),(9004,.slc 6),(9005,.slc 9),(9000,.slc 2),(8900,.slc 11),(8901,.slc 12),(8902,.slc 13)] [(2,.arena true [] H11),(9999,.gv 0 hv),(ZD4 r7),(4,.apt 2 p5),(5,.owni 91 2 a6),(6,.ownf 3 .i64 a8),ZD6] ⟨.arena' (bs:=[]),.blk',.apts' (κb:=2),.owni',.ownf',.rd',.gv',trivial⟩) (Je hb27 (Je ((Wv H24 p5 (List.length a21/2) r22 a23 (r28,r29,a30,H31) e32).tr1 [(9999,.slc 9999),(9001,.slc 3),(9002,.slc 4),(9003,.slc 12),(9004,.slc 13),(9000,.slc 11),(8900,.slc 14),(8901,.slc 15)] [(11,.arena true [] H24),(9999,.gv 0 hv),(3,.blk 76 [.slc 4,.slc 12,.int .i64 r22,.slc 13]),(4,.apt 11 p5),(12,.owni 91 2 a21),(13,.ownf 3 .i64 a23)] ⟨.arena' (bs:=[]),.blk',.apts' (κb:=11),.rdni' (e:=91) (sz:=2) (l:=a21),.ownf',.gv',trivial⟩) (Je hb34 (Je ((JO H31 p5 a21 r29 a30 (2:Int) [] (r35,a36,r37,a38,H39) e40).tr1 [(9999,.slc 9999),(9001,.slc 3),(9002,.slc 4),(9003,.slc 12),(9004,.slc 15),(9005,.nils),(9000,.slc 14),(8900,.slc 16),(8901,.slc 17),(8902,.slc 18)] [(14,.arena true [] H31),(9999,.gv 0 hv),(3,.blk 76 [.slc 4,.slc 12,.int .i64 r29,.slc 15]),(4,.apt 14 p5),(12,.owni 91 2 a21),(15,.ownf 3 .i64 a30)] ⟨.arena' (bs:=[]),.blk',.apts' (κb:=14),.owni',.ownf',.nilrd,.gv',trivial⟩) (Je hb42 (Jz ((VR H39 p5 (List.length a36/2) r37 a38 r43 e44).tr1 [(9001,.slc 3),(9002,.slc 4),(9003,.slc 17),(9004,.slc 18),(9000,.slc 16)] [(16,.arena false [] H39),(3,.blk 76 [.slc 4,.slc 17,.int .i64 r37,.slc 18]),(4,.apt 16 p5),(17,.owni 91 2 a36),(18,.ownf 3 .i64 a38)] ⟨.arena' (bs:=[]),.blkr',.apts' (κb:=16),.rdni' (e:=91) (sz:=2) (l:=a36),.ownfr' (e:=3),trivial⟩)))))))) ?_
 refine q_k ?_
 rcases Jc h with⟨hc45,h⟩|⟨hc45,h⟩
 ·refine Jd (r43 !=(2:Int)) (by kernel_rfl) hc45 ?_;refine Ja (Jb hT [] [sB 0 false,ZD1] Jr ?_);refine q_k (Jj (Ji ?_));have h:=Option.some.inj h;subst h;refine WJ [sB 0 false] ?_;exact Jl hT (.v (.one (.bool false))) [] (by kernel_rfl) (by kernel_rfl) (by kernel_rfl)
 refine Jf (r43 !=(2:Int)) (by kernel_rfl) hc45 ?_;refine Jk (q_k (Ja ?_));obtain⟨H46,e47,h⟩:=bind_some h;refine Jb hT [(1,.callA [(16,.rw),(1,.apt 16)] (.tup []) [(19,.arena true [16] H46),(16,.dead)])] [sO 1 (.slc 1),(.h 1,.e (.apt 0 p1)),(.h 19,.e (.arena true [16,14,11,2,0] H46)),ZD1] (Jz ((Yl H39 p1 [] (-1:Int) (0:Int) H46 e47).tr1 [(9001,.slc 1),(9002,.nils),(9000,.slc 16),(8900,.slc 19)] [(16,.arena true [] H39),(1,.apt 16 p1)] ⟨.arena' (bs:=[]),.apts' (κb:=16),.rdbnil,trivial⟩)) ?_;refine q_k (Ja ?_);obtain⟨H48,e49,h⟩:=bind_some h;refine Jb hT [(1,.callA [(19,.rw),(1,.apt 19)] (.tup []) [(20,.arena true [19] H48),(19,.dead)])] [sO 1 (.slc 1),(.h 1,.e (.apt 0 p1)),(.h 20,.e (.arena true [19,16,14,11,2,0] H48)),ZD1] (Jz ((Yh H46 p1 H48 e49).tr1 [(9001,.slc 1),(9000,.slc 19),(8900,.slc 20)] [(19,.arena true [] H46),(1,.apt 19 p1)] ⟨.arena' (bs:=[]),.apts' (κb:=19),trivial⟩)) ?_;refine q_k (Ja ?_);obtain⟨⟨p50,a51,r52,a53,a54,r55,H56⟩,e57,h⟩:=bind_some h;refine Jb hT [(1,.callA [(20,.rw),(9999,.same),(1,.apt 20)] (.tup [.one (.ptr 22 0),.one (.slc 26),.one (.int .i64 r55)]) [(23,.apt 21 p50),(24,.owni 91 2 a51),(25,.ownf 3 .i64 a53),(22,.blk 76 [.slc 23,.slc 24,.int .i64 r52,.slc 25]),(26,.orows 37 (.rc a54)),(21,.arena true [20] H56),(20,.dead)])] [sI 2 .i64 r55,sO 8 (.slc 26),hV 26 37 (.rc a54),ZD1] (Jz ((XJ H48 p1 (p50,a51,r52,a53,a54,r55,H56) e57).tr1 [(9999,.slc 9999),(9001,.slc 1),(9000,.slc 20),(8905,.slc 21),(8900,.slc 22),(8901,.slc 23),(8902,.slc 24),(8903,.slc 25),(8904,.slc 26)] [(20,.arena true [] H48),(9999,.gv 0 hv),(1,.apt 20 p1)] ⟨.arena' (bs:=[]),.apts' (κb:=20),.gv',trivial⟩)) ?_;refine q_k (Ja ?_)
 rcases Jc h with⟨hb58,h⟩|⟨hb62,h⟩
 ·rcases Jc h with⟨hb59,h⟩|⟨hb61,h⟩
  ·obtain⟨hn60,h⟩:=Jo h;refine Jb hT [(2,.dec true),(7,.dec true),(11,.key 27)] [sB 0 (ZD5 a54),ZD1] (Je hb58 (Je hb59 (Je hn60 (Je hn60 (Jz hn60.2))))) ?_;refine q_k ?_;refine Jj ?_;have h:=Option.some.inj h;subst h;refine WJ [sB 0 (ZD5 a54)] ?_;exact Jl hT (.v (.one (.bool (ZD5 a54)))) [] (by kernel_rfl) (by kernel_rfl) (by kernel_rfl)
  refine Jb hT [(2,.dec true),(7,.dec false)] [sB 0 false,ZD1] (Je hb58 (Jz hb61)) ?_;refine q_k (Jj ?_);have h:=Option.some.inj h;subst h;refine WJ [sB 0 false] ?_;exact Jl hT (.v (.one (.bool false))) [] (by kernel_rfl) (by kernel_rfl) (by kernel_rfl)
 refine Jb hT [(2,.dec false)] [sB 0 false,ZD1] (Jz hb62) ?_;refine q_k (Jj ?_);have h:=Option.some.inj h;subst h;refine WJ [sB 0 false] ?_;exact Jl hT (.v (.one (.bool false))) [] (by kernel_rfl) (by kernel_rfl) (by kernel_rfl)

end Go.Proofs.Se
