/- The table of types. -/
import Derived.Test.YtdbheiibkpendaaDoorGw10
import Derived.Test.YtdbheiibkpendaaDoorProg
namespace Go.Proofs.Se
open Go Go.Gw
noncomputable abbrev P:Program:=Tryd.prog
noncomputable def tbl:List (Nat×TD):=[(3,.int .i64),(4,.bool),(5,.int .u8),(9,.str),(22,.slice 3 .i64),(23,.ptr),(24,.int .i64),(27,.ptr),(28,.sliceR 34 2),(31,.slice 5 .u8),(32,.int .u64),(34,.struct 2 [(0,1),(1,1)] [.int .i64 (0:Int),.nils]),(50,.sliceR 4 1),(57,.mapP),(58,.ptr),(60,.struct 5 [(0,1),(1,1),(2,1),(3,1),(4,1)] [.int .i64 (0:Int),.nilm,.bool false,.int .i64 (0:Int),.nilp]),(61,.sliceR 75 2),(63,.struct 4 [(0,1),(1,1),(2,1),(3,1)] [.nilp,.nils,.int .i64 (0:Int),.nils]),(65,.ifc),(75,.struct 2 [(0,1),(1,1)] [.int .i64 (0:Int),.int .i64 (0:Int)]),(77,.int .u32),(84,.ptr),(88,.struct 3 [(0,1),(1,1),(2,1)] [.nils,.int .i64 (0:Int),.nils]),(102,.sliceR 31 1),(105,.struct 4 [(0,1),(1,1),(2,1),(3,1)] [.int .i64 (0:Int),.nils,.int .i64 (0:Int),.int .i64 (0:Int)]),(139,.arr 16 77 .u32),(152,.int .u64),(153,.int .u64)]
noncomputable abbrev T:TypeId→Option TD:=Jgi tbl
theorem hT:TOk P T:=
 JZ (⟨by kernel_rfl,by kernel_rfl⟩)<|
 JZ (⟨by kernel_rfl,by kernel_rfl⟩)<|
 JZ (⟨by kernel_rfl,by kernel_rfl⟩)<|
 JZ (⟨by kernel_rfl,by kernel_rfl⟩)<|
 JZ (⟨by kernel_rfl,by kernel_rfl,by kernel_rfl,by kernel_rfl⟩)<|
 JZ (⟨_,Tryd.underlying23,by kernel_rfl⟩)<|
 JZ (⟨by kernel_rfl,by kernel_rfl⟩)<|
 JZ (⟨_,Tryd.underlying27,by kernel_rfl⟩)<|
 JZ (⟨by kernel_rfl,by kernel_rfl,by kernel_rfl,by kernel_rfl⟩)<|
 JZ (⟨by kernel_rfl,by kernel_rfl,by kernel_rfl,by kernel_rfl⟩)<|
 JZ (⟨by kernel_rfl,by kernel_rfl⟩)<|
 JZ (⟨_,Tryd.underlying34,by kernel_rfl,fun _=>by kernel_rfl,by kernel_rfl,XJ (by kernel_rfl)⟩)<|
 JZ (⟨by kernel_rfl,by kernel_rfl,by kernel_rfl,by kernel_rfl⟩)<|
 JZ (⟨_,_,88,Tryd.underlying57,by kernel_rfl,by kernel_rfl,by kernel_rfl,by kernel_rfl⟩)<|
 JZ (⟨_,Tryd.underlying58,by kernel_rfl⟩)<|
 JZ (⟨_,Tryd.underlying60,by kernel_rfl,fun _=>by kernel_rfl,by kernel_rfl,XJ (by kernel_rfl)⟩)<|
 JZ (⟨by kernel_rfl,by kernel_rfl,by kernel_rfl,by kernel_rfl⟩)<|
 JZ (⟨_,Tryd.underlying63,by kernel_rfl,fun _=>by kernel_rfl,by kernel_rfl,XJ (by kernel_rfl)⟩)<|
 JZ (⟨_,Tryd.underlying65,by kernel_rfl⟩)<|
 JZ (⟨_,Tryd.underlying75,by kernel_rfl,fun _=>by kernel_rfl,by kernel_rfl,XJ (by kernel_rfl)⟩)<|
 JZ (⟨by kernel_rfl,by kernel_rfl⟩)<|
 JZ (⟨_,Tryd.underlying84,by kernel_rfl⟩)<|
 JZ (⟨_,Tryd.underlying88,by kernel_rfl,fun _=>by kernel_rfl,by kernel_rfl,XJ (by kernel_rfl)⟩)<|
 JZ (⟨by kernel_rfl,by kernel_rfl,by kernel_rfl,by kernel_rfl⟩)<|
 JZ (⟨_,Tryd.underlying105,by kernel_rfl,fun _=>by kernel_rfl,by kernel_rfl,XJ (by kernel_rfl)⟩)<|
 JZ (⟨by kernel_rfl,by kernel_rfl,by kernel_rfl,by kernel_rfl,by kernel_rfl⟩)<|
 JZ (⟨by kernel_rfl,by kernel_rfl⟩)<|
 JZ (⟨by kernel_rfl,by kernel_rfl⟩)<|
 JkV
theorem hM:P.follows .mixedOrders=true:=by kernel_rfl
end Go.Proofs.Se
