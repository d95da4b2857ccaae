/- The table of types. -/
import Derived.Test.YtdbheiibkpendaaGreatDoorGw10
import Derived.Test.YtdbheiibkpendaaGreatDoorProg
namespace Go.Proofs.Se
open Go Go.Gw
noncomputable abbrev P:Program:=Tryz.prog
noncomputable def tbl:List (Nat×TD):=[(3,.int .i64),(4,.bool),(5,.int .u8),(9,.str),(22,.sliceR 39 8),(23,.sliceR 4 1),(25,.ptr),(26,.int .i64),(29,.ptr),(30,.sliceR 37 2),(35,.slice 5 .u8),(37,.struct 2 [(0,1),(1,1)] [.int .i64 (0:Int),.nils]),(39,.struct 8 [(0,1),(1,2),(3,1),(4,1),(5,1),(6,1),(7,1)] [.int .i64 (0:Int),.int .i64 (0:Int),.nils,.int .i64 (0:Int),.nils,.nils,.int .i64 (0:Int),.int .i64 (0:Int)]),(40,.int .u64),(51,.sliceR 113 2),(53,.struct 3 [(0,1),(1,1),(2,1)] [.bool false,.nils,.nils]),(54,.arrG 64 53 3 [.bool false,.nils,.nils,.bool false,.nils,.nils,.bool false,.nils,.nils,.bool false,.nils,.nils,.bool false,.nils,.nils,.bool false,.nils,.nils,.bool false,.nils,.nils,.bool false,.nils,.nils,.bool false,.nils,.nils,.bool false,.nils,.nils,.bool false,.nils,.nils,.bool false,.nils,.nils,.bool false,.nils,.nils,.bool false,.nils,.nils,.bool false,.nils,.nils,.bool false,.nils,.nils,.bool false,.nils,.nils,.bool false,.nils,.nils,.bool false,.nils,.nils,.bool false,.nils,.nils,.bool false,.nils,.nils,.bool false,.nils,.nils,.bool false,.nils,.nils,.bool false,.nils,.nils,.bool false,.nils,.nils,.bool false,.nils,.nils,.bool false,.nils,.nils,.bool false,.nils,.nils,.bool false,.nils,.nils,.bool false,.nils,.nils,.bool false,.nils,.nils,.bool false,.nils,.nils,.bool false,.nils,.nils,.bool false,.nils,.nils,.bool false,.nils,.nils,.bool false,.nils,.nils,.bool false,.nils,.nils,.bool false,.nils,.nils,.bool false,.nils,.nils,.bool false,.nils,.nils,.bool false,.nils,.nils,.bool false,.nils,.nils,.bool false,.nils,.nils,.bool false,.nils,.nils,.bool false,.nils,.nils,.bool false,.nils,.nils,.bool false,.nils,.nils,.bool false,.nils,.nils,.bool false,.nils,.nils,.bool false,.nils,.nils,.bool false,.nils,.nils,.bool false,.nils,.nils,.bool false,.nils,.nils,.bool false,.nils,.nils,.bool false,.nils,.nils,.bool false,.nils,.nils,.bool false,.nils,.nils,.bool false,.nils,.nils,.bool false,.nils,.nils,.bool false,.nils,.nils,.bool false,.nils,.nils,.bool false,.nils,.nils,.bool false,.nils,.nils,.bool false,.nils,.nils]),(56,.struct 199 [(0,1),(1,1),(2,1),(3,192),(195,1),(196,1),(197,1),(198,1)] [.int .i64 (0:Int),.bool false,.int .i64 (0:Int),.bool false,.nils,.nils,.bool false,.nils,.nils,.bool false,.nils,.nils,.bool false,.nils,.nils,.bool false,.nils,.nils,.bool false,.nils,.nils,.bool false,.nils,.nils,.bool false,.nils,.nils,.bool false,.nils,.nils,.bool false,.nils,.nils,.bool false,.nils,.nils,.bool false,.nils,.nils,.bool false,.nils,.nils,.bool false,.nils,.nils,.bool false,.nils,.nils,.bool false,.nils,.nils,.bool false,.nils,.nils,.bool false,.nils,.nils,.bool false,.nils,.nils,.bool false,.nils,.nils,.bool false,.nils,.nils,.bool false,.nils,.nils,.bool false,.nils,.nils,.bool false,.nils,.nils,.bool false,.nils,.nils,.bool false,.nils,.nils,.bool false,.nils,.nils,.bool false,.nils,.nils,.bool false,.nils,.nils,.bool false,.nils,.nils,.bool false,.nils,.nils,.bool false,.nils,.nils,.bool false,.nils,.nils,.bool false,.nils,.nils,.bool false,.nils,.nils,.bool false,.nils,.nils,.bool false,.nils,.nils,.bool false,.nils,.nils,.bool false,.nils,.nils,.bool false,.nils,.nils,.bool false,.nils,.nils,.bool false,.nils,.nils,.bool false,.nils,.nils,.bool false,.nils,.nils,.bool false,.nils,.nils,.bool false,.nils,.nils,.bool false,.nils,.nils,.bool false,.nils,.nils,.bool false,.nils,.nils,.bool false,.nils,.nils,.bool false,.nils,.nils,.bool false,.nils,.nils,.bool false,.nils,.nils,.bool false,.nils,.nils,.bool false,.nils,.nils,.bool false,.nils,.nils,.bool false,.nils,.nils,.bool false,.nils,.nils,.bool false,.nils,.nils,.bool false,.nils,.nils,.bool false,.nils,.nils,.bool false,.nils,.nils,.bool false,.nils,.nils,.bool false,.nils,.nils,.int .i64 (0:Int),.nils,.int .i64 (0:Int),.int .i64 (0:Int)]),(65,.slice 3 .i64),(70,.mapP),(71,.ptr),(73,.struct 5 [(0,1),(1,1),(2,1),(3,1),(4,1)] [.int .i64 (0:Int),.nilm,.bool false,.int .i64 (0:Int),.nilp]),(74,.sliceR 91 2),(76,.struct 4 [(0,1),(1,1),(2,1),(3,1)] [.nilp,.nils,.int .i64 (0:Int),.nils]),(78,.ifc),(85,.struct 4 [(0,1),(1,1),(2,1),(3,1)] [.int .i64 (0:Int),.nils,.int .i64 (0:Int),.int .i64 (0:Int)]),(91,.struct 2 [(0,1),(1,1)] [.int .i64 (0:Int),.int .i64 (0:Int)]),(96,.ptr),(98,.struct 3 [(0,1),(1,1),(2,1)] [.nils,.int .i64 (0:Int),.nils]),(113,.struct 2 [(0,1),(1,1)] [.int .i64 (0:Int),.int .i64 (0:Int)]),(129,.int .u32),(133,.sliceR 35 1),(167,.arr 16 129 .u32),(180,.int .u64),(181,.int .u64)]
noncomputable abbrev T:TypeId→Option TD:=Jg4 tbl
theorem hT:TOk P T:=
 JI (⟨by kernel_rfl,by kernel_rfl⟩)<|
 JI (⟨by kernel_rfl,by kernel_rfl⟩)<|
 JI (⟨by kernel_rfl,by kernel_rfl⟩)<|
 JI (⟨by kernel_rfl,by kernel_rfl⟩)<|
 JI (⟨by kernel_rfl,by kernel_rfl,by kernel_rfl,by kernel_rfl⟩)<|
 JI (⟨by kernel_rfl,by kernel_rfl,by kernel_rfl,by kernel_rfl⟩)<|
 JI (⟨_,Tryz.underlying25,by kernel_rfl⟩)<|
 JI (⟨by kernel_rfl,by kernel_rfl⟩)<|
 JI (⟨_,Tryz.underlying29,by kernel_rfl⟩)<|
 JI (⟨by kernel_rfl,by kernel_rfl,by kernel_rfl,by kernel_rfl⟩)<|
 JI (⟨by kernel_rfl,by kernel_rfl,by kernel_rfl,by kernel_rfl⟩)<|
 JI (⟨_,Tryz.underlying37,by kernel_rfl,fun _=>by kernel_rfl,by kernel_rfl,Wm (by kernel_rfl)⟩)<|
 JI (⟨_,Tryz.underlying39,by kernel_rfl,fun _=>by kernel_rfl,by kernel_rfl,Wm (by kernel_rfl)⟩)<|
 JI (⟨by kernel_rfl,by kernel_rfl⟩)<|
 JI (⟨by kernel_rfl,by kernel_rfl,by kernel_rfl,by kernel_rfl⟩)<|
 JI (⟨_,Tryz.underlying53,by kernel_rfl,fun _=>by kernel_rfl,by kernel_rfl,Wm (by kernel_rfl)⟩)<|
 JI (⟨by kernel_rfl,by kernel_rfl,by decide,fun _=>by kernel_rfl,by kernel_rfl,Wm (by kernel_rfl)⟩)<|
 JI (⟨_,Tryz.underlying56,by kernel_rfl,fun _=>by kernel_rfl,by kernel_rfl,Wm (by kernel_rfl)⟩)<|
 JI (⟨by kernel_rfl,by kernel_rfl,by kernel_rfl,by kernel_rfl⟩)<|
 JI (⟨_,_,98,Tryz.underlying70,by kernel_rfl,by kernel_rfl,by kernel_rfl,by kernel_rfl⟩)<|
 JI (⟨_,Tryz.underlying71,by kernel_rfl⟩)<|
 JI (⟨_,Tryz.underlying73,by kernel_rfl,fun _=>by kernel_rfl,by kernel_rfl,Wm (by kernel_rfl)⟩)<|
 JI (⟨by kernel_rfl,by kernel_rfl,by kernel_rfl,by kernel_rfl⟩)<|
 JI (⟨_,Tryz.underlying76,by kernel_rfl,fun _=>by kernel_rfl,by kernel_rfl,Wm (by kernel_rfl)⟩)<|
 JI (⟨_,Tryz.underlying78,by kernel_rfl⟩)<|
 JI (⟨_,Tryz.underlying85,by kernel_rfl,fun _=>by kernel_rfl,by kernel_rfl,Wm (by kernel_rfl)⟩)<|
 JI (⟨_,Tryz.underlying91,by kernel_rfl,fun _=>by kernel_rfl,by kernel_rfl,Wm (by kernel_rfl)⟩)<|
 JI (⟨_,Tryz.underlying96,by kernel_rfl⟩)<|
 JI (⟨_,Tryz.underlying98,by kernel_rfl,fun _=>by kernel_rfl,by kernel_rfl,Wm (by kernel_rfl)⟩)<|
 JI (⟨_,Tryz.underlying113,by kernel_rfl,fun _=>by kernel_rfl,by kernel_rfl,Wm (by kernel_rfl)⟩)<|
 JI (⟨by kernel_rfl,by kernel_rfl⟩)<|
 JI (⟨by kernel_rfl,by kernel_rfl,by kernel_rfl,by kernel_rfl⟩)<|
 JI (⟨by kernel_rfl,by kernel_rfl,by kernel_rfl,by kernel_rfl,by kernel_rfl⟩)<|
 JI (⟨by kernel_rfl,by kernel_rfl⟩)<|
 JI (⟨by kernel_rfl,by kernel_rfl⟩)<|
 Jlc
theorem hM:P.follows .mixedOrders=true:=by kernel_rfl
end Go.Proofs.Se
