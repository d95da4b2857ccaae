/- What the listed variable gives a walk; a world that meets the condition. -/
import Derived.Test.YtdbheiibkpendaaDoorRows
import Derived.Test.YtdbheiibkpendaaDoorSeG1
import Derived.LaidLaws
import Derived.LaidHandle
import Derived.ChangeSame
import Derived.ChangeVars
import Derived.RowKitTokens
import Derived.Stop.Joined
namespace Go.Proofs.Se
open Go Go.ChangeShapes Go.WideShapes Go.RowKit Go.Proofs.Se.D Go.Proofs.YtdbheiibkpendaaDoor
set_option maxRecDepth 100000
theorem Tryd.et:Tryd.prog.globalNamed "errors.errorType"=some 0:=by kernel_rfl
theorem Tryd.rt:(Tryd.prog.cutTypes.find? (·.1== "internal/reflectlite.rtype")).map (·.2)=some 125:=by kernel_rfl
theorem Tryd.oneRow:((List.range 190).filter fun t=>Tryd.prog.rowNamed t [101,114,114,111,114])=[65]:=by kernel_rfl
theorem Tryd.size:Tryd.prog.types.size=190:=by kernel_rfl
theorem Jcv {W:World} (h:laidMetH Tryd.prog [("errors.errorType",Rows.laid_errors_errorType)] W):W.cell? ⟨0,0,none⟩=some hv:=by
 have h':laidMet Tryd.prog [] W∧handlesMet Tryd.prog [("errors.errorType",Rows.laid_errors_errorType)] W:=h
 obtain⟨name,u,ty,e1,e2,e3,e4,e5⟩:=h'.2 _ (List.mem_singleton.2 rfl)
 have en:name=[101,114,114,111,114]:=(Option.some.inj e1).symm
 subst en
 obtain rfl:=Option.some.inj (Tryd.rt.symm.trans e2)
 have hm:ty∈(List.range 190).filter fun t=>Tryd.prog.rowNamed t [101,114,114,111,114]:=List.mem_filter.2 ⟨List.mem_range.2 (by rw[←Tryd.size];exact e3),e4⟩
 rw[Tryd.oneRow] at hm
 obtain rfl:=List.mem_singleton.1 hm
 have hh:typeHandle Tryd.prog 65= .pointer (some ⟨1,65,none⟩):=by kernel_rfl
 rw[hh] at e5
 simpa using World.var?_cell Tryd.et e5 0
noncomputable def Jem (os:Os):World:=
 let w0:=World.holding Tryd.prog os ⟨#[], #[],[]⟩
 { w0 with heap:=w0.heap.modify 0 fun
   | .cells _ t frozen=> .cells #[hv] t frozen
   |o=>o}
theorem Jdt (os:Os) (args:Array Value):laidMetH Tryd.prog [("errors.errorType",Rows.laid_errors_errorType)] ((Jem os).forCall (fun _ _=>0) ⟨#[],args,[]⟩).memory:=
 laidMetH_of_parts (laidMet_nil _ _) (by kernel_rfl)
end Go.Proofs.Se
