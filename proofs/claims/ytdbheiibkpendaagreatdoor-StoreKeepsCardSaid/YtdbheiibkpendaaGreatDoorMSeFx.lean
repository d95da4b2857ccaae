/- What the listed variable gives a walk; a world that meets the condition. -/
import Derived.Test.YtdbheiibkpendaaGreatDoorRows
import Derived.Test.YtdbheiibkpendaaGreatDoorSeG1
import Derived.LaidLaws
import Derived.LaidHandle
import Derived.ChangeSame
import Derived.ChangeVars
import Derived.RowKitTokens
import Derived.Stop.Joined
import Derived.Test.YtdbheiibkpendaaGreatDoorProg
import Derived.Test.YtdbheiibkpendaaGreatDoorGw13
namespace Go.Proofs.Se
open Go Go.ChangeShapes Go.WideShapes Go.RowKit Go.Proofs.Se.D Go.Proofs.YtdbheiibkpendaaGreatDoor
set_option maxRecDepth 100000
theorem Tryz.et:Tryz.prog.globalNamed "errors.errorType"=some 0:=by kernel_rfl
theorem Tryz.rt:(Tryz.prog.cutTypes.find? (·.1== "internal/reflectlite.rtype")).map (·.2)=some 153:=by kernel_rfl
theorem Tryz.oneRow:((List.range 218).filter fun t=>Tryz.prog.rowNamed t [101,114,114,111,114])=[78]:=by kernel_rfl
theorem Tryz.size:Tryz.prog.types.size=218:=by kernel_rfl
theorem JcE {W:World} (h:laidMetH Tryz.prog [("errors.errorType",Rows.laid_errors_errorType)] W):W.cell? ⟨0,0,none⟩=some hv:=by
 have h':laidMet Tryz.prog [] W∧handlesMet Tryz.prog [("errors.errorType",Rows.laid_errors_errorType)] W:=h
 obtain⟨name,u,ty,e1,e2,e3,e4,e5⟩:=h'.2 _ (List.mem_singleton.2 rfl)
 have en:name=[101,114,114,111,114]:=(Option.some.inj e1).symm
 subst en
 obtain rfl:=Option.some.inj (Tryz.rt.symm.trans e2)
 have hm:ty∈(List.range 218).filter fun t=>Tryz.prog.rowNamed t [101,114,114,111,114]:=List.mem_filter.2 ⟨List.mem_range.2 (by rw[←Tryz.size];exact e3),e4⟩
 rw[Tryz.oneRow] at hm
 obtain rfl:=List.mem_singleton.1 hm
 have hh:typeHandle Tryz.prog 78= .pointer (some ⟨1,78,none⟩):=by kernel_rfl
 rw[hh] at e5
 simpa using World.var?_cell Tryz.et e5 0
noncomputable def Jek (os:Os):World:=
 let w0:=World.holding Tryz.prog os ⟨#[], #[],[]⟩
 { w0 with heap:=w0.heap.modify 0 fun
   | .cells _ t frozen=> .cells #[hv] t frozen
   |o=>o}
theorem JdE (os:Os) (args:Array Value):laidMetH Tryz.prog [("errors.errorType",Rows.laid_errors_errorType)] ((Jek os).forCall (fun _ _=>0) ⟨#[],args,[]⟩).memory:=
 laidMetH_of_parts (laidMet_nil _ _) (by kernel_rfl)
end Go.Proofs.Se
/- The tables of the seat: what each of its functions leads to, and what it names. -/
namespace Go.Proofs.YtdbheiibkpendaaGreatDoor.Fx
open Go Go.Gw
set_option maxRecDepth 100000
def adj:List (List Nat):=[[],[],[1],[6,7,8,9,10,11,12,13,14,15,16,8,8,17,17,18,13,19,11,15,16,8,17,17,19],[12,12,7,8,13,20,20,18,20,18,13,11,15,16,8,17,17,19],[6,7,8,8,21,11,22,20,23,15,24,16,25,8,21,17,26,9,27,28,29,30,31,32,33,8,21,17,34,13,35,36,26,10,38,39,37,10,18,40,16,25,41,42,36,19],[],[],[10,43,44,45],[46],[],[10,48,47,45],[],[49,10,50,28,47,45,51,52],[53,54,17],[38,55],[],[36],[],[7,8,13,11,13,18,15,16,8],[10,56,45,57,59,58],[60,33,61,31,62],[62],[63,33,64,61],[],[],[],[],[65,66,67,68],[69,34,70],[68],[63,70],[65,68],[69,70],[],[12,64,31,53,29,64],[],[],[72,71],[],[],[65,73],[69,34],[41,47,74,75],[56,38,30,47,48,47],[76],[],[],[65,68,55],[77,78,67],[51,47,30,47],[],[79],[34,80],[63,34,53,36],[],[38,81,32,47,51,82,47],[],[83],[],[54],[69,63,70,34],[69,70],[],[69],[],[],[84],[15],[63],[24],[85,86],[87],[],[88,89],[77,73,78,90],[91,92,93,94],[],[67,95,67],[],[],[],[65,68,73,55],[],[],[96],[98,97],[],[],[89],[],[],[],[],[88,99,91,100,94],[101],[],[102,103,104,105,106,107,108,109,110,97,97],[111,112],[],[],[],[108],[113,113],[114,115],[116,116,116,117],[],[108,108,108],[118,118],[108,108],[108,108,108,108],[],[],[108,108],[98],[],[117],[119,119,119],[],[108],[],[],[],[],[],[],[],[],[],[],[],[],[],[],[],[],[],[],[],[],[],[],[],[],[],[],[],[],[],[],[],[],[],[],[],[],[],[],[88]]
theorem adj_eq:QU Tryz.prog Tryz.prog.leadsTo=adj:=by kernel_rfl
theorem fuel_eq:Jgk adj=444:=by kernel_rfl
def inp:List (Option String):=[some "main.main",some "gosem.cut",none,none,none,none,none,none,none,none,none,none,none,none,none,none,none,none,none,none,none,none,none,none,none,none,none,none,none,none,none,none,none,none,none,none,none,none,none,none,none,none,none,none,none,none,none,none,none,none,none,none,none,none,none,none,none,none,none,none,none,none,none,none,none,none,none,none,none,none,none,none,none,none,none,none,none,none,none,none,none,none,none,none,none,none,none,none,some "internal/reflectlite.TypeOf",none,none,some "internal/reflectlite.ValueOf",some "(internal/reflectlite.Value).Type",some "(internal/reflectlite.Value).IsNil",none,none,none,none,none,some "(internal/reflectlite.Value).Elem",some "(internal/reflectlite.Value).Set",none,none,none,none,none,none,none,none,none,none,none,none,none,none,none,none,none,none,none,some "(runtime.boundsError).Error",some "(runtime.boundsError).RuntimeError",some "(runtime.errorString).Error",some "(runtime.errorString).RuntimeError",some "(runtime.plainError).Error",some "(runtime.plainError).RuntimeError",some "(runtime.errorAddressString).Error",some "(runtime.errorAddressString).RuntimeError",some "(*runtime.TypeAssertionError).Error",some "(*runtime.TypeAssertionError).RuntimeError",some "(*runtime.PanicNilError).Error",some "(*runtime.PanicNilError).RuntimeError",some "(*internal/abi.Type).Align",some "(*internal/abi.Type).Elem",some "(*internal/abi.Type).Kind",some "(internal/runtime/maps.unhashableTypeError).Error",some "(internal/runtime/maps.unhashableTypeError).RuntimeError",some "(codicil/api.Errno).Error",some "(*codicil/store.trouble).Error",none,some "(internal/reflectlite.flag).mustBeAssignable",some "(internal/reflectlite.Value).Kind",some "(internal/abi.Kind).String",some "(*internal/abi.Type).Size",some "(internal/reflectlite.rtype).AssignableTo",some "(internal/reflectlite.rtype).Comparable",some "(internal/reflectlite.rtype).Elem",some "(internal/reflectlite.rtype).Implements",some "(internal/reflectlite.rtype).Name",some "(internal/reflectlite.rtype).PkgPath",some "(internal/reflectlite.rtype).String",some "(internal/reflectlite.rtype).common",some "(internal/reflectlite.rtype).uncommon",some "(*internal/reflectlite.ValueError).Error",some "(*internal/abi.UncommonType).ExportedMethods",some "var's door: errors.errorType is laid by its own call of reflectlite.TypeOf on a nil pointer and Elem of it (handle 1)",some "var's door: gosem.cut.vars holds initialisers alone; see the manifest's row cutvarsword (look 11, test files too)",some "var's door: the look of gosem.cut.vars went over the folder that the caller named as the repository's root (look 11)",none]
theorem inp_eq:QU Tryz.prog Jnm=inp:=by kernel_rfl
def gl:List (List Nat):=[[],[],[],[],[],[],[],[],[],[],[],[],[],[],[],[],[],[],[],[],[],[],[],[],[],[],[],[],[],[],[],[],[],[],[],[],[],[],[],[],[],[],[],[],[],[],[],[],[],[],[],[],[],[],[],[],[],[],[],[],[],[],[],[],[],[],[],[],[],[],[],[],[],[],[],[],[0],[],[],[],[],[],[],[],[],[],[],[],[],[],[],[],[],[],[],[],[],[],[],[],[],[],[],[],[],[],[],[],[],[],[],[],[],[],[],[],[],[],[],[],[],[],[],[],[],[],[],[],[],[],[],[],[],[],[],[],[],[],[],[],[],[],[],[],[],[],[],[],[],[],[],[],[],[],[],[],[],[],[0]]
theorem gl_eq:QU Tryz.prog glF=gl:=by kernel_rfl
def er:List (Option String):=List.replicate 159 none
theorem er_eq:QU Tryz.prog erF=er:=by kernel_rfl
def un:List Bool:=[false,false,false,false,false,false,false,false,false,false,false,false,false,false,false,false,false,false,false,false,false,false,false,false,false,false,false,false,false,false,false,false,false,false,false,false,false,false,false,false,false,false,false,false,false,false,false,false,false,false,false,false,false,false,false,false,false,false,true,false,false,false,false,false,false,false,false,false,false,false,false,false,false,false,true,false,true,false,false,false,false,false,false,true,false,false,false,true,false,true,false,false,false,false,true,false,true,false,false,false,false,false,false,false,false,false,false,false,false,false,false,false,false,false,false,false,false,false,false,false,false,false,false,false,false,false,false,false,false,false,false,false,false,false,false,false,false,false,false,false,false,false,false,false,false,false,false,false,false,false,false,false,false,false,false,false,false,false,true]
theorem un_eq:QU Tryz.prog Jnp=un:=by kernel_rfl
def io:List Char:=[104,97,114,110,101,115,115,32,52,48,98,102,54,56,54,53,57,100,97,98,50,98,48,48,50,102,51,97,100,50,48,56,52,102,101,97,99,97,57,101,97,98,50,51,102,99,100,50,50,102,52,48,50,50,52,102,101,54,98,49,102,56,98,52,51,52,102,49,48,48,57,53,32,99,117,116,32,97,116,32,99,111,100,105,99,105,108,47,99,111,100,105,99,105,108,108,97,119,49,54,46,83,116,111,114,101,76,97,115,116,115,32,99,111,100,105,99,105,108,47,99,111,100,105,99,105,108,108,97,119,49,54,46,83,116,111,114,101,75,101,101,112,115,32,99,111,100,105,99,105,108,47,99,111,100,105,99,105,108,108,97,119,49,54,46,83,116,111,114,101,69,120,97,99,116].map Char.ofNat
theorem Jmy:Tryz.prog.initOrder= "harness 40bf68659dab2b002f3ad2084feaca9eab23fcd22f40224fe6b1f8b434f10095 cut at codicil/codicillaw16.StoreLasts codicil/codicillaw16.StoreKeeps codicil/codicillaw16.StoreExact":=by kernel_rfl
theorem JjW: "harness 40bf68659dab2b002f3ad2084feaca9eab23fcd22f40224fe6b1f8b434f10095 cut at codicil/codicillaw16.StoreLasts codicil/codicillaw16.StoreKeeps codicil/codicillaw16.StoreExact"=String.ofList io:=by kernel_rfl
theorem Jm6:Tryz.prog.initOrder.toList=io:=(congrArg String.toList (Jmy.trans JjW)).trans (String.toList_ofList ..)
theorem bm:behindMainWord (wordsSigns io)=cut::(behindMainWord (wordsSigns io)).tail:=by kernel_rfl
theorem bm':behindMainWord (wordsSigns Tryz.prog.initOrder.toList)=cut::(behindMainWord (wordsSigns io)).tail:=by rw[Jm6];exact bm
theorem JnB:Tryz.prog.laysLater=false:=by kernel_rfl
theorem Jnb:Tryz.prog.bearsReflect=false:=by kernel_rfl
theorem Jnu:Tryz.prog.doorFits []=true:=by kernel_rfl
theorem mayEnter:Tryz.prog.mayEnter=true:=Jfu bm' JnB Jnb Jnu
theorem lifts:Tryz.prog.liftsFinal=false:=Jja bm'
theorem make:Tryz.prog.make=some .cut:=JkL bm'
end Go.Proofs.YtdbheiibkpendaaGreatDoor.Fx
