/- Plain functions of package slices, typed by hand. -/
import Derived.Test.YtdbheiibkpendaaGreatDoorGw0
namespace Go.Proofs.Se.D
open Go Go.Gw
def Wd (s:List Int):Option (List Int):=if s.length/2≤YJ then some s else none
def Xo (s:List Int) (last:Int):Option (List Int):=some (s.filter fun x=> !decide (last<x))
end Go.Proofs.Se.D
