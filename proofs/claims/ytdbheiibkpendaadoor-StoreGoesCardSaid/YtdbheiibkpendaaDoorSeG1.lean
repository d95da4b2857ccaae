/- Plain functions of errors, typed by hand: an error is told by its number, nought is none. -/
import Derived.Test.YtdbheiibkpendaaDoorGw0
namespace Go.Proofs.Se.D
open Go Go.Gw
abbrev hv:Value:= .iface 125 (.agg #[.pointer (some ⟨1,65,none⟩)])
def JO (e:Int):Option Int:=some e
def Yn (n:Int):Option Int:=some n
def YH (n m:Int):Option Bool:=some (!(decide (n=0))&&(n==m))
def VX (s:List Int):Option (List Int):=some s.reverse
end Go.Proofs.Se.D
