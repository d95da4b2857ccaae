/- Plain functions of errors, typed by hand: an error is told by its number, nought is none. -/
import Derived.Test.YtdbheiibkpendaaGreatDoorGw0
namespace Go.Proofs.Se.D
open Go Go.Gw
abbrev hv:Value:= .iface 153 (.agg #[.pointer (some ⟨1,78,none⟩)])
def JL (e:Int):Option Int:=some e
def XC (n:Int):Option Int:=some n
def YN (n m:Int):Option Bool:=some (!(decide (n=0))&&(n==m))
def VC (s:List Int):Option (List Int):=some s.reverse
end Go.Proofs.Se.D
