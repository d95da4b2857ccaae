/- The kinds of a record's cells, as plain data. -/
import Derived.Test.YtdbheiibkpendaaGw0
namespace Go.Gw
inductive LK where
 | int (k : IntKind)
 | bytes (k : IntKind) (e : TypeId)
 | bools (e : TypeId)
def LK.ok : LK → DL → Prop
 | .int k, d => ∃ n, d = .int k n ∧ (Lit.int k n).wf = true
 | .bytes k _, d => ∃ l, d = .bytes k l ∧ ∀ x ∈ l, (Lit.int k x).wf = true
 | .bools _, d => ∃ l, d = .bools l
def LKs (ks : List LK) (r : List DL) : Prop := r.length = ks.length ∧ ∀ (j : Nat) (k : LK) (d : DL), ks[j]? = some k → r[j]? = some d → k.ok d
end Go.Gw
