/- The walk's engine, part 5c: a literal of slices. -/
import Derived.Test.YtdbheiibkpendaaGwS
namespace Go.Gw
open Go.RowKit
variable {P : Program} {T : TypeId → Option TD} {B : Nat → Prop} {N : Nat} {w0 : W0} {γ : Nat → Value} {σ : Stt} {a : Act} {w : World}
def RowV (σ : Stt) (γ : Nat → Value) (w : World) (k : IntKind) (u : Value) (l : List Int) : Prop :=
 u.oneCell' = true ∧ u.cells.size = 1 ∧ u.cells.toList = [u] ∧ RdI w u k l ∧ ∀ b, blkR u = some b → ∃ κ e, σ (.h κ) = some (.e e) ∧ (∀ w' : World, e.foot γ w' κ b) ∧ e.mut = false
def Calm (σ : Stt) (ρ : Operand → Option SV) (ps : List (Nat × Operand)) : Prop := ∀ p ∈ ps, ∀ κ, ρ p.2 = some (.v (.one (.slc κ))) → ∀ e k l, lookH σ κ ≠ some (.own e k l)
end Go.Gw
