/- Two plain functions over maps, typed by hand: a disk's numbers of files, rising; how many bytes its files have. -/
import Derived.Test.YtdbheiibkpendaaDoorGw0
namespace Go.Proofs.Se.D
open Go Go.Gw
def Jbw (l : List (Int × MV)) : List Int := (l.map (·.1)).mergeSort fun x y => decide (x ≤ y)
def Jcw (l : List (Int × MV)) : Prop := (l.map (·.1)).Nodup ∧ (∀ x ∈ l.map (·.1), (Lit.int .i64 x).wf = true) ∧ l.length ≤ 4096
instance (l : List (Int × MV)) : Decidable (Jcw l) := by unfold Jcw; infer_instance
def JO (H : AH) (d : MV) : Option (List Int) :=
 if MV.isP d = true ∧ AH.ok H d 1 1 = true ∧ AH.isMap H (AH.rd H d 1) = true ∧ Jcw (AH.at H (AH.rd H d 1).ob).ents then some (Jbw (AH.at H (AH.rd H d 1).ob).ents) else none
def JdD (H : AH) (v : MV) : Prop := MV.isP v = true ∧ AH.ok H v 0 1 = true ∧ AH.isRow H 1 (AH.rd H v 0) = true
instance (H : AH) (v : MV) : Decidable (JdD H v) := by unfold JdD; infer_instance
def Jiv (H : AH) (l : List (Int × MV)) : Int := (l.map fun p => ((AH.rd H p.2 0).len : Int)).sum
def WC (H : AH) (d : MV) : Option Int :=
 if MV.isP d = true ∧ AH.ok H d 1 1 = true ∧ AH.isMap H (AH.rd H d 1) = true ∧ Jcw (AH.at H (AH.rd H d 1).ob).ents ∧ (∀ p ∈ (AH.at H (AH.rd H d 1).ob).ents, JdD H p.2) then
  some (IntKind.i64.wrap (Jiv H (AH.at H (AH.rd H d 1).ob).ents)) else none
end Go.Proofs.Se.D
