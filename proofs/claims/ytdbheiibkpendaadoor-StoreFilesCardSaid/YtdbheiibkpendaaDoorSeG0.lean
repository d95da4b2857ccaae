/- Two plain functions over maps, typed by hand: a disk's numbers of files, rising; how many bytes its files have. -/
import Derived.Test.YtdbheiibkpendaaDoorGw0
namespace Go.Proofs.Se.D
open Go Go.Gw
def filesL (l : List (Int × MV)) : List Int := (l.map (·.1)).mergeSort fun x y => decide (x ≤ y)
def keysOk (l : List (Int × MV)) : Prop := (l.map (·.1)).Nodup ∧ (∀ x ∈ l.map (·.1), (Lit.int .i64 x).wf = true) ∧ l.length ≤ 4096
instance (l : List (Int × MV)) : Decidable (keysOk l) := by unfold keysOk; infer_instance
def disk_Disk_Files (H : AH) (d : MV) : Option (List Int) :=
 if MV.isP d = true ∧ AH.ok H d 1 1 = true ∧ AH.isMap H (AH.rd H d 1) = true ∧ keysOk (AH.at H (AH.rd H d 1).ob).ents then some (filesL (AH.at H (AH.rd H d 1).ob).ents) else none
def fileOk (H : AH) (v : MV) : Prop := MV.isP v = true ∧ AH.ok H v 0 1 = true ∧ AH.isRow H 1 (AH.rd H v 0) = true
instance (H : AH) (v : MV) : Decidable (fileOk H v) := by unfold fileOk; infer_instance
def usedL (H : AH) (l : List (Int × MV)) : Int := (l.map fun p => ((AH.rd H p.2 0).len : Int)).sum
def disk_Disk_used (H : AH) (d : MV) : Option Int :=
 if MV.isP d = true ∧ AH.ok H d 1 1 = true ∧ AH.isMap H (AH.rd H d 1) = true ∧ keysOk (AH.at H (AH.rd H d 1).ob).ents ∧ (∀ p ∈ (AH.at H (AH.rd H d 1).ob).ents, fileOk H p.2) then
  some (IntKind.i64.wrap (usedL H (AH.at H (AH.rd H d 1).ob).ents)) else none
end Go.Proofs.Se.D
