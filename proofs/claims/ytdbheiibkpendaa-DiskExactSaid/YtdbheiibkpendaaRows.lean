/-
  No cell of these rows narrows 'for every input' (looked for: loops, veiled, ifaces, maps, wideKeys, modest, calm, conditions, laid).
  DERIVED. THE GIVEN ROWS OF THIS SEAT. 10 by the template 'for every input the law returns true; each argument reads behind the call as it read before'; 0 by the template 'total and deterministic' (their statements: YtdbheiibkpendaaTotals.lean).
  GIVEN WITH THE SEED: the statements are not yours to turn. If you find one false, say at which input.
  Laid BY PROGRAM, IN A SANDBOX (cutbox-rows.mjs): the forced cells as the released guide's own fill.sh prints them over the translation ca1d9494058235a2… (all of the seat's roots in one cut). By AI agents, Wed Nov 11 2026. No macro, syntax, notation, axiom, sorry.
-/
import Derived.Test.YtdbheiibkpendaaChecked
import GoSem.Claim
import GoSem.ClaimJoined
import GoSem.ClaimMapViews
import Derived.JoinedTies
import Derived.KernelRfl
namespace Go.Proofs.Ytdbheiibkpendaa
/- THE CELL 'sum', in the pinned program and in every row, IS THE sha256 OF THE DUMP (.gsa) THAT YtdbheiibkpendaaProg.lean LOADS. Nothing in Lean hashes anything: it is a label: what it is worth is what the hold of that sum in a sandbox is worth. -/
noncomputable def Try.pinned : Pinned := { name := "ytdbheiibkpendaa", sum := "ca1d9494058235a2aad779535132ad4d7b3c8ba81963eb770a955264f4e0d81a", checked := Try.checked }
namespace Rows
def none {H : Type} : Left H := { results := [], args := [] }

/-- 'codicillaw14.DiskChoice': WHATEVER THE INPUT: true; the input reads as it did. -/
def diskChoiceSpec : ChangeSpec := { name := "diskChoice", fn := fun _ => fun
  | [d1, d2, d3, d4] => { results := [.lit (.bool true)], args := [d1, d2, d3, d4] }
  | _ => none }
def diskChoiceRow : OpenClaim := { program := "ytdbheiibkpendaa", sum := "ca1d9494058235a2aad779535132ad4d7b3c8ba81963eb770a955264f4e0d81a", func := "codicil/codicillaw14.DiskChoice", spec := "diskChoice", unfollowed := true, recurses := true, apart := false }
def DiskChoiceSaid : Prop := diskChoiceRow.holds Try.pinned (OpenSpec.ofChange diskChoiceSpec)

/-- ITS FALSE NEIGHBOUR: 'it returns false'. Refute it at one input. -/
def diskChoiceWrong : ChangeSpec := { name := "diskChoice", fn := fun _ => fun
  | [d1, d2, d3, d4] => { results := [.lit (.bool false)], args := [d1, d2, d3, d4] }
  | _ => none }
def DiskChoiceWrongFalsely : Prop := diskChoiceRow.holds Try.pinned (OpenSpec.ofChange diskChoiceWrong)

/-- 'codicillaw14.DiskTorn': WHATEVER THE INPUT: true; the input reads as it did. -/
def diskTornSpec : ChangeSpec := { name := "diskTorn", fn := fun _ => fun
  | [d1, d2, d3] => { results := [.lit (.bool true)], args := [d1, d2, d3] }
  | _ => none }
def diskTornRow : OpenClaim := { program := "ytdbheiibkpendaa", sum := "ca1d9494058235a2aad779535132ad4d7b3c8ba81963eb770a955264f4e0d81a", func := "codicil/codicillaw14.DiskTorn", spec := "diskTorn", unfollowed := true, recurses := true, apart := false }
def DiskTornSaid : Prop := diskTornRow.holds Try.pinned (OpenSpec.ofChange diskTornSpec)

/-- ITS FALSE NEIGHBOUR: 'it returns false'. Refute it at one input. -/
def diskTornWrong : ChangeSpec := { name := "diskTorn", fn := fun _ => fun
  | [d1, d2, d3] => { results := [.lit (.bool false)], args := [d1, d2, d3] }
  | _ => none }
def DiskTornWrongFalsely : Prop := diskTornRow.holds Try.pinned (OpenSpec.ofChange diskTornWrong)

/-- 'codicillaw14.DiskFiles': WHATEVER THE INPUT: true; the input reads as it did. -/
def diskFilesSpec : ChangeSpec := { name := "diskFiles", fn := fun _ => fun
  | [d1, d2] => { results := [.lit (.bool true)], args := [d1, d2] }
  | _ => none }
def diskFilesRow : OpenClaim := { program := "ytdbheiibkpendaa", sum := "ca1d9494058235a2aad779535132ad4d7b3c8ba81963eb770a955264f4e0d81a", func := "codicil/codicillaw14.DiskFiles", spec := "diskFiles", unfollowed := true, recurses := true, apart := false }
def DiskFilesSaid : Prop := diskFilesRow.holds Try.pinned (OpenSpec.ofChange diskFilesSpec)

/-- ITS FALSE NEIGHBOUR: 'it returns false'. Refute it at one input. -/
def diskFilesWrong : ChangeSpec := { name := "diskFiles", fn := fun _ => fun
  | [d1, d2] => { results := [.lit (.bool false)], args := [d1, d2] }
  | _ => none }
def DiskFilesWrongFalsely : Prop := diskFilesRow.holds Try.pinned (OpenSpec.ofChange diskFilesWrong)

/-- 'codicillaw14.DiskLives': WHATEVER THE INPUT: true; the input reads as it did. -/
def diskLivesSpec : ChangeSpec := { name := "diskLives", fn := fun _ => fun
  | [d1, d2] => { results := [.lit (.bool true)], args := [d1, d2] }
  | _ => none }
def diskLivesRow : OpenClaim := { program := "ytdbheiibkpendaa", sum := "ca1d9494058235a2aad779535132ad4d7b3c8ba81963eb770a955264f4e0d81a", func := "codicil/codicillaw14.DiskLives", spec := "diskLives", unfollowed := true, recurses := true, apart := false }
def DiskLivesSaid : Prop := diskLivesRow.holds Try.pinned (OpenSpec.ofChange diskLivesSpec)

/-- ITS FALSE NEIGHBOUR: 'it returns false'. Refute it at one input. -/
def diskLivesWrong : ChangeSpec := { name := "diskLives", fn := fun _ => fun
  | [d1, d2] => { results := [.lit (.bool false)], args := [d1, d2] }
  | _ => none }
def DiskLivesWrongFalsely : Prop := diskLivesRow.holds Try.pinned (OpenSpec.ofChange diskLivesWrong)

/-- 'codicillaw14.DiskRoom': WHATEVER THE INPUT: true; the input reads as it did. -/
def diskRoomSpec : ChangeSpec := { name := "diskRoom", fn := fun _ => fun
  | [d1, d2, d3] => { results := [.lit (.bool true)], args := [d1, d2, d3] }
  | _ => none }
def diskRoomRow : OpenClaim := { program := "ytdbheiibkpendaa", sum := "ca1d9494058235a2aad779535132ad4d7b3c8ba81963eb770a955264f4e0d81a", func := "codicil/codicillaw14.DiskRoom", spec := "diskRoom", unfollowed := true, recurses := true, apart := false }
def DiskRoomSaid : Prop := diskRoomRow.holds Try.pinned (OpenSpec.ofChange diskRoomSpec)

/-- ITS FALSE NEIGHBOUR: 'it returns false'. Refute it at one input. -/
def diskRoomWrong : ChangeSpec := { name := "diskRoom", fn := fun _ => fun
  | [d1, d2, d3] => { results := [.lit (.bool false)], args := [d1, d2, d3] }
  | _ => none }
def DiskRoomWrongFalsely : Prop := diskRoomRow.holds Try.pinned (OpenSpec.ofChange diskRoomWrong)

/-- 'codicillaw14.DiskCuts': WHATEVER THE INPUT: true; the input reads as it did. -/
def diskCutsSpec : ChangeSpec := { name := "diskCuts", fn := fun _ => fun
  | [d1, d2, d3] => { results := [.lit (.bool true)], args := [d1, d2, d3] }
  | _ => none }
def diskCutsRow : OpenClaim := { program := "ytdbheiibkpendaa", sum := "ca1d9494058235a2aad779535132ad4d7b3c8ba81963eb770a955264f4e0d81a", func := "codicil/codicillaw14.DiskCuts", spec := "diskCuts", unfollowed := true, recurses := true, apart := false }
def DiskCutsSaid : Prop := diskCutsRow.holds Try.pinned (OpenSpec.ofChange diskCutsSpec)

/-- ITS FALSE NEIGHBOUR: 'it returns false'. Refute it at one input. -/
def diskCutsWrong : ChangeSpec := { name := "diskCuts", fn := fun _ => fun
  | [d1, d2, d3] => { results := [.lit (.bool false)], args := [d1, d2, d3] }
  | _ => none }
def DiskCutsWrongFalsely : Prop := diskCutsRow.holds Try.pinned (OpenSpec.ofChange diskCutsWrong)

/-- 'codicillaw14.DiskTrips': WHATEVER THE INPUT: true; the input reads as it did. -/
def diskTripsSpec : ChangeSpec := { name := "diskTrips", fn := fun _ => fun
  | [d1, d2] => { results := [.lit (.bool true)], args := [d1, d2] }
  | _ => none }
def diskTripsRow : OpenClaim := { program := "ytdbheiibkpendaa", sum := "ca1d9494058235a2aad779535132ad4d7b3c8ba81963eb770a955264f4e0d81a", func := "codicil/codicillaw14.DiskTrips", spec := "diskTrips", unfollowed := true, recurses := true, apart := false }
def DiskTripsSaid : Prop := diskTripsRow.holds Try.pinned (OpenSpec.ofChange diskTripsSpec)

/-- ITS FALSE NEIGHBOUR: 'it returns false'. Refute it at one input. -/
def diskTripsWrong : ChangeSpec := { name := "diskTrips", fn := fun _ => fun
  | [d1, d2] => { results := [.lit (.bool false)], args := [d1, d2] }
  | _ => none }
def DiskTripsWrongFalsely : Prop := diskTripsRow.holds Try.pinned (OpenSpec.ofChange diskTripsWrong)

/-- 'codicillaw14.DiskTwo': WHATEVER THE INPUT: true; the input reads as it did. -/
def diskTwoSpec : ChangeSpec := { name := "diskTwo", fn := fun _ => fun
  | [d1, d2] => { results := [.lit (.bool true)], args := [d1, d2] }
  | _ => none }
def diskTwoRow : OpenClaim := { program := "ytdbheiibkpendaa", sum := "ca1d9494058235a2aad779535132ad4d7b3c8ba81963eb770a955264f4e0d81a", func := "codicil/codicillaw14.DiskTwo", spec := "diskTwo", unfollowed := true, recurses := true, apart := false }
def DiskTwoSaid : Prop := diskTwoRow.holds Try.pinned (OpenSpec.ofChange diskTwoSpec)

/-- ITS FALSE NEIGHBOUR: 'it returns false'. Refute it at one input. -/
def diskTwoWrong : ChangeSpec := { name := "diskTwo", fn := fun _ => fun
  | [d1, d2] => { results := [.lit (.bool false)], args := [d1, d2] }
  | _ => none }
def DiskTwoWrongFalsely : Prop := diskTwoRow.holds Try.pinned (OpenSpec.ofChange diskTwoWrong)

/-- 'codicillaw14.DiskSafe': WHATEVER THE INPUT: true; the input reads as it did. -/
def diskSafeSpec : ChangeSpec := { name := "diskSafe", fn := fun _ => fun
  | [d1, d2] => { results := [.lit (.bool true)], args := [d1, d2] }
  | _ => none }
def diskSafeRow : OpenClaim := { program := "ytdbheiibkpendaa", sum := "ca1d9494058235a2aad779535132ad4d7b3c8ba81963eb770a955264f4e0d81a", func := "codicil/codicillaw14.DiskSafe", spec := "diskSafe", unfollowed := true, recurses := true, apart := false }
def DiskSafeSaid : Prop := diskSafeRow.holds Try.pinned (OpenSpec.ofChange diskSafeSpec)

/-- ITS FALSE NEIGHBOUR: 'it returns false'. Refute it at one input. -/
def diskSafeWrong : ChangeSpec := { name := "diskSafe", fn := fun _ => fun
  | [d1, d2] => { results := [.lit (.bool false)], args := [d1, d2] }
  | _ => none }
def DiskSafeWrongFalsely : Prop := diskSafeRow.holds Try.pinned (OpenSpec.ofChange diskSafeWrong)

/-- 'codicillaw14.DiskExact': WHATEVER THE INPUT: true; the input reads as it did. -/
def diskExactSpec : ChangeSpec := { name := "diskExact", fn := fun _ => fun
  | [d1, d2] => { results := [.lit (.bool true)], args := [d1, d2] }
  | _ => none }
def diskExactRow : OpenClaim := { program := "ytdbheiibkpendaa", sum := "ca1d9494058235a2aad779535132ad4d7b3c8ba81963eb770a955264f4e0d81a", func := "codicil/codicillaw14.DiskExact", spec := "diskExact", unfollowed := true, recurses := true, apart := false }
def DiskExactSaid : Prop := diskExactRow.holds Try.pinned (OpenSpec.ofChange diskExactSpec)

/-- ITS FALSE NEIGHBOUR: 'it returns false'. Refute it at one input. -/
def diskExactWrong : ChangeSpec := { name := "diskExact", fn := fun _ => fun
  | [d1, d2] => { results := [.lit (.bool false)], args := [d1, d2] }
  | _ => none }
def DiskExactWrongFalsely : Prop := diskExactRow.holds Try.pinned (OpenSpec.ofChange diskExactWrong)

/- THE SECOND FORM. 'bulk': how many values and letters a reading holds, each counted each time it is reached (what is shared counts as often as it is met; a slice's spare places count too). A statement '..UptoSaid' is the law's where the arguments, and the package variables that the reading takes, are together of bulk at most 1048576: NARROWER than '..Said'. Prove '..Said' where nothing that the law and all that it calls make is longer than what came in: it says more and counts as full. Else prove '..UptoSaid'. A law counts once. -/
mutual
def uptoBulk {H : Type} : DataW H → Nat
  | .lit (.string bytes) => bytes.length + 1
  | .lit _ => 1
  | .nil => 1
  | .ptr d => uptoBulk d + 1
  | .slice elems spare => uptoBulkAll elems + uptoBulkAll spare + 1
  | .agg parts => uptoBulkAll parts + 1
  | .iface _ d => uptoBulk d + 1
  | .map entries => uptoBulkEntries entries + 1
  | .held _ => 1
def uptoBulkAll {H : Type} : List (DataW H) → Nat
  | [] => 0
  | d :: r => uptoBulk d + uptoBulkAll r
def uptoBulkEntries {H : Type} : List (Lit × DataW H) → Nat
  | [] => 0
  | x :: r => uptoBulkEntry x + uptoBulkEntries r
def uptoBulkEntry {H : Type} : Lit × DataW H → Nat
  | (.string bytes, d) => bytes.length + uptoBulk d + 1
  | (_, d) => uptoBulk d + 1
 end
def uptoSmall : (H : Type) → List (DataW H) → Bool := fun _ ds => decide (uptoBulkAll ds ≤ 1048576)
def OpenSpec.upto (s : _root_.Go.ChangeSpec) : _root_.Go.OpenSpec := { _root_.Go.OpenSpec.ofChange s with cond := some uptoSmall }

/-- 'codicillaw14.DiskChoice', WHERE WHAT IT READS IS OF BULK AT MOST 1048576: true; the input reads as it did. -/
def diskChoiceUptoRow : OpenClaim := { program := "ytdbheiibkpendaa", sum := "ca1d9494058235a2aad779535132ad4d7b3c8ba81963eb770a955264f4e0d81a", func := "codicil/codicillaw14.DiskChoice", spec := "diskChoice", unfollowed := true, recurses := true, apart := false, narrowed := true }
def DiskChoiceUptoSaid : Prop := diskChoiceUptoRow.holds Try.pinned (OpenSpec.upto diskChoiceSpec)

/-- 'codicillaw14.DiskTorn', WHERE WHAT IT READS IS OF BULK AT MOST 1048576: true; the input reads as it did. -/
def diskTornUptoRow : OpenClaim := { program := "ytdbheiibkpendaa", sum := "ca1d9494058235a2aad779535132ad4d7b3c8ba81963eb770a955264f4e0d81a", func := "codicil/codicillaw14.DiskTorn", spec := "diskTorn", unfollowed := true, recurses := true, apart := false, narrowed := true }
def DiskTornUptoSaid : Prop := diskTornUptoRow.holds Try.pinned (OpenSpec.upto diskTornSpec)

/-- 'codicillaw14.DiskFiles', WHERE WHAT IT READS IS OF BULK AT MOST 1048576: true; the input reads as it did. -/
def diskFilesUptoRow : OpenClaim := { program := "ytdbheiibkpendaa", sum := "ca1d9494058235a2aad779535132ad4d7b3c8ba81963eb770a955264f4e0d81a", func := "codicil/codicillaw14.DiskFiles", spec := "diskFiles", unfollowed := true, recurses := true, apart := false, narrowed := true }
def DiskFilesUptoSaid : Prop := diskFilesUptoRow.holds Try.pinned (OpenSpec.upto diskFilesSpec)

/-- 'codicillaw14.DiskLives', WHERE WHAT IT READS IS OF BULK AT MOST 1048576: true; the input reads as it did. -/
def diskLivesUptoRow : OpenClaim := { program := "ytdbheiibkpendaa", sum := "ca1d9494058235a2aad779535132ad4d7b3c8ba81963eb770a955264f4e0d81a", func := "codicil/codicillaw14.DiskLives", spec := "diskLives", unfollowed := true, recurses := true, apart := false, narrowed := true }
def DiskLivesUptoSaid : Prop := diskLivesUptoRow.holds Try.pinned (OpenSpec.upto diskLivesSpec)

/-- 'codicillaw14.DiskRoom', WHERE WHAT IT READS IS OF BULK AT MOST 1048576: true; the input reads as it did. -/
def diskRoomUptoRow : OpenClaim := { program := "ytdbheiibkpendaa", sum := "ca1d9494058235a2aad779535132ad4d7b3c8ba81963eb770a955264f4e0d81a", func := "codicil/codicillaw14.DiskRoom", spec := "diskRoom", unfollowed := true, recurses := true, apart := false, narrowed := true }
def DiskRoomUptoSaid : Prop := diskRoomUptoRow.holds Try.pinned (OpenSpec.upto diskRoomSpec)

/-- 'codicillaw14.DiskCuts', WHERE WHAT IT READS IS OF BULK AT MOST 1048576: true; the input reads as it did. -/
def diskCutsUptoRow : OpenClaim := { program := "ytdbheiibkpendaa", sum := "ca1d9494058235a2aad779535132ad4d7b3c8ba81963eb770a955264f4e0d81a", func := "codicil/codicillaw14.DiskCuts", spec := "diskCuts", unfollowed := true, recurses := true, apart := false, narrowed := true }
def DiskCutsUptoSaid : Prop := diskCutsUptoRow.holds Try.pinned (OpenSpec.upto diskCutsSpec)

/-- 'codicillaw14.DiskTrips', WHERE WHAT IT READS IS OF BULK AT MOST 1048576: true; the input reads as it did. -/
def diskTripsUptoRow : OpenClaim := { program := "ytdbheiibkpendaa", sum := "ca1d9494058235a2aad779535132ad4d7b3c8ba81963eb770a955264f4e0d81a", func := "codicil/codicillaw14.DiskTrips", spec := "diskTrips", unfollowed := true, recurses := true, apart := false, narrowed := true }
def DiskTripsUptoSaid : Prop := diskTripsUptoRow.holds Try.pinned (OpenSpec.upto diskTripsSpec)

/-- 'codicillaw14.DiskTwo', WHERE WHAT IT READS IS OF BULK AT MOST 1048576: true; the input reads as it did. -/
def diskTwoUptoRow : OpenClaim := { program := "ytdbheiibkpendaa", sum := "ca1d9494058235a2aad779535132ad4d7b3c8ba81963eb770a955264f4e0d81a", func := "codicil/codicillaw14.DiskTwo", spec := "diskTwo", unfollowed := true, recurses := true, apart := false, narrowed := true }
def DiskTwoUptoSaid : Prop := diskTwoUptoRow.holds Try.pinned (OpenSpec.upto diskTwoSpec)

/-- 'codicillaw14.DiskSafe', WHERE WHAT IT READS IS OF BULK AT MOST 1048576: true; the input reads as it did. -/
def diskSafeUptoRow : OpenClaim := { program := "ytdbheiibkpendaa", sum := "ca1d9494058235a2aad779535132ad4d7b3c8ba81963eb770a955264f4e0d81a", func := "codicil/codicillaw14.DiskSafe", spec := "diskSafe", unfollowed := true, recurses := true, apart := false, narrowed := true }
def DiskSafeUptoSaid : Prop := diskSafeUptoRow.holds Try.pinned (OpenSpec.upto diskSafeSpec)

/-- 'codicillaw14.DiskExact', WHERE WHAT IT READS IS OF BULK AT MOST 1048576: true; the input reads as it did. -/
def diskExactUptoRow : OpenClaim := { program := "ytdbheiibkpendaa", sum := "ca1d9494058235a2aad779535132ad4d7b3c8ba81963eb770a955264f4e0d81a", func := "codicil/codicillaw14.DiskExact", spec := "diskExact", unfollowed := true, recurses := true, apart := false, narrowed := true }
def DiskExactUptoSaid : Prop := diskExactUptoRow.holds Try.pinned (OpenSpec.upto diskExactSpec)

end Rows
end Go.Proofs.Ytdbheiibkpendaa
