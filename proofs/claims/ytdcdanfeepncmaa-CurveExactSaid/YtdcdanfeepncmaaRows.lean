/-
  No cell of these rows narrows 'for every input' (looked for: loops, veiled, ifaces, maps, wideKeys, modest, calm, conditions, laid).
  DERIVED. THE GIVEN ROWS OF THIS SEAT. 23 by the template 'for every input the law returns true; each argument reads behind the call as it read before'; 0 by the template 'total and deterministic' (their statements: YtdcdanfeepncmaaTotals.lean).
  GIVEN WITH THE SEED: the statements are not yours to turn. If you find one false, say at which input.
  Laid BY PROGRAM, IN A SANDBOX (cutbox-rows.mjs): the forced cells as the released guide's own fill.sh prints them over the translation 760bc5e1c1f7ff77… (all of the seat's roots in one cut). By AI agents, Wed Nov 11 2026. No macro, syntax, notation, axiom, sorry.
-/
import Derived.Test.YtdcdanfeepncmaaChecked
import GoSem.Claim
import GoSem.ClaimJoined
import GoSem.ClaimMapViews
import Derived.JoinedTies
import Derived.KernelRfl
namespace Go.Proofs.Ytdcdanfeepncmaa
/- THE CELL 'sum', in the pinned program and in every row, IS THE sha256 OF THE DUMP (.gsa) THAT YtdcdanfeepncmaaProg.lean LOADS. Nothing in Lean hashes anything: it is a label: what it is worth is what the hold of that sum in a sandbox is worth. -/
noncomputable def Try.pinned : Pinned := { name := "ytdcdanfeepncmaa", sum := "760bc5e1c1f7ff77954aa07b90f9781d30975fe575cfe97adbdb918cd80cce0e", checked := Try.checked }
namespace Rows
def none {H : Type} : Left H := { results := [], args := [] }

/-- 'codicillaw05.ScalarGoes': WHATEVER THE INPUT: true; the input reads as it did. -/
def scalarGoesSpec : ChangeSpec := { name := "scalarGoes", fn := fun _ => fun
  | [d1, d2, d3, d4] => { results := [.lit (.bool true)], args := [d1, d2, d3, d4] }
  | _ => none }
def scalarGoesRow : OpenClaim := { program := "ytdcdanfeepncmaa", sum := "760bc5e1c1f7ff77954aa07b90f9781d30975fe575cfe97adbdb918cd80cce0e", func := "codicil/codicillaw05.ScalarGoes", spec := "scalarGoes", inPlace := ["math/bits.Add64", "math/bits.Sub64"], unfollowed := true, recurses := true, apart := false }
def ScalarGoesSaid : Prop := scalarGoesRow.holds Try.pinned (OpenSpec.ofChange scalarGoesSpec)

/-- ITS FALSE NEIGHBOUR: 'it returns false'. Refute it at one input. -/
def scalarGoesWrong : ChangeSpec := { name := "scalarGoes", fn := fun _ => fun
  | [d1, d2, d3, d4] => { results := [.lit (.bool false)], args := [d1, d2, d3, d4] }
  | _ => none }
def ScalarGoesWrongFalsely : Prop := scalarGoesRow.holds Try.pinned (OpenSpec.ofChange scalarGoesWrong)

/-- 'codicillaw05.ScalarEnds': WHATEVER THE INPUT: true; the input reads as it did. -/
def scalarEndsSpec : ChangeSpec := { name := "scalarEnds", fn := fun _ => fun
  | [d1, d2] => { results := [.lit (.bool true)], args := [d1, d2] }
  | _ => none }
def scalarEndsRow : OpenClaim := { program := "ytdcdanfeepncmaa", sum := "760bc5e1c1f7ff77954aa07b90f9781d30975fe575cfe97adbdb918cd80cce0e", func := "codicil/codicillaw05.ScalarEnds", spec := "scalarEnds", inPlace := ["math/bits.Sub64", "math/bits.Add64"], unfollowed := true, recurses := true, apart := false }
def ScalarEndsSaid : Prop := scalarEndsRow.holds Try.pinned (OpenSpec.ofChange scalarEndsSpec)

/-- ITS FALSE NEIGHBOUR: 'it returns false'. Refute it at one input. -/
def scalarEndsWrong : ChangeSpec := { name := "scalarEnds", fn := fun _ => fun
  | [d1, d2] => { results := [.lit (.bool false)], args := [d1, d2] }
  | _ => none }
def ScalarEndsWrongFalsely : Prop := scalarEndsRow.holds Try.pinned (OpenSpec.ofChange scalarEndsWrong)

/-- 'codicillaw05.ScalarSmall': WHATEVER THE INPUT: true; the input reads as it did. -/
def scalarSmallSpec : ChangeSpec := { name := "scalarSmall", fn := fun _ => fun
  | [d1, d2, d3] => { results := [.lit (.bool true)], args := [d1, d2, d3] }
  | _ => none }
def scalarSmallRow : OpenClaim := { program := "ytdcdanfeepncmaa", sum := "760bc5e1c1f7ff77954aa07b90f9781d30975fe575cfe97adbdb918cd80cce0e", func := "codicil/codicillaw05.ScalarSmall", spec := "scalarSmall", inPlace := ["math/bits.Add64", "math/bits.Sub64"], unfollowed := true, recurses := true, apart := false }
def ScalarSmallSaid : Prop := scalarSmallRow.holds Try.pinned (OpenSpec.ofChange scalarSmallSpec)

/-- ITS FALSE NEIGHBOUR: 'it returns false'. Refute it at one input. -/
def scalarSmallWrong : ChangeSpec := { name := "scalarSmall", fn := fun _ => fun
  | [d1, d2, d3] => { results := [.lit (.bool false)], args := [d1, d2, d3] }
  | _ => none }
def ScalarSmallWrongFalsely : Prop := scalarSmallRow.holds Try.pinned (OpenSpec.ofChange scalarSmallWrong)

/-- 'codicillaw05.ScalarTurns': WHATEVER THE INPUT: true; the input reads as it did. -/
def scalarTurnsSpec : ChangeSpec := { name := "scalarTurns", fn := fun _ => fun
  | [d] => { results := [.lit (.bool true)], args := [d] }
  | _ => none }
def scalarTurnsRow : OpenClaim := { program := "ytdcdanfeepncmaa", sum := "760bc5e1c1f7ff77954aa07b90f9781d30975fe575cfe97adbdb918cd80cce0e", func := "codicil/codicillaw05.ScalarTurns", spec := "scalarTurns", inPlace := ["math/bits.Add64", "math/bits.Sub64"], unfollowed := true, recurses := true, apart := false }
def ScalarTurnsSaid : Prop := scalarTurnsRow.holds Try.pinned (OpenSpec.ofChange scalarTurnsSpec)

/-- ITS FALSE NEIGHBOUR: 'it returns false'. Refute it at one input. -/
def scalarTurnsWrong : ChangeSpec := { name := "scalarTurns", fn := fun _ => fun
  | [d] => { results := [.lit (.bool false)], args := [d] }
  | _ => none }
def ScalarTurnsWrongFalsely : Prop := scalarTurnsRow.holds Try.pinned (OpenSpec.ofChange scalarTurnsWrong)

/-- 'codicillaw04.FieldFermat': WHATEVER THE INPUT: true; the input reads as it did. -/
def fieldFermatSpec : ChangeSpec := { name := "fieldFermat", fn := fun _ => fun
  | [d] => { results := [.lit (.bool true)], args := [d] }
  | _ => none }
def fieldFermatRow : OpenClaim := { program := "ytdcdanfeepncmaa", sum := "760bc5e1c1f7ff77954aa07b90f9781d30975fe575cfe97adbdb918cd80cce0e", func := "codicil/codicillaw04.FieldFermat", spec := "fieldFermat", inPlace := ["math/bits.Add64"], apart := false }
def FieldFermatSaid : Prop := fieldFermatRow.holds Try.pinned (OpenSpec.ofChange fieldFermatSpec)

/-- ITS FALSE NEIGHBOUR: 'it returns false'. Refute it at one input. -/
def fieldFermatWrong : ChangeSpec := { name := "fieldFermat", fn := fun _ => fun
  | [d] => { results := [.lit (.bool false)], args := [d] }
  | _ => none }
def FieldFermatWrongFalsely : Prop := fieldFermatRow.holds Try.pinned (OpenSpec.ofChange fieldFermatWrong)

/-- 'codicillaw05.ScalarExact': WHATEVER THE INPUT: true; the input reads as it did. -/
def scalarExactSpec : ChangeSpec := { name := "scalarExact", fn := fun _ => fun
  | [d1, d2, d3, d4] => { results := [.lit (.bool true)], args := [d1, d2, d3, d4] }
  | _ => none }
def scalarExactRow : OpenClaim := { program := "ytdcdanfeepncmaa", sum := "760bc5e1c1f7ff77954aa07b90f9781d30975fe575cfe97adbdb918cd80cce0e", func := "codicil/codicillaw05.ScalarExact", spec := "scalarExact", inPlace := ["math/bits.Sub64", "math/bits.Add64"], unfollowed := true, recurses := true, apart := false }
def ScalarExactSaid : Prop := scalarExactRow.holds Try.pinned (OpenSpec.ofChange scalarExactSpec)

/-- ITS FALSE NEIGHBOUR: 'it returns false'. Refute it at one input. -/
def scalarExactWrong : ChangeSpec := { name := "scalarExact", fn := fun _ => fun
  | [d1, d2, d3, d4] => { results := [.lit (.bool false)], args := [d1, d2, d3, d4] }
  | _ => none }
def ScalarExactWrongFalsely : Prop := scalarExactRow.holds Try.pinned (OpenSpec.ofChange scalarExactWrong)

/-- 'codicillaw05.ScalarLaws': WHATEVER THE INPUT: true; the input reads as it did. -/
def scalarLawsSpec : ChangeSpec := { name := "scalarLaws", fn := fun _ => fun
  | [d1, d2, d3] => { results := [.lit (.bool true)], args := [d1, d2, d3] }
  | _ => none }
def scalarLawsRow : OpenClaim := { program := "ytdcdanfeepncmaa", sum := "760bc5e1c1f7ff77954aa07b90f9781d30975fe575cfe97adbdb918cd80cce0e", func := "codicil/codicillaw05.ScalarLaws", spec := "scalarLaws", inPlace := ["math/bits.Sub64", "math/bits.Add64"], unfollowed := true, recurses := true, apart := false }
def ScalarLawsSaid : Prop := scalarLawsRow.holds Try.pinned (OpenSpec.ofChange scalarLawsSpec)

/-- ITS FALSE NEIGHBOUR: 'it returns false'. Refute it at one input. -/
def scalarLawsWrong : ChangeSpec := { name := "scalarLaws", fn := fun _ => fun
  | [d1, d2, d3] => { results := [.lit (.bool false)], args := [d1, d2, d3] }
  | _ => none }
def ScalarLawsWrongFalsely : Prop := scalarLawsRow.holds Try.pinned (OpenSpec.ofChange scalarLawsWrong)

/-- 'codicillaw05.ScalarWide': WHATEVER THE INPUT: true; the input reads as it did. -/
def scalarWideSpec : ChangeSpec := { name := "scalarWide", fn := fun _ => fun
  | [d] => { results := [.lit (.bool true)], args := [d] }
  | _ => none }
def scalarWideRow : OpenClaim := { program := "ytdcdanfeepncmaa", sum := "760bc5e1c1f7ff77954aa07b90f9781d30975fe575cfe97adbdb918cd80cce0e", func := "codicil/codicillaw05.ScalarWide", spec := "scalarWide", inPlace := ["math/bits.Add64", "math/bits.Sub64"], unfollowed := true, recurses := true, apart := false }
def ScalarWideSaid : Prop := scalarWideRow.holds Try.pinned (OpenSpec.ofChange scalarWideSpec)

/-- ITS FALSE NEIGHBOUR: 'it returns false'. Refute it at one input. -/
def scalarWideWrong : ChangeSpec := { name := "scalarWide", fn := fun _ => fun
  | [d] => { results := [.lit (.bool false)], args := [d] }
  | _ => none }
def ScalarWideWrongFalsely : Prop := scalarWideRow.holds Try.pinned (OpenSpec.ofChange scalarWideWrong)

/-- 'codicillaw04.FieldLaws': WHATEVER THE INPUT: true; the input reads as it did. -/
def fieldLawsSpec : ChangeSpec := { name := "fieldLaws", fn := fun _ => fun
  | [d1, d2, d3] => { results := [.lit (.bool true)], args := [d1, d2, d3] }
  | _ => none }
def fieldLawsRow : OpenClaim := { program := "ytdcdanfeepncmaa", sum := "760bc5e1c1f7ff77954aa07b90f9781d30975fe575cfe97adbdb918cd80cce0e", func := "codicil/codicillaw04.FieldLaws", spec := "fieldLaws", inPlace := ["math/bits.Add64"], apart := false }
def FieldLawsSaid : Prop := fieldLawsRow.holds Try.pinned (OpenSpec.ofChange fieldLawsSpec)

/-- ITS FALSE NEIGHBOUR: 'it returns false'. Refute it at one input. -/
def fieldLawsWrong : ChangeSpec := { name := "fieldLaws", fn := fun _ => fun
  | [d1, d2, d3] => { results := [.lit (.bool false)], args := [d1, d2, d3] }
  | _ => none }
def FieldLawsWrongFalsely : Prop := fieldLawsRow.holds Try.pinned (OpenSpec.ofChange fieldLawsWrong)

/-- 'codicillaw04.FieldEnds': WHATEVER THE INPUT: true; the input reads as it did. -/
def fieldEndsSpec : ChangeSpec := { name := "fieldEnds", fn := fun _ => fun
  | [d1, d2] => { results := [.lit (.bool true)], args := [d1, d2] }
  | _ => none }
def fieldEndsRow : OpenClaim := { program := "ytdcdanfeepncmaa", sum := "760bc5e1c1f7ff77954aa07b90f9781d30975fe575cfe97adbdb918cd80cce0e", func := "codicil/codicillaw04.FieldEnds", spec := "fieldEnds", inPlace := ["math/bits.Add64"], apart := false }
def FieldEndsSaid : Prop := fieldEndsRow.holds Try.pinned (OpenSpec.ofChange fieldEndsSpec)

/-- ITS FALSE NEIGHBOUR: 'it returns false'. Refute it at one input. -/
def fieldEndsWrong : ChangeSpec := { name := "fieldEnds", fn := fun _ => fun
  | [d1, d2] => { results := [.lit (.bool false)], args := [d1, d2] }
  | _ => none }
def FieldEndsWrongFalsely : Prop := fieldEndsRow.holds Try.pinned (OpenSpec.ofChange fieldEndsWrong)

/-- 'codicillaw04.FieldSmall': WHATEVER THE INPUT: true; the input reads as it did. -/
def fieldSmallSpec : ChangeSpec := { name := "fieldSmall", fn := fun _ => fun
  | [d1, d2] => { results := [.lit (.bool true)], args := [d1, d2] }
  | _ => none }
def fieldSmallRow : OpenClaim := { program := "ytdcdanfeepncmaa", sum := "760bc5e1c1f7ff77954aa07b90f9781d30975fe575cfe97adbdb918cd80cce0e", func := "codicil/codicillaw04.FieldSmall", spec := "fieldSmall", inPlace := ["math/bits.Add64"], apart := false }
def FieldSmallSaid : Prop := fieldSmallRow.holds Try.pinned (OpenSpec.ofChange fieldSmallSpec)

/-- ITS FALSE NEIGHBOUR: 'it returns false'. Refute it at one input. -/
def fieldSmallWrong : ChangeSpec := { name := "fieldSmall", fn := fun _ => fun
  | [d1, d2] => { results := [.lit (.bool false)], args := [d1, d2] }
  | _ => none }
def FieldSmallWrongFalsely : Prop := fieldSmallRow.holds Try.pinned (OpenSpec.ofChange fieldSmallWrong)

/-- 'codicillaw04.FieldExact': WHATEVER THE INPUT: true; the input reads as it did. -/
def fieldExactSpec : ChangeSpec := { name := "fieldExact", fn := fun _ => fun
  | [d1, d2] => { results := [.lit (.bool true)], args := [d1, d2] }
  | _ => none }
def fieldExactRow : OpenClaim := { program := "ytdcdanfeepncmaa", sum := "760bc5e1c1f7ff77954aa07b90f9781d30975fe575cfe97adbdb918cd80cce0e", func := "codicil/codicillaw04.FieldExact", spec := "fieldExact", inPlace := ["math/bits.Sub64", "math/bits.Add64"], apart := false }
def FieldExactSaid : Prop := fieldExactRow.holds Try.pinned (OpenSpec.ofChange fieldExactSpec)

/-- ITS FALSE NEIGHBOUR: 'it returns false'. Refute it at one input. -/
def fieldExactWrong : ChangeSpec := { name := "fieldExact", fn := fun _ => fun
  | [d1, d2] => { results := [.lit (.bool false)], args := [d1, d2] }
  | _ => none }
def FieldExactWrongFalsely : Prop := fieldExactRow.holds Try.pinned (OpenSpec.ofChange fieldExactWrong)

/-- 'codicillaw04.FieldInverse': WHATEVER THE INPUT: true; the input reads as it did. -/
def fieldInverseSpec : ChangeSpec := { name := "fieldInverse", fn := fun _ => fun
  | [d] => { results := [.lit (.bool true)], args := [d] }
  | _ => none }
def fieldInverseRow : OpenClaim := { program := "ytdcdanfeepncmaa", sum := "760bc5e1c1f7ff77954aa07b90f9781d30975fe575cfe97adbdb918cd80cce0e", func := "codicil/codicillaw04.FieldInverse", spec := "fieldInverse", inPlace := ["math/bits.Add64", "math/bits.Sub64"], apart := false }
def FieldInverseSaid : Prop := fieldInverseRow.holds Try.pinned (OpenSpec.ofChange fieldInverseSpec)

/-- ITS FALSE NEIGHBOUR: 'it returns false'. Refute it at one input. -/
def fieldInverseWrong : ChangeSpec := { name := "fieldInverse", fn := fun _ => fun
  | [d] => { results := [.lit (.bool false)], args := [d] }
  | _ => none }
def FieldInverseWrongFalsely : Prop := fieldInverseRow.holds Try.pinned (OpenSpec.ofChange fieldInverseWrong)

/-- 'codicillaw04.FieldSquares': WHATEVER THE INPUT: true; the input reads as it did. -/
def fieldSquaresSpec : ChangeSpec := { name := "fieldSquares", fn := fun _ => fun
  | [d1, d2] => { results := [.lit (.bool true)], args := [d1, d2] }
  | _ => none }
def fieldSquaresRow : OpenClaim := { program := "ytdcdanfeepncmaa", sum := "760bc5e1c1f7ff77954aa07b90f9781d30975fe575cfe97adbdb918cd80cce0e", func := "codicil/codicillaw04.FieldSquares", spec := "fieldSquares", inPlace := ["math/bits.Add64"], apart := false }
def FieldSquaresSaid : Prop := fieldSquaresRow.holds Try.pinned (OpenSpec.ofChange fieldSquaresSpec)

/-- ITS FALSE NEIGHBOUR: 'it returns false'. Refute it at one input. -/
def fieldSquaresWrong : ChangeSpec := { name := "fieldSquares", fn := fun _ => fun
  | [d1, d2] => { results := [.lit (.bool false)], args := [d1, d2] }
  | _ => none }
def FieldSquaresWrongFalsely : Prop := fieldSquaresRow.holds Try.pinned (OpenSpec.ofChange fieldSquaresWrong)

/-- 'codicillaw04.FieldRoot': WHATEVER THE INPUT: true; the input reads as it did. -/
def fieldRootSpec : ChangeSpec := { name := "fieldRoot", fn := fun _ => fun
  | [d] => { results := [.lit (.bool true)], args := [d] }
  | _ => none }
def fieldRootRow : OpenClaim := { program := "ytdcdanfeepncmaa", sum := "760bc5e1c1f7ff77954aa07b90f9781d30975fe575cfe97adbdb918cd80cce0e", func := "codicil/codicillaw04.FieldRoot", spec := "fieldRoot", inPlace := ["math/bits.Add64", "math/bits.Sub64"], apart := false }
def FieldRootSaid : Prop := fieldRootRow.holds Try.pinned (OpenSpec.ofChange fieldRootSpec)

/-- ITS FALSE NEIGHBOUR: 'it returns false'. Refute it at one input. -/
def fieldRootWrong : ChangeSpec := { name := "fieldRoot", fn := fun _ => fun
  | [d] => { results := [.lit (.bool false)], args := [d] }
  | _ => none }
def FieldRootWrongFalsely : Prop := fieldRootRow.holds Try.pinned (OpenSpec.ofChange fieldRootWrong)

/-- 'codicillaw06.CurveBase': WHATEVER THE INPUT: true; the input reads as it did. -/
def curveBaseSpec : ChangeSpec := { name := "curveBase", fn := fun _ => fun
  | [d] => { results := [.lit (.bool true)], args := [d] }
  | _ => none }
def curveBaseRow : OpenClaim := { program := "ytdcdanfeepncmaa", sum := "760bc5e1c1f7ff77954aa07b90f9781d30975fe575cfe97adbdb918cd80cce0e", func := "codicil/codicillaw06.CurveBase", spec := "curveBase", inPlace := ["math/bits.Add64", "math/bits.Sub64"], apart := false }
def CurveBaseSaid : Prop := curveBaseRow.holds Try.pinned (OpenSpec.ofChange curveBaseSpec)

/-- ITS FALSE NEIGHBOUR: 'it returns false'. Refute it at one input. -/
def curveBaseWrong : ChangeSpec := { name := "curveBase", fn := fun _ => fun
  | [d] => { results := [.lit (.bool false)], args := [d] }
  | _ => none }
def CurveBaseWrongFalsely : Prop := curveBaseRow.holds Try.pinned (OpenSpec.ofChange curveBaseWrong)

/-- 'codicillaw06.CurveSmall': WHATEVER THE INPUT: true; the input reads as it did. -/
def curveSmallSpec : ChangeSpec := { name := "curveSmall", fn := fun _ => fun
  | [d1, d2] => { results := [.lit (.bool true)], args := [d1, d2] }
  | _ => none }
def curveSmallRow : OpenClaim := { program := "ytdcdanfeepncmaa", sum := "760bc5e1c1f7ff77954aa07b90f9781d30975fe575cfe97adbdb918cd80cce0e", func := "codicil/codicillaw06.CurveSmall", spec := "curveSmall", inPlace := ["math/bits.Add64"], apart := false }
def CurveSmallSaid : Prop := curveSmallRow.holds Try.pinned (OpenSpec.ofChange curveSmallSpec)

/-- ITS FALSE NEIGHBOUR: 'it returns false'. Refute it at one input. -/
def curveSmallWrong : ChangeSpec := { name := "curveSmall", fn := fun _ => fun
  | [d1, d2] => { results := [.lit (.bool false)], args := [d1, d2] }
  | _ => none }
def CurveSmallWrongFalsely : Prop := curveSmallRow.holds Try.pinned (OpenSpec.ofChange curveSmallWrong)

/-- 'codicillaw06.CurveEquation': WHATEVER THE INPUT: true; the input reads as it did. -/
def curveEquationSpec : ChangeSpec := { name := "curveEquation", fn := fun _ => fun
  | [d] => { results := [.lit (.bool true)], args := [d] }
  | _ => none }
def curveEquationRow : OpenClaim := { program := "ytdcdanfeepncmaa", sum := "760bc5e1c1f7ff77954aa07b90f9781d30975fe575cfe97adbdb918cd80cce0e", func := "codicil/codicillaw06.CurveEquation", spec := "curveEquation", inPlace := ["math/bits.Add64"], unfollowed := true, recurses := true, apart := false }
def CurveEquationSaid : Prop := curveEquationRow.holds Try.pinned (OpenSpec.ofChange curveEquationSpec)

/-- ITS FALSE NEIGHBOUR: 'it returns false'. Refute it at one input. -/
def curveEquationWrong : ChangeSpec := { name := "curveEquation", fn := fun _ => fun
  | [d] => { results := [.lit (.bool false)], args := [d] }
  | _ => none }
def CurveEquationWrongFalsely : Prop := curveEquationRow.holds Try.pinned (OpenSpec.ofChange curveEquationWrong)

/-- 'codicillaw06.CurveTorsion': WHATEVER THE INPUT: true; the input reads as it did. -/
def curveTorsionSpec : ChangeSpec := { name := "curveTorsion", fn := fun _ => fun
  | [d] => { results := [.lit (.bool true)], args := [d] }
  | _ => none }
def curveTorsionRow : OpenClaim := { program := "ytdcdanfeepncmaa", sum := "760bc5e1c1f7ff77954aa07b90f9781d30975fe575cfe97adbdb918cd80cce0e", func := "codicil/codicillaw06.CurveTorsion", spec := "curveTorsion", inPlace := ["math/bits.Add64"], apart := false }
def CurveTorsionSaid : Prop := curveTorsionRow.holds Try.pinned (OpenSpec.ofChange curveTorsionSpec)

/-- ITS FALSE NEIGHBOUR: 'it returns false'. Refute it at one input. -/
def curveTorsionWrong : ChangeSpec := { name := "curveTorsion", fn := fun _ => fun
  | [d] => { results := [.lit (.bool false)], args := [d] }
  | _ => none }
def CurveTorsionWrongFalsely : Prop := curveTorsionRow.holds Try.pinned (OpenSpec.ofChange curveTorsionWrong)

/-- 'codicillaw06.CurveSides': WHATEVER THE INPUT: true; the input reads as it did. -/
def curveSidesSpec : ChangeSpec := { name := "curveSides", fn := fun _ => fun
  | [d1, d2] => { results := [.lit (.bool true)], args := [d1, d2] }
  | _ => none }
def curveSidesRow : OpenClaim := { program := "ytdcdanfeepncmaa", sum := "760bc5e1c1f7ff77954aa07b90f9781d30975fe575cfe97adbdb918cd80cce0e", func := "codicil/codicillaw06.CurveSides", spec := "curveSides", inPlace := ["math/bits.Add64"], apart := false }
def CurveSidesSaid : Prop := curveSidesRow.holds Try.pinned (OpenSpec.ofChange curveSidesSpec)

/-- ITS FALSE NEIGHBOUR: 'it returns false'. Refute it at one input. -/
def curveSidesWrong : ChangeSpec := { name := "curveSides", fn := fun _ => fun
  | [d1, d2] => { results := [.lit (.bool false)], args := [d1, d2] }
  | _ => none }
def CurveSidesWrongFalsely : Prop := curveSidesRow.holds Try.pinned (OpenSpec.ofChange curveSidesWrong)

/-- 'codicillaw06.CurveTimes': WHATEVER THE INPUT: true; the input reads as it did. -/
def curveTimesSpec : ChangeSpec := { name := "curveTimes", fn := fun _ => fun
  | [d1, d2, d3] => { results := [.lit (.bool true)], args := [d1, d2, d3] }
  | _ => none }
def curveTimesRow : OpenClaim := { program := "ytdcdanfeepncmaa", sum := "760bc5e1c1f7ff77954aa07b90f9781d30975fe575cfe97adbdb918cd80cce0e", func := "codicil/codicillaw06.CurveTimes", spec := "curveTimes", inPlace := ["math/bits.Add64", "math/bits.Sub64"], apart := false }
def CurveTimesSaid : Prop := curveTimesRow.holds Try.pinned (OpenSpec.ofChange curveTimesSpec)

/-- ITS FALSE NEIGHBOUR: 'it returns false'. Refute it at one input. -/
def curveTimesWrong : ChangeSpec := { name := "curveTimes", fn := fun _ => fun
  | [d1, d2, d3] => { results := [.lit (.bool false)], args := [d1, d2, d3] }
  | _ => none }
def CurveTimesWrongFalsely : Prop := curveTimesRow.holds Try.pinned (OpenSpec.ofChange curveTimesWrong)

/-- 'codicillaw06.CurveGroup': WHATEVER THE INPUT: true; the input reads as it did. -/
def curveGroupSpec : ChangeSpec := { name := "curveGroup", fn := fun _ => fun
  | [d1, d2, d3] => { results := [.lit (.bool true)], args := [d1, d2, d3] }
  | _ => none }
def curveGroupRow : OpenClaim := { program := "ytdcdanfeepncmaa", sum := "760bc5e1c1f7ff77954aa07b90f9781d30975fe575cfe97adbdb918cd80cce0e", func := "codicil/codicillaw06.CurveGroup", spec := "curveGroup", inPlace := ["math/bits.Add64", "math/bits.Sub64"], apart := false }
def CurveGroupSaid : Prop := curveGroupRow.holds Try.pinned (OpenSpec.ofChange curveGroupSpec)

/-- ITS FALSE NEIGHBOUR: 'it returns false'. Refute it at one input. -/
def curveGroupWrong : ChangeSpec := { name := "curveGroup", fn := fun _ => fun
  | [d1, d2, d3] => { results := [.lit (.bool false)], args := [d1, d2, d3] }
  | _ => none }
def CurveGroupWrongFalsely : Prop := curveGroupRow.holds Try.pinned (OpenSpec.ofChange curveGroupWrong)

/-- 'codicillaw06.CurveExact': WHATEVER THE INPUT: true; the input reads as it did. -/
def curveExactSpec : ChangeSpec := { name := "curveExact", fn := fun _ => fun
  | [d1, d2, d3] => { results := [.lit (.bool true)], args := [d1, d2, d3] }
  | _ => none }
def curveExactRow : OpenClaim := { program := "ytdcdanfeepncmaa", sum := "760bc5e1c1f7ff77954aa07b90f9781d30975fe575cfe97adbdb918cd80cce0e", func := "codicil/codicillaw06.CurveExact", spec := "curveExact", inPlace := ["math/bits.Sub64", "math/bits.Add64"], apart := false }
def CurveExactSaid : Prop := curveExactRow.holds Try.pinned (OpenSpec.ofChange curveExactSpec)

/-- ITS FALSE NEIGHBOUR: 'it returns false'. Refute it at one input. -/
def curveExactWrong : ChangeSpec := { name := "curveExact", fn := fun _ => fun
  | [d1, d2, d3] => { results := [.lit (.bool false)], args := [d1, d2, d3] }
  | _ => none }
def CurveExactWrongFalsely : Prop := curveExactRow.holds Try.pinned (OpenSpec.ofChange curveExactWrong)

/- THE SECOND FORM. 'bulk': how many values and letters a reading holds, each counted each time it is reached (what is shared counts as often as it is met; a slice's spare places count too). A statement '..UptoSaid' is the law's where the arguments, and the package variables that the reading takes, are together of bulk at most 1048576: NARROWER than '..Said'. Prove '..Said' where nothing that the law and all that it calls make is longer than what came in: it says more and counts as full. Else prove '..UptoSaid'. A law counts once. -/
mutual
def uptoBulk {H : Type} : DataW H → Nat
  | .lit (.string bytes) => bytes.length + 1
  | .lit _ => 1
  | .nil => 1
  | .ptr d => uptoBulk d + 1
  | .slice elems spare => uptoBulkAll elems + uptoBulkAll spare + 1
  | .agg parts => uptoBulkAll parts + 1
  | .iface _ d => uptoBulk d + 1
  | .map entries => uptoBulkEntries entries + 1
  | .held _ => 1
def uptoBulkAll {H : Type} : List (DataW H) → Nat
  | [] => 0
  | d :: r => uptoBulk d + uptoBulkAll r
def uptoBulkEntries {H : Type} : List (Lit × DataW H) → Nat
  | [] => 0
  | x :: r => uptoBulkEntry x + uptoBulkEntries r
def uptoBulkEntry {H : Type} : Lit × DataW H → Nat
  | (.string bytes, d) => bytes.length + uptoBulk d + 1
  | (_, d) => uptoBulk d + 1
 end
def uptoSmall : (H : Type) → List (DataW H) → Bool := fun _ ds => decide (uptoBulkAll ds ≤ 1048576)
def OpenSpec.upto (s : _root_.Go.ChangeSpec) : _root_.Go.OpenSpec := { _root_.Go.OpenSpec.ofChange s with cond := some uptoSmall }

/-- 'codicillaw05.ScalarGoes', WHERE WHAT IT READS IS OF BULK AT MOST 1048576: true; the input reads as it did. -/
def scalarGoesUptoRow : OpenClaim := { program := "ytdcdanfeepncmaa", sum := "760bc5e1c1f7ff77954aa07b90f9781d30975fe575cfe97adbdb918cd80cce0e", func := "codicil/codicillaw05.ScalarGoes", spec := "scalarGoes", inPlace := ["math/bits.Add64", "math/bits.Sub64"], unfollowed := true, recurses := true, apart := false, narrowed := true }
def ScalarGoesUptoSaid : Prop := scalarGoesUptoRow.holds Try.pinned (OpenSpec.upto scalarGoesSpec)

/-- 'codicillaw05.ScalarEnds', WHERE WHAT IT READS IS OF BULK AT MOST 1048576: true; the input reads as it did. -/
def scalarEndsUptoRow : OpenClaim := { program := "ytdcdanfeepncmaa", sum := "760bc5e1c1f7ff77954aa07b90f9781d30975fe575cfe97adbdb918cd80cce0e", func := "codicil/codicillaw05.ScalarEnds", spec := "scalarEnds", inPlace := ["math/bits.Sub64", "math/bits.Add64"], unfollowed := true, recurses := true, apart := false, narrowed := true }
def ScalarEndsUptoSaid : Prop := scalarEndsUptoRow.holds Try.pinned (OpenSpec.upto scalarEndsSpec)

/-- 'codicillaw05.ScalarSmall', WHERE WHAT IT READS IS OF BULK AT MOST 1048576: true; the input reads as it did. -/
def scalarSmallUptoRow : OpenClaim := { program := "ytdcdanfeepncmaa", sum := "760bc5e1c1f7ff77954aa07b90f9781d30975fe575cfe97adbdb918cd80cce0e", func := "codicil/codicillaw05.ScalarSmall", spec := "scalarSmall", inPlace := ["math/bits.Add64", "math/bits.Sub64"], unfollowed := true, recurses := true, apart := false, narrowed := true }
def ScalarSmallUptoSaid : Prop := scalarSmallUptoRow.holds Try.pinned (OpenSpec.upto scalarSmallSpec)

/-- 'codicillaw05.ScalarTurns', WHERE WHAT IT READS IS OF BULK AT MOST 1048576: true; the input reads as it did. -/
def scalarTurnsUptoRow : OpenClaim := { program := "ytdcdanfeepncmaa", sum := "760bc5e1c1f7ff77954aa07b90f9781d30975fe575cfe97adbdb918cd80cce0e", func := "codicil/codicillaw05.ScalarTurns", spec := "scalarTurns", inPlace := ["math/bits.Add64", "math/bits.Sub64"], unfollowed := true, recurses := true, apart := false, narrowed := true }
def ScalarTurnsUptoSaid : Prop := scalarTurnsUptoRow.holds Try.pinned (OpenSpec.upto scalarTurnsSpec)

/-- 'codicillaw04.FieldFermat', WHERE WHAT IT READS IS OF BULK AT MOST 1048576: true; the input reads as it did. -/
def fieldFermatUptoRow : OpenClaim := { program := "ytdcdanfeepncmaa", sum := "760bc5e1c1f7ff77954aa07b90f9781d30975fe575cfe97adbdb918cd80cce0e", func := "codicil/codicillaw04.FieldFermat", spec := "fieldFermat", inPlace := ["math/bits.Add64"], apart := false, narrowed := true }
def FieldFermatUptoSaid : Prop := fieldFermatUptoRow.holds Try.pinned (OpenSpec.upto fieldFermatSpec)

/-- 'codicillaw05.ScalarExact', WHERE WHAT IT READS IS OF BULK AT MOST 1048576: true; the input reads as it did. -/
def scalarExactUptoRow : OpenClaim := { program := "ytdcdanfeepncmaa", sum := "760bc5e1c1f7ff77954aa07b90f9781d30975fe575cfe97adbdb918cd80cce0e", func := "codicil/codicillaw05.ScalarExact", spec := "scalarExact", inPlace := ["math/bits.Sub64", "math/bits.Add64"], unfollowed := true, recurses := true, apart := false, narrowed := true }
def ScalarExactUptoSaid : Prop := scalarExactUptoRow.holds Try.pinned (OpenSpec.upto scalarExactSpec)

/-- 'codicillaw05.ScalarLaws', WHERE WHAT IT READS IS OF BULK AT MOST 1048576: true; the input reads as it did. -/
def scalarLawsUptoRow : OpenClaim := { program := "ytdcdanfeepncmaa", sum := "760bc5e1c1f7ff77954aa07b90f9781d30975fe575cfe97adbdb918cd80cce0e", func := "codicil/codicillaw05.ScalarLaws", spec := "scalarLaws", inPlace := ["math/bits.Sub64", "math/bits.Add64"], unfollowed := true, recurses := true, apart := false, narrowed := true }
def ScalarLawsUptoSaid : Prop := scalarLawsUptoRow.holds Try.pinned (OpenSpec.upto scalarLawsSpec)

/-- 'codicillaw05.ScalarWide', WHERE WHAT IT READS IS OF BULK AT MOST 1048576: true; the input reads as it did. -/
def scalarWideUptoRow : OpenClaim := { program := "ytdcdanfeepncmaa", sum := "760bc5e1c1f7ff77954aa07b90f9781d30975fe575cfe97adbdb918cd80cce0e", func := "codicil/codicillaw05.ScalarWide", spec := "scalarWide", inPlace := ["math/bits.Add64", "math/bits.Sub64"], unfollowed := true, recurses := true, apart := false, narrowed := true }
def ScalarWideUptoSaid : Prop := scalarWideUptoRow.holds Try.pinned (OpenSpec.upto scalarWideSpec)

/-- 'codicillaw04.FieldLaws', WHERE WHAT IT READS IS OF BULK AT MOST 1048576: true; the input reads as it did. -/
def fieldLawsUptoRow : OpenClaim := { program := "ytdcdanfeepncmaa", sum := "760bc5e1c1f7ff77954aa07b90f9781d30975fe575cfe97adbdb918cd80cce0e", func := "codicil/codicillaw04.FieldLaws", spec := "fieldLaws", inPlace := ["math/bits.Add64"], apart := false, narrowed := true }
def FieldLawsUptoSaid : Prop := fieldLawsUptoRow.holds Try.pinned (OpenSpec.upto fieldLawsSpec)

/-- 'codicillaw04.FieldEnds', WHERE WHAT IT READS IS OF BULK AT MOST 1048576: true; the input reads as it did. -/
def fieldEndsUptoRow : OpenClaim := { program := "ytdcdanfeepncmaa", sum := "760bc5e1c1f7ff77954aa07b90f9781d30975fe575cfe97adbdb918cd80cce0e", func := "codicil/codicillaw04.FieldEnds", spec := "fieldEnds", inPlace := ["math/bits.Add64"], apart := false, narrowed := true }
def FieldEndsUptoSaid : Prop := fieldEndsUptoRow.holds Try.pinned (OpenSpec.upto fieldEndsSpec)

/-- 'codicillaw04.FieldSmall', WHERE WHAT IT READS IS OF BULK AT MOST 1048576: true; the input reads as it did. -/
def fieldSmallUptoRow : OpenClaim := { program := "ytdcdanfeepncmaa", sum := "760bc5e1c1f7ff77954aa07b90f9781d30975fe575cfe97adbdb918cd80cce0e", func := "codicil/codicillaw04.FieldSmall", spec := "fieldSmall", inPlace := ["math/bits.Add64"], apart := false, narrowed := true }
def FieldSmallUptoSaid : Prop := fieldSmallUptoRow.holds Try.pinned (OpenSpec.upto fieldSmallSpec)

/-- 'codicillaw04.FieldExact', WHERE WHAT IT READS IS OF BULK AT MOST 1048576: true; the input reads as it did. -/
def fieldExactUptoRow : OpenClaim := { program := "ytdcdanfeepncmaa", sum := "760bc5e1c1f7ff77954aa07b90f9781d30975fe575cfe97adbdb918cd80cce0e", func := "codicil/codicillaw04.FieldExact", spec := "fieldExact", inPlace := ["math/bits.Sub64", "math/bits.Add64"], apart := false, narrowed := true }
def FieldExactUptoSaid : Prop := fieldExactUptoRow.holds Try.pinned (OpenSpec.upto fieldExactSpec)

/-- 'codicillaw04.FieldInverse', WHERE WHAT IT READS IS OF BULK AT MOST 1048576: true; the input reads as it did. -/
def fieldInverseUptoRow : OpenClaim := { program := "ytdcdanfeepncmaa", sum := "760bc5e1c1f7ff77954aa07b90f9781d30975fe575cfe97adbdb918cd80cce0e", func := "codicil/codicillaw04.FieldInverse", spec := "fieldInverse", inPlace := ["math/bits.Add64", "math/bits.Sub64"], apart := false, narrowed := true }
def FieldInverseUptoSaid : Prop := fieldInverseUptoRow.holds Try.pinned (OpenSpec.upto fieldInverseSpec)

/-- 'codicillaw04.FieldSquares', WHERE WHAT IT READS IS OF BULK AT MOST 1048576: true; the input reads as it did. -/
def fieldSquaresUptoRow : OpenClaim := { program := "ytdcdanfeepncmaa", sum := "760bc5e1c1f7ff77954aa07b90f9781d30975fe575cfe97adbdb918cd80cce0e", func := "codicil/codicillaw04.FieldSquares", spec := "fieldSquares", inPlace := ["math/bits.Add64"], apart := false, narrowed := true }
def FieldSquaresUptoSaid : Prop := fieldSquaresUptoRow.holds Try.pinned (OpenSpec.upto fieldSquaresSpec)

/-- 'codicillaw04.FieldRoot', WHERE WHAT IT READS IS OF BULK AT MOST 1048576: true; the input reads as it did. -/
def fieldRootUptoRow : OpenClaim := { program := "ytdcdanfeepncmaa", sum := "760bc5e1c1f7ff77954aa07b90f9781d30975fe575cfe97adbdb918cd80cce0e", func := "codicil/codicillaw04.FieldRoot", spec := "fieldRoot", inPlace := ["math/bits.Add64", "math/bits.Sub64"], apart := false, narrowed := true }
def FieldRootUptoSaid : Prop := fieldRootUptoRow.holds Try.pinned (OpenSpec.upto fieldRootSpec)

/-- 'codicillaw06.CurveBase', WHERE WHAT IT READS IS OF BULK AT MOST 1048576: true; the input reads as it did. -/
def curveBaseUptoRow : OpenClaim := { program := "ytdcdanfeepncmaa", sum := "760bc5e1c1f7ff77954aa07b90f9781d30975fe575cfe97adbdb918cd80cce0e", func := "codicil/codicillaw06.CurveBase", spec := "curveBase", inPlace := ["math/bits.Add64", "math/bits.Sub64"], apart := false, narrowed := true }
def CurveBaseUptoSaid : Prop := curveBaseUptoRow.holds Try.pinned (OpenSpec.upto curveBaseSpec)

/-- 'codicillaw06.CurveSmall', WHERE WHAT IT READS IS OF BULK AT MOST 1048576: true; the input reads as it did. -/
def curveSmallUptoRow : OpenClaim := { program := "ytdcdanfeepncmaa", sum := "760bc5e1c1f7ff77954aa07b90f9781d30975fe575cfe97adbdb918cd80cce0e", func := "codicil/codicillaw06.CurveSmall", spec := "curveSmall", inPlace := ["math/bits.Add64"], apart := false, narrowed := true }
def CurveSmallUptoSaid : Prop := curveSmallUptoRow.holds Try.pinned (OpenSpec.upto curveSmallSpec)

/-- 'codicillaw06.CurveEquation', WHERE WHAT IT READS IS OF BULK AT MOST 1048576: true; the input reads as it did. -/
def curveEquationUptoRow : OpenClaim := { program := "ytdcdanfeepncmaa", sum := "760bc5e1c1f7ff77954aa07b90f9781d30975fe575cfe97adbdb918cd80cce0e", func := "codicil/codicillaw06.CurveEquation", spec := "curveEquation", inPlace := ["math/bits.Add64"], unfollowed := true, recurses := true, apart := false, narrowed := true }
def CurveEquationUptoSaid : Prop := curveEquationUptoRow.holds Try.pinned (OpenSpec.upto curveEquationSpec)

/-- 'codicillaw06.CurveTorsion', WHERE WHAT IT READS IS OF BULK AT MOST 1048576: true; the input reads as it did. -/
def curveTorsionUptoRow : OpenClaim := { program := "ytdcdanfeepncmaa", sum := "760bc5e1c1f7ff77954aa07b90f9781d30975fe575cfe97adbdb918cd80cce0e", func := "codicil/codicillaw06.CurveTorsion", spec := "curveTorsion", inPlace := ["math/bits.Add64"], apart := false, narrowed := true }
def CurveTorsionUptoSaid : Prop := curveTorsionUptoRow.holds Try.pinned (OpenSpec.upto curveTorsionSpec)

/-- 'codicillaw06.CurveSides', WHERE WHAT IT READS IS OF BULK AT MOST 1048576: true; the input reads as it did. -/
def curveSidesUptoRow : OpenClaim := { program := "ytdcdanfeepncmaa", sum := "760bc5e1c1f7ff77954aa07b90f9781d30975fe575cfe97adbdb918cd80cce0e", func := "codicil/codicillaw06.CurveSides", spec := "curveSides", inPlace := ["math/bits.Add64"], apart := false, narrowed := true }
def CurveSidesUptoSaid : Prop := curveSidesUptoRow.holds Try.pinned (OpenSpec.upto curveSidesSpec)

/-- 'codicillaw06.CurveTimes', WHERE WHAT IT READS IS OF BULK AT MOST 1048576: true; the input reads as it did. -/
def curveTimesUptoRow : OpenClaim := { program := "ytdcdanfeepncmaa", sum := "760bc5e1c1f7ff77954aa07b90f9781d30975fe575cfe97adbdb918cd80cce0e", func := "codicil/codicillaw06.CurveTimes", spec := "curveTimes", inPlace := ["math/bits.Add64", "math/bits.Sub64"], apart := false, narrowed := true }
def CurveTimesUptoSaid : Prop := curveTimesUptoRow.holds Try.pinned (OpenSpec.upto curveTimesSpec)

/-- 'codicillaw06.CurveGroup', WHERE WHAT IT READS IS OF BULK AT MOST 1048576: true; the input reads as it did. -/
def curveGroupUptoRow : OpenClaim := { program := "ytdcdanfeepncmaa", sum := "760bc5e1c1f7ff77954aa07b90f9781d30975fe575cfe97adbdb918cd80cce0e", func := "codicil/codicillaw06.CurveGroup", spec := "curveGroup", inPlace := ["math/bits.Add64", "math/bits.Sub64"], apart := false, narrowed := true }
def CurveGroupUptoSaid : Prop := curveGroupUptoRow.holds Try.pinned (OpenSpec.upto curveGroupSpec)

/-- 'codicillaw06.CurveExact', WHERE WHAT IT READS IS OF BULK AT MOST 1048576: true; the input reads as it did. -/
def curveExactUptoRow : OpenClaim := { program := "ytdcdanfeepncmaa", sum := "760bc5e1c1f7ff77954aa07b90f9781d30975fe575cfe97adbdb918cd80cce0e", func := "codicil/codicillaw06.CurveExact", spec := "curveExact", inPlace := ["math/bits.Sub64", "math/bits.Add64"], apart := false, narrowed := true }
def CurveExactUptoSaid : Prop := curveExactUptoRow.holds Try.pinned (OpenSpec.upto curveExactSpec)

end Rows
end Go.Proofs.Ytdcdanfeepncmaa
