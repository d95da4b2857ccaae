/-
  DERIVED. GIVEN WITH THE SEED: THE CARDS: each row of YtdbheiibkpendaaGreatDoorRows.lean that lists a variable, with what it lists TIED to the program's text (the seventh form; the later family's looks); each row that meets fmt, with fmt's text TOLD by the authors' own Lean function (tested against real Go, not proved from fmt's source: count such statements apart). THE CARD IS WHAT COUNTS. Prove the row's statement (the work); the ties are given (YtdbheiibkpendaaGreatDoorTie.lean); close each card by the builder's one call (the guide's Derived/Test/ToyasCard.lean, 'card_holds'). Laid BY PROGRAM, IN A SANDBOX (cutbox-door.mjs). By AI agents, Wed Nov 11 2026. No macro, syntax, notation, axiom, sorry.
-/
import Derived.Test.YtdbheiibkpendaaGreatDoorRows
import GoSem.ClaimSeven
namespace Go.Proofs.YtdbheiibkpendaaGreatDoor
namespace Rows

/-- THE TIED CARD OF 'codicillaw16.StoreLasts'. -/
def storeLastsCard : Claim7 := { stood := { row := storeLastsRow, standIns := [], harness := (true, "40bf68659dab2b002f3ad2084feaca9eab23fcd22f40224fe6b1f8b434f10095"), looks := true }, kinds := [], alts := [], laidByText := true, laidKinds := [.handle], laidTests := true, laidLooks := .later }
def StoreLastsCardSaid : Prop := Claim7.holds Tryz.pinned (.plain (OpenSpec.ofChange storeLastsSpec)) storeLastsCard

/-- THE TIED CARD OF 'codicillaw16.StoreKeeps'. -/
def storeKeepsCard : Claim7 := { stood := { row := storeKeepsRow, standIns := [], harness := (true, "40bf68659dab2b002f3ad2084feaca9eab23fcd22f40224fe6b1f8b434f10095"), looks := true }, kinds := [], alts := [], laidByText := true, laidKinds := [.handle], laidTests := true, laidLooks := .later }
def StoreKeepsCardSaid : Prop := Claim7.holds Tryz.pinned (.plain (OpenSpec.ofChange storeKeepsSpec)) storeKeepsCard

/-- THE TIED CARD OF 'codicillaw16.StoreExact'. -/
def storeExactCard : Claim7 := { stood := { row := storeExactRow, standIns := [], harness := (true, "40bf68659dab2b002f3ad2084feaca9eab23fcd22f40224fe6b1f8b434f10095"), looks := true }, kinds := [], alts := [], laidByText := true, laidKinds := [.handle], laidTests := true, laidLooks := .later }
def StoreExactCardSaid : Prop := Claim7.holds Tryz.pinned (.plain (OpenSpec.ofChange storeExactSpec)) storeExactCard

/-- THE SECOND FORM's CARD OF 'codicillaw16.StoreLasts'. -/
def storeLastsUptoCard : Claim7 := { stood := { row := storeLastsUptoRow, standIns := [], harness := (true, "40bf68659dab2b002f3ad2084feaca9eab23fcd22f40224fe6b1f8b434f10095"), looks := true }, kinds := [], alts := [], laidByText := true, laidKinds := [.handle], laidTests := true, laidLooks := .later }
def StoreLastsUptoCardSaid : Prop := Claim7.holds Tryz.pinned (.plain (OpenSpec.upto storeLastsSpec)) storeLastsUptoCard

/-- THE SECOND FORM's CARD OF 'codicillaw16.StoreKeeps'. -/
def storeKeepsUptoCard : Claim7 := { stood := { row := storeKeepsUptoRow, standIns := [], harness := (true, "40bf68659dab2b002f3ad2084feaca9eab23fcd22f40224fe6b1f8b434f10095"), looks := true }, kinds := [], alts := [], laidByText := true, laidKinds := [.handle], laidTests := true, laidLooks := .later }
def StoreKeepsUptoCardSaid : Prop := Claim7.holds Tryz.pinned (.plain (OpenSpec.upto storeKeepsSpec)) storeKeepsUptoCard

/-- THE SECOND FORM's CARD OF 'codicillaw16.StoreExact'. -/
def storeExactUptoCard : Claim7 := { stood := { row := storeExactUptoRow, standIns := [], harness := (true, "40bf68659dab2b002f3ad2084feaca9eab23fcd22f40224fe6b1f8b434f10095"), looks := true }, kinds := [], alts := [], laidByText := true, laidKinds := [.handle], laidTests := true, laidLooks := .later }
def StoreExactUptoCardSaid : Prop := Claim7.holds Tryz.pinned (.plain (OpenSpec.upto storeExactSpec)) storeExactUptoCard
end Rows
end Go.Proofs.YtdbheiibkpendaaGreatDoor
