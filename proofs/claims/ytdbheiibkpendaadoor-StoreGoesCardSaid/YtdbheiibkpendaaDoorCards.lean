/-
  DERIVED. GIVEN WITH THE SEED: THE CARDS: each row of YtdbheiibkpendaaDoorRows.lean that lists a variable, with what it lists TIED to the program's text (the seventh form; the later family's looks); each row that meets fmt, with fmt's text TOLD by the authors' own Lean function (tested against real Go, not proved from fmt's source: count such statements apart). THE CARD IS WHAT COUNTS. Prove the row's statement (the work); the ties are given (YtdbheiibkpendaaDoorTie.lean); close each card by the builder's one call (the guide's Derived/Test/ToyasCard.lean, 'card_holds'). Laid BY PROGRAM, IN A SANDBOX (cutbox-door.mjs). By AI agents, Wed Nov 11 2026. No macro, syntax, notation, axiom, sorry.
-/
import Derived.Test.YtdbheiibkpendaaDoorRows
import GoSem.ClaimSeven
namespace Go.Proofs.YtdbheiibkpendaaDoor
namespace Rows

/-- THE TIED CARD OF 'codicillaw16.StoreFiles'. -/
def storeFilesCard : Claim7 := { stood := { row := storeFilesRow, standIns := [], harness := (true, "3f056b3fcca47b5bbead811d32a9d5103f039e02a98200fe07798123ae5c440c"), looks := true }, kinds := [], alts := [], laidByText := true, laidKinds := [.handle], laidTests := true, laidLooks := .later }
def StoreFilesCardSaid : Prop := Claim7.holds Tryd.pinned (.plain (OpenSpec.ofChange storeFilesSpec)) storeFilesCard

/-- THE TIED CARD OF 'codicillaw16.StoreGoes'. -/
def storeGoesCard : Claim7 := { stood := { row := storeGoesRow, standIns := [], harness := (true, "3f056b3fcca47b5bbead811d32a9d5103f039e02a98200fe07798123ae5c440c"), looks := true }, kinds := [], alts := [], laidByText := true, laidKinds := [.handle], laidTests := true, laidLooks := .later }
def StoreGoesCardSaid : Prop := Claim7.holds Tryd.pinned (.plain (OpenSpec.ofChange storeGoesSpec)) storeGoesCard

/-- THE TIED CARD OF 'codicillaw16.StoreCrash'. -/
def storeCrashCard : Claim7 := { stood := { row := storeCrashRow, standIns := [], harness := (true, "3f056b3fcca47b5bbead811d32a9d5103f039e02a98200fe07798123ae5c440c"), looks := true }, kinds := [], alts := [], laidByText := true, laidKinds := [.handle], laidTests := true, laidLooks := .later }
def StoreCrashCardSaid : Prop := Claim7.holds Tryd.pinned (.plain (OpenSpec.ofChange storeCrashSpec)) storeCrashCard

/-- THE TIED CARD OF 'codicillaw16.StoreJunk'. -/
def storeJunkCard : Claim7 := { stood := { row := storeJunkRow, standIns := [], harness := (true, "3f056b3fcca47b5bbead811d32a9d5103f039e02a98200fe07798123ae5c440c"), looks := true }, kinds := [], alts := [], laidByText := true, laidKinds := [.handle], laidTests := true, laidLooks := .later }
def StoreJunkCardSaid : Prop := Claim7.holds Tryd.pinned (.plain (OpenSpec.ofChange storeJunkSpec)) storeJunkCard

/-- THE TIED CARD OF 'codicillaw16.StoreFull'. -/
def storeFullCard : Claim7 := { stood := { row := storeFullRow, standIns := [], harness := (true, "3f056b3fcca47b5bbead811d32a9d5103f039e02a98200fe07798123ae5c440c"), looks := true }, kinds := [], alts := [], laidByText := true, laidKinds := [.handle], laidTests := true, laidLooks := .later }
def StoreFullCardSaid : Prop := Claim7.holds Tryd.pinned (.plain (OpenSpec.ofChange storeFullSpec)) storeFullCard

/-- THE SECOND FORM's CARD OF 'codicillaw16.StoreFiles'. -/
def storeFilesUptoCard : Claim7 := { stood := { row := storeFilesUptoRow, standIns := [], harness := (true, "3f056b3fcca47b5bbead811d32a9d5103f039e02a98200fe07798123ae5c440c"), looks := true }, kinds := [], alts := [], laidByText := true, laidKinds := [.handle], laidTests := true, laidLooks := .later }
def StoreFilesUptoCardSaid : Prop := Claim7.holds Tryd.pinned (.plain (OpenSpec.upto storeFilesSpec)) storeFilesUptoCard

/-- THE SECOND FORM's CARD OF 'codicillaw16.StoreGoes'. -/
def storeGoesUptoCard : Claim7 := { stood := { row := storeGoesUptoRow, standIns := [], harness := (true, "3f056b3fcca47b5bbead811d32a9d5103f039e02a98200fe07798123ae5c440c"), looks := true }, kinds := [], alts := [], laidByText := true, laidKinds := [.handle], laidTests := true, laidLooks := .later }
def StoreGoesUptoCardSaid : Prop := Claim7.holds Tryd.pinned (.plain (OpenSpec.upto storeGoesSpec)) storeGoesUptoCard

/-- THE SECOND FORM's CARD OF 'codicillaw16.StoreCrash'. -/
def storeCrashUptoCard : Claim7 := { stood := { row := storeCrashUptoRow, standIns := [], harness := (true, "3f056b3fcca47b5bbead811d32a9d5103f039e02a98200fe07798123ae5c440c"), looks := true }, kinds := [], alts := [], laidByText := true, laidKinds := [.handle], laidTests := true, laidLooks := .later }
def StoreCrashUptoCardSaid : Prop := Claim7.holds Tryd.pinned (.plain (OpenSpec.upto storeCrashSpec)) storeCrashUptoCard

/-- THE SECOND FORM's CARD OF 'codicillaw16.StoreJunk'. -/
def storeJunkUptoCard : Claim7 := { stood := { row := storeJunkUptoRow, standIns := [], harness := (true, "3f056b3fcca47b5bbead811d32a9d5103f039e02a98200fe07798123ae5c440c"), looks := true }, kinds := [], alts := [], laidByText := true, laidKinds := [.handle], laidTests := true, laidLooks := .later }
def StoreJunkUptoCardSaid : Prop := Claim7.holds Tryd.pinned (.plain (OpenSpec.upto storeJunkSpec)) storeJunkUptoCard

/-- THE SECOND FORM's CARD OF 'codicillaw16.StoreFull'. -/
def storeFullUptoCard : Claim7 := { stood := { row := storeFullUptoRow, standIns := [], harness := (true, "3f056b3fcca47b5bbead811d32a9d5103f039e02a98200fe07798123ae5c440c"), looks := true }, kinds := [], alts := [], laidByText := true, laidKinds := [.handle], laidTests := true, laidLooks := .later }
def StoreFullUptoCardSaid : Prop := Claim7.holds Tryd.pinned (.plain (OpenSpec.upto storeFullSpec)) storeFullUptoCard
end Rows
end Go.Proofs.YtdbheiibkpendaaDoor
