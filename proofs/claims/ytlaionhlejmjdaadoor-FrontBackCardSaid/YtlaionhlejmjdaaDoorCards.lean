/-
  DERIVED. GIVEN WITH THE SEED: THE CARDS: each row of YtlaionhlejmjdaaDoorRows.lean that lists a variable, with what it lists TIED to the program's text (the seventh form; the later family's looks); each row that meets fmt, with fmt's text TOLD by the authors' own Lean function (tested against real Go, not proved from fmt's source: count such statements apart). THE CARD IS WHAT COUNTS. Prove the row's statement (the work); the ties are given (YtlaionhlejmjdaaDoorTie.lean); close each card by the builder's one call (the guide's Derived/Test/ToyasCard.lean, 'card_holds'). Laid BY PROGRAM, IN A SANDBOX (cutbox-door.mjs). By AI agents, Wed Nov 11 2026. No macro, syntax, notation, axiom, sorry.
-/
import Derived.Test.YtlaionhlejmjdaaDoorRows
import GoSem.ClaimSeven
namespace Go.Proofs.YtlaionhlejmjdaaDoor
namespace Rows

/-- THE TIED CARD OF 'ossuarylaw12.FrontLong'. -/
def frontLongCard : Claim7 := { stood := { row := frontLongRow, standIns := [], harness := (true, "f5bf6f0a3eb301dd5bd150a34d1b23b7e39223f21a89fe8fb53c5b6a9a5f91fd"), looks := false }, kinds := [], alts := [], laidByText := true, laidKinds := [.data], laidTests := true, laidLooks := .later }
def FrontLongCardSaid : Prop := Claim7.holds Tryd.pinned (.plain (OpenSpec.ofChange frontLongSpec)) frontLongCard

/-- THE TIED CARD OF 'ossuarylaw12.FrontBack'. -/
def frontBackCard : Claim7 := { stood := { row := frontBackRow, standIns := [], harness := (true, "f5bf6f0a3eb301dd5bd150a34d1b23b7e39223f21a89fe8fb53c5b6a9a5f91fd"), looks := false }, kinds := [], alts := [], laidByText := true, laidKinds := [.data], laidTests := true, laidLooks := .later }
def FrontBackCardSaid : Prop := Claim7.holds Tryd.pinned (.plain (OpenSpec.ofChange frontBackSpec)) frontBackCard

/-- THE SECOND FORM's CARD OF 'ossuarylaw12.FrontLong'. -/
def frontLongUptoCard : Claim7 := { stood := { row := frontLongUptoRow, standIns := [], harness := (true, "f5bf6f0a3eb301dd5bd150a34d1b23b7e39223f21a89fe8fb53c5b6a9a5f91fd"), looks := false }, kinds := [], alts := [], laidByText := true, laidKinds := [.data], laidTests := true, laidLooks := .later }
def FrontLongUptoCardSaid : Prop := Claim7.holds Tryd.pinned (.plain (OpenSpec.upto frontLongSpec)) frontLongUptoCard

/-- THE SECOND FORM's CARD OF 'ossuarylaw12.FrontBack'. -/
def frontBackUptoCard : Claim7 := { stood := { row := frontBackUptoRow, standIns := [], harness := (true, "f5bf6f0a3eb301dd5bd150a34d1b23b7e39223f21a89fe8fb53c5b6a9a5f91fd"), looks := false }, kinds := [], alts := [], laidByText := true, laidKinds := [.data], laidTests := true, laidLooks := .later }
def FrontBackUptoCardSaid : Prop := Claim7.holds Tryd.pinned (.plain (OpenSpec.upto frontBackSpec)) frontBackUptoCard
end Rows
end Go.Proofs.YtlaionhlejmjdaaDoor
