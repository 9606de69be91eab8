/-
  DERIVED. GIVEN WITH THE SEED: THE CARDS: each row of YtlaionhlejmjdaaGreatDoorRows.lean that lists a variable, with what it lists TIED to the program's text (the seventh form; the later family's looks); each row that meets fmt, with fmt's text TOLD by the authors' own Lean function (tested against real Go, not proved from fmt's source: count such statements apart). THE CARD IS WHAT COUNTS. Prove the row's statement (the work); the ties are given (YtlaionhlejmjdaaGreatDoorTie.lean); close each card by the builder's one call (the guide's Derived/Test/ToyasCard.lean, 'card_holds'). Laid BY PROGRAM, IN A SANDBOX (cutbox-door.mjs). By AI agents, Wed Nov 11 2026. No macro, syntax, notation, axiom, sorry.
-/
import Derived.Test.YtlaionhlejmjdaaGreatDoorRows
import GoSem.ClaimSeven
namespace Go.Proofs.YtlaionhlejmjdaaGreatDoor
namespace Rows

/-- THE TIED CARD OF 'ossuarylaw12.FrontOf'. -/
def frontOfCard : Claim7 := { stood := { row := frontOfRow, standIns := [], harness := (true, "794fbe2173bb25a331205cadfa8fa757304e8b36b8752ac9ed3faa61c4ab5e25"), looks := false }, kinds := [], alts := [], laidByText := true, laidKinds := [.data], laidTests := true, laidLooks := .later }
def FrontOfCardSaid : Prop := Claim7.holds Tryz.pinned (.plain (OpenSpec.ofChange frontOfSpec)) frontOfCard

/-- THE TIED CARD OF 'ossuarylaw12.FrontReads'. -/
def frontReadsCard : Claim7 := { stood := { row := frontReadsRow, standIns := [], harness := (true, "794fbe2173bb25a331205cadfa8fa757304e8b36b8752ac9ed3faa61c4ab5e25"), looks := false }, kinds := [], alts := [], laidByText := true, laidKinds := [.data], laidTests := true, laidLooks := .later }
def FrontReadsCardSaid : Prop := Claim7.holds Tryz.pinned (.plain (OpenSpec.ofChange frontReadsSpec)) frontReadsCard

/-- THE TIED CARD OF 'ossuarylaw12.FrontEnds'. -/
def frontEndsCard : Claim7 := { stood := { row := frontEndsRow, standIns := [], harness := (true, "794fbe2173bb25a331205cadfa8fa757304e8b36b8752ac9ed3faa61c4ab5e25"), looks := false }, kinds := [], alts := [], laidByText := true, laidKinds := [.data], laidTests := true, laidLooks := .later }
def FrontEndsCardSaid : Prop := Claim7.holds Tryz.pinned (.plain (OpenSpec.ofChange frontEndsSpec)) frontEndsCard

/-- THE SECOND FORM's CARD OF 'ossuarylaw12.FrontOf'. -/
def frontOfUptoCard : Claim7 := { stood := { row := frontOfUptoRow, standIns := [], harness := (true, "794fbe2173bb25a331205cadfa8fa757304e8b36b8752ac9ed3faa61c4ab5e25"), looks := false }, kinds := [], alts := [], laidByText := true, laidKinds := [.data], laidTests := true, laidLooks := .later }
def FrontOfUptoCardSaid : Prop := Claim7.holds Tryz.pinned (.plain (OpenSpec.upto frontOfSpec)) frontOfUptoCard

/-- THE SECOND FORM's CARD OF 'ossuarylaw12.FrontReads'. -/
def frontReadsUptoCard : Claim7 := { stood := { row := frontReadsUptoRow, standIns := [], harness := (true, "794fbe2173bb25a331205cadfa8fa757304e8b36b8752ac9ed3faa61c4ab5e25"), looks := false }, kinds := [], alts := [], laidByText := true, laidKinds := [.data], laidTests := true, laidLooks := .later }
def FrontReadsUptoCardSaid : Prop := Claim7.holds Tryz.pinned (.plain (OpenSpec.upto frontReadsSpec)) frontReadsUptoCard

/-- THE SECOND FORM's CARD OF 'ossuarylaw12.FrontEnds'. -/
def frontEndsUptoCard : Claim7 := { stood := { row := frontEndsUptoRow, standIns := [], harness := (true, "794fbe2173bb25a331205cadfa8fa757304e8b36b8752ac9ed3faa61c4ab5e25"), looks := false }, kinds := [], alts := [], laidByText := true, laidKinds := [.data], laidTests := true, laidLooks := .later }
def FrontEndsUptoCardSaid : Prop := Claim7.holds Tryz.pinned (.plain (OpenSpec.upto frontEndsSpec)) frontEndsUptoCard
end Rows
end Go.Proofs.YtlaionhlejmjdaaGreatDoor
