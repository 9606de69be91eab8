/-
  DERIVED. GIVEN WITH THE SEED: THE CARDS: each row of YtanacapkfllbnaaGreatDoorRows.lean that lists a variable, with what it lists TIED to the program's text (the seventh form; the later family's looks); each row that meets fmt, with fmt's text TOLD by the authors' own Lean function (tested against real Go, not proved from fmt's source: count such statements apart). THE CARD IS WHAT COUNTS. Prove the row's statement (the work); the ties are given (YtanacapkfllbnaaGreatDoorTie.lean); close each card by the builder's one call (the guide's Derived/Test/ToyasCard.lean, 'card_holds'). Laid BY PROGRAM, IN A SANDBOX (cutbox-door.mjs). By AI agents, Wed Nov 11 2026. No macro, syntax, notation, axiom, sorry.
-/
import Derived.Test.YtanacapkfllbnaaGreatDoorRows
import GoSem.ClaimSeven
namespace Go.Proofs.YtanacapkfllbnaaGreatDoor
namespace Rows

/-- THE TIED CARD OF 'ossuarylaw13.SectionPrefix'. -/
def sectionPrefixCard : Claim7 := { stood := { row := sectionPrefixRow, standIns := [], harness := (true, "870796a202dbb83eec72b28f835be9a80cc3dd053e96c386d98c112e08c7c980"), looks := false }, kinds := [], alts := [], laidByText := true, laidKinds := [.data], laidTests := true, laidLooks := .later }
def SectionPrefixCardSaid : Prop := Claim7.holds Tryz.pinned (.plain (OpenSpec.ofChange sectionPrefixSpec)) sectionPrefixCard

/-- THE TIED CARD OF 'ossuarylaw13.SectionOf'. -/
def sectionOfCard : Claim7 := { stood := { row := sectionOfRow, standIns := [], harness := (true, "870796a202dbb83eec72b28f835be9a80cc3dd053e96c386d98c112e08c7c980"), looks := false }, kinds := [], alts := [], laidByText := true, laidKinds := [.data], laidTests := true, laidLooks := .later }
def SectionOfCardSaid : Prop := Claim7.holds Tryz.pinned (.plain (OpenSpec.ofChange sectionOfSpec)) sectionOfCard

/-- THE TIED CARD OF 'ossuarylaw13.SectionReads'. -/
def sectionReadsCard : Claim7 := { stood := { row := sectionReadsRow, standIns := [], harness := (true, "870796a202dbb83eec72b28f835be9a80cc3dd053e96c386d98c112e08c7c980"), looks := false }, kinds := [], alts := [], laidByText := true, laidKinds := [.data], laidTests := true, laidLooks := .later }
def SectionReadsCardSaid : Prop := Claim7.holds Tryz.pinned (.plain (OpenSpec.ofChange sectionReadsSpec)) sectionReadsCard

/-- THE TIED CARD OF 'ossuarylaw13.SectionEnds'. -/
def sectionEndsCard : Claim7 := { stood := { row := sectionEndsRow, standIns := [], harness := (true, "870796a202dbb83eec72b28f835be9a80cc3dd053e96c386d98c112e08c7c980"), looks := false }, kinds := [], alts := [], laidByText := true, laidKinds := [.data], laidTests := true, laidLooks := .later }
def SectionEndsCardSaid : Prop := Claim7.holds Tryz.pinned (.plain (OpenSpec.ofChange sectionEndsSpec)) sectionEndsCard

/-- THE TIED CARD OF 'ossuarylaw13.SectionBack'. -/
def sectionBackCard : Claim7 := { stood := { row := sectionBackRow, standIns := [], harness := (true, "870796a202dbb83eec72b28f835be9a80cc3dd053e96c386d98c112e08c7c980"), looks := false }, kinds := [], alts := [], laidByText := true, laidKinds := [.data], laidTests := true, laidLooks := .later }
def SectionBackCardSaid : Prop := Claim7.holds Tryz.pinned (.plain (OpenSpec.ofChange sectionBackSpec)) sectionBackCard

/-- THE SECOND FORM's CARD OF 'ossuarylaw13.SectionPrefix'. -/
def sectionPrefixUptoCard : Claim7 := { stood := { row := sectionPrefixUptoRow, standIns := [], harness := (true, "870796a202dbb83eec72b28f835be9a80cc3dd053e96c386d98c112e08c7c980"), looks := false }, kinds := [], alts := [], laidByText := true, laidKinds := [.data], laidTests := true, laidLooks := .later }
def SectionPrefixUptoCardSaid : Prop := Claim7.holds Tryz.pinned (.plain (OpenSpec.upto sectionPrefixSpec)) sectionPrefixUptoCard

/-- THE SECOND FORM's CARD OF 'ossuarylaw13.SectionOf'. -/
def sectionOfUptoCard : Claim7 := { stood := { row := sectionOfUptoRow, standIns := [], harness := (true, "870796a202dbb83eec72b28f835be9a80cc3dd053e96c386d98c112e08c7c980"), looks := false }, kinds := [], alts := [], laidByText := true, laidKinds := [.data], laidTests := true, laidLooks := .later }
def SectionOfUptoCardSaid : Prop := Claim7.holds Tryz.pinned (.plain (OpenSpec.upto sectionOfSpec)) sectionOfUptoCard

/-- THE SECOND FORM's CARD OF 'ossuarylaw13.SectionReads'. -/
def sectionReadsUptoCard : Claim7 := { stood := { row := sectionReadsUptoRow, standIns := [], harness := (true, "870796a202dbb83eec72b28f835be9a80cc3dd053e96c386d98c112e08c7c980"), looks := false }, kinds := [], alts := [], laidByText := true, laidKinds := [.data], laidTests := true, laidLooks := .later }
def SectionReadsUptoCardSaid : Prop := Claim7.holds Tryz.pinned (.plain (OpenSpec.upto sectionReadsSpec)) sectionReadsUptoCard

/-- THE SECOND FORM's CARD OF 'ossuarylaw13.SectionEnds'. -/
def sectionEndsUptoCard : Claim7 := { stood := { row := sectionEndsUptoRow, standIns := [], harness := (true, "870796a202dbb83eec72b28f835be9a80cc3dd053e96c386d98c112e08c7c980"), looks := false }, kinds := [], alts := [], laidByText := true, laidKinds := [.data], laidTests := true, laidLooks := .later }
def SectionEndsUptoCardSaid : Prop := Claim7.holds Tryz.pinned (.plain (OpenSpec.upto sectionEndsSpec)) sectionEndsUptoCard

/-- THE SECOND FORM's CARD OF 'ossuarylaw13.SectionBack'. -/
def sectionBackUptoCard : Claim7 := { stood := { row := sectionBackUptoRow, standIns := [], harness := (true, "870796a202dbb83eec72b28f835be9a80cc3dd053e96c386d98c112e08c7c980"), looks := false }, kinds := [], alts := [], laidByText := true, laidKinds := [.data], laidTests := true, laidLooks := .later }
def SectionBackUptoCardSaid : Prop := Claim7.holds Tryz.pinned (.plain (OpenSpec.upto sectionBackSpec)) sectionBackUptoCard
end Rows
end Go.Proofs.YtanacapkfllbnaaGreatDoor
