/-
  DERIVED. GIVEN WITH THE SEED: THE CARDS: each row of YtifdphkocjjbiaaDoorRows.lean that lists a variable, with what it lists TIED to the program's text (the seventh form; the later family's looks); each row that meets fmt, with fmt's text TOLD by the authors' own Lean function (tested against real Go, not proved from fmt's source: count such statements apart). THE CARD IS WHAT COUNTS. Prove the row's statement (the work); the ties are given (YtifdphkocjjbiaaDoorTie.lean); close each card by the builder's one call (the guide's Derived/Test/ToyasCard.lean, 'card_holds'). Laid BY PROGRAM, IN A SANDBOX (cutbox-door.mjs). By AI agents, Wed Nov 11 2026. No macro, syntax, notation, axiom, sorry.
-/
import Derived.Test.YtifdphkocjjbiaaDoorRows
import GoSem.ClaimSeven
namespace Go.Proofs.YtifdphkocjjbiaaDoor
namespace Rows

/-- THE TIED CARD OF 'ossuarylaw01.BitsRanks'. -/
def bitsRanksCard : Claim7 := { stood := { row := bitsRanksRow, standIns := [], harness := (true, "076bdaed525d74a1f68240fb15e6daa87590cbc8a4cd48bafab0685f4a36626e"), looks := false }, kinds := [], alts := [], laidByText := true, laidKinds := [.data], laidTests := true, laidLooks := .later }
def BitsRanksCardSaid : Prop := Claim7.holds Tryd.pinned (.plain (OpenSpec.ofChange bitsRanksSpec)) bitsRanksCard

/-- THE TIED CARD OF 'ossuarylaw01.BitsRead'. -/
def bitsReadCard : Claim7 := { stood := { row := bitsReadRow, standIns := [], harness := (true, "076bdaed525d74a1f68240fb15e6daa87590cbc8a4cd48bafab0685f4a36626e"), looks := false }, kinds := [], alts := [], laidByText := true, laidKinds := [.data], laidTests := true, laidLooks := .later }
def BitsReadCardSaid : Prop := Claim7.holds Tryd.pinned (.plain (OpenSpec.ofChange bitsReadSpec)) bitsReadCard

/-- THE TIED CARD OF 'ossuarylaw01.BitsDo'. -/
def bitsDoCard : Claim7 := { stood := { row := bitsDoRow, standIns := [], harness := (true, "076bdaed525d74a1f68240fb15e6daa87590cbc8a4cd48bafab0685f4a36626e"), looks := false }, kinds := [], alts := [], laidByText := true, laidKinds := [.data], laidTests := true, laidLooks := .later }
def BitsDoCardSaid : Prop := Claim7.holds Tryd.pinned (.plain (OpenSpec.ofChange bitsDoSpec)) bitsDoCard

/-- THE TIED CARD OF 'ossuarylaw01.BitsEnds'. -/
def bitsEndsCard : Claim7 := { stood := { row := bitsEndsRow, standIns := [], harness := (true, "076bdaed525d74a1f68240fb15e6daa87590cbc8a4cd48bafab0685f4a36626e"), looks := false }, kinds := [], alts := [], laidByText := true, laidKinds := [.data], laidTests := true, laidLooks := .later }
def BitsEndsCardSaid : Prop := Claim7.holds Tryd.pinned (.plain (OpenSpec.ofChange bitsEndsSpec)) bitsEndsCard

/-- THE TIED CARD OF 'ossuarylaw01.BitsBytes'. -/
def bitsBytesCard : Claim7 := { stood := { row := bitsBytesRow, standIns := [], harness := (true, "076bdaed525d74a1f68240fb15e6daa87590cbc8a4cd48bafab0685f4a36626e"), looks := false }, kinds := [], alts := [], laidByText := true, laidKinds := [.data], laidTests := true, laidLooks := .later }
def BitsBytesCardSaid : Prop := Claim7.holds Tryd.pinned (.plain (OpenSpec.ofChange bitsBytesSpec)) bitsBytesCard

/-- THE SECOND FORM's CARD OF 'ossuarylaw01.BitsRanks'. -/
def bitsRanksUptoCard : Claim7 := { stood := { row := bitsRanksUptoRow, standIns := [], harness := (true, "076bdaed525d74a1f68240fb15e6daa87590cbc8a4cd48bafab0685f4a36626e"), looks := false }, kinds := [], alts := [], laidByText := true, laidKinds := [.data], laidTests := true, laidLooks := .later }
def BitsRanksUptoCardSaid : Prop := Claim7.holds Tryd.pinned (.plain (OpenSpec.upto bitsRanksSpec)) bitsRanksUptoCard

/-- THE SECOND FORM's CARD OF 'ossuarylaw01.BitsRead'. -/
def bitsReadUptoCard : Claim7 := { stood := { row := bitsReadUptoRow, standIns := [], harness := (true, "076bdaed525d74a1f68240fb15e6daa87590cbc8a4cd48bafab0685f4a36626e"), looks := false }, kinds := [], alts := [], laidByText := true, laidKinds := [.data], laidTests := true, laidLooks := .later }
def BitsReadUptoCardSaid : Prop := Claim7.holds Tryd.pinned (.plain (OpenSpec.upto bitsReadSpec)) bitsReadUptoCard

/-- THE SECOND FORM's CARD OF 'ossuarylaw01.BitsDo'. -/
def bitsDoUptoCard : Claim7 := { stood := { row := bitsDoUptoRow, standIns := [], harness := (true, "076bdaed525d74a1f68240fb15e6daa87590cbc8a4cd48bafab0685f4a36626e"), looks := false }, kinds := [], alts := [], laidByText := true, laidKinds := [.data], laidTests := true, laidLooks := .later }
def BitsDoUptoCardSaid : Prop := Claim7.holds Tryd.pinned (.plain (OpenSpec.upto bitsDoSpec)) bitsDoUptoCard

/-- THE SECOND FORM's CARD OF 'ossuarylaw01.BitsEnds'. -/
def bitsEndsUptoCard : Claim7 := { stood := { row := bitsEndsUptoRow, standIns := [], harness := (true, "076bdaed525d74a1f68240fb15e6daa87590cbc8a4cd48bafab0685f4a36626e"), looks := false }, kinds := [], alts := [], laidByText := true, laidKinds := [.data], laidTests := true, laidLooks := .later }
def BitsEndsUptoCardSaid : Prop := Claim7.holds Tryd.pinned (.plain (OpenSpec.upto bitsEndsSpec)) bitsEndsUptoCard

/-- THE SECOND FORM's CARD OF 'ossuarylaw01.BitsBytes'. -/
def bitsBytesUptoCard : Claim7 := { stood := { row := bitsBytesUptoRow, standIns := [], harness := (true, "076bdaed525d74a1f68240fb15e6daa87590cbc8a4cd48bafab0685f4a36626e"), looks := false }, kinds := [], alts := [], laidByText := true, laidKinds := [.data], laidTests := true, laidLooks := .later }
def BitsBytesUptoCardSaid : Prop := Claim7.holds Tryd.pinned (.plain (OpenSpec.upto bitsBytesSpec)) bitsBytesUptoCard
end Rows
end Go.Proofs.YtifdphkocjjbiaaDoor
