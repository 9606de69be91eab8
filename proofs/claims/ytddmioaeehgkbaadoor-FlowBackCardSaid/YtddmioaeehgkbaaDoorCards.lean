/-
  DERIVED. GIVEN WITH THE SEED: THE CARDS: each row of YtddmioaeehgkbaaDoorRows.lean that lists a variable, with what it lists TIED to the program's text (the seventh form; the later family's looks); each row that meets fmt, with fmt's text TOLD by the authors' own Lean function (tested against real Go, not proved from fmt's source: count such statements apart). THE CARD IS WHAT COUNTS. Prove the row's statement (the work); the ties are given (YtddmioaeehgkbaaDoorTie.lean); close each card by the builder's one call (the guide's Derived/Test/ToyasCard.lean, 'card_holds'). Laid BY PROGRAM, IN A SANDBOX (cutbox-door.mjs). By AI agents, Wed Nov 11 2026. No macro, syntax, notation, axiom, sorry.
-/
import Derived.Test.YtddmioaeehgkbaaDoorRows
import GoSem.ClaimSeven
namespace Go.Proofs.YtddmioaeehgkbaaDoor
namespace Rows

/-- THE TIED CARD OF 'ossuarylaw03.FlowReads'. -/
def flowReadsCard : Claim7 := { stood := { row := flowReadsRow, standIns := [], harness := (true, "998e99c8719dd4dbb6ecf52e8decfbebe7dc44b6bfd457e7039d654d7b934c09"), looks := false }, kinds := [], alts := [], laidByText := true, laidKinds := [.data], laidTests := true, laidLooks := .later }
def FlowReadsCardSaid : Prop := Claim7.holds Tryd.pinned (.plain (OpenSpec.ofChange flowReadsSpec)) flowReadsCard

/-- THE TIED CARD OF 'ossuarylaw03.FlowLess'. -/
def flowLessCard : Claim7 := { stood := { row := flowLessRow, standIns := [], harness := (true, "998e99c8719dd4dbb6ecf52e8decfbebe7dc44b6bfd457e7039d654d7b934c09"), looks := false }, kinds := [], alts := [], laidByText := true, laidKinds := [.data], laidTests := true, laidLooks := .later }
def FlowLessCardSaid : Prop := Claim7.holds Tryd.pinned (.plain (OpenSpec.ofChange flowLessSpec)) flowLessCard

/-- THE TIED CARD OF 'ossuarylaw03.FlowPuts'. -/
def flowPutsCard : Claim7 := { stood := { row := flowPutsRow, standIns := [], harness := (true, "998e99c8719dd4dbb6ecf52e8decfbebe7dc44b6bfd457e7039d654d7b934c09"), looks := false }, kinds := [], alts := [], laidByText := true, laidKinds := [.data], laidTests := true, laidLooks := .later }
def FlowPutsCardSaid : Prop := Claim7.holds Tryd.pinned (.plain (OpenSpec.ofChange flowPutsSpec)) flowPutsCard

/-- THE TIED CARD OF 'ossuarylaw03.FlowBack'. -/
def flowBackCard : Claim7 := { stood := { row := flowBackRow, standIns := [], harness := (true, "998e99c8719dd4dbb6ecf52e8decfbebe7dc44b6bfd457e7039d654d7b934c09"), looks := false }, kinds := [], alts := [], laidByText := true, laidKinds := [.data], laidTests := true, laidLooks := .later }
def FlowBackCardSaid : Prop := Claim7.holds Tryd.pinned (.plain (OpenSpec.ofChange flowBackSpec)) flowBackCard

/-- THE SECOND FORM's CARD OF 'ossuarylaw03.FlowReads'. -/
def flowReadsUptoCard : Claim7 := { stood := { row := flowReadsUptoRow, standIns := [], harness := (true, "998e99c8719dd4dbb6ecf52e8decfbebe7dc44b6bfd457e7039d654d7b934c09"), looks := false }, kinds := [], alts := [], laidByText := true, laidKinds := [.data], laidTests := true, laidLooks := .later }
def FlowReadsUptoCardSaid : Prop := Claim7.holds Tryd.pinned (.plain (OpenSpec.upto flowReadsSpec)) flowReadsUptoCard

/-- THE SECOND FORM's CARD OF 'ossuarylaw03.FlowLess'. -/
def flowLessUptoCard : Claim7 := { stood := { row := flowLessUptoRow, standIns := [], harness := (true, "998e99c8719dd4dbb6ecf52e8decfbebe7dc44b6bfd457e7039d654d7b934c09"), looks := false }, kinds := [], alts := [], laidByText := true, laidKinds := [.data], laidTests := true, laidLooks := .later }
def FlowLessUptoCardSaid : Prop := Claim7.holds Tryd.pinned (.plain (OpenSpec.upto flowLessSpec)) flowLessUptoCard

/-- THE SECOND FORM's CARD OF 'ossuarylaw03.FlowPuts'. -/
def flowPutsUptoCard : Claim7 := { stood := { row := flowPutsUptoRow, standIns := [], harness := (true, "998e99c8719dd4dbb6ecf52e8decfbebe7dc44b6bfd457e7039d654d7b934c09"), looks := false }, kinds := [], alts := [], laidByText := true, laidKinds := [.data], laidTests := true, laidLooks := .later }
def FlowPutsUptoCardSaid : Prop := Claim7.holds Tryd.pinned (.plain (OpenSpec.upto flowPutsSpec)) flowPutsUptoCard

/-- THE SECOND FORM's CARD OF 'ossuarylaw03.FlowBack'. -/
def flowBackUptoCard : Claim7 := { stood := { row := flowBackUptoRow, standIns := [], harness := (true, "998e99c8719dd4dbb6ecf52e8decfbebe7dc44b6bfd457e7039d654d7b934c09"), looks := false }, kinds := [], alts := [], laidByText := true, laidKinds := [.data], laidTests := true, laidLooks := .later }
def FlowBackUptoCardSaid : Prop := Claim7.holds Tryd.pinned (.plain (OpenSpec.upto flowBackSpec)) flowBackUptoCard
end Rows
end Go.Proofs.YtddmioaeehgkbaaDoor
