/-
  No cell of these rows narrows 'for every input' (looked for: loops, veiled, ifaces, maps, wideKeys, modest, calm, conditions, laid).
  DERIVED. THE GIVEN ROWS OF THIS SEAT. 5 by the template 'for every input the law returns true; each argument reads behind the call as it read before'; 0 by the template 'total and deterministic' (their statements: YthidmpllganmnaaTotals.lean).
  GIVEN WITH THE SEED: the statements are not yours to turn. If you find one false, say at which input.
  Laid BY PROGRAM, IN A SANDBOX (cutbox-rows.mjs): the forced cells as the released guide's own fill.sh prints them over the translation c9cb6c03aa377f2f… (all of the seat's roots in one cut). By AI agents, Wed Nov 11 2026. No macro, syntax, notation, axiom, sorry.
-/
import Derived.Test.YthidmpllganmnaaChecked
import GoSem.Claim
import GoSem.ClaimJoined
import GoSem.ClaimMapViews
import Derived.JoinedTies
import Derived.KernelRfl
namespace Go.Proofs.Ythidmpllganmnaa
/- THE CELL 'sum', in the pinned program and in every row, IS THE sha256 OF THE DUMP (.gsa) THAT YthidmpllganmnaaProg.lean LOADS. Nothing in Lean hashes anything: it is a label: what it is worth is what the hold of that sum in a sandbox is worth. -/
noncomputable def Try.pinned : Pinned := { name := "ythidmpllganmnaa", sum := "c9cb6c03aa377f2f2cec4ef784315469eca9aee9166f6f39ea87e433cb89bf01", checked := Try.checked }
namespace Rows
def none {H : Type} : Left H := { results := [], args := [] }

/-- 'ossuarylaw05.TuckerTells': WHATEVER THE INPUT: true; the input reads as it did. -/
def tuckerTellsSpec : ChangeSpec := { name := "tuckerTells", fn := fun _ => fun
  | [d] => { results := [.lit (.bool true)], args := [d] }
  | _ => none }
def tuckerTellsRow : OpenClaim := { program := "ythidmpllganmnaa", sum := "c9cb6c03aa377f2f2cec4ef784315469eca9aee9166f6f39ea87e433cb89bf01", func := "ossuary/ossuarylaw05.TuckerTells", spec := "tuckerTells", recurses := true, apart := false }
def TuckerTellsSaid : Prop := tuckerTellsRow.holds Try.pinned (OpenSpec.ofChange tuckerTellsSpec)

/-- ITS FALSE NEIGHBOUR: 'it returns false'. Refute it at one input. -/
def tuckerTellsWrong : ChangeSpec := { name := "tuckerTells", fn := fun _ => fun
  | [d] => { results := [.lit (.bool false)], args := [d] }
  | _ => none }
def TuckerTellsWrongFalsely : Prop := tuckerTellsRow.holds Try.pinned (OpenSpec.ofChange tuckerTellsWrong)

/-- 'ossuarylaw05.TuckerFits': WHATEVER THE INPUT: true; the input reads as it did. -/
def tuckerFitsSpec : ChangeSpec := { name := "tuckerFits", fn := fun _ => fun
  | [d1, d2] => { results := [.lit (.bool true)], args := [d1, d2] }
  | _ => none }
def tuckerFitsRow : OpenClaim := { program := "ythidmpllganmnaa", sum := "c9cb6c03aa377f2f2cec4ef784315469eca9aee9166f6f39ea87e433cb89bf01", func := "ossuary/ossuarylaw05.TuckerFits", spec := "tuckerFits", recurses := true, apart := false }
def TuckerFitsSaid : Prop := tuckerFitsRow.holds Try.pinned (OpenSpec.ofChange tuckerFitsSpec)

/-- ITS FALSE NEIGHBOUR: 'it returns false'. Refute it at one input. -/
def tuckerFitsWrong : ChangeSpec := { name := "tuckerFits", fn := fun _ => fun
  | [d1, d2] => { results := [.lit (.bool false)], args := [d1, d2] }
  | _ => none }
def TuckerFitsWrongFalsely : Prop := tuckerFitsRow.holds Try.pinned (OpenSpec.ofChange tuckerFitsWrong)

/-- 'ossuarylaw05.TuckerEnds': WHATEVER THE INPUT: true; the input reads as it did. -/
def tuckerEndsSpec : ChangeSpec := { name := "tuckerEnds", fn := fun _ => fun
  | [] => { results := [.lit (.bool true)], args := [] }
  | _ => none }
def tuckerEndsRow : OpenClaim := { program := "ythidmpllganmnaa", sum := "c9cb6c03aa377f2f2cec4ef784315469eca9aee9166f6f39ea87e433cb89bf01", func := "ossuary/ossuarylaw05.TuckerEnds", spec := "tuckerEnds", recurses := true, apart := false }
def TuckerEndsSaid : Prop := tuckerEndsRow.holds Try.pinned (OpenSpec.ofChange tuckerEndsSpec)

/-- ITS FALSE NEIGHBOUR: 'it returns false'. Refute it at one input. -/
def tuckerEndsWrong : ChangeSpec := { name := "tuckerEnds", fn := fun _ => fun
  | [] => { results := [.lit (.bool false)], args := [] }
  | _ => none }
def TuckerEndsWrongFalsely : Prop := tuckerEndsRow.holds Try.pinned (OpenSpec.ofChange tuckerEndsWrong)

/-- 'ossuarylaw05.TuckerBest': WHATEVER THE INPUT: true; the input reads as it did. -/
def tuckerBestSpec : ChangeSpec := { name := "tuckerBest", fn := fun _ => fun
  | [d1, d2] => { results := [.lit (.bool true)], args := [d1, d2] }
  | _ => none }
def tuckerBestRow : OpenClaim := { program := "ythidmpllganmnaa", sum := "c9cb6c03aa377f2f2cec4ef784315469eca9aee9166f6f39ea87e433cb89bf01", func := "ossuary/ossuarylaw05.TuckerBest", spec := "tuckerBest", recurses := true, apart := false }
def TuckerBestSaid : Prop := tuckerBestRow.holds Try.pinned (OpenSpec.ofChange tuckerBestSpec)

/-- ITS FALSE NEIGHBOUR: 'it returns false'. Refute it at one input. -/
def tuckerBestWrong : ChangeSpec := { name := "tuckerBest", fn := fun _ => fun
  | [d1, d2] => { results := [.lit (.bool false)], args := [d1, d2] }
  | _ => none }
def TuckerBestWrongFalsely : Prop := tuckerBestRow.holds Try.pinned (OpenSpec.ofChange tuckerBestWrong)

/-- 'ossuarylaw05.TuckerFull': WHATEVER THE INPUT: true; the input reads as it did. -/
def tuckerFullSpec : ChangeSpec := { name := "tuckerFull", fn := fun _ => fun
  | [d1, d2, d3] => { results := [.lit (.bool true)], args := [d1, d2, d3] }
  | _ => none }
def tuckerFullRow : OpenClaim := { program := "ythidmpllganmnaa", sum := "c9cb6c03aa377f2f2cec4ef784315469eca9aee9166f6f39ea87e433cb89bf01", func := "ossuary/ossuarylaw05.TuckerFull", spec := "tuckerFull", recurses := true, apart := false }
def TuckerFullSaid : Prop := tuckerFullRow.holds Try.pinned (OpenSpec.ofChange tuckerFullSpec)

/-- ITS FALSE NEIGHBOUR: 'it returns false'. Refute it at one input. -/
def tuckerFullWrong : ChangeSpec := { name := "tuckerFull", fn := fun _ => fun
  | [d1, d2, d3] => { results := [.lit (.bool false)], args := [d1, d2, d3] }
  | _ => none }
def TuckerFullWrongFalsely : Prop := tuckerFullRow.holds Try.pinned (OpenSpec.ofChange tuckerFullWrong)

/- THE SECOND FORM. 'bulk': how many values and letters a reading holds, each counted each time it is reached (what is shared counts as often as it is met; a slice's spare places count too). A statement '..UptoSaid' is the law's where the arguments, and the package variables that the reading takes, are together of bulk at most 1048576: NARROWER than '..Said'. Prove '..Said' where nothing that the law and all that it calls make is longer than what came in: it says more and counts as full. Else prove '..UptoSaid'. A law counts once. -/
mutual
def uptoBulk {H : Type} : DataW H → Nat
  | .lit (.string bytes) => bytes.length + 1
  | .lit _ => 1
  | .nil => 1
  | .ptr d => uptoBulk d + 1
  | .slice elems spare => uptoBulkAll elems + uptoBulkAll spare + 1
  | .agg parts => uptoBulkAll parts + 1
  | .iface _ d => uptoBulk d + 1
  | .map entries => uptoBulkEntries entries + 1
  | .held _ => 1
def uptoBulkAll {H : Type} : List (DataW H) → Nat
  | [] => 0
  | d :: r => uptoBulk d + uptoBulkAll r
def uptoBulkEntries {H : Type} : List (Lit × DataW H) → Nat
  | [] => 0
  | x :: r => uptoBulkEntry x + uptoBulkEntries r
def uptoBulkEntry {H : Type} : Lit × DataW H → Nat
  | (.string bytes, d) => bytes.length + uptoBulk d + 1
  | (_, d) => uptoBulk d + 1
 end
def uptoSmall : (H : Type) → List (DataW H) → Bool := fun _ ds => decide (uptoBulkAll ds ≤ 1048576)
def OpenSpec.upto (s : _root_.Go.ChangeSpec) : _root_.Go.OpenSpec := { _root_.Go.OpenSpec.ofChange s with cond := some uptoSmall }

/-- 'ossuarylaw05.TuckerTells', WHERE WHAT IT READS IS OF BULK AT MOST 1048576: true; the input reads as it did. -/
def tuckerTellsUptoRow : OpenClaim := { program := "ythidmpllganmnaa", sum := "c9cb6c03aa377f2f2cec4ef784315469eca9aee9166f6f39ea87e433cb89bf01", func := "ossuary/ossuarylaw05.TuckerTells", spec := "tuckerTells", recurses := true, apart := false, narrowed := true }
def TuckerTellsUptoSaid : Prop := tuckerTellsUptoRow.holds Try.pinned (OpenSpec.upto tuckerTellsSpec)

/-- 'ossuarylaw05.TuckerFits', WHERE WHAT IT READS IS OF BULK AT MOST 1048576: true; the input reads as it did. -/
def tuckerFitsUptoRow : OpenClaim := { program := "ythidmpllganmnaa", sum := "c9cb6c03aa377f2f2cec4ef784315469eca9aee9166f6f39ea87e433cb89bf01", func := "ossuary/ossuarylaw05.TuckerFits", spec := "tuckerFits", recurses := true, apart := false, narrowed := true }
def TuckerFitsUptoSaid : Prop := tuckerFitsUptoRow.holds Try.pinned (OpenSpec.upto tuckerFitsSpec)

/-- 'ossuarylaw05.TuckerEnds', WHERE WHAT IT READS IS OF BULK AT MOST 1048576: true; the input reads as it did. -/
def tuckerEndsUptoRow : OpenClaim := { program := "ythidmpllganmnaa", sum := "c9cb6c03aa377f2f2cec4ef784315469eca9aee9166f6f39ea87e433cb89bf01", func := "ossuary/ossuarylaw05.TuckerEnds", spec := "tuckerEnds", recurses := true, apart := false, narrowed := true }
def TuckerEndsUptoSaid : Prop := tuckerEndsUptoRow.holds Try.pinned (OpenSpec.upto tuckerEndsSpec)

/-- 'ossuarylaw05.TuckerBest', WHERE WHAT IT READS IS OF BULK AT MOST 1048576: true; the input reads as it did. -/
def tuckerBestUptoRow : OpenClaim := { program := "ythidmpllganmnaa", sum := "c9cb6c03aa377f2f2cec4ef784315469eca9aee9166f6f39ea87e433cb89bf01", func := "ossuary/ossuarylaw05.TuckerBest", spec := "tuckerBest", recurses := true, apart := false, narrowed := true }
def TuckerBestUptoSaid : Prop := tuckerBestUptoRow.holds Try.pinned (OpenSpec.upto tuckerBestSpec)

/-- 'ossuarylaw05.TuckerFull', WHERE WHAT IT READS IS OF BULK AT MOST 1048576: true; the input reads as it did. -/
def tuckerFullUptoRow : OpenClaim := { program := "ythidmpllganmnaa", sum := "c9cb6c03aa377f2f2cec4ef784315469eca9aee9166f6f39ea87e433cb89bf01", func := "ossuary/ossuarylaw05.TuckerFull", spec := "tuckerFull", recurses := true, apart := false, narrowed := true }
def TuckerFullUptoSaid : Prop := tuckerFullUptoRow.holds Try.pinned (OpenSpec.upto tuckerFullSpec)

end Rows
end Go.Proofs.Ythidmpllganmnaa
