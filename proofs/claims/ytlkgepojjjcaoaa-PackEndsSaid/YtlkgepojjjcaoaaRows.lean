/-
  No cell of these rows narrows 'for every input' (looked for: loops, veiled, ifaces, maps, wideKeys, modest, calm, conditions, laid).
  DERIVED. THE GIVEN ROWS OF THIS SEAT. 6 by the template 'for every input the law returns true; each argument reads behind the call as it read before'; 0 by the template 'total and deterministic' (their statements: YtlkgepojjjcaoaaTotals.lean).
  GIVEN WITH THE SEED: the statements are not yours to turn. If you find one false, say at which input.
  Laid BY PROGRAM, IN A SANDBOX (cutbox-rows.mjs): the forced cells as the released guide's own fill.sh prints them over the translation 66572af65bd73380… (all of the seat's roots in one cut). By AI agents, Wed Nov 11 2026. No macro, syntax, notation, axiom, sorry.
-/
import Derived.Test.YtlkgepojjjcaoaaChecked
import GoSem.Claim
import GoSem.ClaimJoined
import GoSem.ClaimMapViews
import Derived.JoinedTies
import Derived.KernelRfl
namespace Go.Proofs.Ytlkgepojjjcaoaa
/- THE CELL 'sum', in the pinned program and in every row, IS THE sha256 OF THE DUMP (.gsa) THAT YtlkgepojjjcaoaaProg.lean LOADS. Nothing in Lean hashes anything: it is a label: what it is worth is what the hold of that sum in a sandbox is worth. -/
noncomputable def Try.pinned : Pinned := { name := "ytlkgepojjjcaoaa", sum := "66572af65bd73380ed218e3253b5773d27b824deaba3e8c01ec6d6bb8ec485a0", checked := Try.checked }
namespace Rows
def none {H : Type} : Left H := { results := [], args := [] }

/-- 'ossuarylaw02.PackLeast': WHATEVER THE INPUT: true; the input reads as it did. -/
def packLeastSpec : ChangeSpec := { name := "packLeast", fn := fun _ => fun
  | [d] => { results := [.lit (.bool true)], args := [d] }
  | _ => none }
def packLeastRow : OpenClaim := { program := "ytlkgepojjjcaoaa", sum := "66572af65bd73380ed218e3253b5773d27b824deaba3e8c01ec6d6bb8ec485a0", func := "ossuary/ossuarylaw02.PackLeast", spec := "packLeast", apart := false }
def PackLeastSaid : Prop := packLeastRow.holds Try.pinned (OpenSpec.ofChange packLeastSpec)

/-- ITS FALSE NEIGHBOUR: 'it returns false'. Refute it at one input. -/
def packLeastWrong : ChangeSpec := { name := "packLeast", fn := fun _ => fun
  | [d] => { results := [.lit (.bool false)], args := [d] }
  | _ => none }
def PackLeastWrongFalsely : Prop := packLeastRow.holds Try.pinned (OpenSpec.ofChange packLeastWrong)

/-- 'ossuarylaw02.PackPuts': WHATEVER THE INPUT: true; the input reads as it did. -/
def packPutsSpec : ChangeSpec := { name := "packPuts", fn := fun _ => fun
  | [d1, d2, d3] => { results := [.lit (.bool true)], args := [d1, d2, d3] }
  | _ => none }
def packPutsRow : OpenClaim := { program := "ytlkgepojjjcaoaa", sum := "66572af65bd73380ed218e3253b5773d27b824deaba3e8c01ec6d6bb8ec485a0", func := "ossuary/ossuarylaw02.PackPuts", spec := "packPuts", apart := false }
def PackPutsSaid : Prop := packPutsRow.holds Try.pinned (OpenSpec.ofChange packPutsSpec)

/-- ITS FALSE NEIGHBOUR: 'it returns false'. Refute it at one input. -/
def packPutsWrong : ChangeSpec := { name := "packPuts", fn := fun _ => fun
  | [d1, d2, d3] => { results := [.lit (.bool false)], args := [d1, d2, d3] }
  | _ => none }
def PackPutsWrongFalsely : Prop := packPutsRow.holds Try.pinned (OpenSpec.ofChange packPutsWrong)

/-- 'ossuarylaw02.PackReads': WHATEVER THE INPUT: true; the input reads as it did. -/
def packReadsSpec : ChangeSpec := { name := "packReads", fn := fun _ => fun
  | [d1, d2, d3, d4] => { results := [.lit (.bool true)], args := [d1, d2, d3, d4] }
  | _ => none }
def packReadsRow : OpenClaim := { program := "ytlkgepojjjcaoaa", sum := "66572af65bd73380ed218e3253b5773d27b824deaba3e8c01ec6d6bb8ec485a0", func := "ossuary/ossuarylaw02.PackReads", spec := "packReads", apart := false }
def PackReadsSaid : Prop := packReadsRow.holds Try.pinned (OpenSpec.ofChange packReadsSpec)

/-- ITS FALSE NEIGHBOUR: 'it returns false'. Refute it at one input. -/
def packReadsWrong : ChangeSpec := { name := "packReads", fn := fun _ => fun
  | [d1, d2, d3, d4] => { results := [.lit (.bool false)], args := [d1, d2, d3, d4] }
  | _ => none }
def PackReadsWrongFalsely : Prop := packReadsRow.holds Try.pinned (OpenSpec.ofChange packReadsWrong)

/-- 'ossuarylaw02.PackBack': WHATEVER THE INPUT: true; the input reads as it did. -/
def packBackSpec : ChangeSpec := { name := "packBack", fn := fun _ => fun
  | [d1, d2, d3, d4, d5] => { results := [.lit (.bool true)], args := [d1, d2, d3, d4, d5] }
  | _ => none }
def packBackRow : OpenClaim := { program := "ytlkgepojjjcaoaa", sum := "66572af65bd73380ed218e3253b5773d27b824deaba3e8c01ec6d6bb8ec485a0", func := "ossuary/ossuarylaw02.PackBack", spec := "packBack", apart := false }
def PackBackSaid : Prop := packBackRow.holds Try.pinned (OpenSpec.ofChange packBackSpec)

/-- ITS FALSE NEIGHBOUR: 'it returns false'. Refute it at one input. -/
def packBackWrong : ChangeSpec := { name := "packBack", fn := fun _ => fun
  | [d1, d2, d3, d4, d5] => { results := [.lit (.bool false)], args := [d1, d2, d3, d4, d5] }
  | _ => none }
def PackBackWrongFalsely : Prop := packBackRow.holds Try.pinned (OpenSpec.ofChange packBackWrong)

/-- 'ossuarylaw02.PackFinds': WHATEVER THE INPUT: true; the input reads as it did. -/
def packFindsSpec : ChangeSpec := { name := "packFinds", fn := fun _ => fun
  | [d1, d2] => { results := [.lit (.bool true)], args := [d1, d2] }
  | _ => none }
def packFindsRow : OpenClaim := { program := "ytlkgepojjjcaoaa", sum := "66572af65bd73380ed218e3253b5773d27b824deaba3e8c01ec6d6bb8ec485a0", func := "ossuary/ossuarylaw02.PackFinds", spec := "packFinds", unfollowed := true, recurses := true, apart := false }
def PackFindsSaid : Prop := packFindsRow.holds Try.pinned (OpenSpec.ofChange packFindsSpec)

/-- ITS FALSE NEIGHBOUR: 'it returns false'. Refute it at one input. -/
def packFindsWrong : ChangeSpec := { name := "packFinds", fn := fun _ => fun
  | [d1, d2] => { results := [.lit (.bool false)], args := [d1, d2] }
  | _ => none }
def PackFindsWrongFalsely : Prop := packFindsRow.holds Try.pinned (OpenSpec.ofChange packFindsWrong)

/-- 'ossuarylaw02.PackEnds': WHATEVER THE INPUT: true; the input reads as it did. -/
def packEndsSpec : ChangeSpec := { name := "packEnds", fn := fun _ => fun
  | [] => { results := [.lit (.bool true)], args := [] }
  | _ => none }
def packEndsRow : OpenClaim := { program := "ytlkgepojjjcaoaa", sum := "66572af65bd73380ed218e3253b5773d27b824deaba3e8c01ec6d6bb8ec485a0", func := "ossuary/ossuarylaw02.PackEnds", spec := "packEnds", unfollowed := true, recurses := true, apart := false }
def PackEndsSaid : Prop := packEndsRow.holds Try.pinned (OpenSpec.ofChange packEndsSpec)

/-- ITS FALSE NEIGHBOUR: 'it returns false'. Refute it at one input. -/
def packEndsWrong : ChangeSpec := { name := "packEnds", fn := fun _ => fun
  | [] => { results := [.lit (.bool false)], args := [] }
  | _ => none }
def PackEndsWrongFalsely : Prop := packEndsRow.holds Try.pinned (OpenSpec.ofChange packEndsWrong)

/- THE SECOND FORM. 'bulk': how many values and letters a reading holds, each counted each time it is reached (what is shared counts as often as it is met; a slice's spare places count too). A statement '..UptoSaid' is the law's where the arguments, and the package variables that the reading takes, are together of bulk at most 1048576: NARROWER than '..Said'. Prove '..Said' where nothing that the law and all that it calls make is longer than what came in: it says more and counts as full. Else prove '..UptoSaid'. A law counts once. -/
mutual
def uptoBulk {H : Type} : DataW H → Nat
  | .lit (.string bytes) => bytes.length + 1
  | .lit _ => 1
  | .nil => 1
  | .ptr d => uptoBulk d + 1
  | .slice elems spare => uptoBulkAll elems + uptoBulkAll spare + 1
  | .agg parts => uptoBulkAll parts + 1
  | .iface _ d => uptoBulk d + 1
  | .map entries => uptoBulkEntries entries + 1
  | .held _ => 1
def uptoBulkAll {H : Type} : List (DataW H) → Nat
  | [] => 0
  | d :: r => uptoBulk d + uptoBulkAll r
def uptoBulkEntries {H : Type} : List (Lit × DataW H) → Nat
  | [] => 0
  | x :: r => uptoBulkEntry x + uptoBulkEntries r
def uptoBulkEntry {H : Type} : Lit × DataW H → Nat
  | (.string bytes, d) => bytes.length + uptoBulk d + 1
  | (_, d) => uptoBulk d + 1
 end
def uptoSmall : (H : Type) → List (DataW H) → Bool := fun _ ds => decide (uptoBulkAll ds ≤ 1048576)
def OpenSpec.upto (s : _root_.Go.ChangeSpec) : _root_.Go.OpenSpec := { _root_.Go.OpenSpec.ofChange s with cond := some uptoSmall }

/-- 'ossuarylaw02.PackLeast', WHERE WHAT IT READS IS OF BULK AT MOST 1048576: true; the input reads as it did. -/
def packLeastUptoRow : OpenClaim := { program := "ytlkgepojjjcaoaa", sum := "66572af65bd73380ed218e3253b5773d27b824deaba3e8c01ec6d6bb8ec485a0", func := "ossuary/ossuarylaw02.PackLeast", spec := "packLeast", apart := false, narrowed := true }
def PackLeastUptoSaid : Prop := packLeastUptoRow.holds Try.pinned (OpenSpec.upto packLeastSpec)

/-- 'ossuarylaw02.PackPuts', WHERE WHAT IT READS IS OF BULK AT MOST 1048576: true; the input reads as it did. -/
def packPutsUptoRow : OpenClaim := { program := "ytlkgepojjjcaoaa", sum := "66572af65bd73380ed218e3253b5773d27b824deaba3e8c01ec6d6bb8ec485a0", func := "ossuary/ossuarylaw02.PackPuts", spec := "packPuts", apart := false, narrowed := true }
def PackPutsUptoSaid : Prop := packPutsUptoRow.holds Try.pinned (OpenSpec.upto packPutsSpec)

/-- 'ossuarylaw02.PackReads', WHERE WHAT IT READS IS OF BULK AT MOST 1048576: true; the input reads as it did. -/
def packReadsUptoRow : OpenClaim := { program := "ytlkgepojjjcaoaa", sum := "66572af65bd73380ed218e3253b5773d27b824deaba3e8c01ec6d6bb8ec485a0", func := "ossuary/ossuarylaw02.PackReads", spec := "packReads", apart := false, narrowed := true }
def PackReadsUptoSaid : Prop := packReadsUptoRow.holds Try.pinned (OpenSpec.upto packReadsSpec)

/-- 'ossuarylaw02.PackBack', WHERE WHAT IT READS IS OF BULK AT MOST 1048576: true; the input reads as it did. -/
def packBackUptoRow : OpenClaim := { program := "ytlkgepojjjcaoaa", sum := "66572af65bd73380ed218e3253b5773d27b824deaba3e8c01ec6d6bb8ec485a0", func := "ossuary/ossuarylaw02.PackBack", spec := "packBack", apart := false, narrowed := true }
def PackBackUptoSaid : Prop := packBackUptoRow.holds Try.pinned (OpenSpec.upto packBackSpec)

/-- 'ossuarylaw02.PackFinds', WHERE WHAT IT READS IS OF BULK AT MOST 1048576: true; the input reads as it did. -/
def packFindsUptoRow : OpenClaim := { program := "ytlkgepojjjcaoaa", sum := "66572af65bd73380ed218e3253b5773d27b824deaba3e8c01ec6d6bb8ec485a0", func := "ossuary/ossuarylaw02.PackFinds", spec := "packFinds", unfollowed := true, recurses := true, apart := false, narrowed := true }
def PackFindsUptoSaid : Prop := packFindsUptoRow.holds Try.pinned (OpenSpec.upto packFindsSpec)

/-- 'ossuarylaw02.PackEnds', WHERE WHAT IT READS IS OF BULK AT MOST 1048576: true; the input reads as it did. -/
def packEndsUptoRow : OpenClaim := { program := "ytlkgepojjjcaoaa", sum := "66572af65bd73380ed218e3253b5773d27b824deaba3e8c01ec6d6bb8ec485a0", func := "ossuary/ossuarylaw02.PackEnds", spec := "packEnds", unfollowed := true, recurses := true, apart := false, narrowed := true }
def PackEndsUptoSaid : Prop := packEndsUptoRow.holds Try.pinned (OpenSpec.upto packEndsSpec)

end Rows
end Go.Proofs.Ytlkgepojjjcaoaa
