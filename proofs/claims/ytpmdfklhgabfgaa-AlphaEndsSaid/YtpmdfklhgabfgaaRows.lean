/-
  No cell of these rows narrows 'for every input' (looked for: loops, veiled, ifaces, maps, wideKeys, modest, calm, conditions, laid).
  DERIVED. THE GIVEN ROWS OF THIS SEAT. 5 by the template 'for every input the law returns true; each argument reads behind the call as it read before'; 0 by the template 'total and deterministic' (their statements: YtpmdfklhgabfgaaTotals.lean).
  GIVEN WITH THE SEED: the statements are not yours to turn. If you find one false, say at which input.
  Laid BY PROGRAM, IN A SANDBOX (cutbox-rows.mjs): the forced cells as the released guide's own fill.sh prints them over the translation b95b8713164e7a1d… (all of the seat's roots in one cut). By AI agents, Wed Nov 11 2026. No macro, syntax, notation, axiom, sorry.
-/
import Derived.Test.YtpmdfklhgabfgaaChecked
import GoSem.Claim
import GoSem.ClaimJoined
import GoSem.ClaimMapViews
import Derived.JoinedTies
import Derived.KernelRfl
namespace Go.Proofs.Ytpmdfklhgabfgaa
/- THE CELL 'sum', in the pinned program and in every row, IS THE sha256 OF THE DUMP (.gsa) THAT YtpmdfklhgabfgaaProg.lean LOADS. Nothing in Lean hashes anything: it is a label: what it is worth is what the hold of that sum in a sandbox is worth. -/
noncomputable def Try.pinned : Pinned := { name := "ytpmdfklhgabfgaa", sum := "b95b8713164e7a1d2aec5fef8ebe64b3c5455af0d1ea0c271e61844c690f8409", checked := Try.checked }
namespace Rows
def none {H : Type} : Left H := { results := [], args := [] }

/-- 'ossuarylaw06.AlphaWords': WHATEVER THE INPUT: true; the input reads as it did. -/
def alphaWordsSpec : ChangeSpec := { name := "alphaWords", fn := fun _ => fun
  | [d1, d2] => { results := [.lit (.bool true)], args := [d1, d2] }
  | _ => none }
def alphaWordsRow : OpenClaim := { program := "ytpmdfklhgabfgaa", sum := "b95b8713164e7a1d2aec5fef8ebe64b3c5455af0d1ea0c271e61844c690f8409", func := "ossuary/ossuarylaw06.AlphaWords", spec := "alphaWords", recurses := true, apart := false }
def AlphaWordsSaid : Prop := alphaWordsRow.holds Try.pinned (OpenSpec.ofChange alphaWordsSpec)

/-- ITS FALSE NEIGHBOUR: 'it returns false'. Refute it at one input. -/
def alphaWordsWrong : ChangeSpec := { name := "alphaWords", fn := fun _ => fun
  | [d1, d2] => { results := [.lit (.bool false)], args := [d1, d2] }
  | _ => none }
def AlphaWordsWrongFalsely : Prop := alphaWordsRow.holds Try.pinned (OpenSpec.ofChange alphaWordsWrong)

/-- 'ossuarylaw06.AlphaOrder': WHATEVER THE INPUT: true; the input reads as it did. -/
def alphaOrderSpec : ChangeSpec := { name := "alphaOrder", fn := fun _ => fun
  | [d] => { results := [.lit (.bool true)], args := [d] }
  | _ => none }
def alphaOrderRow : OpenClaim := { program := "ytpmdfklhgabfgaa", sum := "b95b8713164e7a1d2aec5fef8ebe64b3c5455af0d1ea0c271e61844c690f8409", func := "ossuary/ossuarylaw06.AlphaOrder", spec := "alphaOrder", unfollowed := true, recurses := true, apart := false }
def AlphaOrderSaid : Prop := alphaOrderRow.holds Try.pinned (OpenSpec.ofChange alphaOrderSpec)

/-- ITS FALSE NEIGHBOUR: 'it returns false'. Refute it at one input. -/
def alphaOrderWrong : ChangeSpec := { name := "alphaOrder", fn := fun _ => fun
  | [d] => { results := [.lit (.bool false)], args := [d] }
  | _ => none }
def AlphaOrderWrongFalsely : Prop := alphaOrderRow.holds Try.pinned (OpenSpec.ofChange alphaOrderWrong)

/-- 'ossuarylaw06.AlphaMakes': WHATEVER THE INPUT: true; the input reads as it did. -/
def alphaMakesSpec : ChangeSpec := { name := "alphaMakes", fn := fun _ => fun
  | [d1, d2, d3, d4] => { results := [.lit (.bool true)], args := [d1, d2, d3, d4] }
  | _ => none }
def alphaMakesRow : OpenClaim := { program := "ytpmdfklhgabfgaa", sum := "b95b8713164e7a1d2aec5fef8ebe64b3c5455af0d1ea0c271e61844c690f8409", func := "ossuary/ossuarylaw06.AlphaMakes", spec := "alphaMakes", unfollowed := true, recurses := true, apart := false }
def AlphaMakesSaid : Prop := alphaMakesRow.holds Try.pinned (OpenSpec.ofChange alphaMakesSpec)

/-- ITS FALSE NEIGHBOUR: 'it returns false'. Refute it at one input. -/
def alphaMakesWrong : ChangeSpec := { name := "alphaMakes", fn := fun _ => fun
  | [d1, d2, d3, d4] => { results := [.lit (.bool false)], args := [d1, d2, d3, d4] }
  | _ => none }
def AlphaMakesWrongFalsely : Prop := alphaMakesRow.holds Try.pinned (OpenSpec.ofChange alphaMakesWrong)

/-- 'ossuarylaw06.AlphaTexts': WHATEVER THE INPUT: true; the input reads as it did. -/
def alphaTextsSpec : ChangeSpec := { name := "alphaTexts", fn := fun _ => fun
  | [d1, d2, d3] => { results := [.lit (.bool true)], args := [d1, d2, d3] }
  | _ => none }
def alphaTextsRow : OpenClaim := { program := "ytpmdfklhgabfgaa", sum := "b95b8713164e7a1d2aec5fef8ebe64b3c5455af0d1ea0c271e61844c690f8409", func := "ossuary/ossuarylaw06.AlphaTexts", spec := "alphaTexts", unfollowed := true, recurses := true, apart := false }
def AlphaTextsSaid : Prop := alphaTextsRow.holds Try.pinned (OpenSpec.ofChange alphaTextsSpec)

/-- ITS FALSE NEIGHBOUR: 'it returns false'. Refute it at one input. -/
def alphaTextsWrong : ChangeSpec := { name := "alphaTexts", fn := fun _ => fun
  | [d1, d2, d3] => { results := [.lit (.bool false)], args := [d1, d2, d3] }
  | _ => none }
def AlphaTextsWrongFalsely : Prop := alphaTextsRow.holds Try.pinned (OpenSpec.ofChange alphaTextsWrong)

/-- 'ossuarylaw06.AlphaEnds': WHATEVER THE INPUT: true; the input reads as it did. -/
def alphaEndsSpec : ChangeSpec := { name := "alphaEnds", fn := fun _ => fun
  | [] => { results := [.lit (.bool true)], args := [] }
  | _ => none }
def alphaEndsRow : OpenClaim := { program := "ytpmdfklhgabfgaa", sum := "b95b8713164e7a1d2aec5fef8ebe64b3c5455af0d1ea0c271e61844c690f8409", func := "ossuary/ossuarylaw06.AlphaEnds", spec := "alphaEnds", unfollowed := true, recurses := true, apart := false }
def AlphaEndsSaid : Prop := alphaEndsRow.holds Try.pinned (OpenSpec.ofChange alphaEndsSpec)

/-- ITS FALSE NEIGHBOUR: 'it returns false'. Refute it at one input. -/
def alphaEndsWrong : ChangeSpec := { name := "alphaEnds", fn := fun _ => fun
  | [] => { results := [.lit (.bool false)], args := [] }
  | _ => none }
def AlphaEndsWrongFalsely : Prop := alphaEndsRow.holds Try.pinned (OpenSpec.ofChange alphaEndsWrong)

/- THE SECOND FORM. 'bulk': how many values and letters a reading holds, each counted each time it is reached (what is shared counts as often as it is met; a slice's spare places count too). A statement '..UptoSaid' is the law's where the arguments, and the package variables that the reading takes, are together of bulk at most 1048576: NARROWER than '..Said'. Prove '..Said' where nothing that the law and all that it calls make is longer than what came in: it says more and counts as full. Else prove '..UptoSaid'. A law counts once. -/
mutual
def uptoBulk {H : Type} : DataW H → Nat
  | .lit (.string bytes) => bytes.length + 1
  | .lit _ => 1
  | .nil => 1
  | .ptr d => uptoBulk d + 1
  | .slice elems spare => uptoBulkAll elems + uptoBulkAll spare + 1
  | .agg parts => uptoBulkAll parts + 1
  | .iface _ d => uptoBulk d + 1
  | .map entries => uptoBulkEntries entries + 1
  | .held _ => 1
def uptoBulkAll {H : Type} : List (DataW H) → Nat
  | [] => 0
  | d :: r => uptoBulk d + uptoBulkAll r
def uptoBulkEntries {H : Type} : List (Lit × DataW H) → Nat
  | [] => 0
  | x :: r => uptoBulkEntry x + uptoBulkEntries r
def uptoBulkEntry {H : Type} : Lit × DataW H → Nat
  | (.string bytes, d) => bytes.length + uptoBulk d + 1
  | (_, d) => uptoBulk d + 1
 end
def uptoSmall : (H : Type) → List (DataW H) → Bool := fun _ ds => decide (uptoBulkAll ds ≤ 1048576)
def OpenSpec.upto (s : _root_.Go.ChangeSpec) : _root_.Go.OpenSpec := { _root_.Go.OpenSpec.ofChange s with cond := some uptoSmall }

/-- 'ossuarylaw06.AlphaWords', WHERE WHAT IT READS IS OF BULK AT MOST 1048576: true; the input reads as it did. -/
def alphaWordsUptoRow : OpenClaim := { program := "ytpmdfklhgabfgaa", sum := "b95b8713164e7a1d2aec5fef8ebe64b3c5455af0d1ea0c271e61844c690f8409", func := "ossuary/ossuarylaw06.AlphaWords", spec := "alphaWords", recurses := true, apart := false, narrowed := true }
def AlphaWordsUptoSaid : Prop := alphaWordsUptoRow.holds Try.pinned (OpenSpec.upto alphaWordsSpec)

/-- 'ossuarylaw06.AlphaOrder', WHERE WHAT IT READS IS OF BULK AT MOST 1048576: true; the input reads as it did. -/
def alphaOrderUptoRow : OpenClaim := { program := "ytpmdfklhgabfgaa", sum := "b95b8713164e7a1d2aec5fef8ebe64b3c5455af0d1ea0c271e61844c690f8409", func := "ossuary/ossuarylaw06.AlphaOrder", spec := "alphaOrder", unfollowed := true, recurses := true, apart := false, narrowed := true }
def AlphaOrderUptoSaid : Prop := alphaOrderUptoRow.holds Try.pinned (OpenSpec.upto alphaOrderSpec)

/-- 'ossuarylaw06.AlphaMakes', WHERE WHAT IT READS IS OF BULK AT MOST 1048576: true; the input reads as it did. -/
def alphaMakesUptoRow : OpenClaim := { program := "ytpmdfklhgabfgaa", sum := "b95b8713164e7a1d2aec5fef8ebe64b3c5455af0d1ea0c271e61844c690f8409", func := "ossuary/ossuarylaw06.AlphaMakes", spec := "alphaMakes", unfollowed := true, recurses := true, apart := false, narrowed := true }
def AlphaMakesUptoSaid : Prop := alphaMakesUptoRow.holds Try.pinned (OpenSpec.upto alphaMakesSpec)

/-- 'ossuarylaw06.AlphaTexts', WHERE WHAT IT READS IS OF BULK AT MOST 1048576: true; the input reads as it did. -/
def alphaTextsUptoRow : OpenClaim := { program := "ytpmdfklhgabfgaa", sum := "b95b8713164e7a1d2aec5fef8ebe64b3c5455af0d1ea0c271e61844c690f8409", func := "ossuary/ossuarylaw06.AlphaTexts", spec := "alphaTexts", unfollowed := true, recurses := true, apart := false, narrowed := true }
def AlphaTextsUptoSaid : Prop := alphaTextsUptoRow.holds Try.pinned (OpenSpec.upto alphaTextsSpec)

/-- 'ossuarylaw06.AlphaEnds', WHERE WHAT IT READS IS OF BULK AT MOST 1048576: true; the input reads as it did. -/
def alphaEndsUptoRow : OpenClaim := { program := "ytpmdfklhgabfgaa", sum := "b95b8713164e7a1d2aec5fef8ebe64b3c5455af0d1ea0c271e61844c690f8409", func := "ossuary/ossuarylaw06.AlphaEnds", spec := "alphaEnds", unfollowed := true, recurses := true, apart := false, narrowed := true }
def AlphaEndsUptoSaid : Prop := alphaEndsUptoRow.holds Try.pinned (OpenSpec.upto alphaEndsSpec)

end Rows
end Go.Proofs.Ytpmdfklhgabfgaa
