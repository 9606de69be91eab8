/-
  NARROWER THAN 'FOR EVERY INPUT', by the rows' own cells (each row's printed sentence says how): SectionPrefix: laid · SectionOf: laid · SectionReads: laid · SectionEnds: laid · SectionBack: laid.
  DERIVED. THE GIVEN ROWS OF THIS SEAT. 5 by the template 'for every input the law returns true; each argument reads behind the call as it read before'; 0 by the template 'total and deterministic' (their statements: YtanacapkfllbnaaGreatDoorTotals.lean).
  GIVEN WITH THE SEED: the statements are not yours to turn. If you find one false, say at which input.
  Laid BY PROGRAM, IN A SANDBOX (cutbox-rows.mjs): the forced cells as the released guide's own fill.sh prints them over the translation f58aac45742d8560… (all of the seat's roots in one cut). By AI agents, Wed Nov 11 2026. No macro, syntax, notation, axiom, sorry.
-/
import Derived.Test.YtanacapkfllbnaaGreatDoorChecked
import GoSem.Claim
import GoSem.ClaimJoined
import GoSem.ClaimMapViews
import Derived.JoinedTies
import Derived.KernelRfl
namespace Go.Proofs.YtanacapkfllbnaaGreatDoor
/- THE CELL 'sum', in the pinned program and in every row, IS THE sha256 OF THE DUMP (.gsa) THAT YtanacapkfllbnaaGreatDoorProg.lean LOADS. Nothing in Lean hashes anything: it is a label: what it is worth is what the hold of that sum in a sandbox is worth. -/
noncomputable def Tryz.pinned : Pinned := { name := "ytanacapkfllbnaagreatdoor", sum := "f58aac45742d856026cd07277d13884c6af1e1b534fddad46267beca927b22e3", checked := Tryz.checked }
namespace Rows
def none {H : Type} : Left H := { results := [], args := [] }

/- WHAT THE LISTED PACKAGE-LEVEL VARIABLES READ AS WHEN THE CALL BEGINS. Each datum BY PROGRAM (the guide's laid-datum.mjs) off the statement by which the dump's own 'gosem.cut.vars' lays the variable. In a bare row this is a premise. The card (YtanacapkfllbnaaGreatDoorCards.lean) ties it to the program's text. -/
def laid_math_bits_deBruijn64tab {H : Type} : DataW H := .agg [.lit (.int .u8 0), .lit (.int .u8 1), .lit (.int .u8 56), .lit (.int .u8 2), .lit (.int .u8 57), .lit (.int .u8 49), .lit (.int .u8 28), .lit (.int .u8 3), .lit (.int .u8 61), .lit (.int .u8 58), .lit (.int .u8 42), .lit (.int .u8 50), .lit (.int .u8 38), .lit (.int .u8 29), .lit (.int .u8 17), .lit (.int .u8 4), .lit (.int .u8 62), .lit (.int .u8 47), .lit (.int .u8 59), .lit (.int .u8 36), .lit (.int .u8 45), .lit (.int .u8 43), .lit (.int .u8 51), .lit (.int .u8 22), .lit (.int .u8 53), .lit (.int .u8 39), .lit (.int .u8 33), .lit (.int .u8 30), .lit (.int .u8 24), .lit (.int .u8 18), .lit (.int .u8 12), .lit (.int .u8 5), .lit (.int .u8 63), .lit (.int .u8 55), .lit (.int .u8 48), .lit (.int .u8 27), .lit (.int .u8 60), .lit (.int .u8 41), .lit (.int .u8 37), .lit (.int .u8 16), .lit (.int .u8 46), .lit (.int .u8 35), .lit (.int .u8 44), .lit (.int .u8 21), .lit (.int .u8 52), .lit (.int .u8 32), .lit (.int .u8 23), .lit (.int .u8 11), .lit (.int .u8 54), .lit (.int .u8 26), .lit (.int .u8 40), .lit (.int .u8 15), .lit (.int .u8 34), .lit (.int .u8 20), .lit (.int .u8 31), .lit (.int .u8 10), .lit (.int .u8 25), .lit (.int .u8 14), .lit (.int .u8 19), .lit (.int .u8 9), .lit (.int .u8 13), .lit (.int .u8 8), .lit (.int .u8 7), .lit (.int .u8 6)]

/-- 'ossuarylaw13.SectionPrefix': WHATEVER THE INPUT: true; the input reads as it did. -/
def sectionPrefixSpec : ChangeSpec := { name := "sectionPrefix", fn := fun _ => fun
  | [d1, d2] => { results := [.lit (.bool true)], args := [d1, d2] }
  | _ => none }
def sectionPrefixRow : OpenClaim := { program := "ytanacapkfllbnaagreatdoor", sum := "f58aac45742d856026cd07277d13884c6af1e1b534fddad46267beca927b22e3", func := "ossuary/ossuarylaw13.SectionPrefix", spec := "sectionPrefix", unfollowed := true, recurses := true, named := ["math/bits.deBruijn64tab"], apart := false, laid := [("math/bits.deBruijn64tab", laid_math_bits_deBruijn64tab)] }
def SectionPrefixSaid : Prop := sectionPrefixRow.holds Tryz.pinned (OpenSpec.ofChange sectionPrefixSpec)

/-- ITS FALSE NEIGHBOUR: 'it returns false'. Refute it at one input. -/
def sectionPrefixWrong : ChangeSpec := { name := "sectionPrefix", fn := fun _ => fun
  | [d1, d2] => { results := [.lit (.bool false)], args := [d1, d2] }
  | _ => none }
def SectionPrefixWrongFalsely : Prop := sectionPrefixRow.holds Tryz.pinned (OpenSpec.ofChange sectionPrefixWrong)

/-- 'ossuarylaw13.SectionOf': WHATEVER THE INPUT: true; the input reads as it did. -/
def sectionOfSpec : ChangeSpec := { name := "sectionOf", fn := fun _ => fun
  | [d1, d2, d3] => { results := [.lit (.bool true)], args := [d1, d2, d3] }
  | _ => none }
def sectionOfRow : OpenClaim := { program := "ytanacapkfllbnaagreatdoor", sum := "f58aac45742d856026cd07277d13884c6af1e1b534fddad46267beca927b22e3", func := "ossuary/ossuarylaw13.SectionOf", spec := "sectionOf", unfollowed := true, recurses := true, named := ["math/bits.deBruijn64tab"], apart := false, laid := [("math/bits.deBruijn64tab", laid_math_bits_deBruijn64tab)] }
def SectionOfSaid : Prop := sectionOfRow.holds Tryz.pinned (OpenSpec.ofChange sectionOfSpec)

/-- ITS FALSE NEIGHBOUR: 'it returns false'. Refute it at one input. -/
def sectionOfWrong : ChangeSpec := { name := "sectionOf", fn := fun _ => fun
  | [d1, d2, d3] => { results := [.lit (.bool false)], args := [d1, d2, d3] }
  | _ => none }
def SectionOfWrongFalsely : Prop := sectionOfRow.holds Tryz.pinned (OpenSpec.ofChange sectionOfWrong)

/-- 'ossuarylaw13.SectionReads': WHATEVER THE INPUT: true; the input reads as it did. -/
def sectionReadsSpec : ChangeSpec := { name := "sectionReads", fn := fun _ => fun
  | [d1, d2, d3] => { results := [.lit (.bool true)], args := [d1, d2, d3] }
  | _ => none }
def sectionReadsRow : OpenClaim := { program := "ytanacapkfllbnaagreatdoor", sum := "f58aac45742d856026cd07277d13884c6af1e1b534fddad46267beca927b22e3", func := "ossuary/ossuarylaw13.SectionReads", spec := "sectionReads", unfollowed := true, recurses := true, named := ["math/bits.deBruijn64tab"], apart := false, laid := [("math/bits.deBruijn64tab", laid_math_bits_deBruijn64tab)] }
def SectionReadsSaid : Prop := sectionReadsRow.holds Tryz.pinned (OpenSpec.ofChange sectionReadsSpec)

/-- ITS FALSE NEIGHBOUR: 'it returns false'. Refute it at one input. -/
def sectionReadsWrong : ChangeSpec := { name := "sectionReads", fn := fun _ => fun
  | [d1, d2, d3] => { results := [.lit (.bool false)], args := [d1, d2, d3] }
  | _ => none }
def SectionReadsWrongFalsely : Prop := sectionReadsRow.holds Tryz.pinned (OpenSpec.ofChange sectionReadsWrong)

/-- 'ossuarylaw13.SectionEnds': WHATEVER THE INPUT: true; the input reads as it did. -/
def sectionEndsSpec : ChangeSpec := { name := "sectionEnds", fn := fun _ => fun
  | [] => { results := [.lit (.bool true)], args := [] }
  | _ => none }
def sectionEndsRow : OpenClaim := { program := "ytanacapkfllbnaagreatdoor", sum := "f58aac45742d856026cd07277d13884c6af1e1b534fddad46267beca927b22e3", func := "ossuary/ossuarylaw13.SectionEnds", spec := "sectionEnds", unfollowed := true, recurses := true, named := ["math/bits.deBruijn64tab"], apart := false, laid := [("math/bits.deBruijn64tab", laid_math_bits_deBruijn64tab)] }
def SectionEndsSaid : Prop := sectionEndsRow.holds Tryz.pinned (OpenSpec.ofChange sectionEndsSpec)

/-- ITS FALSE NEIGHBOUR: 'it returns false'. Refute it at one input. -/
def sectionEndsWrong : ChangeSpec := { name := "sectionEnds", fn := fun _ => fun
  | [] => { results := [.lit (.bool false)], args := [] }
  | _ => none }
def SectionEndsWrongFalsely : Prop := sectionEndsRow.holds Tryz.pinned (OpenSpec.ofChange sectionEndsWrong)

/-- 'ossuarylaw13.SectionBack': WHATEVER THE INPUT: true; the input reads as it did. -/
def sectionBackSpec : ChangeSpec := { name := "sectionBack", fn := fun _ => fun
  | [d1, d2] => { results := [.lit (.bool true)], args := [d1, d2] }
  | _ => none }
def sectionBackRow : OpenClaim := { program := "ytanacapkfllbnaagreatdoor", sum := "f58aac45742d856026cd07277d13884c6af1e1b534fddad46267beca927b22e3", func := "ossuary/ossuarylaw13.SectionBack", spec := "sectionBack", unfollowed := true, recurses := true, named := ["math/bits.deBruijn64tab"], apart := false, laid := [("math/bits.deBruijn64tab", laid_math_bits_deBruijn64tab)] }
def SectionBackSaid : Prop := sectionBackRow.holds Tryz.pinned (OpenSpec.ofChange sectionBackSpec)

/-- ITS FALSE NEIGHBOUR: 'it returns false'. Refute it at one input. -/
def sectionBackWrong : ChangeSpec := { name := "sectionBack", fn := fun _ => fun
  | [d1, d2] => { results := [.lit (.bool false)], args := [d1, d2] }
  | _ => none }
def SectionBackWrongFalsely : Prop := sectionBackRow.holds Tryz.pinned (OpenSpec.ofChange sectionBackWrong)

/- THE SECOND FORM. 'bulk': how many values and letters a reading holds, each counted each time it is reached (what is shared counts as often as it is met; a slice's spare places count too). A statement '..UptoSaid' is the law's where the arguments, and the package variables that the reading takes, are together of bulk at most 1048576: NARROWER than '..Said'. Prove '..Said' where nothing that the law and all that it calls make is longer than what came in: it says more and counts as full. Else prove '..UptoSaid'. A law counts once. -/
mutual
def uptoBulk {H : Type} : DataW H → Nat
  | .lit (.string bytes) => bytes.length + 1
  | .lit _ => 1
  | .nil => 1
  | .ptr d => uptoBulk d + 1
  | .slice elems spare => uptoBulkAll elems + uptoBulkAll spare + 1
  | .agg parts => uptoBulkAll parts + 1
  | .iface _ d => uptoBulk d + 1
  | .map entries => uptoBulkEntries entries + 1
  | .held _ => 1
def uptoBulkAll {H : Type} : List (DataW H) → Nat
  | [] => 0
  | d :: r => uptoBulk d + uptoBulkAll r
def uptoBulkEntries {H : Type} : List (Lit × DataW H) → Nat
  | [] => 0
  | x :: r => uptoBulkEntry x + uptoBulkEntries r
def uptoBulkEntry {H : Type} : Lit × DataW H → Nat
  | (.string bytes, d) => bytes.length + uptoBulk d + 1
  | (_, d) => uptoBulk d + 1
 end
def uptoSmall : (H : Type) → List (DataW H) → Bool := fun _ ds => decide (uptoBulkAll ds ≤ 1048576)
def OpenSpec.upto (s : _root_.Go.ChangeSpec) : _root_.Go.OpenSpec := { _root_.Go.OpenSpec.ofChange s with cond := some uptoSmall }

/-- 'ossuarylaw13.SectionPrefix', WHERE WHAT IT READS IS OF BULK AT MOST 1048576: true; the input reads as it did. -/
def sectionPrefixUptoRow : OpenClaim := { program := "ytanacapkfllbnaagreatdoor", sum := "f58aac45742d856026cd07277d13884c6af1e1b534fddad46267beca927b22e3", func := "ossuary/ossuarylaw13.SectionPrefix", spec := "sectionPrefix", unfollowed := true, recurses := true, named := ["math/bits.deBruijn64tab"], apart := false, laid := [("math/bits.deBruijn64tab", laid_math_bits_deBruijn64tab)], narrowed := true }
def SectionPrefixUptoSaid : Prop := sectionPrefixUptoRow.holds Tryz.pinned (OpenSpec.upto sectionPrefixSpec)

/-- 'ossuarylaw13.SectionOf', WHERE WHAT IT READS IS OF BULK AT MOST 1048576: true; the input reads as it did. -/
def sectionOfUptoRow : OpenClaim := { program := "ytanacapkfllbnaagreatdoor", sum := "f58aac45742d856026cd07277d13884c6af1e1b534fddad46267beca927b22e3", func := "ossuary/ossuarylaw13.SectionOf", spec := "sectionOf", unfollowed := true, recurses := true, named := ["math/bits.deBruijn64tab"], apart := false, laid := [("math/bits.deBruijn64tab", laid_math_bits_deBruijn64tab)], narrowed := true }
def SectionOfUptoSaid : Prop := sectionOfUptoRow.holds Tryz.pinned (OpenSpec.upto sectionOfSpec)

/-- 'ossuarylaw13.SectionReads', WHERE WHAT IT READS IS OF BULK AT MOST 1048576: true; the input reads as it did. -/
def sectionReadsUptoRow : OpenClaim := { program := "ytanacapkfllbnaagreatdoor", sum := "f58aac45742d856026cd07277d13884c6af1e1b534fddad46267beca927b22e3", func := "ossuary/ossuarylaw13.SectionReads", spec := "sectionReads", unfollowed := true, recurses := true, named := ["math/bits.deBruijn64tab"], apart := false, laid := [("math/bits.deBruijn64tab", laid_math_bits_deBruijn64tab)], narrowed := true }
def SectionReadsUptoSaid : Prop := sectionReadsUptoRow.holds Tryz.pinned (OpenSpec.upto sectionReadsSpec)

/-- 'ossuarylaw13.SectionEnds', WHERE WHAT IT READS IS OF BULK AT MOST 1048576: true; the input reads as it did. -/
def sectionEndsUptoRow : OpenClaim := { program := "ytanacapkfllbnaagreatdoor", sum := "f58aac45742d856026cd07277d13884c6af1e1b534fddad46267beca927b22e3", func := "ossuary/ossuarylaw13.SectionEnds", spec := "sectionEnds", unfollowed := true, recurses := true, named := ["math/bits.deBruijn64tab"], apart := false, laid := [("math/bits.deBruijn64tab", laid_math_bits_deBruijn64tab)], narrowed := true }
def SectionEndsUptoSaid : Prop := sectionEndsUptoRow.holds Tryz.pinned (OpenSpec.upto sectionEndsSpec)

/-- 'ossuarylaw13.SectionBack', WHERE WHAT IT READS IS OF BULK AT MOST 1048576: true; the input reads as it did. -/
def sectionBackUptoRow : OpenClaim := { program := "ytanacapkfllbnaagreatdoor", sum := "f58aac45742d856026cd07277d13884c6af1e1b534fddad46267beca927b22e3", func := "ossuary/ossuarylaw13.SectionBack", spec := "sectionBack", unfollowed := true, recurses := true, named := ["math/bits.deBruijn64tab"], apart := false, laid := [("math/bits.deBruijn64tab", laid_math_bits_deBruijn64tab)], narrowed := true }
def SectionBackUptoSaid : Prop := sectionBackUptoRow.holds Tryz.pinned (OpenSpec.upto sectionBackSpec)

end Rows
end Go.Proofs.YtanacapkfllbnaaGreatDoor
