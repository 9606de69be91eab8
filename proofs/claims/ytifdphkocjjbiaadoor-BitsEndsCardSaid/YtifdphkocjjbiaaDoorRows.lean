/-
  NARROWER THAN 'FOR EVERY INPUT', by the rows' own cells (each row's printed sentence says how): BitsRanks: laid · BitsRead: laid · BitsDo: laid · BitsEnds: laid · BitsBytes: laid.
  DERIVED. THE GIVEN ROWS OF THIS SEAT. 5 by the template 'for every input the law returns true; each argument reads behind the call as it read before'; 0 by the template 'total and deterministic' (their statements: YtifdphkocjjbiaaDoorTotals.lean).
  GIVEN WITH THE SEED: the statements are not yours to turn. If you find one false, say at which input.
  Laid BY PROGRAM, IN A SANDBOX (cutbox-rows.mjs): the forced cells as the released guide's own fill.sh prints them over the translation e11d90489d650f8b… (all of the seat's roots in one cut). By AI agents, Wed Nov 11 2026. No macro, syntax, notation, axiom, sorry.
-/
import Derived.Test.YtifdphkocjjbiaaDoorChecked
import GoSem.Claim
import GoSem.ClaimJoined
import GoSem.ClaimMapViews
import Derived.JoinedTies
import Derived.KernelRfl
namespace Go.Proofs.YtifdphkocjjbiaaDoor
/- THE CELL 'sum', in the pinned program and in every row, IS THE sha256 OF THE DUMP (.gsa) THAT YtifdphkocjjbiaaDoorProg.lean LOADS. Nothing in Lean hashes anything: it is a label: what it is worth is what the hold of that sum in a sandbox is worth. -/
noncomputable def Tryd.pinned : Pinned := { name := "ytifdphkocjjbiaadoor", sum := "e11d90489d650f8b0b3b323c15d59a00c3a1c98a1725153d80709738b404c34f", checked := Tryd.checked }
namespace Rows
def none {H : Type} : Left H := { results := [], args := [] }

/- WHAT THE LISTED PACKAGE-LEVEL VARIABLES READ AS WHEN THE CALL BEGINS. Each datum BY PROGRAM (the guide's laid-datum.mjs) off the statement by which the dump's own 'gosem.cut.vars' lays the variable. In a bare row this is a premise. The card (YtifdphkocjjbiaaDoorCards.lean) ties it to the program's text. -/
def laid_math_bits_deBruijn64tab {H : Type} : DataW H := .agg [.lit (.int .u8 0), .lit (.int .u8 1), .lit (.int .u8 56), .lit (.int .u8 2), .lit (.int .u8 57), .lit (.int .u8 49), .lit (.int .u8 28), .lit (.int .u8 3), .lit (.int .u8 61), .lit (.int .u8 58), .lit (.int .u8 42), .lit (.int .u8 50), .lit (.int .u8 38), .lit (.int .u8 29), .lit (.int .u8 17), .lit (.int .u8 4), .lit (.int .u8 62), .lit (.int .u8 47), .lit (.int .u8 59), .lit (.int .u8 36), .lit (.int .u8 45), .lit (.int .u8 43), .lit (.int .u8 51), .lit (.int .u8 22), .lit (.int .u8 53), .lit (.int .u8 39), .lit (.int .u8 33), .lit (.int .u8 30), .lit (.int .u8 24), .lit (.int .u8 18), .lit (.int .u8 12), .lit (.int .u8 5), .lit (.int .u8 63), .lit (.int .u8 55), .lit (.int .u8 48), .lit (.int .u8 27), .lit (.int .u8 60), .lit (.int .u8 41), .lit (.int .u8 37), .lit (.int .u8 16), .lit (.int .u8 46), .lit (.int .u8 35), .lit (.int .u8 44), .lit (.int .u8 21), .lit (.int .u8 52), .lit (.int .u8 32), .lit (.int .u8 23), .lit (.int .u8 11), .lit (.int .u8 54), .lit (.int .u8 26), .lit (.int .u8 40), .lit (.int .u8 15), .lit (.int .u8 34), .lit (.int .u8 20), .lit (.int .u8 31), .lit (.int .u8 10), .lit (.int .u8 25), .lit (.int .u8 14), .lit (.int .u8 19), .lit (.int .u8 9), .lit (.int .u8 13), .lit (.int .u8 8), .lit (.int .u8 7), .lit (.int .u8 6)]

/-- 'ossuarylaw01.BitsRanks': WHATEVER THE INPUT: true; the input reads as it did. -/
def bitsRanksSpec : ChangeSpec := { name := "bitsRanks", fn := fun _ => fun
  | [d] => { results := [.lit (.bool true)], args := [d] }
  | _ => none }
def bitsRanksRow : OpenClaim := { program := "ytifdphkocjjbiaadoor", sum := "e11d90489d650f8b0b3b323c15d59a00c3a1c98a1725153d80709738b404c34f", func := "ossuary/ossuarylaw01.BitsRanks", spec := "bitsRanks", unfollowed := true, recurses := true, named := ["math/bits.deBruijn64tab"], apart := false, laid := [("math/bits.deBruijn64tab", laid_math_bits_deBruijn64tab)] }
def BitsRanksSaid : Prop := bitsRanksRow.holds Tryd.pinned (OpenSpec.ofChange bitsRanksSpec)

/-- ITS FALSE NEIGHBOUR: 'it returns false'. Refute it at one input. -/
def bitsRanksWrong : ChangeSpec := { name := "bitsRanks", fn := fun _ => fun
  | [d] => { results := [.lit (.bool false)], args := [d] }
  | _ => none }
def BitsRanksWrongFalsely : Prop := bitsRanksRow.holds Tryd.pinned (OpenSpec.ofChange bitsRanksWrong)

/-- 'ossuarylaw01.BitsRead': WHATEVER THE INPUT: true; the input reads as it did. -/
def bitsReadSpec : ChangeSpec := { name := "bitsRead", fn := fun _ => fun
  | [d1, d2, d3] => { results := [.lit (.bool true)], args := [d1, d2, d3] }
  | _ => none }
def bitsReadRow : OpenClaim := { program := "ytifdphkocjjbiaadoor", sum := "e11d90489d650f8b0b3b323c15d59a00c3a1c98a1725153d80709738b404c34f", func := "ossuary/ossuarylaw01.BitsRead", spec := "bitsRead", unfollowed := true, recurses := true, named := ["math/bits.deBruijn64tab"], apart := false, laid := [("math/bits.deBruijn64tab", laid_math_bits_deBruijn64tab)] }
def BitsReadSaid : Prop := bitsReadRow.holds Tryd.pinned (OpenSpec.ofChange bitsReadSpec)

/-- ITS FALSE NEIGHBOUR: 'it returns false'. Refute it at one input. -/
def bitsReadWrong : ChangeSpec := { name := "bitsRead", fn := fun _ => fun
  | [d1, d2, d3] => { results := [.lit (.bool false)], args := [d1, d2, d3] }
  | _ => none }
def BitsReadWrongFalsely : Prop := bitsReadRow.holds Tryd.pinned (OpenSpec.ofChange bitsReadWrong)

/-- 'ossuarylaw01.BitsDo': WHATEVER THE INPUT: true; the input reads as it did. -/
def bitsDoSpec : ChangeSpec := { name := "bitsDo", fn := fun _ => fun
  | [d1, d2, d3] => { results := [.lit (.bool true)], args := [d1, d2, d3] }
  | _ => none }
def bitsDoRow : OpenClaim := { program := "ytifdphkocjjbiaadoor", sum := "e11d90489d650f8b0b3b323c15d59a00c3a1c98a1725153d80709738b404c34f", func := "ossuary/ossuarylaw01.BitsDo", spec := "bitsDo", unfollowed := true, recurses := true, named := ["math/bits.deBruijn64tab"], apart := false, laid := [("math/bits.deBruijn64tab", laid_math_bits_deBruijn64tab)] }
def BitsDoSaid : Prop := bitsDoRow.holds Tryd.pinned (OpenSpec.ofChange bitsDoSpec)

/-- ITS FALSE NEIGHBOUR: 'it returns false'. Refute it at one input. -/
def bitsDoWrong : ChangeSpec := { name := "bitsDo", fn := fun _ => fun
  | [d1, d2, d3] => { results := [.lit (.bool false)], args := [d1, d2, d3] }
  | _ => none }
def BitsDoWrongFalsely : Prop := bitsDoRow.holds Tryd.pinned (OpenSpec.ofChange bitsDoWrong)

/-- 'ossuarylaw01.BitsEnds': WHATEVER THE INPUT: true; the input reads as it did. -/
def bitsEndsSpec : ChangeSpec := { name := "bitsEnds", fn := fun _ => fun
  | [] => { results := [.lit (.bool true)], args := [] }
  | _ => none }
def bitsEndsRow : OpenClaim := { program := "ytifdphkocjjbiaadoor", sum := "e11d90489d650f8b0b3b323c15d59a00c3a1c98a1725153d80709738b404c34f", func := "ossuary/ossuarylaw01.BitsEnds", spec := "bitsEnds", unfollowed := true, recurses := true, named := ["math/bits.deBruijn64tab"], apart := false, laid := [("math/bits.deBruijn64tab", laid_math_bits_deBruijn64tab)] }
def BitsEndsSaid : Prop := bitsEndsRow.holds Tryd.pinned (OpenSpec.ofChange bitsEndsSpec)

/-- ITS FALSE NEIGHBOUR: 'it returns false'. Refute it at one input. -/
def bitsEndsWrong : ChangeSpec := { name := "bitsEnds", fn := fun _ => fun
  | [] => { results := [.lit (.bool false)], args := [] }
  | _ => none }
def BitsEndsWrongFalsely : Prop := bitsEndsRow.holds Tryd.pinned (OpenSpec.ofChange bitsEndsWrong)

/-- 'ossuarylaw01.BitsBytes': WHATEVER THE INPUT: true; the input reads as it did. -/
def bitsBytesSpec : ChangeSpec := { name := "bitsBytes", fn := fun _ => fun
  | [d1, d2, d3, d4] => { results := [.lit (.bool true)], args := [d1, d2, d3, d4] }
  | _ => none }
def bitsBytesRow : OpenClaim := { program := "ytifdphkocjjbiaadoor", sum := "e11d90489d650f8b0b3b323c15d59a00c3a1c98a1725153d80709738b404c34f", func := "ossuary/ossuarylaw01.BitsBytes", spec := "bitsBytes", unfollowed := true, recurses := true, named := ["math/bits.deBruijn64tab"], apart := false, laid := [("math/bits.deBruijn64tab", laid_math_bits_deBruijn64tab)] }
def BitsBytesSaid : Prop := bitsBytesRow.holds Tryd.pinned (OpenSpec.ofChange bitsBytesSpec)

/-- ITS FALSE NEIGHBOUR: 'it returns false'. Refute it at one input. -/
def bitsBytesWrong : ChangeSpec := { name := "bitsBytes", fn := fun _ => fun
  | [d1, d2, d3, d4] => { results := [.lit (.bool false)], args := [d1, d2, d3, d4] }
  | _ => none }
def BitsBytesWrongFalsely : Prop := bitsBytesRow.holds Tryd.pinned (OpenSpec.ofChange bitsBytesWrong)

/- THE SECOND FORM. 'bulk': how many values and letters a reading holds, each counted each time it is reached (what is shared counts as often as it is met; a slice's spare places count too). A statement '..UptoSaid' is the law's where the arguments, and the package variables that the reading takes, are together of bulk at most 1048576: NARROWER than '..Said'. Prove '..Said' where nothing that the law and all that it calls make is longer than what came in: it says more and counts as full. Else prove '..UptoSaid'. A law counts once. -/
mutual
def uptoBulk {H : Type} : DataW H → Nat
  | .lit (.string bytes) => bytes.length + 1
  | .lit _ => 1
  | .nil => 1
  | .ptr d => uptoBulk d + 1
  | .slice elems spare => uptoBulkAll elems + uptoBulkAll spare + 1
  | .agg parts => uptoBulkAll parts + 1
  | .iface _ d => uptoBulk d + 1
  | .map entries => uptoBulkEntries entries + 1
  | .held _ => 1
def uptoBulkAll {H : Type} : List (DataW H) → Nat
  | [] => 0
  | d :: r => uptoBulk d + uptoBulkAll r
def uptoBulkEntries {H : Type} : List (Lit × DataW H) → Nat
  | [] => 0
  | x :: r => uptoBulkEntry x + uptoBulkEntries r
def uptoBulkEntry {H : Type} : Lit × DataW H → Nat
  | (.string bytes, d) => bytes.length + uptoBulk d + 1
  | (_, d) => uptoBulk d + 1
 end
def uptoSmall : (H : Type) → List (DataW H) → Bool := fun _ ds => decide (uptoBulkAll ds ≤ 1048576)
def OpenSpec.upto (s : _root_.Go.ChangeSpec) : _root_.Go.OpenSpec := { _root_.Go.OpenSpec.ofChange s with cond := some uptoSmall }

/-- 'ossuarylaw01.BitsRanks', WHERE WHAT IT READS IS OF BULK AT MOST 1048576: true; the input reads as it did. -/
def bitsRanksUptoRow : OpenClaim := { program := "ytifdphkocjjbiaadoor", sum := "e11d90489d650f8b0b3b323c15d59a00c3a1c98a1725153d80709738b404c34f", func := "ossuary/ossuarylaw01.BitsRanks", spec := "bitsRanks", unfollowed := true, recurses := true, named := ["math/bits.deBruijn64tab"], apart := false, laid := [("math/bits.deBruijn64tab", laid_math_bits_deBruijn64tab)], narrowed := true }
def BitsRanksUptoSaid : Prop := bitsRanksUptoRow.holds Tryd.pinned (OpenSpec.upto bitsRanksSpec)

/-- 'ossuarylaw01.BitsRead', WHERE WHAT IT READS IS OF BULK AT MOST 1048576: true; the input reads as it did. -/
def bitsReadUptoRow : OpenClaim := { program := "ytifdphkocjjbiaadoor", sum := "e11d90489d650f8b0b3b323c15d59a00c3a1c98a1725153d80709738b404c34f", func := "ossuary/ossuarylaw01.BitsRead", spec := "bitsRead", unfollowed := true, recurses := true, named := ["math/bits.deBruijn64tab"], apart := false, laid := [("math/bits.deBruijn64tab", laid_math_bits_deBruijn64tab)], narrowed := true }
def BitsReadUptoSaid : Prop := bitsReadUptoRow.holds Tryd.pinned (OpenSpec.upto bitsReadSpec)

/-- 'ossuarylaw01.BitsDo', WHERE WHAT IT READS IS OF BULK AT MOST 1048576: true; the input reads as it did. -/
def bitsDoUptoRow : OpenClaim := { program := "ytifdphkocjjbiaadoor", sum := "e11d90489d650f8b0b3b323c15d59a00c3a1c98a1725153d80709738b404c34f", func := "ossuary/ossuarylaw01.BitsDo", spec := "bitsDo", unfollowed := true, recurses := true, named := ["math/bits.deBruijn64tab"], apart := false, laid := [("math/bits.deBruijn64tab", laid_math_bits_deBruijn64tab)], narrowed := true }
def BitsDoUptoSaid : Prop := bitsDoUptoRow.holds Tryd.pinned (OpenSpec.upto bitsDoSpec)

/-- 'ossuarylaw01.BitsEnds', WHERE WHAT IT READS IS OF BULK AT MOST 1048576: true; the input reads as it did. -/
def bitsEndsUptoRow : OpenClaim := { program := "ytifdphkocjjbiaadoor", sum := "e11d90489d650f8b0b3b323c15d59a00c3a1c98a1725153d80709738b404c34f", func := "ossuary/ossuarylaw01.BitsEnds", spec := "bitsEnds", unfollowed := true, recurses := true, named := ["math/bits.deBruijn64tab"], apart := false, laid := [("math/bits.deBruijn64tab", laid_math_bits_deBruijn64tab)], narrowed := true }
def BitsEndsUptoSaid : Prop := bitsEndsUptoRow.holds Tryd.pinned (OpenSpec.upto bitsEndsSpec)

/-- 'ossuarylaw01.BitsBytes', WHERE WHAT IT READS IS OF BULK AT MOST 1048576: true; the input reads as it did. -/
def bitsBytesUptoRow : OpenClaim := { program := "ytifdphkocjjbiaadoor", sum := "e11d90489d650f8b0b3b323c15d59a00c3a1c98a1725153d80709738b404c34f", func := "ossuary/ossuarylaw01.BitsBytes", spec := "bitsBytes", unfollowed := true, recurses := true, named := ["math/bits.deBruijn64tab"], apart := false, laid := [("math/bits.deBruijn64tab", laid_math_bits_deBruijn64tab)], narrowed := true }
def BitsBytesUptoSaid : Prop := bitsBytesUptoRow.holds Tryd.pinned (OpenSpec.upto bitsBytesSpec)

end Rows
end Go.Proofs.YtifdphkocjjbiaaDoor
