/-
  No cell of these rows narrows 'for every input' (looked for: loops, veiled, ifaces, maps, wideKeys, modest, calm, conditions, laid).
  DERIVED. THE GIVEN ROWS OF THIS SEAT. 6 by the template 'for every input the law returns true; each argument reads behind the call as it read before'; 0 by the template 'total and deterministic' (their statements: YtkjnkepdhbpnbaaTotals.lean).
  GIVEN WITH THE SEED: the statements are not yours to turn. If you find one false, say at which input.
  Laid BY PROGRAM, IN A SANDBOX (cutbox-rows.mjs): the forced cells as the released guide's own fill.sh prints them over the translation 5b7563776bb0f8c6… (all of the seat's roots in one cut). By AI agents, Wed Nov 11 2026. No macro, syntax, notation, axiom, sorry.
-/
import Derived.Test.YtkjnkepdhbpnbaaChecked
import GoSem.Claim
import GoSem.ClaimJoined
import GoSem.ClaimMapViews
import Derived.JoinedTies
import Derived.KernelRfl
namespace Go.Proofs.Ytkjnkepdhbpnbaa
/- THE CELL 'sum', in the pinned program and in every row, IS THE sha256 OF THE DUMP (.gsa) THAT YtkjnkepdhbpnbaaProg.lean LOADS. Nothing in Lean hashes anything: it is a label: what it is worth is what the hold of that sum in a sandbox is worth. -/
noncomputable def Try.pinned : Pinned := { name := "ytkjnkepdhbpnbaa", sum := "5b7563776bb0f8c6f9af0f1e71d531689ba946fc7f7540123387f5ef4741ee98", checked := Try.checked }
namespace Rows
def none {H : Type} : Left H := { results := [], args := [] }

/-- 'foolscaplaw25.UndoBound': WHATEVER THE INPUT: true; the input reads as it did. -/
def undoBoundSpec : ChangeSpec := { name := "undoBound", fn := fun _ => fun
  | [d1, d2, d3] => { results := [.lit (.bool true)], args := [d1, d2, d3] }
  | _ => none }
def undoBoundRow : OpenClaim := { program := "ytkjnkepdhbpnbaa", sum := "5b7563776bb0f8c6f9af0f1e71d531689ba946fc7f7540123387f5ef4741ee98", func := "foolscap/foolscaplaw25.UndoBound", spec := "undoBound", apart := false }
def UndoBoundSaid : Prop := undoBoundRow.holds Try.pinned (OpenSpec.ofChange undoBoundSpec)

/-- ITS FALSE NEIGHBOUR: 'it returns false'. Refute it at one input. -/
def undoBoundWrong : ChangeSpec := { name := "undoBound", fn := fun _ => fun
  | [d1, d2, d3] => { results := [.lit (.bool false)], args := [d1, d2, d3] }
  | _ => none }
def UndoBoundWrongFalsely : Prop := undoBoundRow.holds Try.pinned (OpenSpec.ofChange undoBoundWrong)

/-- 'foolscaplaw25.UndoAll': WHATEVER THE INPUT: true; the input reads as it did. -/
def undoAllSpec : ChangeSpec := { name := "undoAll", fn := fun _ => fun
  | [d1, d2] => { results := [.lit (.bool true)], args := [d1, d2] }
  | _ => none }
def undoAllRow : OpenClaim := { program := "ytkjnkepdhbpnbaa", sum := "5b7563776bb0f8c6f9af0f1e71d531689ba946fc7f7540123387f5ef4741ee98", func := "foolscap/foolscaplaw25.UndoAll", spec := "undoAll", apart := false }
def UndoAllSaid : Prop := undoAllRow.holds Try.pinned (OpenSpec.ofChange undoAllSpec)

/-- ITS FALSE NEIGHBOUR: 'it returns false'. Refute it at one input. -/
def undoAllWrong : ChangeSpec := { name := "undoAll", fn := fun _ => fun
  | [d1, d2] => { results := [.lit (.bool false)], args := [d1, d2] }
  | _ => none }
def UndoAllWrongFalsely : Prop := undoAllRow.holds Try.pinned (OpenSpec.ofChange undoAllWrong)

/-- 'foolscaplaw25.UndoPlays': WHATEVER THE INPUT: true; the input reads as it did. -/
def undoPlaysSpec : ChangeSpec := { name := "undoPlays", fn := fun _ => fun
  | [d1, d2] => { results := [.lit (.bool true)], args := [d1, d2] }
  | _ => none }
def undoPlaysRow : OpenClaim := { program := "ytkjnkepdhbpnbaa", sum := "5b7563776bb0f8c6f9af0f1e71d531689ba946fc7f7540123387f5ef4741ee98", func := "foolscap/foolscaplaw25.UndoPlays", spec := "undoPlays", unfollowed := true, recurses := true, apart := false }
def UndoPlaysSaid : Prop := undoPlaysRow.holds Try.pinned (OpenSpec.ofChange undoPlaysSpec)

/-- ITS FALSE NEIGHBOUR: 'it returns false'. Refute it at one input. -/
def undoPlaysWrong : ChangeSpec := { name := "undoPlays", fn := fun _ => fun
  | [d1, d2] => { results := [.lit (.bool false)], args := [d1, d2] }
  | _ => none }
def UndoPlaysWrongFalsely : Prop := undoPlaysRow.holds Try.pinned (OpenSpec.ofChange undoPlaysWrong)

/-- 'foolscaplaw25.UndoBoth': WHATEVER THE INPUT: true; the input reads as it did. -/
def undoBothSpec : ChangeSpec := { name := "undoBoth", fn := fun _ => fun
  | [d1, d2, d3] => { results := [.lit (.bool true)], args := [d1, d2, d3] }
  | _ => none }
def undoBothRow : OpenClaim := { program := "ytkjnkepdhbpnbaa", sum := "5b7563776bb0f8c6f9af0f1e71d531689ba946fc7f7540123387f5ef4741ee98", func := "foolscap/foolscaplaw25.UndoBoth", spec := "undoBoth", unfollowed := true, recurses := true, apart := false }
def UndoBothSaid : Prop := undoBothRow.holds Try.pinned (OpenSpec.ofChange undoBothSpec)

/-- ITS FALSE NEIGHBOUR: 'it returns false'. Refute it at one input. -/
def undoBothWrong : ChangeSpec := { name := "undoBoth", fn := fun _ => fun
  | [d1, d2, d3] => { results := [.lit (.bool false)], args := [d1, d2, d3] }
  | _ => none }
def UndoBothWrongFalsely : Prop := undoBothRow.holds Try.pinned (OpenSpec.ofChange undoBothWrong)

/-- 'foolscaplaw25.UndoMarks': WHATEVER THE INPUT: true; the input reads as it did. -/
def undoMarksSpec : ChangeSpec := { name := "undoMarks", fn := fun _ => fun
  | [d1, d2, d3, d4, d5] => { results := [.lit (.bool true)], args := [d1, d2, d3, d4, d5] }
  | _ => none }
def undoMarksRow : OpenClaim := { program := "ytkjnkepdhbpnbaa", sum := "5b7563776bb0f8c6f9af0f1e71d531689ba946fc7f7540123387f5ef4741ee98", func := "foolscap/foolscaplaw25.UndoMarks", spec := "undoMarks", unfollowed := true, recurses := true, apart := false }
def UndoMarksSaid : Prop := undoMarksRow.holds Try.pinned (OpenSpec.ofChange undoMarksSpec)

/-- ITS FALSE NEIGHBOUR: 'it returns false'. Refute it at one input. -/
def undoMarksWrong : ChangeSpec := { name := "undoMarks", fn := fun _ => fun
  | [d1, d2, d3, d4, d5] => { results := [.lit (.bool false)], args := [d1, d2, d3, d4, d5] }
  | _ => none }
def UndoMarksWrongFalsely : Prop := undoMarksRow.holds Try.pinned (OpenSpec.ofChange undoMarksWrong)

/-- 'foolscaplaw25.UndoNil': WHATEVER THE INPUT: true; the input reads as it did. -/
def undoNilSpec : ChangeSpec := { name := "undoNil", fn := fun _ => fun
  | [d1, d2, d3] => { results := [.lit (.bool true)], args := [d1, d2, d3] }
  | _ => none }
def undoNilRow : OpenClaim := { program := "ytkjnkepdhbpnbaa", sum := "5b7563776bb0f8c6f9af0f1e71d531689ba946fc7f7540123387f5ef4741ee98", func := "foolscap/foolscaplaw25.UndoNil", spec := "undoNil", unfollowed := true, recurses := true, apart := false }
def UndoNilSaid : Prop := undoNilRow.holds Try.pinned (OpenSpec.ofChange undoNilSpec)

/-- ITS FALSE NEIGHBOUR: 'it returns false'. Refute it at one input. -/
def undoNilWrong : ChangeSpec := { name := "undoNil", fn := fun _ => fun
  | [d1, d2, d3] => { results := [.lit (.bool false)], args := [d1, d2, d3] }
  | _ => none }
def UndoNilWrongFalsely : Prop := undoNilRow.holds Try.pinned (OpenSpec.ofChange undoNilWrong)

/- THE SECOND FORM. 'bulk': how many values and letters a reading holds, each counted each time it is reached (what is shared counts as often as it is met; a slice's spare places count too). A statement '..UptoSaid' is the law's where the arguments, and the package variables that the reading takes, are together of bulk at most 1048576: NARROWER than '..Said'. Prove '..Said' where nothing that the law and all that it calls make is longer than what came in: it says more and counts as full. Else prove '..UptoSaid'. A law counts once. -/
mutual
def uptoBulk {H : Type} : DataW H → Nat
  | .lit (.string bytes) => bytes.length + 1
  | .lit _ => 1
  | .nil => 1
  | .ptr d => uptoBulk d + 1
  | .slice elems spare => uptoBulkAll elems + uptoBulkAll spare + 1
  | .agg parts => uptoBulkAll parts + 1
  | .iface _ d => uptoBulk d + 1
  | .map entries => uptoBulkEntries entries + 1
  | .held _ => 1
def uptoBulkAll {H : Type} : List (DataW H) → Nat
  | [] => 0
  | d :: r => uptoBulk d + uptoBulkAll r
def uptoBulkEntries {H : Type} : List (Lit × DataW H) → Nat
  | [] => 0
  | x :: r => uptoBulkEntry x + uptoBulkEntries r
def uptoBulkEntry {H : Type} : Lit × DataW H → Nat
  | (.string bytes, d) => bytes.length + uptoBulk d + 1
  | (_, d) => uptoBulk d + 1
 end
def uptoSmall : (H : Type) → List (DataW H) → Bool := fun _ ds => decide (uptoBulkAll ds ≤ 1048576)
def OpenSpec.upto (s : _root_.Go.ChangeSpec) : _root_.Go.OpenSpec := { _root_.Go.OpenSpec.ofChange s with cond := some uptoSmall }

/-- 'foolscaplaw25.UndoBound', WHERE WHAT IT READS IS OF BULK AT MOST 1048576: true; the input reads as it did. -/
def undoBoundUptoRow : OpenClaim := { program := "ytkjnkepdhbpnbaa", sum := "5b7563776bb0f8c6f9af0f1e71d531689ba946fc7f7540123387f5ef4741ee98", func := "foolscap/foolscaplaw25.UndoBound", spec := "undoBound", apart := false, narrowed := true }
def UndoBoundUptoSaid : Prop := undoBoundUptoRow.holds Try.pinned (OpenSpec.upto undoBoundSpec)

/-- 'foolscaplaw25.UndoAll', WHERE WHAT IT READS IS OF BULK AT MOST 1048576: true; the input reads as it did. -/
def undoAllUptoRow : OpenClaim := { program := "ytkjnkepdhbpnbaa", sum := "5b7563776bb0f8c6f9af0f1e71d531689ba946fc7f7540123387f5ef4741ee98", func := "foolscap/foolscaplaw25.UndoAll", spec := "undoAll", apart := false, narrowed := true }
def UndoAllUptoSaid : Prop := undoAllUptoRow.holds Try.pinned (OpenSpec.upto undoAllSpec)

/-- 'foolscaplaw25.UndoPlays', WHERE WHAT IT READS IS OF BULK AT MOST 1048576: true; the input reads as it did. -/
def undoPlaysUptoRow : OpenClaim := { program := "ytkjnkepdhbpnbaa", sum := "5b7563776bb0f8c6f9af0f1e71d531689ba946fc7f7540123387f5ef4741ee98", func := "foolscap/foolscaplaw25.UndoPlays", spec := "undoPlays", unfollowed := true, recurses := true, apart := false, narrowed := true }
def UndoPlaysUptoSaid : Prop := undoPlaysUptoRow.holds Try.pinned (OpenSpec.upto undoPlaysSpec)

/-- 'foolscaplaw25.UndoBoth', WHERE WHAT IT READS IS OF BULK AT MOST 1048576: true; the input reads as it did. -/
def undoBothUptoRow : OpenClaim := { program := "ytkjnkepdhbpnbaa", sum := "5b7563776bb0f8c6f9af0f1e71d531689ba946fc7f7540123387f5ef4741ee98", func := "foolscap/foolscaplaw25.UndoBoth", spec := "undoBoth", unfollowed := true, recurses := true, apart := false, narrowed := true }
def UndoBothUptoSaid : Prop := undoBothUptoRow.holds Try.pinned (OpenSpec.upto undoBothSpec)

/-- 'foolscaplaw25.UndoMarks', WHERE WHAT IT READS IS OF BULK AT MOST 1048576: true; the input reads as it did. -/
def undoMarksUptoRow : OpenClaim := { program := "ytkjnkepdhbpnbaa", sum := "5b7563776bb0f8c6f9af0f1e71d531689ba946fc7f7540123387f5ef4741ee98", func := "foolscap/foolscaplaw25.UndoMarks", spec := "undoMarks", unfollowed := true, recurses := true, apart := false, narrowed := true }
def UndoMarksUptoSaid : Prop := undoMarksUptoRow.holds Try.pinned (OpenSpec.upto undoMarksSpec)

/-- 'foolscaplaw25.UndoNil', WHERE WHAT IT READS IS OF BULK AT MOST 1048576: true; the input reads as it did. -/
def undoNilUptoRow : OpenClaim := { program := "ytkjnkepdhbpnbaa", sum := "5b7563776bb0f8c6f9af0f1e71d531689ba946fc7f7540123387f5ef4741ee98", func := "foolscap/foolscaplaw25.UndoNil", spec := "undoNil", unfollowed := true, recurses := true, apart := false, narrowed := true }
def UndoNilUptoSaid : Prop := undoNilUptoRow.holds Try.pinned (OpenSpec.upto undoNilSpec)

end Rows
end Go.Proofs.Ytkjnkepdhbpnbaa
