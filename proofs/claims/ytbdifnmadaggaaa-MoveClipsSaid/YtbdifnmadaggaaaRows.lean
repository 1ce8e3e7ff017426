/-
  No cell of these rows narrows 'for every input' (looked for: loops, veiled, ifaces, maps, wideKeys, modest, calm, conditions, laid).
  DERIVED. THE GIVEN ROWS OF THIS SEAT. 7 by the template 'for every input the law returns true; each argument reads behind the call as it read before'; 0 by the template 'total and deterministic' (their statements: YtbdifnmadaggaaaTotals.lean).
  GIVEN WITH THE SEED: the statements are not yours to turn. If you find one false, say at which input.
  Laid BY PROGRAM, IN A SANDBOX (cutbox-rows.mjs): the forced cells as the released guide's own fill.sh prints them over the translation 32fa6a397b518287… (all of the seat's roots in one cut). By AI agents, Wed Nov 11 2026. No macro, syntax, notation, axiom, sorry.
-/
import Derived.Test.YtbdifnmadaggaaaChecked
import GoSem.Claim
import GoSem.ClaimJoined
import GoSem.ClaimMapViews
import Derived.JoinedTies
import Derived.KernelRfl
namespace Go.Proofs.Ytbdifnmadaggaaa
/- THE CELL 'sum', in the pinned program and in every row, IS THE sha256 OF THE DUMP (.gsa) THAT YtbdifnmadaggaaaProg.lean LOADS. Nothing in Lean hashes anything: it is a label: what it is worth is what the hold of that sum in a sandbox is worth. -/
noncomputable def Try.pinned : Pinned := { name := "ytbdifnmadaggaaa", sum := "32fa6a397b5182879862734f230da9305f83a073054b9682a6cd2bc65a7504bc", checked := Try.checked }
namespace Rows
def none {H : Type} : Left H := { results := [], args := [] }

/-- 'foolscaplaw06.MoveSpots': WHATEVER THE INPUT: true; the input reads as it did. -/
def moveSpotsSpec : ChangeSpec := { name := "moveSpots", fn := fun _ => fun
  | [d1, d2] => { results := [.lit (.bool true)], args := [d1, d2] }
  | _ => none }
def moveSpotsRow : OpenClaim := { program := "ytbdifnmadaggaaa", sum := "32fa6a397b5182879862734f230da9305f83a073054b9682a6cd2bc65a7504bc", func := "foolscap/foolscaplaw06.MoveSpots", spec := "moveSpots", unfollowed := true, recurses := true, apart := false }
def MoveSpotsSaid : Prop := moveSpotsRow.holds Try.pinned (OpenSpec.ofChange moveSpotsSpec)

/-- ITS FALSE NEIGHBOUR: 'it returns false'. Refute it at one input. -/
def moveSpotsWrong : ChangeSpec := { name := "moveSpots", fn := fun _ => fun
  | [d1, d2] => { results := [.lit (.bool false)], args := [d1, d2] }
  | _ => none }
def MoveSpotsWrongFalsely : Prop := moveSpotsRow.holds Try.pinned (OpenSpec.ofChange moveSpotsWrong)

/-- 'foolscaplaw06.MoveBack': WHATEVER THE INPUT: true; the input reads as it did. -/
def moveBackSpec : ChangeSpec := { name := "moveBack", fn := fun _ => fun
  | [d1, d2] => { results := [.lit (.bool true)], args := [d1, d2] }
  | _ => none }
def moveBackRow : OpenClaim := { program := "ytbdifnmadaggaaa", sum := "32fa6a397b5182879862734f230da9305f83a073054b9682a6cd2bc65a7504bc", func := "foolscap/foolscaplaw06.MoveBack", spec := "moveBack", unfollowed := true, recurses := true, apart := false }
def MoveBackSaid : Prop := moveBackRow.holds Try.pinned (OpenSpec.ofChange moveBackSpec)

/-- ITS FALSE NEIGHBOUR: 'it returns false'. Refute it at one input. -/
def moveBackWrong : ChangeSpec := { name := "moveBack", fn := fun _ => fun
  | [d1, d2] => { results := [.lit (.bool false)], args := [d1, d2] }
  | _ => none }
def MoveBackWrongFalsely : Prop := moveBackRow.holds Try.pinned (OpenSpec.ofChange moveBackWrong)

/-- 'foolscaplaw06.MoveOrder': WHATEVER THE INPUT: true; the input reads as it did. -/
def moveOrderSpec : ChangeSpec := { name := "moveOrder", fn := fun _ => fun
  | [d1, d2, d3] => { results := [.lit (.bool true)], args := [d1, d2, d3] }
  | _ => none }
def moveOrderRow : OpenClaim := { program := "ytbdifnmadaggaaa", sum := "32fa6a397b5182879862734f230da9305f83a073054b9682a6cd2bc65a7504bc", func := "foolscap/foolscaplaw06.MoveOrder", spec := "moveOrder", unfollowed := true, recurses := true, apart := false }
def MoveOrderSaid : Prop := moveOrderRow.holds Try.pinned (OpenSpec.ofChange moveOrderSpec)

/-- ITS FALSE NEIGHBOUR: 'it returns false'. Refute it at one input. -/
def moveOrderWrong : ChangeSpec := { name := "moveOrder", fn := fun _ => fun
  | [d1, d2, d3] => { results := [.lit (.bool false)], args := [d1, d2, d3] }
  | _ => none }
def MoveOrderWrongFalsely : Prop := moveOrderRow.holds Try.pinned (OpenSpec.ofChange moveOrderWrong)

/-- 'foolscaplaw06.MoveInside': WHATEVER THE INPUT: true; the input reads as it did. -/
def moveInsideSpec : ChangeSpec := { name := "moveInside", fn := fun _ => fun
  | [d1, d2, d3] => { results := [.lit (.bool true)], args := [d1, d2, d3] }
  | _ => none }
def moveInsideRow : OpenClaim := { program := "ytbdifnmadaggaaa", sum := "32fa6a397b5182879862734f230da9305f83a073054b9682a6cd2bc65a7504bc", func := "foolscap/foolscaplaw06.MoveInside", spec := "moveInside", unfollowed := true, recurses := true, apart := false }
def MoveInsideSaid : Prop := moveInsideRow.holds Try.pinned (OpenSpec.ofChange moveInsideSpec)

/-- ITS FALSE NEIGHBOUR: 'it returns false'. Refute it at one input. -/
def moveInsideWrong : ChangeSpec := { name := "moveInside", fn := fun _ => fun
  | [d1, d2, d3] => { results := [.lit (.bool false)], args := [d1, d2, d3] }
  | _ => none }
def MoveInsideWrongFalsely : Prop := moveInsideRow.holds Try.pinned (OpenSpec.ofChange moveInsideWrong)

/-- 'foolscaplaw06.MoveRects': WHATEVER THE INPUT: true; the input reads as it did. -/
def moveRectsSpec : ChangeSpec := { name := "moveRects", fn := fun _ => fun
  | [d1, d2] => { results := [.lit (.bool true)], args := [d1, d2] }
  | _ => none }
def moveRectsRow : OpenClaim := { program := "ytbdifnmadaggaaa", sum := "32fa6a397b5182879862734f230da9305f83a073054b9682a6cd2bc65a7504bc", func := "foolscap/foolscaplaw06.MoveRects", spec := "moveRects", unfollowed := true, recurses := true, apart := false }
def MoveRectsSaid : Prop := moveRectsRow.holds Try.pinned (OpenSpec.ofChange moveRectsSpec)

/-- ITS FALSE NEIGHBOUR: 'it returns false'. Refute it at one input. -/
def moveRectsWrong : ChangeSpec := { name := "moveRects", fn := fun _ => fun
  | [d1, d2] => { results := [.lit (.bool false)], args := [d1, d2] }
  | _ => none }
def MoveRectsWrongFalsely : Prop := moveRectsRow.holds Try.pinned (OpenSpec.ofChange moveRectsWrong)

/-- 'foolscaplaw06.MoveGrows': WHATEVER THE INPUT: true; the input reads as it did. -/
def moveGrowsSpec : ChangeSpec := { name := "moveGrows", fn := fun _ => fun
  | [d1, d2, d3, d4] => { results := [.lit (.bool true)], args := [d1, d2, d3, d4] }
  | _ => none }
def moveGrowsRow : OpenClaim := { program := "ytbdifnmadaggaaa", sum := "32fa6a397b5182879862734f230da9305f83a073054b9682a6cd2bc65a7504bc", func := "foolscap/foolscaplaw06.MoveGrows", spec := "moveGrows", unfollowed := true, recurses := true, apart := false }
def MoveGrowsSaid : Prop := moveGrowsRow.holds Try.pinned (OpenSpec.ofChange moveGrowsSpec)

/-- ITS FALSE NEIGHBOUR: 'it returns false'. Refute it at one input. -/
def moveGrowsWrong : ChangeSpec := { name := "moveGrows", fn := fun _ => fun
  | [d1, d2, d3, d4] => { results := [.lit (.bool false)], args := [d1, d2, d3, d4] }
  | _ => none }
def MoveGrowsWrongFalsely : Prop := moveGrowsRow.holds Try.pinned (OpenSpec.ofChange moveGrowsWrong)

/-- 'foolscaplaw06.MoveClips': WHATEVER THE INPUT: true; the input reads as it did. -/
def moveClipsSpec : ChangeSpec := { name := "moveClips", fn := fun _ => fun
  | [d1, d2] => { results := [.lit (.bool true)], args := [d1, d2] }
  | _ => none }
def moveClipsRow : OpenClaim := { program := "ytbdifnmadaggaaa", sum := "32fa6a397b5182879862734f230da9305f83a073054b9682a6cd2bc65a7504bc", func := "foolscap/foolscaplaw06.MoveClips", spec := "moveClips", unfollowed := true, recurses := true, apart := false }
def MoveClipsSaid : Prop := moveClipsRow.holds Try.pinned (OpenSpec.ofChange moveClipsSpec)

/-- ITS FALSE NEIGHBOUR: 'it returns false'. Refute it at one input. -/
def moveClipsWrong : ChangeSpec := { name := "moveClips", fn := fun _ => fun
  | [d1, d2] => { results := [.lit (.bool false)], args := [d1, d2] }
  | _ => none }
def MoveClipsWrongFalsely : Prop := moveClipsRow.holds Try.pinned (OpenSpec.ofChange moveClipsWrong)

/- THE SECOND FORM. 'bulk': how many values and letters a reading holds, each counted each time it is reached (what is shared counts as often as it is met; a slice's spare places count too). A statement '..UptoSaid' is the law's where the arguments, and the package variables that the reading takes, are together of bulk at most 1048576: NARROWER than '..Said'. Prove '..Said' where nothing that the law and all that it calls make is longer than what came in: it says more and counts as full. Else prove '..UptoSaid'. A law counts once. -/
mutual
def uptoBulk {H : Type} : DataW H → Nat
  | .lit (.string bytes) => bytes.length + 1
  | .lit _ => 1
  | .nil => 1
  | .ptr d => uptoBulk d + 1
  | .slice elems spare => uptoBulkAll elems + uptoBulkAll spare + 1
  | .agg parts => uptoBulkAll parts + 1
  | .iface _ d => uptoBulk d + 1
  | .map entries => uptoBulkEntries entries + 1
  | .held _ => 1
def uptoBulkAll {H : Type} : List (DataW H) → Nat
  | [] => 0
  | d :: r => uptoBulk d + uptoBulkAll r
def uptoBulkEntries {H : Type} : List (Lit × DataW H) → Nat
  | [] => 0
  | x :: r => uptoBulkEntry x + uptoBulkEntries r
def uptoBulkEntry {H : Type} : Lit × DataW H → Nat
  | (.string bytes, d) => bytes.length + uptoBulk d + 1
  | (_, d) => uptoBulk d + 1
 end
def uptoSmall : (H : Type) → List (DataW H) → Bool := fun _ ds => decide (uptoBulkAll ds ≤ 1048576)
def OpenSpec.upto (s : _root_.Go.ChangeSpec) : _root_.Go.OpenSpec := { _root_.Go.OpenSpec.ofChange s with cond := some uptoSmall }

/-- 'foolscaplaw06.MoveSpots', WHERE WHAT IT READS IS OF BULK AT MOST 1048576: true; the input reads as it did. -/
def moveSpotsUptoRow : OpenClaim := { program := "ytbdifnmadaggaaa", sum := "32fa6a397b5182879862734f230da9305f83a073054b9682a6cd2bc65a7504bc", func := "foolscap/foolscaplaw06.MoveSpots", spec := "moveSpots", unfollowed := true, recurses := true, apart := false, narrowed := true }
def MoveSpotsUptoSaid : Prop := moveSpotsUptoRow.holds Try.pinned (OpenSpec.upto moveSpotsSpec)

/-- 'foolscaplaw06.MoveBack', WHERE WHAT IT READS IS OF BULK AT MOST 1048576: true; the input reads as it did. -/
def moveBackUptoRow : OpenClaim := { program := "ytbdifnmadaggaaa", sum := "32fa6a397b5182879862734f230da9305f83a073054b9682a6cd2bc65a7504bc", func := "foolscap/foolscaplaw06.MoveBack", spec := "moveBack", unfollowed := true, recurses := true, apart := false, narrowed := true }
def MoveBackUptoSaid : Prop := moveBackUptoRow.holds Try.pinned (OpenSpec.upto moveBackSpec)

/-- 'foolscaplaw06.MoveOrder', WHERE WHAT IT READS IS OF BULK AT MOST 1048576: true; the input reads as it did. -/
def moveOrderUptoRow : OpenClaim := { program := "ytbdifnmadaggaaa", sum := "32fa6a397b5182879862734f230da9305f83a073054b9682a6cd2bc65a7504bc", func := "foolscap/foolscaplaw06.MoveOrder", spec := "moveOrder", unfollowed := true, recurses := true, apart := false, narrowed := true }
def MoveOrderUptoSaid : Prop := moveOrderUptoRow.holds Try.pinned (OpenSpec.upto moveOrderSpec)

/-- 'foolscaplaw06.MoveInside', WHERE WHAT IT READS IS OF BULK AT MOST 1048576: true; the input reads as it did. -/
def moveInsideUptoRow : OpenClaim := { program := "ytbdifnmadaggaaa", sum := "32fa6a397b5182879862734f230da9305f83a073054b9682a6cd2bc65a7504bc", func := "foolscap/foolscaplaw06.MoveInside", spec := "moveInside", unfollowed := true, recurses := true, apart := false, narrowed := true }
def MoveInsideUptoSaid : Prop := moveInsideUptoRow.holds Try.pinned (OpenSpec.upto moveInsideSpec)

/-- 'foolscaplaw06.MoveRects', WHERE WHAT IT READS IS OF BULK AT MOST 1048576: true; the input reads as it did. -/
def moveRectsUptoRow : OpenClaim := { program := "ytbdifnmadaggaaa", sum := "32fa6a397b5182879862734f230da9305f83a073054b9682a6cd2bc65a7504bc", func := "foolscap/foolscaplaw06.MoveRects", spec := "moveRects", unfollowed := true, recurses := true, apart := false, narrowed := true }
def MoveRectsUptoSaid : Prop := moveRectsUptoRow.holds Try.pinned (OpenSpec.upto moveRectsSpec)

/-- 'foolscaplaw06.MoveGrows', WHERE WHAT IT READS IS OF BULK AT MOST 1048576: true; the input reads as it did. -/
def moveGrowsUptoRow : OpenClaim := { program := "ytbdifnmadaggaaa", sum := "32fa6a397b5182879862734f230da9305f83a073054b9682a6cd2bc65a7504bc", func := "foolscap/foolscaplaw06.MoveGrows", spec := "moveGrows", unfollowed := true, recurses := true, apart := false, narrowed := true }
def MoveGrowsUptoSaid : Prop := moveGrowsUptoRow.holds Try.pinned (OpenSpec.upto moveGrowsSpec)

/-- 'foolscaplaw06.MoveClips', WHERE WHAT IT READS IS OF BULK AT MOST 1048576: true; the input reads as it did. -/
def moveClipsUptoRow : OpenClaim := { program := "ytbdifnmadaggaaa", sum := "32fa6a397b5182879862734f230da9305f83a073054b9682a6cd2bc65a7504bc", func := "foolscap/foolscaplaw06.MoveClips", spec := "moveClips", unfollowed := true, recurses := true, apart := false, narrowed := true }
def MoveClipsUptoSaid : Prop := moveClipsUptoRow.holds Try.pinned (OpenSpec.upto moveClipsSpec)

end Rows
end Go.Proofs.Ytbdifnmadaggaaa
