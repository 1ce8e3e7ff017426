/-
  No cell of these rows narrows 'for every input' (looked for: loops, veiled, ifaces, maps, wideKeys, modest, calm, conditions, laid).
  DERIVED. THE GIVEN ROWS OF THIS SEAT. 6 by the template 'for every input the law returns true; each argument reads behind the call as it read before'; 0 by the template 'total and deterministic' (their statements: YthnkafambegbcaaTotals.lean).
  GIVEN WITH THE SEED: the statements are not yours to turn. If you find one false, say at which input.
  Laid BY PROGRAM, IN A SANDBOX (cutbox-rows.mjs): the forced cells as the released guide's own fill.sh prints them over the translation 6a78f0de6f907944… (all of the seat's roots in one cut). By AI agents, Wed Nov 11 2026. No macro, syntax, notation, axiom, sorry.
-/
import Derived.Test.YthnkafambegbcaaChecked
import GoSem.Claim
import GoSem.ClaimJoined
import GoSem.ClaimMapViews
import Derived.JoinedTies
import Derived.KernelRfl
namespace Go.Proofs.Ythnkafambegbcaa
/- THE CELL 'sum', in the pinned program and in every row, IS THE sha256 OF THE DUMP (.gsa) THAT YthnkafambegbcaaProg.lean LOADS. Nothing in Lean hashes anything: it is a label: what it is worth is what the hold of that sum in a sandbox is worth. -/
noncomputable def Try.pinned : Pinned := { name := "ythnkafambegbcaa", sum := "6a78f0de6f9079442a02f6d3331d34f5b64f42125e71d4eaa7c431611b5462a9", checked := Try.checked }
namespace Rows
def none {H : Type} : Left H := { results := [], args := [] }

/-- 'foolscaplaw17.GridFull': WHATEVER THE INPUT: true; the input reads as it did. -/
def gridFullSpec : ChangeSpec := { name := "gridFull", fn := fun _ => fun
  | [d1, d2] => { results := [.lit (.bool true)], args := [d1, d2] }
  | _ => none }
def gridFullRow : OpenClaim := { program := "ythnkafambegbcaa", sum := "6a78f0de6f9079442a02f6d3331d34f5b64f42125e71d4eaa7c431611b5462a9", func := "foolscap/foolscaplaw17.GridFull", spec := "gridFull", unfollowed := true, recurses := true, plainKeys := false, apart := false }
def GridFullSaid : Prop := gridFullRow.holds Try.pinned (OpenSpec.ofChange gridFullSpec)

/-- ITS FALSE NEIGHBOUR: 'it returns false'. Refute it at one input. -/
def gridFullWrong : ChangeSpec := { name := "gridFull", fn := fun _ => fun
  | [d1, d2] => { results := [.lit (.bool false)], args := [d1, d2] }
  | _ => none }
def GridFullWrongFalsely : Prop := gridFullRow.holds Try.pinned (OpenSpec.ofChange gridFullWrong)

/-- 'foolscaplaw17.GridBack': WHATEVER THE INPUT: true; the input reads as it did. -/
def gridBackSpec : ChangeSpec := { name := "gridBack", fn := fun _ => fun
  | [d1, d2] => { results := [.lit (.bool true)], args := [d1, d2] }
  | _ => none }
def gridBackRow : OpenClaim := { program := "ythnkafambegbcaa", sum := "6a78f0de6f9079442a02f6d3331d34f5b64f42125e71d4eaa7c431611b5462a9", func := "foolscap/foolscaplaw17.GridBack", spec := "gridBack", unfollowed := true, recurses := true, plainKeys := false, apart := false }
def GridBackSaid : Prop := gridBackRow.holds Try.pinned (OpenSpec.ofChange gridBackSpec)

/-- ITS FALSE NEIGHBOUR: 'it returns false'. Refute it at one input. -/
def gridBackWrong : ChangeSpec := { name := "gridBack", fn := fun _ => fun
  | [d1, d2] => { results := [.lit (.bool false)], args := [d1, d2] }
  | _ => none }
def GridBackWrongFalsely : Prop := gridBackRow.holds Try.pinned (OpenSpec.ofChange gridBackWrong)

/-- 'foolscaplaw17.GridOrder': WHATEVER THE INPUT: true; the input reads as it did. -/
def gridOrderSpec : ChangeSpec := { name := "gridOrder", fn := fun _ => fun
  | [d] => { results := [.lit (.bool true)], args := [d] }
  | _ => none }
def gridOrderRow : OpenClaim := { program := "ythnkafambegbcaa", sum := "6a78f0de6f9079442a02f6d3331d34f5b64f42125e71d4eaa7c431611b5462a9", func := "foolscap/foolscaplaw17.GridOrder", spec := "gridOrder", unfollowed := true, recurses := true, plainKeys := false, apart := false }
def GridOrderSaid : Prop := gridOrderRow.holds Try.pinned (OpenSpec.ofChange gridOrderSpec)

/-- ITS FALSE NEIGHBOUR: 'it returns false'. Refute it at one input. -/
def gridOrderWrong : ChangeSpec := { name := "gridOrder", fn := fun _ => fun
  | [d] => { results := [.lit (.bool false)], args := [d] }
  | _ => none }
def GridOrderWrongFalsely : Prop := gridOrderRow.holds Try.pinned (OpenSpec.ofChange gridOrderWrong)

/-- 'foolscaplaw17.GridNil': WHATEVER THE INPUT: true; the input reads as it did. -/
def gridNilSpec : ChangeSpec := { name := "gridNil", fn := fun _ => fun
  | [d1, d2, d3] => { results := [.lit (.bool true)], args := [d1, d2, d3] }
  | _ => none }
def gridNilRow : OpenClaim := { program := "ythnkafambegbcaa", sum := "6a78f0de6f9079442a02f6d3331d34f5b64f42125e71d4eaa7c431611b5462a9", func := "foolscap/foolscaplaw17.GridNil", spec := "gridNil", unfollowed := true, recurses := true, plainKeys := false, apart := false }
def GridNilSaid : Prop := gridNilRow.holds Try.pinned (OpenSpec.ofChange gridNilSpec)

/-- ITS FALSE NEIGHBOUR: 'it returns false'. Refute it at one input. -/
def gridNilWrong : ChangeSpec := { name := "gridNil", fn := fun _ => fun
  | [d1, d2, d3] => { results := [.lit (.bool false)], args := [d1, d2, d3] }
  | _ => none }
def GridNilWrongFalsely : Prop := gridNilRow.holds Try.pinned (OpenSpec.ofChange gridNilWrong)

/-- 'foolscaplaw17.GridParts': WHATEVER THE INPUT: true; the input reads as it did. -/
def gridPartsSpec : ChangeSpec := { name := "gridParts", fn := fun _ => fun
  | [d1, d2] => { results := [.lit (.bool true)], args := [d1, d2] }
  | _ => none }
def gridPartsRow : OpenClaim := { program := "ythnkafambegbcaa", sum := "6a78f0de6f9079442a02f6d3331d34f5b64f42125e71d4eaa7c431611b5462a9", func := "foolscap/foolscaplaw17.GridParts", spec := "gridParts", unfollowed := true, recurses := true, plainKeys := false, apart := false }
def GridPartsSaid : Prop := gridPartsRow.holds Try.pinned (OpenSpec.ofChange gridPartsSpec)

/-- ITS FALSE NEIGHBOUR: 'it returns false'. Refute it at one input. -/
def gridPartsWrong : ChangeSpec := { name := "gridParts", fn := fun _ => fun
  | [d1, d2] => { results := [.lit (.bool false)], args := [d1, d2] }
  | _ => none }
def GridPartsWrongFalsely : Prop := gridPartsRow.holds Try.pinned (OpenSpec.ofChange gridPartsWrong)

/-- 'foolscaplaw17.GridPlays': WHATEVER THE INPUT: true; the input reads as it did. -/
def gridPlaysSpec : ChangeSpec := { name := "gridPlays", fn := fun _ => fun
  | [d1, d2, d3] => { results := [.lit (.bool true)], args := [d1, d2, d3] }
  | _ => none }
def gridPlaysRow : OpenClaim := { program := "ythnkafambegbcaa", sum := "6a78f0de6f9079442a02f6d3331d34f5b64f42125e71d4eaa7c431611b5462a9", func := "foolscap/foolscaplaw17.GridPlays", spec := "gridPlays", unfollowed := true, recurses := true, plainKeys := false, apart := false }
def GridPlaysSaid : Prop := gridPlaysRow.holds Try.pinned (OpenSpec.ofChange gridPlaysSpec)

/-- ITS FALSE NEIGHBOUR: 'it returns false'. Refute it at one input. -/
def gridPlaysWrong : ChangeSpec := { name := "gridPlays", fn := fun _ => fun
  | [d1, d2, d3] => { results := [.lit (.bool false)], args := [d1, d2, d3] }
  | _ => none }
def GridPlaysWrongFalsely : Prop := gridPlaysRow.holds Try.pinned (OpenSpec.ofChange gridPlaysWrong)

/- THE SECOND FORM. 'bulk': how many values and letters a reading holds, each counted each time it is reached (what is shared counts as often as it is met; a slice's spare places count too). A statement '..UptoSaid' is the law's where the arguments, and the package variables that the reading takes, are together of bulk at most 1048576: NARROWER than '..Said'. Prove '..Said' where nothing that the law and all that it calls make is longer than what came in: it says more and counts as full. Else prove '..UptoSaid'. A law counts once. -/
mutual
def uptoBulk {H : Type} : DataW H → Nat
  | .lit (.string bytes) => bytes.length + 1
  | .lit _ => 1
  | .nil => 1
  | .ptr d => uptoBulk d + 1
  | .slice elems spare => uptoBulkAll elems + uptoBulkAll spare + 1
  | .agg parts => uptoBulkAll parts + 1
  | .iface _ d => uptoBulk d + 1
  | .map entries => uptoBulkEntries entries + 1
  | .held _ => 1
def uptoBulkAll {H : Type} : List (DataW H) → Nat
  | [] => 0
  | d :: r => uptoBulk d + uptoBulkAll r
def uptoBulkEntries {H : Type} : List (Lit × DataW H) → Nat
  | [] => 0
  | x :: r => uptoBulkEntry x + uptoBulkEntries r
def uptoBulkEntry {H : Type} : Lit × DataW H → Nat
  | (.string bytes, d) => bytes.length + uptoBulk d + 1
  | (_, d) => uptoBulk d + 1
 end
def uptoSmall : (H : Type) → List (DataW H) → Bool := fun _ ds => decide (uptoBulkAll ds ≤ 1048576)
def OpenSpec.upto (s : _root_.Go.ChangeSpec) : _root_.Go.OpenSpec := { _root_.Go.OpenSpec.ofChange s with cond := some uptoSmall }

/-- 'foolscaplaw17.GridFull', WHERE WHAT IT READS IS OF BULK AT MOST 1048576: true; the input reads as it did. -/
def gridFullUptoRow : OpenClaim := { program := "ythnkafambegbcaa", sum := "6a78f0de6f9079442a02f6d3331d34f5b64f42125e71d4eaa7c431611b5462a9", func := "foolscap/foolscaplaw17.GridFull", spec := "gridFull", unfollowed := true, recurses := true, plainKeys := false, apart := false, narrowed := true }
def GridFullUptoSaid : Prop := gridFullUptoRow.holds Try.pinned (OpenSpec.upto gridFullSpec)

/-- 'foolscaplaw17.GridBack', WHERE WHAT IT READS IS OF BULK AT MOST 1048576: true; the input reads as it did. -/
def gridBackUptoRow : OpenClaim := { program := "ythnkafambegbcaa", sum := "6a78f0de6f9079442a02f6d3331d34f5b64f42125e71d4eaa7c431611b5462a9", func := "foolscap/foolscaplaw17.GridBack", spec := "gridBack", unfollowed := true, recurses := true, plainKeys := false, apart := false, narrowed := true }
def GridBackUptoSaid : Prop := gridBackUptoRow.holds Try.pinned (OpenSpec.upto gridBackSpec)

/-- 'foolscaplaw17.GridOrder', WHERE WHAT IT READS IS OF BULK AT MOST 1048576: true; the input reads as it did. -/
def gridOrderUptoRow : OpenClaim := { program := "ythnkafambegbcaa", sum := "6a78f0de6f9079442a02f6d3331d34f5b64f42125e71d4eaa7c431611b5462a9", func := "foolscap/foolscaplaw17.GridOrder", spec := "gridOrder", unfollowed := true, recurses := true, plainKeys := false, apart := false, narrowed := true }
def GridOrderUptoSaid : Prop := gridOrderUptoRow.holds Try.pinned (OpenSpec.upto gridOrderSpec)

/-- 'foolscaplaw17.GridNil', WHERE WHAT IT READS IS OF BULK AT MOST 1048576: true; the input reads as it did. -/
def gridNilUptoRow : OpenClaim := { program := "ythnkafambegbcaa", sum := "6a78f0de6f9079442a02f6d3331d34f5b64f42125e71d4eaa7c431611b5462a9", func := "foolscap/foolscaplaw17.GridNil", spec := "gridNil", unfollowed := true, recurses := true, plainKeys := false, apart := false, narrowed := true }
def GridNilUptoSaid : Prop := gridNilUptoRow.holds Try.pinned (OpenSpec.upto gridNilSpec)

/-- 'foolscaplaw17.GridParts', WHERE WHAT IT READS IS OF BULK AT MOST 1048576: true; the input reads as it did. -/
def gridPartsUptoRow : OpenClaim := { program := "ythnkafambegbcaa", sum := "6a78f0de6f9079442a02f6d3331d34f5b64f42125e71d4eaa7c431611b5462a9", func := "foolscap/foolscaplaw17.GridParts", spec := "gridParts", unfollowed := true, recurses := true, plainKeys := false, apart := false, narrowed := true }
def GridPartsUptoSaid : Prop := gridPartsUptoRow.holds Try.pinned (OpenSpec.upto gridPartsSpec)

/-- 'foolscaplaw17.GridPlays', WHERE WHAT IT READS IS OF BULK AT MOST 1048576: true; the input reads as it did. -/
def gridPlaysUptoRow : OpenClaim := { program := "ythnkafambegbcaa", sum := "6a78f0de6f9079442a02f6d3331d34f5b64f42125e71d4eaa7c431611b5462a9", func := "foolscap/foolscaplaw17.GridPlays", spec := "gridPlays", unfollowed := true, recurses := true, plainKeys := false, apart := false, narrowed := true }
def GridPlaysUptoSaid : Prop := gridPlaysUptoRow.holds Try.pinned (OpenSpec.upto gridPlaysSpec)

end Rows
end Go.Proofs.Ythnkafambegbcaa
