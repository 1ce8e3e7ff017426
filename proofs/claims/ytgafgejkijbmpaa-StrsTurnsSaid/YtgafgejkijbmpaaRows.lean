/-
  No cell of these rows narrows 'for every input' (looked for: loops, veiled, ifaces, maps, wideKeys, modest, calm, conditions, laid).
  DERIVED. THE GIVEN ROWS OF THIS SEAT. 9 by the template 'for every input the law returns true; each argument reads behind the call as it read before'; 0 by the template 'total and deterministic' (their statements: YtgafgejkijbmpaaTotals.lean).
  GIVEN WITH THE SEED: the statements are not yours to turn. If you find one false, say at which input.
  Laid BY PROGRAM, IN A SANDBOX (cutbox-rows.mjs): the forced cells as the released guide's own fill.sh prints them over the translation 41cd7b55c88dbd9f… (all of the seat's roots in one cut). By AI agents, Wed Nov 11 2026. No macro, syntax, notation, axiom, sorry.
-/
import Derived.Test.YtgafgejkijbmpaaChecked
import GoSem.Claim
import GoSem.ClaimJoined
import GoSem.ClaimMapViews
import Derived.JoinedTies
import Derived.KernelRfl
namespace Go.Proofs.Ytgafgejkijbmpaa
/- THE CELL 'sum', in the pinned program and in every row, IS THE sha256 OF THE DUMP (.gsa) THAT YtgafgejkijbmpaaProg.lean LOADS. Nothing in Lean hashes anything: it is a label: what it is worth is what the hold of that sum in a sandbox is worth. -/
noncomputable def Try.pinned : Pinned := { name := "ytgafgejkijbmpaa", sum := "41cd7b55c88dbd9f845449d04317fa0488db9d7c43a665ae657e3e0467132f5d", checked := Try.checked }
namespace Rows
def none {H : Type} : Left H := { results := [], args := [] }

/-- 'foolscaplaw14.StrsFinds': WHATEVER THE INPUT: true; the input reads as it did. -/
def strsFindsSpec : ChangeSpec := { name := "strsFinds", fn := fun _ => fun
  | [d1, d2, d3] => { results := [.lit (.bool true)], args := [d1, d2, d3] }
  | _ => none }
def strsFindsRow : OpenClaim := { program := "ytgafgejkijbmpaa", sum := "41cd7b55c88dbd9f845449d04317fa0488db9d7c43a665ae657e3e0467132f5d", func := "foolscap/foolscaplaw14.StrsFinds", spec := "strsFinds", inPlace := ["internal/bytealg.IndexByteString", "internal/bytealg.IndexString", "internal/abi.NoEscape", "internal/bytealg.MakeNoZero"], unfollowed := true, recurses := true, named := ["internal/bytealg.MaxLen"], apart := false }
def StrsFindsSaid : Prop := strsFindsRow.holds Try.pinned (OpenSpec.ofChange strsFindsSpec)

/-- ITS FALSE NEIGHBOUR: 'it returns false'. Refute it at one input. -/
def strsFindsWrong : ChangeSpec := { name := "strsFinds", fn := fun _ => fun
  | [d1, d2, d3] => { results := [.lit (.bool false)], args := [d1, d2, d3] }
  | _ => none }
def StrsFindsWrongFalsely : Prop := strsFindsRow.holds Try.pinned (OpenSpec.ofChange strsFindsWrong)

/-- 'foolscaplaw14.StrsChanges': WHATEVER THE INPUT: true; the input reads as it did. -/
def strsChangesSpec : ChangeSpec := { name := "strsChanges", fn := fun _ => fun
  | [d1, d2, d3, d4, d5] => { results := [.lit (.bool true)], args := [d1, d2, d3, d4, d5] }
  | _ => none }
def strsChangesRow : OpenClaim := { program := "ytgafgejkijbmpaa", sum := "41cd7b55c88dbd9f845449d04317fa0488db9d7c43a665ae657e3e0467132f5d", func := "foolscap/foolscaplaw14.StrsChanges", spec := "strsChanges", inPlace := ["internal/bytealg.IndexByteString", "internal/bytealg.IndexString", "internal/abi.NoEscape", "internal/bytealg.MakeNoZero"], unfollowed := true, recurses := true, named := ["internal/bytealg.MaxLen"], apart := false }
def StrsChangesSaid : Prop := strsChangesRow.holds Try.pinned (OpenSpec.ofChange strsChangesSpec)

/-- ITS FALSE NEIGHBOUR: 'it returns false'. Refute it at one input. -/
def strsChangesWrong : ChangeSpec := { name := "strsChanges", fn := fun _ => fun
  | [d1, d2, d3, d4, d5] => { results := [.lit (.bool false)], args := [d1, d2, d3, d4, d5] }
  | _ => none }
def StrsChangesWrongFalsely : Prop := strsChangesRow.holds Try.pinned (OpenSpec.ofChange strsChangesWrong)

/-- 'foolscaplaw14.StrsFound': WHATEVER THE INPUT: true; the input reads as it did. -/
def strsFoundSpec : ChangeSpec := { name := "strsFound", fn := fun _ => fun
  | [d1, d2, d3] => { results := [.lit (.bool true)], args := [d1, d2, d3] }
  | _ => none }
def strsFoundRow : OpenClaim := { program := "ytgafgejkijbmpaa", sum := "41cd7b55c88dbd9f845449d04317fa0488db9d7c43a665ae657e3e0467132f5d", func := "foolscap/foolscaplaw14.StrsFound", spec := "strsFound", inPlace := ["internal/bytealg.IndexByteString", "internal/bytealg.IndexString", "internal/abi.NoEscape", "internal/bytealg.MakeNoZero"], unfollowed := true, recurses := true, named := ["internal/bytealg.MaxLen"], apart := false }
def StrsFoundSaid : Prop := strsFoundRow.holds Try.pinned (OpenSpec.ofChange strsFoundSpec)

/-- ITS FALSE NEIGHBOUR: 'it returns false'. Refute it at one input. -/
def strsFoundWrong : ChangeSpec := { name := "strsFound", fn := fun _ => fun
  | [d1, d2, d3] => { results := [.lit (.bool false)], args := [d1, d2, d3] }
  | _ => none }
def StrsFoundWrongFalsely : Prop := strsFoundRow.holds Try.pinned (OpenSpec.ofChange strsFoundWrong)

/-- 'foolscaplaw14.StrsTurns': WHATEVER THE INPUT: true; the input reads as it did. -/
def strsTurnsSpec : ChangeSpec := { name := "strsTurns", fn := fun _ => fun
  | [d1, d2, d3] => { results := [.lit (.bool true)], args := [d1, d2, d3] }
  | _ => none }
def strsTurnsRow : OpenClaim := { program := "ytgafgejkijbmpaa", sum := "41cd7b55c88dbd9f845449d04317fa0488db9d7c43a665ae657e3e0467132f5d", func := "foolscap/foolscaplaw14.StrsTurns", spec := "strsTurns", inPlace := ["internal/bytealg.IndexByteString", "internal/bytealg.IndexString", "internal/abi.NoEscape", "internal/bytealg.MakeNoZero"], unfollowed := true, recurses := true, named := ["internal/bytealg.MaxLen"], apart := false }
def StrsTurnsSaid : Prop := strsTurnsRow.holds Try.pinned (OpenSpec.ofChange strsTurnsSpec)

/-- ITS FALSE NEIGHBOUR: 'it returns false'. Refute it at one input. -/
def strsTurnsWrong : ChangeSpec := { name := "strsTurns", fn := fun _ => fun
  | [d1, d2, d3] => { results := [.lit (.bool false)], args := [d1, d2, d3] }
  | _ => none }
def StrsTurnsWrongFalsely : Prop := strsTurnsRow.holds Try.pinned (OpenSpec.ofChange strsTurnsWrong)

/-- 'foolscaplaw14.StrsPut': WHATEVER THE INPUT: true; the input reads as it did. -/
def strsPutSpec : ChangeSpec := { name := "strsPut", fn := fun _ => fun
  | [d1, d2, d3, d4] => { results := [.lit (.bool true)], args := [d1, d2, d3, d4] }
  | _ => none }
def strsPutRow : OpenClaim := { program := "ytgafgejkijbmpaa", sum := "41cd7b55c88dbd9f845449d04317fa0488db9d7c43a665ae657e3e0467132f5d", func := "foolscap/foolscaplaw14.StrsPut", spec := "strsPut", inPlace := ["internal/bytealg.IndexByteString", "internal/bytealg.IndexString", "internal/abi.NoEscape", "internal/bytealg.MakeNoZero"], unfollowed := true, recurses := true, named := ["internal/bytealg.MaxLen"], apart := false }
def StrsPutSaid : Prop := strsPutRow.holds Try.pinned (OpenSpec.ofChange strsPutSpec)

/-- ITS FALSE NEIGHBOUR: 'it returns false'. Refute it at one input. -/
def strsPutWrong : ChangeSpec := { name := "strsPut", fn := fun _ => fun
  | [d1, d2, d3, d4] => { results := [.lit (.bool false)], args := [d1, d2, d3, d4] }
  | _ => none }
def StrsPutWrongFalsely : Prop := strsPutRow.holds Try.pinned (OpenSpec.ofChange strsPutWrong)

/-- 'foolscaplaw14.StrsParts': WHATEVER THE INPUT: true; the input reads as it did. -/
def strsPartsSpec : ChangeSpec := { name := "strsParts", fn := fun _ => fun
  | [d1, d2, d3] => { results := [.lit (.bool true)], args := [d1, d2, d3] }
  | _ => none }
def strsPartsRow : OpenClaim := { program := "ytgafgejkijbmpaa", sum := "41cd7b55c88dbd9f845449d04317fa0488db9d7c43a665ae657e3e0467132f5d", func := "foolscap/foolscaplaw14.StrsParts", spec := "strsParts", inPlace := ["internal/bytealg.IndexByteString", "internal/bytealg.IndexString", "internal/abi.NoEscape", "internal/bytealg.MakeNoZero"], unfollowed := true, recurses := true, named := ["internal/bytealg.MaxLen"], apart := false }
def StrsPartsSaid : Prop := strsPartsRow.holds Try.pinned (OpenSpec.ofChange strsPartsSpec)

/-- ITS FALSE NEIGHBOUR: 'it returns false'. Refute it at one input. -/
def strsPartsWrong : ChangeSpec := { name := "strsParts", fn := fun _ => fun
  | [d1, d2, d3] => { results := [.lit (.bool false)], args := [d1, d2, d3] }
  | _ => none }
def StrsPartsWrongFalsely : Prop := strsPartsRow.holds Try.pinned (OpenSpec.ofChange strsPartsWrong)

/-- 'foolscaplaw14.StrsWhole': WHATEVER THE INPUT: true; the input reads as it did. -/
def strsWholeSpec : ChangeSpec := { name := "strsWhole", fn := fun _ => fun
  | [d1, d2] => { results := [.lit (.bool true)], args := [d1, d2] }
  | _ => none }
def strsWholeRow : OpenClaim := { program := "ytgafgejkijbmpaa", sum := "41cd7b55c88dbd9f845449d04317fa0488db9d7c43a665ae657e3e0467132f5d", func := "foolscap/foolscaplaw14.StrsWhole", spec := "strsWhole", inPlace := ["internal/bytealg.IndexByteString", "internal/bytealg.IndexString", "internal/abi.NoEscape", "internal/bytealg.MakeNoZero"], unfollowed := true, recurses := true, named := ["internal/bytealg.MaxLen"], apart := false }
def StrsWholeSaid : Prop := strsWholeRow.holds Try.pinned (OpenSpec.ofChange strsWholeSpec)

/-- ITS FALSE NEIGHBOUR: 'it returns false'. Refute it at one input. -/
def strsWholeWrong : ChangeSpec := { name := "strsWhole", fn := fun _ => fun
  | [d1, d2] => { results := [.lit (.bool false)], args := [d1, d2] }
  | _ => none }
def StrsWholeWrongFalsely : Prop := strsWholeRow.holds Try.pinned (OpenSpec.ofChange strsWholeWrong)

/-- 'foolscaplaw14.StrsTwice': WHATEVER THE INPUT: true; the input reads as it did. -/
def strsTwiceSpec : ChangeSpec := { name := "strsTwice", fn := fun _ => fun
  | [d1, d2] => { results := [.lit (.bool true)], args := [d1, d2] }
  | _ => none }
def strsTwiceRow : OpenClaim := { program := "ytgafgejkijbmpaa", sum := "41cd7b55c88dbd9f845449d04317fa0488db9d7c43a665ae657e3e0467132f5d", func := "foolscap/foolscaplaw14.StrsTwice", spec := "strsTwice", inPlace := ["internal/bytealg.IndexByteString", "internal/bytealg.IndexString", "internal/abi.NoEscape", "internal/bytealg.MakeNoZero"], unfollowed := true, recurses := true, named := ["internal/bytealg.MaxLen"], apart := false }
def StrsTwiceSaid : Prop := strsTwiceRow.holds Try.pinned (OpenSpec.ofChange strsTwiceSpec)

/-- ITS FALSE NEIGHBOUR: 'it returns false'. Refute it at one input. -/
def strsTwiceWrong : ChangeSpec := { name := "strsTwice", fn := fun _ => fun
  | [d1, d2] => { results := [.lit (.bool false)], args := [d1, d2] }
  | _ => none }
def StrsTwiceWrongFalsely : Prop := strsTwiceRow.holds Try.pinned (OpenSpec.ofChange strsTwiceWrong)

/-- 'foolscaplaw14.StrsMakes': WHATEVER THE INPUT: true; the input reads as it did. -/
def strsMakesSpec : ChangeSpec := { name := "strsMakes", fn := fun _ => fun
  | [d1, d2, d3] => { results := [.lit (.bool true)], args := [d1, d2, d3] }
  | _ => none }
def strsMakesRow : OpenClaim := { program := "ytgafgejkijbmpaa", sum := "41cd7b55c88dbd9f845449d04317fa0488db9d7c43a665ae657e3e0467132f5d", func := "foolscap/foolscaplaw14.StrsMakes", spec := "strsMakes", inPlace := ["internal/bytealg.IndexByteString", "internal/bytealg.IndexString", "internal/abi.NoEscape", "internal/bytealg.MakeNoZero"], unfollowed := true, recurses := true, named := ["internal/bytealg.MaxLen"], apart := false }
def StrsMakesSaid : Prop := strsMakesRow.holds Try.pinned (OpenSpec.ofChange strsMakesSpec)

/-- ITS FALSE NEIGHBOUR: 'it returns false'. Refute it at one input. -/
def strsMakesWrong : ChangeSpec := { name := "strsMakes", fn := fun _ => fun
  | [d1, d2, d3] => { results := [.lit (.bool false)], args := [d1, d2, d3] }
  | _ => none }
def StrsMakesWrongFalsely : Prop := strsMakesRow.holds Try.pinned (OpenSpec.ofChange strsMakesWrong)

/- THE SECOND FORM. 'bulk': how many values and letters a reading holds, each counted each time it is reached (what is shared counts as often as it is met; a slice's spare places count too). A statement '..UptoSaid' is the law's where the arguments, and the package variables that the reading takes, are together of bulk at most 1048576: NARROWER than '..Said'. Prove '..Said' where nothing that the law and all that it calls make is longer than what came in: it says more and counts as full. Else prove '..UptoSaid'. A law counts once. -/
mutual
def uptoBulk {H : Type} : DataW H → Nat
  | .lit (.string bytes) => bytes.length + 1
  | .lit _ => 1
  | .nil => 1
  | .ptr d => uptoBulk d + 1
  | .slice elems spare => uptoBulkAll elems + uptoBulkAll spare + 1
  | .agg parts => uptoBulkAll parts + 1
  | .iface _ d => uptoBulk d + 1
  | .map entries => uptoBulkEntries entries + 1
  | .held _ => 1
def uptoBulkAll {H : Type} : List (DataW H) → Nat
  | [] => 0
  | d :: r => uptoBulk d + uptoBulkAll r
def uptoBulkEntries {H : Type} : List (Lit × DataW H) → Nat
  | [] => 0
  | x :: r => uptoBulkEntry x + uptoBulkEntries r
def uptoBulkEntry {H : Type} : Lit × DataW H → Nat
  | (.string bytes, d) => bytes.length + uptoBulk d + 1
  | (_, d) => uptoBulk d + 1
 end
def uptoSmall : (H : Type) → List (DataW H) → Bool := fun _ ds => decide (uptoBulkAll ds ≤ 1048576)
def OpenSpec.upto (s : _root_.Go.ChangeSpec) : _root_.Go.OpenSpec := { _root_.Go.OpenSpec.ofChange s with cond := some uptoSmall }

/-- 'foolscaplaw14.StrsFinds', WHERE WHAT IT READS IS OF BULK AT MOST 1048576: true; the input reads as it did. -/
def strsFindsUptoRow : OpenClaim := { program := "ytgafgejkijbmpaa", sum := "41cd7b55c88dbd9f845449d04317fa0488db9d7c43a665ae657e3e0467132f5d", func := "foolscap/foolscaplaw14.StrsFinds", spec := "strsFinds", inPlace := ["internal/bytealg.IndexByteString", "internal/bytealg.IndexString", "internal/abi.NoEscape", "internal/bytealg.MakeNoZero"], unfollowed := true, recurses := true, named := ["internal/bytealg.MaxLen"], apart := false, narrowed := true }
def StrsFindsUptoSaid : Prop := strsFindsUptoRow.holds Try.pinned (OpenSpec.upto strsFindsSpec)

/-- 'foolscaplaw14.StrsChanges', WHERE WHAT IT READS IS OF BULK AT MOST 1048576: true; the input reads as it did. -/
def strsChangesUptoRow : OpenClaim := { program := "ytgafgejkijbmpaa", sum := "41cd7b55c88dbd9f845449d04317fa0488db9d7c43a665ae657e3e0467132f5d", func := "foolscap/foolscaplaw14.StrsChanges", spec := "strsChanges", inPlace := ["internal/bytealg.IndexByteString", "internal/bytealg.IndexString", "internal/abi.NoEscape", "internal/bytealg.MakeNoZero"], unfollowed := true, recurses := true, named := ["internal/bytealg.MaxLen"], apart := false, narrowed := true }
def StrsChangesUptoSaid : Prop := strsChangesUptoRow.holds Try.pinned (OpenSpec.upto strsChangesSpec)

/-- 'foolscaplaw14.StrsFound', WHERE WHAT IT READS IS OF BULK AT MOST 1048576: true; the input reads as it did. -/
def strsFoundUptoRow : OpenClaim := { program := "ytgafgejkijbmpaa", sum := "41cd7b55c88dbd9f845449d04317fa0488db9d7c43a665ae657e3e0467132f5d", func := "foolscap/foolscaplaw14.StrsFound", spec := "strsFound", inPlace := ["internal/bytealg.IndexByteString", "internal/bytealg.IndexString", "internal/abi.NoEscape", "internal/bytealg.MakeNoZero"], unfollowed := true, recurses := true, named := ["internal/bytealg.MaxLen"], apart := false, narrowed := true }
def StrsFoundUptoSaid : Prop := strsFoundUptoRow.holds Try.pinned (OpenSpec.upto strsFoundSpec)

/-- 'foolscaplaw14.StrsTurns', WHERE WHAT IT READS IS OF BULK AT MOST 1048576: true; the input reads as it did. -/
def strsTurnsUptoRow : OpenClaim := { program := "ytgafgejkijbmpaa", sum := "41cd7b55c88dbd9f845449d04317fa0488db9d7c43a665ae657e3e0467132f5d", func := "foolscap/foolscaplaw14.StrsTurns", spec := "strsTurns", inPlace := ["internal/bytealg.IndexByteString", "internal/bytealg.IndexString", "internal/abi.NoEscape", "internal/bytealg.MakeNoZero"], unfollowed := true, recurses := true, named := ["internal/bytealg.MaxLen"], apart := false, narrowed := true }
def StrsTurnsUptoSaid : Prop := strsTurnsUptoRow.holds Try.pinned (OpenSpec.upto strsTurnsSpec)

/-- 'foolscaplaw14.StrsPut', WHERE WHAT IT READS IS OF BULK AT MOST 1048576: true; the input reads as it did. -/
def strsPutUptoRow : OpenClaim := { program := "ytgafgejkijbmpaa", sum := "41cd7b55c88dbd9f845449d04317fa0488db9d7c43a665ae657e3e0467132f5d", func := "foolscap/foolscaplaw14.StrsPut", spec := "strsPut", inPlace := ["internal/bytealg.IndexByteString", "internal/bytealg.IndexString", "internal/abi.NoEscape", "internal/bytealg.MakeNoZero"], unfollowed := true, recurses := true, named := ["internal/bytealg.MaxLen"], apart := false, narrowed := true }
def StrsPutUptoSaid : Prop := strsPutUptoRow.holds Try.pinned (OpenSpec.upto strsPutSpec)

/-- 'foolscaplaw14.StrsParts', WHERE WHAT IT READS IS OF BULK AT MOST 1048576: true; the input reads as it did. -/
def strsPartsUptoRow : OpenClaim := { program := "ytgafgejkijbmpaa", sum := "41cd7b55c88dbd9f845449d04317fa0488db9d7c43a665ae657e3e0467132f5d", func := "foolscap/foolscaplaw14.StrsParts", spec := "strsParts", inPlace := ["internal/bytealg.IndexByteString", "internal/bytealg.IndexString", "internal/abi.NoEscape", "internal/bytealg.MakeNoZero"], unfollowed := true, recurses := true, named := ["internal/bytealg.MaxLen"], apart := false, narrowed := true }
def StrsPartsUptoSaid : Prop := strsPartsUptoRow.holds Try.pinned (OpenSpec.upto strsPartsSpec)

/-- 'foolscaplaw14.StrsWhole', WHERE WHAT IT READS IS OF BULK AT MOST 1048576: true; the input reads as it did. -/
def strsWholeUptoRow : OpenClaim := { program := "ytgafgejkijbmpaa", sum := "41cd7b55c88dbd9f845449d04317fa0488db9d7c43a665ae657e3e0467132f5d", func := "foolscap/foolscaplaw14.StrsWhole", spec := "strsWhole", inPlace := ["internal/bytealg.IndexByteString", "internal/bytealg.IndexString", "internal/abi.NoEscape", "internal/bytealg.MakeNoZero"], unfollowed := true, recurses := true, named := ["internal/bytealg.MaxLen"], apart := false, narrowed := true }
def StrsWholeUptoSaid : Prop := strsWholeUptoRow.holds Try.pinned (OpenSpec.upto strsWholeSpec)

/-- 'foolscaplaw14.StrsTwice', WHERE WHAT IT READS IS OF BULK AT MOST 1048576: true; the input reads as it did. -/
def strsTwiceUptoRow : OpenClaim := { program := "ytgafgejkijbmpaa", sum := "41cd7b55c88dbd9f845449d04317fa0488db9d7c43a665ae657e3e0467132f5d", func := "foolscap/foolscaplaw14.StrsTwice", spec := "strsTwice", inPlace := ["internal/bytealg.IndexByteString", "internal/bytealg.IndexString", "internal/abi.NoEscape", "internal/bytealg.MakeNoZero"], unfollowed := true, recurses := true, named := ["internal/bytealg.MaxLen"], apart := false, narrowed := true }
def StrsTwiceUptoSaid : Prop := strsTwiceUptoRow.holds Try.pinned (OpenSpec.upto strsTwiceSpec)

/-- 'foolscaplaw14.StrsMakes', WHERE WHAT IT READS IS OF BULK AT MOST 1048576: true; the input reads as it did. -/
def strsMakesUptoRow : OpenClaim := { program := "ytgafgejkijbmpaa", sum := "41cd7b55c88dbd9f845449d04317fa0488db9d7c43a665ae657e3e0467132f5d", func := "foolscap/foolscaplaw14.StrsMakes", spec := "strsMakes", inPlace := ["internal/bytealg.IndexByteString", "internal/bytealg.IndexString", "internal/abi.NoEscape", "internal/bytealg.MakeNoZero"], unfollowed := true, recurses := true, named := ["internal/bytealg.MaxLen"], apart := false, narrowed := true }
def StrsMakesUptoSaid : Prop := strsMakesUptoRow.holds Try.pinned (OpenSpec.upto strsMakesSpec)

end Rows
end Go.Proofs.Ytgafgejkijbmpaa
