/-
  NARROWER THAN 'FOR EVERY INPUT', by the rows' own cells (each row's printed sentence says how): CsvWrites: laid · CsvBack: laid · CsvAgain: laid · CsvEnds: laid · CsvRefuses: laid.
  DERIVED. THE GIVEN ROWS OF THIS SEAT. 5 by the template 'for every input the law returns true; each argument reads behind the call as it read before'; 0 by the template 'total and deterministic' (their statements: YtdokphikobfakaaDoorTotals.lean).
  GIVEN WITH THE SEED: the statements are not yours to turn. If you find one false, say at which input.
  Laid BY PROGRAM, IN A SANDBOX (cutbox-rows.mjs): the forced cells as the released guide's own fill.sh prints them over the translation cb9d7a2a0dad168d… (all of the seat's roots in one cut). By AI agents, Wed Nov 11 2026. No macro, syntax, notation, axiom, sorry.
-/
import Derived.Test.YtdokphikobfakaaDoorChecked
import GoSem.PinnedTables
import GoSem.Claim
import GoSem.ClaimJoined
import GoSem.ClaimMapViews
import Derived.JoinedTies
import Derived.KernelRfl
namespace Go.Proofs.YtdokphikobfakaaDoor
/- THE CELL 'sum', in the pinned program and in every row, IS THE sha256 OF THE DUMP (.gsa) THAT YtdokphikobfakaaDoorProg.lean LOADS. Nothing in Lean hashes anything: it is a label: what it is worth is what the hold of that sum in a sandbox is worth. -/
noncomputable def Tryd.pinned : Pinned := { name := "ytdokphikobfakaadoor", sum := "cb9d7a2a0dad168dc7c92456c8b62ab4529969cd4bc217d1548f16214ff2afc7", checked := Tryd.checked }
namespace Rows
def none {H : Type} : Left H := { results := [], args := [] }

/- WHAT THE LISTED PACKAGE-LEVEL VARIABLES READ AS WHEN THE CALL BEGINS. Each datum BY PROGRAM (the guide's laid-datum.mjs) off the statement by which the dump's own 'gosem.cut.vars' lays the variable. In a bare row this is a premise. The card (YtdokphikobfakaaDoorCards.lean) ties it to the program's text. -/
def laid_unicode_utf8_acceptRanges {H : Type} : DataW H := .agg [.agg [.lit (.int .u8 128), .lit (.int .u8 191)], .agg [.lit (.int .u8 160), .lit (.int .u8 191)], .agg [.lit (.int .u8 128), .lit (.int .u8 159)], .agg [.lit (.int .u8 144), .lit (.int .u8 191)], .agg [.lit (.int .u8 128), .lit (.int .u8 143)], .agg [.lit (.int .u8 0), .lit (.int .u8 0)], .agg [.lit (.int .u8 0), .lit (.int .u8 0)], .agg [.lit (.int .u8 0), .lit (.int .u8 0)], .agg [.lit (.int .u8 0), .lit (.int .u8 0)], .agg [.lit (.int .u8 0), .lit (.int .u8 0)], .agg [.lit (.int .u8 0), .lit (.int .u8 0)], .agg [.lit (.int .u8 0), .lit (.int .u8 0)], .agg [.lit (.int .u8 0), .lit (.int .u8 0)], .agg [.lit (.int .u8 0), .lit (.int .u8 0)], .agg [.lit (.int .u8 0), .lit (.int .u8 0)], .agg [.lit (.int .u8 0), .lit (.int .u8 0)]]
/-- One of Go's own tables, pinned by name: the form's constant. -/
def laid_unicode_utf8_first : DataW Unit := Go.Pinned.utf8First

/-- 'foolscaplaw29.CsvWrites': WHATEVER THE INPUT: true; the input reads as it did. -/
def csvWritesSpec : ChangeSpec := { name := "csvWrites", fn := fun _ => fun
  | [d1, d2] => { results := [.lit (.bool true)], args := [d1, d2] }
  | _ => none }
def csvWritesRow : OpenClaim := { program := "ytdokphikobfakaadoor", sum := "cb9d7a2a0dad168dc7c92456c8b62ab4529969cd4bc217d1548f16214ff2afc7", func := "foolscap/foolscaplaw29.CsvWrites", spec := "csvWrites", inPlace := ["internal/abi.NoEscape", "internal/bytealg.IndexByteString", "internal/bytealg.IndexString", "internal/bytealg.CountString", "internal/bytealg.MakeNoZero"], unfollowed := true, recurses := true, named := ["internal/bytealg.MaxLen", "unicode/utf8.first", "unicode/utf8.acceptRanges"], apart := false, laid := [("unicode/utf8.acceptRanges", laid_unicode_utf8_acceptRanges), ("unicode/utf8.first", laid_unicode_utf8_first)] }
def CsvWritesSaid : Prop := csvWritesRow.holds Tryd.pinned (OpenSpec.ofChange csvWritesSpec)

/-- ITS FALSE NEIGHBOUR: 'it returns false'. Refute it at one input. -/
def csvWritesWrong : ChangeSpec := { name := "csvWrites", fn := fun _ => fun
  | [d1, d2] => { results := [.lit (.bool false)], args := [d1, d2] }
  | _ => none }
def CsvWritesWrongFalsely : Prop := csvWritesRow.holds Tryd.pinned (OpenSpec.ofChange csvWritesWrong)

/-- 'foolscaplaw29.CsvBack': WHATEVER THE INPUT: true; the input reads as it did. -/
def csvBackSpec : ChangeSpec := { name := "csvBack", fn := fun _ => fun
  | [d1, d2] => { results := [.lit (.bool true)], args := [d1, d2] }
  | _ => none }
def csvBackRow : OpenClaim := { program := "ytdokphikobfakaadoor", sum := "cb9d7a2a0dad168dc7c92456c8b62ab4529969cd4bc217d1548f16214ff2afc7", func := "foolscap/foolscaplaw29.CsvBack", spec := "csvBack", inPlace := ["internal/abi.NoEscape", "internal/bytealg.IndexByteString", "internal/bytealg.IndexString", "internal/bytealg.CountString", "internal/bytealg.MakeNoZero"], unfollowed := true, recurses := true, named := ["internal/bytealg.MaxLen", "unicode/utf8.first", "unicode/utf8.acceptRanges"], apart := false, laid := [("unicode/utf8.acceptRanges", laid_unicode_utf8_acceptRanges), ("unicode/utf8.first", laid_unicode_utf8_first)] }
def CsvBackSaid : Prop := csvBackRow.holds Tryd.pinned (OpenSpec.ofChange csvBackSpec)

/-- ITS FALSE NEIGHBOUR: 'it returns false'. Refute it at one input. -/
def csvBackWrong : ChangeSpec := { name := "csvBack", fn := fun _ => fun
  | [d1, d2] => { results := [.lit (.bool false)], args := [d1, d2] }
  | _ => none }
def CsvBackWrongFalsely : Prop := csvBackRow.holds Tryd.pinned (OpenSpec.ofChange csvBackWrong)

/-- 'foolscaplaw29.CsvAgain': WHATEVER THE INPUT: true; the input reads as it did. -/
def csvAgainSpec : ChangeSpec := { name := "csvAgain", fn := fun _ => fun
  | [d1, d2] => { results := [.lit (.bool true)], args := [d1, d2] }
  | _ => none }
def csvAgainRow : OpenClaim := { program := "ytdokphikobfakaadoor", sum := "cb9d7a2a0dad168dc7c92456c8b62ab4529969cd4bc217d1548f16214ff2afc7", func := "foolscap/foolscaplaw29.CsvAgain", spec := "csvAgain", inPlace := ["internal/bytealg.IndexByteString", "internal/bytealg.IndexString", "internal/abi.NoEscape", "internal/bytealg.CountString", "internal/bytealg.MakeNoZero"], unfollowed := true, recurses := true, named := ["internal/bytealg.MaxLen", "unicode/utf8.first", "unicode/utf8.acceptRanges"], apart := false, laid := [("unicode/utf8.acceptRanges", laid_unicode_utf8_acceptRanges), ("unicode/utf8.first", laid_unicode_utf8_first)] }
def CsvAgainSaid : Prop := csvAgainRow.holds Tryd.pinned (OpenSpec.ofChange csvAgainSpec)

/-- ITS FALSE NEIGHBOUR: 'it returns false'. Refute it at one input. -/
def csvAgainWrong : ChangeSpec := { name := "csvAgain", fn := fun _ => fun
  | [d1, d2] => { results := [.lit (.bool false)], args := [d1, d2] }
  | _ => none }
def CsvAgainWrongFalsely : Prop := csvAgainRow.holds Tryd.pinned (OpenSpec.ofChange csvAgainWrong)

/-- 'foolscaplaw29.CsvEnds': WHATEVER THE INPUT: true; the input reads as it did. -/
def csvEndsSpec : ChangeSpec := { name := "csvEnds", fn := fun _ => fun
  | [d1, d2] => { results := [.lit (.bool true)], args := [d1, d2] }
  | _ => none }
def csvEndsRow : OpenClaim := { program := "ytdokphikobfakaadoor", sum := "cb9d7a2a0dad168dc7c92456c8b62ab4529969cd4bc217d1548f16214ff2afc7", func := "foolscap/foolscaplaw29.CsvEnds", spec := "csvEnds", inPlace := ["internal/bytealg.IndexByteString", "internal/bytealg.IndexString", "internal/abi.NoEscape", "internal/bytealg.CountString", "internal/bytealg.MakeNoZero"], unfollowed := true, recurses := true, named := ["internal/bytealg.MaxLen", "unicode/utf8.first", "unicode/utf8.acceptRanges"], apart := false, laid := [("unicode/utf8.acceptRanges", laid_unicode_utf8_acceptRanges), ("unicode/utf8.first", laid_unicode_utf8_first)] }
def CsvEndsSaid : Prop := csvEndsRow.holds Tryd.pinned (OpenSpec.ofChange csvEndsSpec)

/-- ITS FALSE NEIGHBOUR: 'it returns false'. Refute it at one input. -/
def csvEndsWrong : ChangeSpec := { name := "csvEnds", fn := fun _ => fun
  | [d1, d2] => { results := [.lit (.bool false)], args := [d1, d2] }
  | _ => none }
def CsvEndsWrongFalsely : Prop := csvEndsRow.holds Tryd.pinned (OpenSpec.ofChange csvEndsWrong)

/-- 'foolscaplaw29.CsvRefuses': WHATEVER THE INPUT: true; the input reads as it did. -/
def csvRefusesSpec : ChangeSpec := { name := "csvRefuses", fn := fun _ => fun
  | [d1, d2] => { results := [.lit (.bool true)], args := [d1, d2] }
  | _ => none }
def csvRefusesRow : OpenClaim := { program := "ytdokphikobfakaadoor", sum := "cb9d7a2a0dad168dc7c92456c8b62ab4529969cd4bc217d1548f16214ff2afc7", func := "foolscap/foolscaplaw29.CsvRefuses", spec := "csvRefuses", inPlace := ["internal/bytealg.IndexByteString", "internal/bytealg.IndexString", "internal/abi.NoEscape", "internal/bytealg.CountString", "internal/bytealg.MakeNoZero"], unfollowed := true, recurses := true, named := ["internal/bytealg.MaxLen", "unicode/utf8.first", "unicode/utf8.acceptRanges"], apart := false, laid := [("unicode/utf8.acceptRanges", laid_unicode_utf8_acceptRanges), ("unicode/utf8.first", laid_unicode_utf8_first)] }
def CsvRefusesSaid : Prop := csvRefusesRow.holds Tryd.pinned (OpenSpec.ofChange csvRefusesSpec)

/-- ITS FALSE NEIGHBOUR: 'it returns false'. Refute it at one input. -/
def csvRefusesWrong : ChangeSpec := { name := "csvRefuses", fn := fun _ => fun
  | [d1, d2] => { results := [.lit (.bool false)], args := [d1, d2] }
  | _ => none }
def CsvRefusesWrongFalsely : Prop := csvRefusesRow.holds Tryd.pinned (OpenSpec.ofChange csvRefusesWrong)

/- THE SECOND FORM. 'bulk': how many values and letters a reading holds, each counted each time it is reached (what is shared counts as often as it is met; a slice's spare places count too). A statement '..UptoSaid' is the law's where the arguments, and the package variables that the reading takes, are together of bulk at most 1048576: NARROWER than '..Said'. Prove '..Said' where nothing that the law and all that it calls make is longer than what came in: it says more and counts as full. Else prove '..UptoSaid'. A law counts once. -/
mutual
def uptoBulk {H : Type} : DataW H → Nat
  | .lit (.string bytes) => bytes.length + 1
  | .lit _ => 1
  | .nil => 1
  | .ptr d => uptoBulk d + 1
  | .slice elems spare => uptoBulkAll elems + uptoBulkAll spare + 1
  | .agg parts => uptoBulkAll parts + 1
  | .iface _ d => uptoBulk d + 1
  | .map entries => uptoBulkEntries entries + 1
  | .held _ => 1
def uptoBulkAll {H : Type} : List (DataW H) → Nat
  | [] => 0
  | d :: r => uptoBulk d + uptoBulkAll r
def uptoBulkEntries {H : Type} : List (Lit × DataW H) → Nat
  | [] => 0
  | x :: r => uptoBulkEntry x + uptoBulkEntries r
def uptoBulkEntry {H : Type} : Lit × DataW H → Nat
  | (.string bytes, d) => bytes.length + uptoBulk d + 1
  | (_, d) => uptoBulk d + 1
 end
def uptoSmall : (H : Type) → List (DataW H) → Bool := fun _ ds => decide (uptoBulkAll ds ≤ 1048576)
def OpenSpec.upto (s : _root_.Go.ChangeSpec) : _root_.Go.OpenSpec := { _root_.Go.OpenSpec.ofChange s with cond := some uptoSmall }

/-- 'foolscaplaw29.CsvWrites', WHERE WHAT IT READS IS OF BULK AT MOST 1048576: true; the input reads as it did. -/
def csvWritesUptoRow : OpenClaim := { program := "ytdokphikobfakaadoor", sum := "cb9d7a2a0dad168dc7c92456c8b62ab4529969cd4bc217d1548f16214ff2afc7", func := "foolscap/foolscaplaw29.CsvWrites", spec := "csvWrites", inPlace := ["internal/abi.NoEscape", "internal/bytealg.IndexByteString", "internal/bytealg.IndexString", "internal/bytealg.CountString", "internal/bytealg.MakeNoZero"], unfollowed := true, recurses := true, named := ["internal/bytealg.MaxLen", "unicode/utf8.first", "unicode/utf8.acceptRanges"], apart := false, laid := [("unicode/utf8.acceptRanges", laid_unicode_utf8_acceptRanges), ("unicode/utf8.first", laid_unicode_utf8_first)], narrowed := true }
def CsvWritesUptoSaid : Prop := csvWritesUptoRow.holds Tryd.pinned (OpenSpec.upto csvWritesSpec)

/-- 'foolscaplaw29.CsvBack', WHERE WHAT IT READS IS OF BULK AT MOST 1048576: true; the input reads as it did. -/
def csvBackUptoRow : OpenClaim := { program := "ytdokphikobfakaadoor", sum := "cb9d7a2a0dad168dc7c92456c8b62ab4529969cd4bc217d1548f16214ff2afc7", func := "foolscap/foolscaplaw29.CsvBack", spec := "csvBack", inPlace := ["internal/abi.NoEscape", "internal/bytealg.IndexByteString", "internal/bytealg.IndexString", "internal/bytealg.CountString", "internal/bytealg.MakeNoZero"], unfollowed := true, recurses := true, named := ["internal/bytealg.MaxLen", "unicode/utf8.first", "unicode/utf8.acceptRanges"], apart := false, laid := [("unicode/utf8.acceptRanges", laid_unicode_utf8_acceptRanges), ("unicode/utf8.first", laid_unicode_utf8_first)], narrowed := true }
def CsvBackUptoSaid : Prop := csvBackUptoRow.holds Tryd.pinned (OpenSpec.upto csvBackSpec)

/-- 'foolscaplaw29.CsvAgain', WHERE WHAT IT READS IS OF BULK AT MOST 1048576: true; the input reads as it did. -/
def csvAgainUptoRow : OpenClaim := { program := "ytdokphikobfakaadoor", sum := "cb9d7a2a0dad168dc7c92456c8b62ab4529969cd4bc217d1548f16214ff2afc7", func := "foolscap/foolscaplaw29.CsvAgain", spec := "csvAgain", inPlace := ["internal/bytealg.IndexByteString", "internal/bytealg.IndexString", "internal/abi.NoEscape", "internal/bytealg.CountString", "internal/bytealg.MakeNoZero"], unfollowed := true, recurses := true, named := ["internal/bytealg.MaxLen", "unicode/utf8.first", "unicode/utf8.acceptRanges"], apart := false, laid := [("unicode/utf8.acceptRanges", laid_unicode_utf8_acceptRanges), ("unicode/utf8.first", laid_unicode_utf8_first)], narrowed := true }
def CsvAgainUptoSaid : Prop := csvAgainUptoRow.holds Tryd.pinned (OpenSpec.upto csvAgainSpec)

/-- 'foolscaplaw29.CsvEnds', WHERE WHAT IT READS IS OF BULK AT MOST 1048576: true; the input reads as it did. -/
def csvEndsUptoRow : OpenClaim := { program := "ytdokphikobfakaadoor", sum := "cb9d7a2a0dad168dc7c92456c8b62ab4529969cd4bc217d1548f16214ff2afc7", func := "foolscap/foolscaplaw29.CsvEnds", spec := "csvEnds", inPlace := ["internal/bytealg.IndexByteString", "internal/bytealg.IndexString", "internal/abi.NoEscape", "internal/bytealg.CountString", "internal/bytealg.MakeNoZero"], unfollowed := true, recurses := true, named := ["internal/bytealg.MaxLen", "unicode/utf8.first", "unicode/utf8.acceptRanges"], apart := false, laid := [("unicode/utf8.acceptRanges", laid_unicode_utf8_acceptRanges), ("unicode/utf8.first", laid_unicode_utf8_first)], narrowed := true }
def CsvEndsUptoSaid : Prop := csvEndsUptoRow.holds Tryd.pinned (OpenSpec.upto csvEndsSpec)

/-- 'foolscaplaw29.CsvRefuses', WHERE WHAT IT READS IS OF BULK AT MOST 1048576: true; the input reads as it did. -/
def csvRefusesUptoRow : OpenClaim := { program := "ytdokphikobfakaadoor", sum := "cb9d7a2a0dad168dc7c92456c8b62ab4529969cd4bc217d1548f16214ff2afc7", func := "foolscap/foolscaplaw29.CsvRefuses", spec := "csvRefuses", inPlace := ["internal/bytealg.IndexByteString", "internal/bytealg.IndexString", "internal/abi.NoEscape", "internal/bytealg.CountString", "internal/bytealg.MakeNoZero"], unfollowed := true, recurses := true, named := ["internal/bytealg.MaxLen", "unicode/utf8.first", "unicode/utf8.acceptRanges"], apart := false, laid := [("unicode/utf8.acceptRanges", laid_unicode_utf8_acceptRanges), ("unicode/utf8.first", laid_unicode_utf8_first)], narrowed := true }
def CsvRefusesUptoSaid : Prop := csvRefusesUptoRow.holds Tryd.pinned (OpenSpec.upto csvRefusesSpec)

end Rows
end Go.Proofs.YtdokphikobfakaaDoor
