/- Undo: the law UndoAll, of no items, closed. -/
import Derived.Test.YtkjnkepdhbpnbaaE
import Derived.Test.YtkjnkepdhbpnbaaEngR
namespace Go.Proofs.Ytkjnkepdhbpnbaa
open Go Go.Eng
set_option linter.unusedVariables false
set_option linter.unusedSimpArgs false

theorem minz (m : Int) : (if (if (if 256 < m then 256 else m) > 0 then if 256 < m then 256 else m else 0) < 0 then (if (if 256 < m then 256 else m) > 0 then if 256 < m then 256 else m else 0) else 0) = (0 : Int) := by
  generalize (if 256 < m then 256 else m) = x
  have h : (0 : Int) ≤ if x > 0 then x else 0 := by split <;> omega
  rw [if_neg (by omega)]

theorem all_law_0 (m : Int) (a : Option Addr) (cap : Nat) : LC Try.prog 4 [.v (.int .i64 m), .v (.slice a 0 cap)] [] (fun z _ => z = .v (.bool true)) := by
  cases a with
  | none =>
    exact none_vc m cap (by
      simp (config := {decide := true}) [minz, br_iff]
      exact fun _ _ => LeH.refl _)
  | some a =>
    exact noneS_vc m a cap (by
      simp (config := {decide := true}) [minz, br_iff]
      exact fun _ _ => LeH.refl _)
end Go.Proofs.Ytkjnkepdhbpnbaa

