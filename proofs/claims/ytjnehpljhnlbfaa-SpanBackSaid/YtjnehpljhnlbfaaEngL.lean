/- The engine: short names for the codes of rounds. -/
import Derived.Test.YtjnehpljhnlbfaaEngE
namespace Go.Eng
open Go Go.Sp

/-- The ranges over functions in a code: what takes the values, and the round. -/
def rfs : Code → List (Code × Code)
  | .rangeFunc _ _ a b => (a, b) :: (rfs a ++ rfs b)
  | .seq a b => rfs a ++ rfs b
  | .cond _ a b => rfs a ++ rfs b
  | .block _ c => rfs c
  | .loop c => rfs c
  | .scope c => rfs c
  | _ => []

def rfA (f : Func) (k : Nat) : Code := match nth (rfs (body f)) k with | some p => p.1 | none => .skip
def rfB (f : Func) (k : Nat) : Code := match nth (rfs (body f)) k with | some p => p.2 | none => .skip
end Go.Eng
