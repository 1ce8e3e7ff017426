import Derived.Test.YtjnehpljhnlbfaaEngE
namespace Go.Eng
open Go Go.Sp
def rfs : Code → List (Code × Code)
  | .rangeFunc _ _ a b => (a, b) :: (rfs a ++ rfs b)
  | .seq a b => rfs a ++ rfs b
  | .cond _ a b => rfs a ++ rfs b
  | .block _ c => rfs c
  | .loop c => rfs c
  | .scope c => rfs c
  | _ => []
def rfA (f : Func) (k : Nat) : Code := match nth (rfs (body f)) k with | some p => p.1 | none => .skip
def rfB (f : Func) (k : Nat) : Code := match nth (rfs (body f)) k with | some p => p.2 | none => .skip
end Go.Eng
