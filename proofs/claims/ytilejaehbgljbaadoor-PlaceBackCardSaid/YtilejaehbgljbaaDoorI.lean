/- Place: the law PlaceCells. -/
import Derived.Test.YtilejaehbgljbaaDoorH
import Derived.Test.YtilejaehbgljbaaDoorJ
namespace Go.Sp
open Go.Eng Go.Proofs.YtilejaehbgljbaaDoor

/-- What is read of a text, in parts. -/
structure Cell where
  row : Int
  col : Int
  fixRow : Bool
  fixCol : Bool
  e : Int

def parseC (s : ByteArray) : Cell :=
  if colE (letsL (tailD s)) = 5 ∨ badD (tailD (restL (tailD s))) = true then ⟨0, 0, false, false, 5⟩
  else if colE (letsL (tailD s)) ≠ 0 ∨ valN (tailD (restL (tailD s))) (tailD (restL (tailD s))).size > 1048576 then ⟨0, 0, false, false, 11⟩
  else ⟨valN (tailD (restL (tailD s))) (tailD (restL (tailD s))).size, colN (letsL (tailD s)), d1 (restL (tailD s)), d1 s, 0⟩

theorem parse_parts (s : ByteArray) : parseA s = .tup [.agg [.v (.int .i64 (parseC s).row), .v (.int .i64 (parseC s).col), .v (.bool (parseC s).fixRow), .v (.bool (parseC s).fixCol)], .v (.int .i64 (parseC s).e)] := by
  unfold parseA parseC
  repeat' split
  all_goals rfl

end Go.Sp
namespace Go.Eng
open Go.Sp

def parseT : List AV → Option (Prop × AV)
  | [.v (.string s)] => some (s.size ≤ 9223372036854775806, .tup [.agg [.v (.int .i64 (parseC s).row), .v (.int .i64 (parseC s).col), .v (.bool (parseC s).fixRow), .v (.bool (parseC s).fixCol)], .v (.int .i64 (parseC s).e)])
  | _ => none

end Go.Eng
namespace Go.Proofs.YtilejaehbgljbaaDoor
open Go Go.Eng Go.Sp
set_option linter.unusedVariables false
set_option linter.unusedSimpArgs false

theorem parseT_ok : PrOk Tryd.prog 17 parseT := PrOk.of_lc (enters_of (c := body Tryd.f17) Tryd.func17 rfl (by kernel_rfl)) (by
  intro args p h hp
  unfold parseT at h
  split at h
  · cases h; rw [← parse_parts]; exact parse_lc _ hp
  · cases h)

theorem rparseT_ok : PrOk Tryd.prog 18 parseT := PrOk.of_lc (enters_of (c := body Tryd.f18) Tryd.func18 rfl (by kernel_rfl)) (by
  intro args p h hp
  unfold parseT at h
  split at h
  · cases h; rw [← parse_parts]; exact rparse_lc _ hp
  · cases h)

def i0 : Tbl := (15, .gen (tabH GT printH)) :: (16, .pre printH) :: (17, .pre parseT) :: (18, .pre parseT) :: tb8

theorem i0_ok : TblOk Tryd.prog i0 := ⟨printX_ok, rprintX_ok, parseT_ok, rparseT_ok, tb8_ok⟩


set_option maxRecDepth 100000 in
theorem cells_vc (o : Obj) (r c : Int) (fr fc : Bool) (s : ByteArray) {R : AV → Prop} (h : (∀ (n1 : Nat), n1 = n1 ∧ GT = GT ∧ tabOk o ∧ True ∧ n1 = n1 ∧ True ∧ s.size ≤ (9223372036854775806 : Nat) ∧ ∀ (n2 : Nat), n2 = n2 ∧ s.size ≤ (9223372036854775806 : Nat) ∧ ∀ (n3 : Nat), n3 = n3 ∧ br (eqS (printB r c fr fc) (printB r c fr fc)) (br (ifB (okP r c) (0 : Int) (2 : Int) == ifB (okP r c) (0 : Int) (2 : Int)) (n2 = n2 ∧ n3 = n3 ∧ br ((parseC s).row == (parseC s).row && ((parseC s).col == (parseC s).col && true) && ((parseC s).fixRow == (parseC s).fixRow && ((parseC s).fixCol == (parseC s).fixCol && true))) (br ((parseC s).e == (parseC s).e) (R (AV.v (Value.bool true))) (R (AV.v (Value.bool false)))) (R (AV.v (Value.bool false)))) (R (AV.v (Value.bool false)))) (R (AV.v (Value.bool false))))) : LC Tryd.prog 4 [.agg [.v (.int .i64 r), .v (.int .i64 c), .v (.bool fr), .v (.bool fc)], .v (.string s)] [tB GT o] (fun z_ _ => R z_) :=
  lc_of_exec (tbl := i0) tab_ok i0_ok mixed noinv 2 _ Tryd.func4 rfl Tryd.ntmps4 (by decide) (by kernel_rfl) (Nat.le_of_ble_eq_true rfl) (@Eq.mpr (execN tab i0 noinv 2 Tryd.f4.ntmps [] none 0 (body Tryd.f4) (argsT [.agg [.v (.int .i64 r), .v (.int .i64 c), .v (.bool fr), .v (.bool fc)], .v (.string s)] 0) [tB GT o] (post Tryd.f4 tab (retK (fun z_ _ => R z_)))) _ (by kernel_rfl) h)


theorem cells_law (o : Obj) (ho : tabOk o) (r c : Int) (fr fc : Bool) (s : ByteArray) (_ : -9223372036854775808 ≤ r ∧ r ≤ 9223372036854775807) (_ : -9223372036854775808 ≤ c ∧ c ≤ 9223372036854775807) (hs : s.size ≤ 140737488351232) : LC Tryd.prog 4 [.agg [.v (.int .i64 r), .v (.int .i64 c), .v (.bool fr), .v (.bool fc)], .v (.string s)] [tB GT o] (fun z _ => z = .v (.bool true)) :=
  cells_vc o r c fr fc s (by
    simp [br_iff, eqS_self, ho]
    omega)
end Go.Proofs.YtilejaehbgljbaaDoor

