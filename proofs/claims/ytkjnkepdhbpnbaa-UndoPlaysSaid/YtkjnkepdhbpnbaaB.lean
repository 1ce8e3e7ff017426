/- Undo: of no history. -/
import Derived.Test.YtkjnkepdhbpnbaaA
namespace Go.Proofs.Ytkjnkepdhbpnbaa
open Go Go.Eng
set_option linter.unusedVariables false
set_option linter.unusedSimpArgs false


def marksI : Handler := inlH tab tb1 noinv 2 Try.f21 1

set_option maxRecDepth 100000 in
theorem marks_ok : HOk Try.prog 21 marksI :=
  inl_ok (tbl := tb1) tab_ok tb1_ok mixed noinv 2 _ 1 Try.func21 rfl Try.ntmps21 (by decide) (by kernel_rfl) (Nat.le_of_ble_eq_true rfl)


def tb4 : Tbl := (10, .pure livesH) :: (21, .gen marksI) :: tb3

theorem tb4_ok : TblOk Try.prog tb4 := ⟨lives_ok, marks_ok, tb3_ok⟩


set_option maxRecDepth 100000 in
theorem nil_vc (x : Int) (s : ByteArray) (m : Bool) {R : AV → Prop} (h : (br m (∀ (n1 : Nat), n1 = n1 ∧ n1 = n1 ∧ n1 = n1 ∧ n1 = n1 ∧ n1 = n1 ∧ n1 = n1 ∧ n1 = n1 ∧ ∀ (n2 : Nat), n2 = n2 ∧ n1 = n1 ∧ R (AV.v (Value.bool true))) (∀ (n1 : Nat), n1 = n1 ∧ R (AV.v (Value.bool true))))) : LC Try.prog 8 [.v (.int .i64 x), .v (.string s), .v (.bool m)] [] (fun z_ _ => R z_) :=
  lc_of_exec (tbl := tb4) tab_ok tb4_ok mixed noinv 2 _ Try.func8 rfl Try.ntmps8 (by decide) (by kernel_rfl) (Nat.le_of_ble_eq_true rfl) (@Eq.mpr (execN tab tb4 noinv 2 Try.f8.ntmps [] none 0 (body Try.f8) (argsT [.v (.int .i64 x), .v (.string s), .v (.bool m)] 0) [] (post Try.f8 tab (retK (fun z_ _ => R z_)))) _ (by kernel_rfl) h)


theorem nil_law (x : Int) (s : ByteArray) (m : Bool) : LC Try.prog 8 [.v (.int .i64 x), .v (.string s), .v (.bool m)] [] (fun z _ => z = .v (.bool true)) :=
  nil_vc x s m (by
    simp (config := {decide := true}) [offB, offN, br_iff])
end Go.Proofs.Ytkjnkepdhbpnbaa

