/- Strs: the law StrsChanges. -/
import Derived.Test.YtgafgejkijbmpaaO
namespace Go.Proofs.Ytgafgejkijbmpaa
open Go Go.Eng Go.Sp
set_option linter.unusedVariables false
set_option linter.unusedSimpArgs false

def p1 : Tbl := (14, .gen (glH livesH)) :: (17, .pre replH) :: (18, .pre rreplH) :: (19, .gen (glH substH)) :: (20, .pre rsubstH) :: []

theorem p1_ok : TblOk Try.prog p1 := ⟨lives_ok, repl_ok, rrepl_ok, subst_ok, rsubst_ok, trivial⟩


set_option maxRecDepth 100000 in
theorem changes_vc (m : Int) (s : ByteArray) (at_ n : Int) (old t : ByteArray) {R : AV → Prop} (h : (at_ ≤ (9223372036854775807 : Int) ∧ at_ ≤ (9223372036854775807 : Int) ∧ True ∧ n ≤ (9223372036854775807 : Int) ∧ br (eqS (sOf (replO s at_ n t)) (sOf (replO s at_ n t))) (br (cOf (replO s at_ n t) == cOf (replO s at_ n t)) (br (eqS (sOf (substO s old t n)) (sOf (substO s old t n))) (br (cOf (substO s old t n) == cOf (substO s old t n)) (True ∧ R (AV.v (Value.bool true))) (R (AV.v (Value.bool false)))) (R (AV.v (Value.bool false)))) (R (AV.v (Value.bool false)))) (R (AV.v (Value.bool false))))) : LC Try.prog 4 [.v (.string s), .v (.int .i64 at_), .v (.int .i64 n), .v (.string old), .v (.string t)] [gB m] (fun z_ _ => R z_) :=
  lc_of_exec (tbl := p1) tab_ok p1_ok mixed noinv 2 _ Try.func4 rfl Try.ntmps4 (by decide) (by kernel_rfl) (Nat.le_of_ble_eq_true rfl) (@Eq.mpr (execN tab p1 noinv 2 Try.f4.ntmps [] none 0 (body Try.f4) (argsT [.v (.string s), .v (.int .i64 at_), .v (.int .i64 n), .v (.string old), .v (.string t)] 0) [gB m] (post Try.f4 tab (retK (fun z_ _ => R z_)))) _ (by kernel_rfl) h)


theorem changes_law (m : Int) (s : ByteArray) (at_ n : Int) (old t : ByteArray) (hs : s.size ≤ 140737488351232) (h1 : -9223372036854775808 ≤ at_ ∧ at_ ≤ 9223372036854775807) (h2 : -9223372036854775808 ≤ n ∧ n ≤ 9223372036854775807) (ho : old.size ≤ 140737488351232) (ht : t.size ≤ 140737488351232) :
    LC Try.prog 4 [.v (.string s), .v (.int .i64 at_), .v (.int .i64 n), .v (.string old), .v (.string t)] [gB m] (fun z _ => z = .v (.bool true)) :=
  changes_vc m s at_ n old t (by
    simp [eqS_refl, br_iff]; omega)
end Go.Proofs.Ytgafgejkijbmpaa

