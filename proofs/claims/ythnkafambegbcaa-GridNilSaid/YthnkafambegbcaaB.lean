/- Grid: of no grid. -/
import Derived.Test.YthnkafambegbcaaA
import Derived.Test.YthnkafambegbcaaL
namespace Go.Proofs.Ythnkafambegbcaa
open Go Go.Eng
set_option linter.unusedVariables false
set_option linter.unusedSimpArgs false

def tbL : Tbl := (9, .pure lH) :: sft55

theorem tbL_ok : TblOk Try.prog tbL := ⟨l_ok, sft55_ok⟩


set_option maxRecDepth 100000 in
theorem nil_vc (y x k a n : Int) (m : Bool) {R : AV → Prop} (h : (∀ (n1 n2 : Nat), br m (∀ (n3 : Nat), n1 = n1 ∧ ∀ (n4 : Nat), n3 = n3 ∧ ∀ (n5 n6 : Nat), n3 = n3 ∧ n6 = n6 ∧ n5 = n5 ∧ n5 = n5 ∧ ∀ (n7 : Nat), n7 = n7 ∧ n2 = n2 ∧ ∀ (n8 n9 n10 : Nat), n3 = n3 ∧ n9 = n9 ∧ n10 = n10 ∧ n9 = n9 ∧ n10 = n10 ∧ n1 = n1 ∧ ∀ (n11 : Nat), n3 = n3 ∧ n1 = n1 ∧ ∀ (n12 : Nat), n12 = n12 ∧ ∀ (n13 : Nat), n3 = n3 ∧ n3 = n3 ∧ n3 = n3 ∧ n3 = n3 ∧ R (AV.v (Value.bool true))) (n1 = n1 ∧ ∀ (n3 n4 n5 : Nat), n5 = n5 ∧ n4 = n4 ∧ n4 = n4 ∧ ∀ (n6 : Nat), n6 = n6 ∧ n2 = n2 ∧ ∀ (n7 n8 n9 : Nat), n8 = n8 ∧ n9 = n9 ∧ n8 = n8 ∧ n9 = n9 ∧ n1 = n1 ∧ ∀ (n10 : Nat), n1 = n1 ∧ ∀ (n11 : Nat), n11 = n11 ∧ ∀ (n12 : Nat), R (AV.v (Value.bool true))))) : LC Try.prog 6 [.agg [.v (.int .i64 y), .v (.int .i64 x)], .agg [.v (.int .i64 k), .v (.int .i64 a), .v (.int .i64 n)], .v (.bool m)] [] (fun z_ _ => R z_) :=
  lc_of_exec (tbl := tbL) tab_ok tbL_ok mixed noinv 2 _ Try.func6 rfl Try.ntmps6 (by decide) (by kernel_rfl) (Nat.le_of_ble_eq_true rfl) (@Eq.mpr (execN tab tbL noinv 2 Try.f6.ntmps [] none 0 (body Try.f6) (argsT [.agg [.v (.int .i64 y), .v (.int .i64 x)], .agg [.v (.int .i64 k), .v (.int .i64 a), .v (.int .i64 n)], .v (.bool m)] 0) [] (post Try.f6 tab (retK (fun z_ _ => R z_)))) _ (by kernel_rfl) h)


theorem nil_law (y x k a n : Int) (m : Bool) : LC Try.prog 6 [.agg [.v (.int .i64 y), .v (.int .i64 x)], .agg [.v (.int .i64 k), .v (.int .i64 a), .v (.int .i64 n)], .v (.bool m)] [] (fun z _ => z = .v (.bool true)) :=
  nil_vc y x k a n m (by simp [br_iff])
end Go.Proofs.Ythnkafambegbcaa

