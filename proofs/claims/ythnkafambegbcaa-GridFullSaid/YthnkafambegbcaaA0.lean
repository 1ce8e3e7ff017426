import Derived.Test.YthnkafambegbcaaTab
import Derived.Test.YthnkafambegbcaaEngN
import Derived.IntWalk
namespace Go.Proofs.Ythnkafambegbcaa
open Go Go.Eng
set_option linter.unusedVariables false
set_option linter.unusedSimpArgs false
theorem mixed : Try.prog.follows .mixedOrders = true := by kernel_rfl
theorem w64 {x : Int} (h : -9223372036854775808 ≤ x ∧ x ≤ 9223372036854775807) : IntKind.i64.wrap x = x := IntWalk.i64_in _ h
def tm : Tbl := (4294967295, .ext mergeFlag) :: []
theorem tm_ok : TblOk Try.prog tm := ⟨flag_ok, trivial⟩
end Go.Proofs.Ythnkafambegbcaa
