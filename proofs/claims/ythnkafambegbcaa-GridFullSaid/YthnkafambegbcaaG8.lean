import Derived.Test.YthnkafambegbcaaG7
import Derived.Test.YthnkafambegbcaaL
namespace Go.Proofs.Ythnkafambegbcaa
open Go Go.Eng Go.Sp
set_option linter.unusedVariables false
set_option linter.unusedSimpArgs false
theorem lv_ok : POk Try.prog 9 lvH := by
  have e : lvH = lH := by
    funext l
    cases l <;> rfl
  rw [e]; exact l_ok
theorem full_law (most n : Int) : LC Try.prog 3 [.v (.int .i64 most), .v (.int .i64 n)] [] (fun z _ => z = .v (.bool true)) := full_of lv_ok most n
end Go.Proofs.Ythnkafambegbcaa
