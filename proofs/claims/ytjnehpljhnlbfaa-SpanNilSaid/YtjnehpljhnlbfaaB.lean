/- Span: of no set. -/
import Derived.Test.YtjnehpljhnlbfaaA
namespace Go.Proofs.Ytjnehpljhnlbfaa
open Go Go.Eng
set_option linter.unusedVariables false
set_option linter.unusedSimpArgs false

theorem nil_law (i t l b r y x k a n : Int) (m : Bool) : LC Try.prog 9 [.v (.int .i64 i), .agg [.v (.int .i64 t), .v (.int .i64 l), .v (.int .i64 b), .v (.int .i64 r)], .agg [.v (.int .i64 y), .v (.int .i64 x)], .agg [.v (.int .i64 k), .v (.int .i64 a), .v (.int .i64 n)], .v (.bool m)] [] (fun z _ => z = .v (.bool true)) :=
  nil_vc i t l b r y x k a n m (by simp [br_iff])
end Go.Proofs.Ytjnehpljhnlbfaa

