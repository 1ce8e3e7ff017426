/- Place: from a row's condition to the table's block. -/
import Derived.Test.YtilejaehbgljbaaDoorF
import Derived.Lib.LaidTab
import Derived.Stop.LaidErr
import Derived.MakeChecks
namespace Go.Proofs.YtilejaehbgljbaaDoor
open Go Go.Eng Go.Sp

theorem tab_of_laid {W : World} {rest : List (String × DataW Unit)} (h : laidMet Tryd.prog (("internal/strconv.uint64pow10", Lib.tabData .u64 Lib.pow10Tab) :: rest) W) : ∃ o, tabOk o ∧ HoldsH [tB GT o] W := by
  have ht := Lib.tabIs_of_head (n := 20) gt_ok (by kernel_rfl) Tryd.underlying99 Tryd.underlying85 (by kernel_rfl) (by kernel_rfl) h
  simp only [Lib.TabIs, World.var?, gt_ok, Option.bind_some] at ht
  split at ht
  · rename_i cs ty fz hc
    cases ht
    refine ⟨Obj.cells _ ty fz, ⟨ty, fz, rfl⟩, ⟨fun i b hi => ?_, fun i j b c hi hj hij => ?_⟩⟩
    · cases i with
      | zero => simp at hi; subst hi; exact hc
      | succ i => simp at hi
    · cases i with
      | zero => (cases j with
        | zero => exact absurd rfl hij
        | succ j => simp at hj)
      | succ i => simp at hi
  · cases ht
end Go.Proofs.YtilejaehbgljbaaDoor

