/- A struct of plain parts, also of structs, opened. -/
import Derived.Test.YtilejaehbgljbaaDoorEngR
namespace Go.Eng
open Go

section
variable {H : Type} {P : Program} {enc : TypeId × Value → H} {w : World} {base : Nat} {spare : Nat → Bool} {held : Bool}

theorem AllKd.cons_inv {k : Kd} {ks : List Kd} {l : List Value} (h : AllKd (k :: ks) l) : ∃ v l', l = v :: l' ∧ k.ok v ∧ AllKd ks l' := by
  cases l with
  | nil => exact h.elim
  | cons v l => exact ⟨v, l, rfl, h.1, h.2⟩

theorem AllKd.nil_inv {l : List Value} (h : AllKd [] l) : l = [] := by
  cases l with
  | nil => rfl
  | cons v l => exact h.elim

theorem open_kinds {tab : Tab} (ht : TabOk P tab) {r : Reach} {b0 : Nat} {t dd : Nat} {fs : Array Field} {ks : List Kd} {v : Value} {d : DataW H} {p : List MemPlace} (hts : P.underlying t = some (.struct fs)) (hks : kindsOf tab dd t = some ks)
    (hv : Value.okWide P w r b0 t v) (h : DataW.Trod enc P w base spare held t v d p) : ∃ l : List Value, v = .agg l.toArray ∧ AllKd ks l := by
  obtain ⟨cs, rfl, hsz⟩ := WideShapes.okWide_struct hts hv
  obtain ⟨fuel, hf⟩ := h
  have := trod_kinds ht dd fuel t cs.toList _ ks (by simpa [Value.cells] using hf) hks
  exact ⟨cs.toList, by simp, this⟩
end
end Go.Eng

