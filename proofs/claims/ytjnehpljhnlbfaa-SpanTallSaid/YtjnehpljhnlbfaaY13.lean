/- Cells under other words; brackets. -/
import Derived.Test.YtjnehpljhnlbfaaY12
import Derived.Test.YtjnehpljhnlbfaaY8
import Derived.Test.YtjnehpljhnlbfaaY11
namespace Go.Eng
open Go Go.Sp

theorem LeB.cells {n : Nat} {l l' : List AV} {ty : TypeId} {own own' : Bool} (h : denL l = denL l') (ho : own' = true → own = true) : LeB ⟨n, .cells l ty, own⟩ ⟨n, .cells l' ty, own'⟩ :=
  ⟨fun k hk => hk, ho, fun w hw => by
    show Held w n (denL l') ty
    rw [← h]; exact hw⟩

theorem br_eq {α : Type} [DecidableEq α] {l m : α} {A B : Prop} (h : l = m) (hb : B) : br (!decide (l = m)) A B := by
  rw [decide_eq_true h]; exact hb

/-- Other words for what a call makes. -/
theorem HOk.mono {P : Program} {f : FuncId} {h h' : Handler} (ok : HOk P f h) (hm : ∀ rs args H K, h' rs args H K → h rs args H fun o H' => ∃ (v v' : AV) (H'' : HH), o = .ret v ∧ v'.den = v.den ∧ K (.ret v') H'' ∧ LeH H' H'') : HOk P f h' := by
  refine ⟨ok.enters, fun rs hrs args H K w hw hk => (ok.calls rs hrs args H _ w hw (hm rs args H K hk)).mono fun e w' hq => ?_⟩
  cases e with
  | returned x =>
    obtain ⟨v, H', rfl, ⟨v1, v2, H2, e1, e2, e3, e4⟩, hx⟩ := hq
    cases e1
    exact ⟨v2, H2, e2.symm, e3, hx.le e4⟩
  | panicked ch =>
    obtain ⟨v, H', rfl, ⟨v1, v2, H2, e1, _⟩, hx⟩ := hq
    cases e1
  | outgrown => exact hq.elim

theorem LC.den {P : Program} {f : FuncId} {args : List AV} {Hin : HH} {Q : AV → HH → Prop} (h : LC P f args Hin fun z H' => ∃ z', z'.den = z.den ∧ Q z' H') : LC P f args Hin Q :=
  ⟨h.enters, fun w hw => (h.calls w hw).mono fun e w' hq => by
    obtain ⟨v, H', rfl, ⟨z', e1, e2⟩, hx⟩ := hq
    exact ⟨z', H', by rw [e1], e2, hx⟩⟩

end Go.Eng

