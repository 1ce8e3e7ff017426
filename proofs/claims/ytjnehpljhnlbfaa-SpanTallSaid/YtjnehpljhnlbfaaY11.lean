/- Parcels: methods over known blocks in one parcel. -/
import Derived.Test.YtjnehpljhnlbfaaY8
import Derived.Test.YtjnehpljhnlbfaaY2
namespace Go.Eng
open Go

/-- A method over what is in a parcel, as a handler. -/
theorem parcel_ok {α : Type} {C : α → HH → Prop} (hown : ∀ x H0, C x H0 → allOwn H0) {P : Program} {f : FuncId} {hd : Handler} (he : Enters P f) (h : ∀ rs args H K, hd rs args H K → ∃ (id n : Nat) (x : α) (args' : List AV), denL args' = denL args ∧
      ((∃ S, nth H id = some (packB C n x S) ∧ ∀ H0, C x H0 → LC P f args' H0 (fun z H' => ∃ (x' : α) (N' Nx : HH) (z' : AV), LeH H' (N' ++ Nx) ∧ C x' N' ∧ z'.den = z.den ∧ ∀ S', K (.ret z') (H.set id (packB C n x' S') ++ Nx))) ∨
       (∃ b, nth H id = some b ∧ LC P f args' [b] (fun z H' => ∃ (x' : α) (N' Nx : HH) (z' : AV), LeH H' (N' ++ Nx) ∧ C x' N' ∧ z'.den = z.den ∧ ∀ S', K (.ret z') (H.set id (packB C n x' S') ++ Nx))))) : HOk P f hd := by
  refine HOk.of_at he fun rs args H K hk => ?_
  obtain ⟨id, n, x, args', h2, h3⟩ := h rs args H K hk
  rcases h3 with ⟨S, h1, h3⟩ | ⟨b, h1, h3⟩
  · refine ⟨id, packB C n x S, args', fun z H' => ∃ (x' : α) (S' : List Nat) (Nx : HH) (z' : AV), H' = packB C n x' S' :: Nx ∧ z'.den = z.den ∧ K (.ret z') (H.set id (packB C n x' S') ++ Nx), by rw [← nth_eq]; exact h1, h2, ?_, fun z H' hz => ?_⟩
    · refine LC.of_open he fun w hw => ?_
      obtain ⟨H0, g1, _, _, g4⟩ := To.unpack (Hr := []) hw
      rw [List.append_nil] at g4
      refine ⟨H0, args', _, g4, rfl, h3 H0 g1, fun r H' w' hr hw' => ?_⟩
      obtain ⟨x', N', Nx, z', e1, e2, e4, e5⟩ := hr
      have t1 := e1.to hw'
      have t2 := To.pack (Hr := Nx) n e2 (hown _ _ e2) t1.hp
      exact ⟨z', _, e4, ⟨x', numsAll N', Nx, z', rfl, rfl, e5 _⟩, t1.trans t2⟩
    · obtain ⟨x', S', Nx, z', e1, e2, e3⟩ := hz
      exact ⟨z', packB C n x' S', Nx, e2, e3, e1 ▸ LeH.refl _⟩
  · refine ⟨id, b, args', fun z H' => ∃ (x' : α) (S' : List Nat) (Nx : HH) (z' : AV), H' = packB C n x' S' :: Nx ∧ z'.den = z.den ∧ K (.ret z') (H.set id (packB C n x' S') ++ Nx), by rw [← nth_eq]; exact h1, h2, ?_, fun z H' hz => ?_⟩
    · refine LC.of_open he fun w hw => ?_
      refine ⟨[b], args', _, ⟨hw, fun i d hi k hk => ⟨i, d, hi, hk, fun h => h⟩⟩, rfl, h3, fun r H' w' hr hw' => ?_⟩
      obtain ⟨x', N', Nx, z', e1, e2, e4, e5⟩ := hr
      have t1 := e1.to hw'
      have t2 := To.pack (Hr := Nx) n e2 (hown _ _ e2) t1.hp
      exact ⟨z', _, e4, ⟨x', numsAll N', Nx, z', rfl, rfl, e5 _⟩, t1.trans t2⟩
    · obtain ⟨x', S', Nx, z', e1, e2, e3⟩ := hz
      exact ⟨z', packB C n x' S', Nx, e2, e3, e1 ▸ LeH.refl _⟩
end Go.Eng

