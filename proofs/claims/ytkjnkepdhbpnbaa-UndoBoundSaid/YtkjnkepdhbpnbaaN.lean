/- Undo: the law UndoBound. -/
import Derived.Test.YtkjnkepdhbpnbaaM
namespace Go.Proofs.Ytkjnkepdhbpnbaa
open Go Go.Eng Go.Sp
set_option linter.unusedVariables false
set_option linter.unusedSimpArgs false

theorem mayN (m : Int) (n : Nat) : ∃ L : Nat, L ≤ 256 ∧ (if (if (256 : Int) < m then 256 else m) > 0 then if (256 : Int) < m then 256 else m else 0) = (L : Int) ∧ (HS.new n m).most = (L : Int) := by
  refine ⟨(max 0 (min m 256)).toNat, by omega, ?_, ?_⟩
  · split <;> split <;> omega
  · show max 0 (min m 256) = _; omega

theorem push_facts {s : HS} {L : Nat} (hL : s.most = (L : Int)) (x : Int) : (s.push x).at_ = min (s.at_ + 1) L ∧ (s.push x).len = min (s.at_ + 1) L ∧ ∀ k, (s.push x).g k = if s.at_ + 1 - L + k < s.at_ then s.g (s.at_ + 1 - L + k) else x := by
  have hg : s.gone = s.at_ + 1 - L := by
    show s.at_ + 1 - s.most.toNat = _
    rw [hL]; rfl
  refine ⟨?_, ?_, fun k => ?_⟩
  · show s.at_ + 1 - s.gone = _; omega
  · show s.at_ + 1 - s.gone = _; omega
  · show (if s.gone + k < s.at_ then s.g (s.gone + k) else x) = _
    rw [hg]

set_option maxRecDepth 20000 in
set_option maxHeartbeats 4000000 in
theorem bound_law_0 (m : Int) (a : Option Addr) (cap : Nat) (x : Int) : LC Try.prog 3 [.v (.int .i64 m), .v (.slice a 0 cap), .v (.int .i64 x)] [] (fun z _ => z = .v (.bool true)) :=
  bound0_vc m x a cap (by
    intro n1 S
    obtain ⟨L, hL, em, hm⟩ := mayN m n1
    rw [em]
    clear em
    have ok := HS.new_ok n1 m
    have e1 : (HS.new n1 m).hn = n1 := rfl
    generalize HS.new n1 m = s at *
    have le := ok.le
    have lm := ok.lm
    have okp := HS.push_ok ok x
    obtain ⟨hp1, hp2, hp3⟩ := push_facts hm x
    simp (config := {decide := true}) only [true_and, and_true, br_iff, AV.den, Value.int.injEq, AV.v.injEq, Value.bool.injEq, decide_eq_true_eq, decide_eq_false_iff_not, bne_iff_ne, beq_iff_eq, bne_eq_false_iff_eq, beq_eq_false_iff_ne, ne_eq, Bool.not_eq_true, Bool.false_eq, Bool.true_eq, Int.toNat_natCast, Nat.zero_add]
    · skip
      refine ⟨s, _, e1.symm, rfl, ok, fun S1 => ⟨fun hz0 a0 c0 => ?A, fun hp0 n0 N0 c0 g0 hc0 hN0 hg0 => ?B⟩⟩
      case A =>
        refine ⟨s, _, e1.symm, rfl, ok, fun S2 a2 c2 => ⟨fun h => absurd h (by rw [w64 (by omega)]; omega), fun _ => ?_⟩⟩
        refine ⟨s, _, e1.symm, rfl, ok, fun S3 => ⟨fun hz a3 c3 => ⟨s, _, e1.symm, rfl, ok, fun S4 => ⟨s.push x, _, e1.symm, rfl, okp, fun S5 => ⟨fun hz' a5 c5 => ⟨s.push x, _, e1.symm, rfl, okp, fun S6 a6 c6 => ?C00⟩, fun hp' n5 N5 c5 g5 hc5 hN5 hg5 => ⟨s.push x, _, e1.symm, rfl, okp, fun S6 a6 c6 => ?C01⟩⟩⟩⟩, fun hp n3 N3 c3 g3 hc3 hN3 hg3 => ⟨s, _, e1.symm, rfl, ok, fun S4 => ⟨s.push x, _, e1.symm, rfl, okp, fun S5 => ⟨fun hz' a5 c5 => ⟨s.push x, _, e1.symm, rfl, okp, fun S6 a6 c6 => ?C10⟩, fun hp' n5 N5 c5 g5 hc5 hN5 hg5 => ⟨s.push x, _, e1.symm, rfl, okp, fun S6 a6 c6 => ?C11⟩⟩⟩⟩⟩⟩
        case C00 => exact ⟨fun h => absurd h (by omega), fun _ => ⟨fun h => absurd h (by split <;> omega), fun _ => ⟨0, by decide, rfl, LeH.refl _⟩⟩⟩
        case C01 =>
          refine ⟨fun h => absurd h (by omega), fun _ => ⟨fun h => absurd h (by split <;> omega), fun _ => ⟨⟨0, by decide, rfl, LeH.refl _⟩, fun i hi => ⟨fun hlt => ?_, fun _ => trivial⟩⟩⟩⟩
          rw [w64 (x := 1 - ((s.push x).at_ : Int)) (by omega), w64 (by omega)]
          refine ⟨fun h => absurd h (by omega), fun _ => ⟨⟨by omega, by omega⟩, by omega, fun h => absurd ?_ h, fun _ => ⟨i + 1, by omega, by omega, by rw [w64 (by omega)]; rfl, LeH.refl _⟩⟩⟩
          rw [hg5 _ (by omega), hp3, if_neg (by omega)]
        case C10 => exact ⟨fun h => absurd h (by omega), fun _ => ⟨fun h => absurd h (by rw [w64 (by omega)]; split <;> omega), fun _ => ⟨0, by decide, rfl, LeH.refl _⟩⟩⟩
        case C11 =>
          refine ⟨fun h => absurd h (by omega), fun _ => ⟨fun h => absurd h (by rw [w64 (by omega)]; split <;> omega), fun _ => ⟨⟨0, by decide, rfl, LeH.refl _⟩, fun i hi => ⟨fun hlt => ?_, fun _ => trivial⟩⟩⟩⟩
          rw [w64 (x := (s.at_ : Int) + 1) (by omega), w64 (x := (s.at_ : Int) + 1 - ((s.push x).at_ : Int)) (by omega), w64 (x := (s.at_ : Int) + 1 - ((s.push x).at_ : Int) + (i : Int)) (by omega)]
          refine ⟨fun h => ⟨⟨by omega, by omega⟩, by omega, ⟨by omega, by omega⟩, by omega, fun h => absurd ?_ h, fun _ => ⟨i + 1, by omega, by omega, by rw [w64 (by omega)]; rfl, LeH.refl _⟩⟩, fun h => ⟨⟨by omega, by omega⟩, by omega, fun h => absurd ?_ h, fun _ => ⟨i + 1, by omega, by omega, by rw [w64 (by omega)]; rfl, LeH.refl _⟩⟩⟩
          · rw [hg5 _ (by omega), hp3, if_pos (by omega), hg3 _ (by omega)]
            congr 1
            omega
          · rw [hg5 _ (by omega), hp3, if_neg (by omega)]
      case B =>
        refine ⟨s, _, e1.symm, rfl, ok, fun S2 a2 c2 => ⟨fun h => absurd h (by rw [w64 (by omega)]; omega), fun _ => ?_⟩⟩
        refine ⟨s, _, e1.symm, rfl, ok, fun S3 => ⟨fun hz a3 c3 => ⟨s, _, e1.symm, rfl, ok, fun S4 => ⟨s.push x, _, e1.symm, rfl, okp, fun S5 => ⟨fun hz' a5 c5 => ⟨s.push x, _, e1.symm, rfl, okp, fun S6 a6 c6 => ?C00⟩, fun hp' n5 N5 c5 g5 hc5 hN5 hg5 => ⟨s.push x, _, e1.symm, rfl, okp, fun S6 a6 c6 => ?C01⟩⟩⟩⟩, fun hp n3 N3 c3 g3 hc3 hN3 hg3 => ⟨s, _, e1.symm, rfl, ok, fun S4 => ⟨s.push x, _, e1.symm, rfl, okp, fun S5 => ⟨fun hz' a5 c5 => ⟨s.push x, _, e1.symm, rfl, okp, fun S6 a6 c6 => ?C10⟩, fun hp' n5 N5 c5 g5 hc5 hN5 hg5 => ⟨s.push x, _, e1.symm, rfl, okp, fun S6 a6 c6 => ?C11⟩⟩⟩⟩⟩⟩
        case C00 => exact ⟨fun h => absurd h (by omega), fun _ => ⟨fun h => absurd h (by split <;> omega), fun _ => ⟨0, by decide, rfl, LeH.refl _⟩⟩⟩
        case C01 =>
          refine ⟨fun h => absurd h (by omega), fun _ => ⟨fun h => absurd h (by split <;> omega), fun _ => ⟨⟨0, by decide, rfl, LeH.refl _⟩, fun i hi => ⟨fun hlt => ?_, fun _ => trivial⟩⟩⟩⟩
          rw [w64 (x := 1 - ((s.push x).at_ : Int)) (by omega), w64 (by omega)]
          refine ⟨fun h => absurd h (by omega), fun _ => ⟨⟨by omega, by omega⟩, by omega, fun h => absurd ?_ h, fun _ => ⟨i + 1, by omega, by omega, by rw [w64 (by omega)]; rfl, LeH.refl _⟩⟩⟩
          rw [hg5 _ (by omega), hp3, if_neg (by omega)]
        case C10 => exact ⟨fun h => absurd h (by omega), fun _ => ⟨fun h => absurd h (by rw [w64 (by omega)]; split <;> omega), fun _ => ⟨0, by decide, rfl, LeH.refl _⟩⟩⟩
        case C11 =>
          refine ⟨fun h => absurd h (by omega), fun _ => ⟨fun h => absurd h (by rw [w64 (by omega)]; split <;> omega), fun _ => ⟨⟨0, by decide, rfl, LeH.refl _⟩, fun i hi => ⟨fun hlt => ?_, fun _ => trivial⟩⟩⟩⟩
          rw [w64 (x := (s.at_ : Int) + 1) (by omega), w64 (x := (s.at_ : Int) + 1 - ((s.push x).at_ : Int)) (by omega), w64 (x := (s.at_ : Int) + 1 - ((s.push x).at_ : Int) + (i : Int)) (by omega)]
          refine ⟨fun h => ⟨⟨by omega, by omega⟩, by omega, ⟨by omega, by omega⟩, by omega, fun h => absurd ?_ h, fun _ => ⟨i + 1, by omega, by omega, by rw [w64 (by omega)]; rfl, LeH.refl _⟩⟩, fun h => ⟨⟨by omega, by omega⟩, by omega, fun h => absurd ?_ h, fun _ => ⟨i + 1, by omega, by omega, by rw [w64 (by omega)]; rfl, LeH.refl _⟩⟩⟩
          · rw [hg5 _ (by omega), hp3, if_pos (by omega), hg3 _ (by omega)]
            congr 1
            omega
          · rw [hg5 _ (by omega), hp3, if_neg (by omega)]
    )
end Go.Proofs.Ytkjnkepdhbpnbaa

