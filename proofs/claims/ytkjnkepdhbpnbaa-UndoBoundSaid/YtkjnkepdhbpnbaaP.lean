/- Undo: the law UndoBound, a list of some. -/
import Derived.Test.YtkjnkepdhbpnbaaN
namespace Go.Proofs.Ytkjnkepdhbpnbaa
open Go Go.Eng Go.Sp
set_option linter.unusedVariables false
set_option linter.unusedSimpArgs false

set_option maxRecDepth 20000 in
set_option maxHeartbeats 4000000 in
theorem bound_law_1 (m : Int) (n o len cap : Nat) (gk gx : Nat → Int) (gn : Nat → ByteArray) (x : Int) (hl : 0 < len) (hc : len ≤ cap) (hcm : cap ≤ 9223372036854775807) : LC Try.prog 3 [.v (.int .i64 m), .vl 0 n o 0 3 len cap, .v (.int .i64 x)] [⟨n, .view o len [.ints .i64 gk, .ints .i64 gx, .strs gn], false⟩] (fun z _ => z = .v (.bool true)) :=
  bound1_vc m x n o len cap gk gx gn (by
    intro n1 S
    obtain ⟨L, hL, em, hm0⟩ := mayN m n1
    rw [em]
    clear em
    refine ⟨⟨(HS.new n1 m, S, 0), ⟨HS.new_ok n1 m, rfl, rfl⟩, ⟨rfl, rfl, rfl, trivial⟩, LeH.refl _⟩, ?_⟩
    rintro ⟨s, S0, i⟩ ⟨ok, e1, hm⟩
    replace ok : s.ok := ok
    replace e1 : s.hn = n1 := e1
    replace hm : s.most = (L : Int) := by rw [show s.most = (HS.new n1 m).most from hm, hm0]
    have mm : ((L : Int)) = max 0 (min m 256) := by rw [← hm0]; rfl
    have le := ok.le
    have lm := ok.lm
    simp (config := {decide := true}) only [true_and, and_true, br_iff, AV.den, Value.int.injEq, AV.v.injEq, Value.bool.injEq, decide_eq_true_eq, decide_eq_false_iff_not, bne_iff_ne, beq_iff_eq, bne_eq_false_iff_eq, beq_eq_false_iff_ne, ne_eq, Bool.not_eq_true, Bool.false_eq, Bool.true_eq, Int.toNat_natCast, Nat.zero_add]
    have fin : ∀ (s' : HS) (S' : List Nat) (G : HH), s'.ok → s'.hn = n1 → s'.most = (L : Int) → i < len → ∃ (x' : HS × List Nat × Nat), (x'.fst.ok ∧ x'.fst.hn = n1 ∧ x'.fst.most = max 0 (min m 256)) ∧ len - x'.snd.snd < len - i ∧ IntKind.i64.wrap ((i : Int) + 1) = (x'.snd.snd : Int) ∧ LeH ([Blk.mk n (Cont.view o len [Col.ints IntKind.i64 gk, Col.ints IntKind.i64 gx, Col.strs gn]) false, hH s' S'] ++ G) [Blk.mk n (Cont.view o len [Col.ints IntKind.i64 gk, Col.ints IntKind.i64 gx, Col.strs gn]) false, hH x'.1 x'.2.1] := fun s' S' G g1 g2 g3 hi =>
      ⟨(s', S', i + 1), ⟨g1, g2, by rw [← mm]; exact g3⟩, by show len - (i + 1) < len - i; omega, by rw [w64 (by omega)]; rfl, leAt [0, 1] (by decide) (LeBs.refl _)⟩
    refine ⟨fun hi => ?_, fun _ => ⟨fun _ => trivial, fun h300 => ?_⟩⟩
    · have hi : i < len := by omega
      refine ⟨⟨by omega, by omega⟩, hi, fun _ => ⟨s, _, e1.symm, rfl, ok, fun S' => ⟨fun _ => fin s S' [] ok e1 hm hi, fun _ => fin s.back S' [] (HS.back_ok ok) e1 hm hi⟩⟩, fun _ => ⟨fun _ => ⟨s, _, e1.symm, rfl, ok, fun S' => ⟨fun _ => fin s S' [] ok e1 hm hi, fun h => fin s.again S' [] (HS.again_ok ok h) e1 hm hi⟩⟩, fun _ => ⟨fun _ => ⟨⟨by omega, by omega⟩, hi, s, _, e1.symm, rfl, ok, fun S' => ⟨fun _ => fin s S' [] ok e1 hm hi, fun _ => ⟨fun v b hb => fin (s.remark _ b) S' [] (HS.remark_ok ok hb) e1 hm hi, fun hn => ⟨fun _ => fin s S' [] ok e1 hm hi, fun _ => fin (s.mark1 _) S' [] (HS.mark1_ok ok hn) e1 hm hi⟩⟩⟩⟩, fun _ => ⟨fun _ => ⟨⟨by omega, by omega⟩, hi, s, _, e1.symm, rfl, ok, fun S' => ⟨fun _ => fin s S' [] ok e1 hm hi, fun v b hb => ⟨fun _ => fin s S' [] ok e1 hm hi, fun h _ _ _ _ _ => fin (s.goTo v) S' [_] (HS.goTo_ok ok (by omega)) e1 hm hi, fun h h2 _ _ _ _ _ => fin (s.goTo v) S' [_] (HS.goTo_ok ok h2) e1 hm hi⟩⟩⟩, fun _ => ⟨⟨by omega, by omega⟩, hi, s, _, e1.symm, rfl, ok, fun S' => fin (s.push _) S' [] (HS.push_ok ok _) e1 hm hi⟩⟩⟩⟩⟩
    · have okp := HS.push_ok ok x
      obtain ⟨hp1, hp2, hp3⟩ := push_facts hm x
      refine ⟨s, _, e1.symm, rfl, ok, fun S1 => ⟨fun hz0 a0 c0 => ?A, fun hp0 n0 N0 c0 g0 hc0 hN0 hg0 => ?B⟩⟩
      case A =>
        refine ⟨s, _, e1.symm, rfl, ok, fun S2 a2 c2 => ⟨fun h => absurd h (by rw [w64 (by omega)]; omega), fun _ => ?_⟩⟩
        refine ⟨s, _, e1.symm, rfl, ok, fun S3 => ⟨fun hz a3 c3 => ⟨s, _, e1.symm, rfl, ok, fun S4 => ⟨s.push x, _, e1.symm, rfl, okp, fun S5 => ⟨fun hz' a5 c5 => ⟨s.push x, _, e1.symm, rfl, okp, fun S6 a6 c6 => ?C00⟩, fun hp' n5 N5 c5 g5 hc5 hN5 hg5 => ⟨s.push x, _, e1.symm, rfl, okp, fun S6 a6 c6 => ?C01⟩⟩⟩⟩, fun hp n3 N3 c3 g3 hc3 hN3 hg3 => ⟨s, _, e1.symm, rfl, ok, fun S4 => ⟨s.push x, _, e1.symm, rfl, okp, fun S5 => ⟨fun hz' a5 c5 => ⟨s.push x, _, e1.symm, rfl, okp, fun S6 a6 c6 => ?C10⟩, fun hp' n5 N5 c5 g5 hc5 hN5 hg5 => ⟨s.push x, _, e1.symm, rfl, okp, fun S6 a6 c6 => ?C11⟩⟩⟩⟩⟩⟩
        case C00 => exact ⟨fun h => absurd h (by omega), fun _ => ⟨fun h => absurd h (by split <;> omega), fun _ => ⟨0, by decide, rfl, LeH.refl _⟩⟩⟩
        case C01 =>
          refine ⟨fun h => absurd h (by omega), fun _ => ⟨fun h => absurd h (by split <;> omega), fun _ => ⟨⟨0, by decide, rfl, LeH.refl _⟩, fun i hi => ⟨fun hlt => ?_, fun _ => trivial⟩⟩⟩⟩
          rw [w64 (x := 1 - ((s.push x).at_ : Int)) (by omega), w64 (by omega)]
          refine ⟨fun h => absurd h (by omega), fun _ => ⟨⟨by omega, by omega⟩, by omega, fun h => absurd ?_ h, fun _ => ⟨i + 1, by omega, by omega, by rw [w64 (by omega)]; rfl, LeH.refl _⟩⟩⟩
          rw [hg5 _ (by omega), hp3, if_neg (by omega)]
        case C10 => exact ⟨fun h => absurd h (by omega), fun _ => ⟨fun h => absurd h (by rw [w64 (by omega)]; split <;> omega), fun _ => ⟨0, by decide, rfl, LeH.refl _⟩⟩⟩
        case C11 =>
          refine ⟨fun h => absurd h (by omega), fun _ => ⟨fun h => absurd h (by rw [w64 (by omega)]; split <;> omega), fun _ => ⟨⟨0, by decide, rfl, LeH.refl _⟩, fun i hi => ⟨fun hlt => ?_, fun _ => trivial⟩⟩⟩⟩
          rw [w64 (x := (s.at_ : Int) + 1) (by omega), w64 (x := (s.at_ : Int) + 1 - ((s.push x).at_ : Int)) (by omega), w64 (x := (s.at_ : Int) + 1 - ((s.push x).at_ : Int) + (i : Int)) (by omega)]
          refine ⟨fun h => ⟨⟨by omega, by omega⟩, by omega, ⟨by omega, by omega⟩, by omega, fun h => absurd ?_ h, fun _ => ⟨i + 1, by omega, by omega, by rw [w64 (by omega)]; rfl, LeH.refl _⟩⟩, fun h => ⟨⟨by omega, by omega⟩, by omega, fun h => absurd ?_ h, fun _ => ⟨i + 1, by omega, by omega, by rw [w64 (by omega)]; rfl, LeH.refl _⟩⟩⟩
          · rw [hg5 _ (by omega), hp3, if_pos (by omega), hg3 _ (by omega)]
            congr 1
            omega
          · rw [hg5 _ (by omega), hp3, if_neg (by omega)]
      case B =>
        refine ⟨s, _, e1.symm, rfl, ok, fun S2 a2 c2 => ⟨fun h => absurd h (by rw [w64 (by omega)]; omega), fun _ => ?_⟩⟩
        refine ⟨s, _, e1.symm, rfl, ok, fun S3 => ⟨fun hz a3 c3 => ⟨s, _, e1.symm, rfl, ok, fun S4 => ⟨s.push x, _, e1.symm, rfl, okp, fun S5 => ⟨fun hz' a5 c5 => ⟨s.push x, _, e1.symm, rfl, okp, fun S6 a6 c6 => ?C00⟩, fun hp' n5 N5 c5 g5 hc5 hN5 hg5 => ⟨s.push x, _, e1.symm, rfl, okp, fun S6 a6 c6 => ?C01⟩⟩⟩⟩, fun hp n3 N3 c3 g3 hc3 hN3 hg3 => ⟨s, _, e1.symm, rfl, ok, fun S4 => ⟨s.push x, _, e1.symm, rfl, okp, fun S5 => ⟨fun hz' a5 c5 => ⟨s.push x, _, e1.symm, rfl, okp, fun S6 a6 c6 => ?C10⟩, fun hp' n5 N5 c5 g5 hc5 hN5 hg5 => ⟨s.push x, _, e1.symm, rfl, okp, fun S6 a6 c6 => ?C11⟩⟩⟩⟩⟩⟩
        case C00 => exact ⟨fun h => absurd h (by omega), fun _ => ⟨fun h => absurd h (by split <;> omega), fun _ => ⟨0, by decide, rfl, LeH.refl _⟩⟩⟩
        case C01 =>
          refine ⟨fun h => absurd h (by omega), fun _ => ⟨fun h => absurd h (by split <;> omega), fun _ => ⟨⟨0, by decide, rfl, LeH.refl _⟩, fun i hi => ⟨fun hlt => ?_, fun _ => trivial⟩⟩⟩⟩
          rw [w64 (x := 1 - ((s.push x).at_ : Int)) (by omega), w64 (by omega)]
          refine ⟨fun h => absurd h (by omega), fun _ => ⟨⟨by omega, by omega⟩, by omega, fun h => absurd ?_ h, fun _ => ⟨i + 1, by omega, by omega, by rw [w64 (by omega)]; rfl, LeH.refl _⟩⟩⟩
          rw [hg5 _ (by omega), hp3, if_neg (by omega)]
        case C10 => exact ⟨fun h => absurd h (by omega), fun _ => ⟨fun h => absurd h (by rw [w64 (by omega)]; split <;> omega), fun _ => ⟨0, by decide, rfl, LeH.refl _⟩⟩⟩
        case C11 =>
          refine ⟨fun h => absurd h (by omega), fun _ => ⟨fun h => absurd h (by rw [w64 (by omega)]; split <;> omega), fun _ => ⟨⟨0, by decide, rfl, LeH.refl _⟩, fun i hi => ⟨fun hlt => ?_, fun _ => trivial⟩⟩⟩⟩
          rw [w64 (x := (s.at_ : Int) + 1) (by omega), w64 (x := (s.at_ : Int) + 1 - ((s.push x).at_ : Int)) (by omega), w64 (x := (s.at_ : Int) + 1 - ((s.push x).at_ : Int) + (i : Int)) (by omega)]
          refine ⟨fun h => ⟨⟨by omega, by omega⟩, by omega, ⟨by omega, by omega⟩, by omega, fun h => absurd ?_ h, fun _ => ⟨i + 1, by omega, by omega, by rw [w64 (by omega)]; rfl, LeH.refl _⟩⟩, fun h => ⟨⟨by omega, by omega⟩, by omega, fun h => absurd ?_ h, fun _ => ⟨i + 1, by omega, by omega, by rw [w64 (by omega)]; rfl, LeH.refl _⟩⟩⟩
          · rw [hg5 _ (by omega), hp3, if_pos (by omega), hg3 _ (by omega)]
            congr 1
            omega
          · rw [hg5 _ (by omega), hp3, if_neg (by omega)]
    )
end Go.Proofs.Ytkjnkepdhbpnbaa

