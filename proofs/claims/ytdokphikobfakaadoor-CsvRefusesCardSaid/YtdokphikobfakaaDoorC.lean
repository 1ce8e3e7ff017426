/- Csv: the law CsvRefuses. -/
import Derived.Test.YtdokphikobfakaaDoorB
import Derived.Test.YtdokphikobfakaaDoorY6
namespace Go.Proofs.YtdokphikobfakaaDoor
open Go Go.Eng
set_option linter.unusedVariables false
set_option linter.unusedSimpArgs false

set_option maxRecDepth 20000 in
theorem refuses_law_0 (m : Int) (s : ByteArray) (a : Option Addr) (cap : Nat) : LC Tryd.prog 7 [.v (.string s), .v (.slice a 0 cap)] [gB m] (fun z _ => z = .v (.bool true)) :=
  refuses0_vc m s a cap (by
    simp (config := {decide := true}) only [true_and, and_true]
    intro n1 n2 n3 b4 n5 n6 h6
    refine ⟨⟨0, by decide, rfl, LeH.refl _⟩, fun i hi => ?_⟩
    obtain rfl : i = 0 := by omega
    exact br_intro (fun _ => ⟨⟨by decide, by decide⟩, by simp; omega, br_intro (fun _ => trivial) (fun h => by simp [asSl, nth] at h)⟩) (fun h => absurd h (by decide)))

set_option maxRecDepth 20000 in
theorem refuses_law_1 (m : Int) (s : ByteArray) (n o len cap : Nat) (g : Nat → SV) (hw : len * 24 ≤ 140737488351232) (hl : 0 < len) (hc : len ≤ cap) (hcm : cap ≤ 9223372036854775807) : LC Tryd.prog 7 [.v (.string s), .vl 1 n o 0 1 len cap] [gB m, ⟨n, .view o len [.slcs g], false⟩] (fun z _ => z = .v (.bool true)) :=
  refuses1_vc m s n o len cap g (by
    simp (config := {decide := true}) only [true_and, and_true]
    intro n1 n2
    have e0 : len.beq 0 = false := by rw [← Bool.not_eq_true, Nat.beq_eq]; omega
    rw [e0]
    refine ⟨by omega, ⟨by omega, by omega⟩, ?_⟩
    refine br_intro (fun h => by cases h) (fun _ => ?_)
    intro b3 n4 n5 h5 n7
    refine ⟨by omega, ⟨by omega, by omega⟩, fun b8 n9 n10 h10 => ⟨⟨0, by omega, rfl, LeH.refl _⟩, fun i hi => ?_⟩⟩
    refine br_intro (fun h => ?_) (fun h => ?_)
    · refine ⟨⟨by omega, by omega⟩, by omega, br_intro (fun _ => trivial) (fun hz => ?_)⟩
      have hlt : i < len := Classical.byContradiction fun hn => by
        obtain rfl : i = len := by omega
        simp [asSl, nth] at hz
      refine ⟨i + 1, by omega, by omega, ?_, LeH.refl _⟩
      simp only [AV.den, Value.int.injEq, true_and, and_true]
      rw [w64 (by omega)]
      rfl
    · simp only [decide_eq_false_iff_not] at h
      omega)
end Go.Proofs.YtdokphikobfakaaDoor

