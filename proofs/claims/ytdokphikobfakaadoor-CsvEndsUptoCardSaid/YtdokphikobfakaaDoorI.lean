/- Csv: the document's needs, and how wide rows are: what they tell. -/
import Derived.Test.YtdokphikobfakaaDoorH
namespace Go.Proofs.YtdokphikobfakaaDoor
open Go Go.Eng Go.Sp
set_option linter.unusedVariables false
set_option linter.unusedSimpArgs false

theorem byte_is {s : ByteArray} {q : Nat} {k : Nat} (hk : k < 256) : byteAt s q = (k : Int) ↔ bAt s q = k.toUInt8 := by
  rw [byteAt_eq]
  constructor
  · intro h
    have h : (bAt s q).toNat = k := by omega
    rw [← h]; simp
  · intro h
    rw [h]; simp; omega

theorem rneeds_lc (s : ByteArray) (alone : Bool) (c : Int) (h0 : 0 ≤ c) (h1 : c ≤ 255) (hs : s.size ≤ 140737488355328) : LC Tryd.prog 22 [.v (.string s), .v (.bool alone), .v (.int .u8 c)] [] (fun z _ => z = .v (.bool (needsB s alone c.toNat.toUInt8))) :=
  rneeds_vc s alone c (by
    obtain ⟨k, rfl⟩ : ∃ k : Nat, c = (k : Int) := ⟨c.toNat, by omega⟩
    have hk : k < 256 := by omega
    have mem : ∀ q, q < s.size → bAt s q ∈ s.data.toList := fun q hq => by
      rw [bAt, List.getElem?_eq_getElem (by rw [size_data]; exact hq)]
      exact List.getElem_mem _
    have sg : ∀ q, (byteAt s q = 10 ∨ byteAt s q = 13 ∨ byteAt s q = 34) ↔ isSign (bAt s q) := fun q => by
      have a1 := byte_is (s := s) (q := q) (k := 10) (by decide)
      have a2 := byte_is (s := s) (q := q) (k := 13) (by decide)
      have a3 := byte_is (s := s) (q := q) (k := 34) (by decide)
      unfold isSign
      constructor
      · rintro (h | h | h)
        · exact .inr (.inr (a1.1 h))
        · exact .inr (.inl (a2.1 h))
        · exact .inl (a3.1 h)
      · rintro (h | h | h)
        · exact .inr (.inr (a3.2 h))
        · exact .inr (.inl (a2.2 h))
        · exact .inl (a1.2 h)
    have yes : ∀ q, q < s.size → (byteAt s q = (k : Int) ∨ byteAt s q = 10 ∨ byteAt s q = 13 ∨ byteAt s q = 34) → AV.v (Value.bool true) = .v (.bool (needsB s alone ((k : Int)).toNat.toUInt8)) := fun q hq h => by
      rw [Int.toNat_natCast]
      rcases h with h | h
      · rw [needsB_iff.2 (.inr (.inl ((byte_is hk).1 h ▸ mem q hq)))]
      · rw [needsB_iff.2 (.inr (.inr ⟨_, mem q hq, (sg q).1 h⟩))]
    simp only [true_and, and_true, AV.den, Value.int.injEq, br_iff, decide_eq_true_eq, decide_eq_false_iff_not, beq_iff_eq, beq_eq_false_iff_ne, ne_eq, Int.toNat_natCast]
    refine ⟨⟨0, ⟨Nat.zero_le _, fun q hq => absurd hq (Nat.not_lt_zero _)⟩, rfl, LeH.refl _⟩, fun i hi => ⟨fun hlt => ?_, fun hge => ?_⟩⟩
    · have hlt : i < s.size := by omega
      have bd : 0 ≤ (i : Int) ∧ (i : Int) < (s.size : Int) := ⟨by omega, by omega⟩
      refine ⟨bd, fun h => yes i hlt (.inl h), fun n1 => ⟨bd, fun h => yes i hlt (.inr (.inl h)), fun n2 => ⟨bd, fun h => yes i hlt (.inr (.inr (.inl h))), fun n3 => ⟨bd, fun h => yes i hlt (.inr (.inr (.inr h))), fun n4 => ⟨i + 1, ⟨hlt, fun q hq => ?_⟩, by omega, by rw [w64 (by omega)]; rfl, LeH.refl _⟩⟩⟩⟩⟩
      rcases Nat.lt_or_ge q i with h3 | h3
      · exact hi.2 q h3
      · obtain rfl : q = i := by omega
        rintro (h | h | h | h)
        · exact n1 h
        · exact n2 h
        · exact n3 h
        · exact n4 h
    · have hge : i = s.size := by have := hi.1; omega
      subst hge
      have none : ¬ (k.toUInt8 ∈ s.data.toList ∨ ∃ b ∈ s.data.toList, isSign b) := by
        have at_ : ∀ b ∈ s.data.toList, ∃ q, q < s.size ∧ bAt s q = b := fun b hb => by
          obtain ⟨q, hq, e⟩ := List.getElem_of_mem hb
          rw [size_data] at hq
          exact ⟨q, hq, by rw [bAt, List.getElem?_eq_getElem (by rw [size_data]; exact hq), e]; rfl⟩
        rintro (h | ⟨b, hb, h⟩)
        · obtain ⟨q, hq, e⟩ := at_ _ h
          exact hi.2 q hq (.inl ((byte_is hk).2 e))
        · obtain ⟨q, hq, rfl⟩ := at_ _ hb
          exact hi.2 q hq (.inr ((sg q).2 h))
      refine ⟨fun ha => ?_, fun ha => ?_⟩
      · congr 2
        rw [Bool.eq_iff_iff, needsB_iff, nil_size]
        exact ⟨fun h => .inl ⟨ha, h⟩, fun h => h.elim (·.2) fun h => absurd h none⟩
      · congr 2
        cases hn : needsB s alone k.toUInt8 with
        | false => rfl
        | true =>
          rcases needsB_iff.1 hn with h | h
          · rw [ha] at h; cases h.1
          · exact absurd h none)

theorem rwide_lc (a : Option Addr) (n o L cap : Nat) (g : Nat → RW) (F : Nat → Nat → ByteArray) (S : List Nat) (hL : L ≤ 9223372036854775807) : LC Tryd.prog 11 [.os 0 a n o 0 1 L cap] [⟨n, .texts o L g F S false, false⟩] (fun z _ => z = .v (.int .i64 (wideN g L : Int))) :=
  rwide_vc a n o L cap g F S (by
    simp only [true_and, and_true, AV.den, Value.int.injEq, br_iff, decide_eq_true_eq, decide_eq_false_iff_not, Int.toNat_natCast, Nat.zero_add]
    refine ⟨⟨0, Nat.zero_le _, ⟨rfl, rfl⟩, LeH.refl _⟩, fun i hi => ⟨fun hlt => ?_, fun hge => ?_⟩⟩
    · refine ⟨⟨by omega, by omega⟩, by omega, i + 1, by omega, by omega, ⟨?_, by rw [w64 (by omega)]; rfl⟩, LeH.refl _⟩
      show _ = ((max (wideN g i) (g i).len : Nat) : Int)
      split <;> omega
    · obtain rfl : i = L := by omega
      rfl)

theorem cwide_lc (a : Option Addr) (n o L cap : Nat) (g : Nat → RW) (F : Nat → Nat → ByteArray) (S : List Nat) (hL : L ≤ 9223372036854775807) : LC Tryd.prog 10 [.os 0 a n o 0 1 L cap] [⟨n, .texts o L g F S false, false⟩] (fun z _ => z = .v (.int .i64 (wideN g L : Int))) :=
  cwide_vc a n o L cap g F S (by
    intro n1
    simp only [true_and, and_true, AV.den, Value.int.injEq, br_iff, decide_eq_true_eq, decide_eq_false_iff_not, Int.toNat_natCast, Nat.zero_add]
    refine ⟨⟨0, Nat.zero_le _, rfl, LeH.refl _⟩, fun i hi => ⟨fun hlt => ?_, fun hge => ?_⟩⟩
    · have e3 : (if ((g i).len : Int) > (wideN g i : Int) then ((g i).len : Int) else (wideN g i : Int)) = (wideN g (i + 1) : Int) := by
        show _ = ((max (wideN g i) (g i).len : Nat) : Int)
        split <;> omega
      refine ⟨⟨by omega, by omega⟩, by omega, i + 1, by omega, by omega, by rw [w64 (by omega)]; rfl, ?_⟩
      rw [e3]; exact LeH.refl _
    · obtain rfl : i = L := by omega
      rfl)
end Go.Proofs.YtdokphikobfakaaDoor

