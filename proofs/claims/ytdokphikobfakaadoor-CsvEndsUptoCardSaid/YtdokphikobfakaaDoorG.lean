/- Csv: which fields need quotes. -/
import Derived.Test.YtdokphikobfakaaDoorF
namespace Go.Proofs.YtdokphikobfakaaDoor
open Go Go.Eng Go.Sp
set_option linter.unusedVariables false
set_option linter.unusedSimpArgs false

theorem byte_mem (c : UInt8) : ∀ l : List UInt8, Lib.indexByte l c ≥ 0 ↔ c ∈ l
  | [] => by simp [Lib.indexByte]
  | b :: l => by
    have ih := byte_mem c l
    rw [Lib.indexByte]
    by_cases h : b = c
    · subst h; simp
    · rw [if_neg (by simpa using h)]
      rw [List.mem_cons, ← ih]
      constructor
      · intro h1
        right
        split at h1
        · omega
        · rename_i h2
          have : Lib.indexByte l c ≠ -1 := by simpa using h2
          omega
      · rintro (h1 | h1)
        · exact absurd h1.symm h
        · rw [if_neg (by simp; omega)]
          omega

theorem any_mem : ∀ l : List UInt8, Lib.indexAny l [34, 13, 10] ≥ 0 ↔ ∃ b ∈ l, isSign b
  | [] => by simp [Lib.indexAny]
  | b :: l => by
    have ih := any_mem l
    have hge := Lib.indexAny_ge [34, 13, 10] l
    rw [Lib.indexAny]
    by_cases h : isSign b
    · rw [if_pos (sign_mem.2 h)]
      simp only [List.mem_cons]
      exact ⟨fun _ => ⟨b, .inl rfl, h⟩, fun _ => by omega⟩
    · have hc : ¬ ([34, 13, 10] : List UInt8).contains b = true := fun e => h (sign_mem.1 e)
      rw [if_neg hc]
      constructor
      · intro h1
        split at h1
        · omega
        · rename_i h2
          have : Lib.indexAny l [34, 13, 10] ≠ -1 := by simpa using h2
          obtain ⟨x, hx, hs⟩ := ih.1 (by omega)
          exact ⟨x, List.mem_cons_of_mem _ hx, hs⟩
      · rintro ⟨x, hx, hs⟩
        rcases List.mem_cons.1 hx with rfl | hx
        · exact absurd hs h
        · have := ih.2 ⟨x, hx, hs⟩
          rw [if_neg (by simp; omega)]
          omega

theorem needsB_iff {s : ByteArray} {alone : Bool} {c : UInt8} : needsB s alone c = true ↔ (alone = true ∧ s.size = 0) ∨ c ∈ s.data.toList ∨ ∃ b ∈ s.data.toList, isSign b := by
  unfold needsB
  simp only [Bool.or_eq_true, Bool.and_eq_true, Nat.beq_eq, List.any_eq_true, beq_iff_eq, isSign]
  constructor
  · rintro (h | ⟨b, hb, ((h | h) | h) | h⟩)
    · exact .inl h
    · exact .inr (.inl (h ▸ hb))
    · exact .inr (.inr ⟨b, hb, .inl h⟩)
    · exact .inr (.inr ⟨b, hb, .inr (.inl h)⟩)
    · exact .inr (.inr ⟨b, hb, .inr (.inr h)⟩)
  · rintro (h | h | ⟨b, hb, h | h | h⟩)
    · exact .inl h
    · exact .inr ⟨c, h, .inl (.inl (.inl rfl))⟩
    · exact .inr ⟨b, hb, .inl (.inl (.inr h))⟩
    · exact .inr ⟨b, hb, .inl (.inr h)⟩
    · exact .inr ⟨b, hb, .inr h⟩

theorem nil_size {a : ByteArray} : eqS a (ByteArray.mk #[]) = true ↔ a.size = 0 := by
  rw [eqS_iff]
  constructor
  · rintro rfl; rfl
  · intro h
    apply ByteArray.ext
    exact Array.eq_empty_of_size_eq_zero h

theorem needs_lc (s : ByteArray) (alone : Bool) (c : Int) (hs : s.size < 4294967281) : LC Tryd.prog 17 [.v (.string s), .v (.bool alone), .v (.int .u8 c)] [] (fun z _ => z = .v (.bool (needsB s alone c.toNat.toUInt8))) :=
  needs_vc s alone c (by
    have yes : ((alone = true ∧ s.size = 0) ∨ c.toNat.toUInt8 ∈ s.data.toList ∨ ∃ b ∈ s.data.toList, isSign b) → AV.v (Value.bool true) = .v (.bool (needsB s alone c.toNat.toUInt8)) := fun h => by rw [needsB_iff.2 h]
    have fin : ¬ (alone = true ∧ s.size = 0) → ¬ (Lib.indexByte s.data.toList c.toNat.toUInt8 ≥ 0) → AV.v (Value.bool (decide (Lib.indexAny s.data.toList [(34 : UInt8), (13 : UInt8), (10 : UInt8)] ≥ 0))) = .v (.bool (needsB s alone c.toNat.toUInt8)) := fun h1 h2 => by
      congr 2
      rw [Bool.eq_iff_iff, decide_eq_true_eq, needsB_iff, any_mem]
      rw [byte_mem] at h2
      exact ⟨fun h => .inr (.inr h), fun h => h.elim (fun h => absurd h h1) fun h => h.elim (fun h => absurd h h2) id⟩
    have two : ¬ (alone = true ∧ s.size = 0) → br (decide (Lib.indexByte s.data.toList c.toNat.toUInt8 ≥ 0)) (AV.v (Value.bool true) = .v (.bool (needsB s alone c.toNat.toUInt8))) (s.size < 4294967281 ∧ AV.v (Value.bool (decide (Lib.indexAny s.data.toList [(34 : UInt8), (13 : UInt8), (10 : UInt8)] ≥ 0))) = .v (.bool (needsB s alone c.toNat.toUInt8))) := fun h1 =>
      br_intro (fun h => yes (.inr (.inl ((byte_mem _ _).1 (of_decide_eq_true h))))) (fun h => ⟨hs, fin h1 (of_decide_eq_false h)⟩)
    exact br_intro (fun ha => br_intro (fun h => yes (.inl ⟨ha, nil_size.1 h⟩)) (fun h => two fun e => by rw [nil_size.2 e.2] at h; cases h)) (fun ha => two fun e => by rw [e.1] at ha; cases ha))
end Go.Proofs.YtdokphikobfakaaDoor

