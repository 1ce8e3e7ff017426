/- A text's runes: one below 128 is its byte, the bytes of a longer one are all 128 or more. -/
import Derived.Test.YtdokphikobfakaaDoorY1
import Derived.Lib.DecodeN
namespace Go.Sp
open Go.Eng
theorem get_bAt (s : ByteArray) (i : Nat) : s.get! i = bAt s i := by
  simp only [ByteArray.get!, bAt, getElem!_def, Array.getElem?_toList]
  cases s.data[i]? <;> rfl

theorem decodeN_lo {n b0 b1 b2 b3 : Nat} (h : b0 < 128) : Lib.decodeN n b0 b1 b2 b3 = (b0, 1) := by
  unfold Lib.decodeN; rw [if_pos h]

theorem decodeN_hi {n b0 b1 b2 b3 : Nat} (h : 128 ≤ b0) : 128 ≤ (Lib.decodeN n b0 b1 b2 b3).1 ∧
    ((Lib.decodeN n b0 b1 b2 b3).2 = 1 ∨ ((Lib.decodeN n b0 b1 b2 b3).2 = 2 ∧ 1 < n ∧ 128 ≤ b1) ∨ ((Lib.decodeN n b0 b1 b2 b3).2 = 3 ∧ 2 < n ∧ 128 ≤ b1 ∧ 128 ≤ b2) ∨ ((Lib.decodeN n b0 b1 b2 b3).2 = 4 ∧ 3 < n ∧ 128 ≤ b1 ∧ 128 ≤ b2 ∧ 128 ≤ b3)) := by
  unfold Lib.decodeN
  rw [if_neg (by omega)]
  repeat' split
  all_goals (dsimp only; omega)

theorem decode_lo {s : ByteArray} {i : Nat} (h : (bAt s i).toNat < 128) : Utf8.decode s i = ((bAt s i).toNat, 1) := by
  rw [Lib.decode_at, decodeN_lo (by rw [get_bAt]; exact h), get_bAt]

theorem decode_hi {s : ByteArray} {i : Nat} (hi : i < s.size) (h : 128 ≤ (bAt s i).toNat) :
    128 ≤ (Utf8.decode s i).1 ∧ 1 ≤ (Utf8.decode s i).2 ∧ i + (Utf8.decode s i).2 ≤ s.size ∧ ∀ q, i ≤ q → q < i + (Utf8.decode s i).2 → 128 ≤ (bAt s q).toNat := by
  rw [Lib.decode_at]
  have := decodeN_hi (n := s.size - i) (b0 := (s.get! i).toNat) (b1 := (s.get! (i + 1)).toNat) (b2 := (s.get! (i + 2)).toNat) (b3 := (s.get! (i + 3)).toNat) (by rw [get_bAt]; exact h)
  obtain ⟨h1, h2⟩ := this
  refine ⟨h1, by omega, by omega, fun q hq1 hq2 => ?_⟩
  simp only [get_bAt] at h2 hq2
  have hq : q = i ∨ q = i + 1 ∨ q = i + 2 ∨ q = i + 3 := by omega
  rcases hq with rfl | rfl | rfl | rfl
  · exact h
  all_goals omega

end Go.Sp

