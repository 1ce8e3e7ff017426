/- Texts, plainly. -/
import Derived.Test.YthkegefjmcipmaaDoorEngQ
namespace Go.Eng

theorem size_data (s : ByteArray) : s.data.toList.length = s.size := by rw [Array.length_toList]; rfl

theorem size_subS (s : ByteArray) (a b : Nat) : (subS s a b).size = min (b - a) (s.size - a) := by
  rw [subS, size_mkS, List.length_take, List.length_drop, size_data]

theorem mkS_toList (s : ByteArray) : mkS s.data.toList = s := by
  apply ByteArray.ext; simp [mkS]

@[simp] theorem data_mkS (l : List UInt8) : (mkS l).data.toList = l := by simp [mkS]

theorem subS_zero (s : ByteArray) {b : Nat} (h : s.size ≤ b) : subS s 0 b = s := by
  rw [subS, List.drop_zero, Nat.sub_zero, List.take_of_length_le (by rw [size_data]; exact h), mkS_toList]

theorem eqS_refl (s : ByteArray) : eqS s s = true := by simp [eqS]

theorem eqS_iff {a b : ByteArray} : eqS a b = true ↔ a = b := by
  constructor
  · intro h
    have : a.data.toList = b.data.toList := by simpa [eqS] using h
    rw [← mkS_toList a, this, mkS_toList]
  · rintro rfl; exact eqS_refl _

end Go.Eng

