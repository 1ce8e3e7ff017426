/- Strs: what is put in the place of texts: plainly. -/
import Derived.Test.YtgafgejkijbmpaaK
namespace Go.Sp
open Go.Eng

/-- A text in which another one stands in the place of a part, once (the k-th) or always (k = 0). 'fuel': more than the text is long. -/
def substL (old with_ : List UInt8) (k : Nat) : Nat → Nat → List UInt8 → List UInt8
  | 0, _, r => r
  | f + 1, n, r =>
    if (Lib.cut r old).2.2 then (Lib.cut r old).1 ++ ((if k = 0 ∨ n + 1 = k then with_ else old) ++ substL old with_ k f (n + 1) (Lib.cut r old).2.1) else (Lib.cut r old).1

/-- A byte at which no part stands goes over as it is. -/
theorem cut_cons {old : List UInt8} {c : UInt8} {r : List UInt8} (h : old.isPrefixOf (c :: r) = false) : Lib.cut (c :: r) old = (c :: (Lib.cut r old).1, (Lib.cut r old).2.1, (Lib.cut r old).2.2) := by
  have hi : Lib.index (c :: r) old = if Lib.index r old == -1 then -1 else Lib.index r old + 1 := by rw [Lib.index, h]; simp
  have hg := Lib.index_ge r old
  unfold Lib.cut
  rw [hi]
  by_cases h1 : Lib.index r old = -1
  · simp [h1]
  · have h2 : (Lib.index r old == -1) = false := by simpa using h1
    rw [h2]
    simp only [Bool.false_eq_true, if_false]
    rw [if_pos (by omega), if_pos (by omega), show (Lib.index r old + 1).toNat = (Lib.index r old).toNat + 1 by omega]
    simp [Nat.add_right_comm]

theorem cut_pre {old r : List UInt8} (h : old.isPrefixOf r = true) : Lib.cut r old = ([], r.drop old.length, true) := by
  have hi : Lib.index r old = 0 := by
    cases r with
    | nil => rw [Lib.index]; cases old with
      | nil => rfl
      | cons a l => simp at h
    | cons c r => rw [Lib.index, h]; rfl
  rw [Lib.cut, hi]; simp

theorem cut_len {old r : List UInt8} (h : (Lib.cut r old).2.2 = true) : (Lib.cut r old).2.1.length + old.length ≤ r.length := by
  have hl := Lib.index_le r old
  unfold Lib.cut at h ⊢
  split at h
  · rename_i hi
    rw [if_pos hi]
    simp only [List.length_drop]
    rcases Lib.index_spec r old with ⟨h1, _⟩ | ⟨i, h1, h2, h3, _⟩
    · omega
    · rw [h1, Int.toNat_natCast]
      have hp : old.length ≤ (r.drop i).length := by
        have := List.isPrefixOf_iff_prefix.1 h3
        exact this.length_le
      rw [List.length_drop] at hp
      omega
  · cases h

theorem subst_fuel {old w : List UInt8} (ho : old ≠ []) (k : Nat) : ∀ (f g n : Nat) (r : List UInt8), r.length < f → r.length < g → substL old w k f n r = substL old w k g n r
  | 0, _, _, _, h, _ => by omega
  | _, 0, _, _, _, h => by omega
  | f + 1, g + 1, n, r, hf, hg => by
    simp only [substL]
    split
    · rename_i hc
      have hl := cut_len hc
      have h1 : 1 ≤ old.length := by cases old with
        | nil => exact absurd rfl ho
        | cons a l => simp
      rw [subst_fuel ho k f g (n + 1) _ (by omega) (by omega)]
    · rfl

/-- A text in which another one stands in the place of a part. -/
def sub1 (old w : List UInt8) (k n : Nat) (r : List UInt8) : List UInt8 := substL old w k (r.length + 1) n r

theorem sub_no {old w : List UInt8} (ho : old ≠ []) {k n : Nat} {c : UInt8} {r : List UInt8} (h : old.isPrefixOf (c :: r) = false) : sub1 old w k n (c :: r) = c :: sub1 old w k n r := by
  have e : ∀ f, substL old w k (f + 1) n (c :: r) = c :: substL old w k (f + 1) n r := fun f => by
    simp only [substL, cut_cons h]
    split <;> simp
  rw [sub1, e, sub1, List.length_cons, subst_fuel ho k (r.length + 1 + 1) (r.length + 1) n r (by omega) (by omega)]

theorem sub_yes {old w : List UInt8} (ho : old ≠ []) {k n : Nat} {r : List UInt8} (h : old.isPrefixOf r = true) : sub1 old w k n r = (if k = 0 ∨ n + 1 = k then w else old) ++ sub1 old w k (n + 1) (r.drop old.length) := by
  have h1 : 1 ≤ old.length := by cases old with
    | nil => exact absurd rfl ho
    | cons a l => simp
  have hl : old.length ≤ r.length := (List.isPrefixOf_iff_prefix.1 h).length_le
  rw [sub1, substL, cut_pre h]
  simp only [if_true, List.nil_append]
  rw [sub1, subst_fuel ho k r.length ((r.drop old.length).length + 1) (n + 1) _ (by rw [List.length_drop]; omega) (by omega)]

theorem sub_nil {old w : List UInt8} (ho : old ≠ []) {k n : Nat} : sub1 old w k n [] = [] := by
  cases old with
  | nil => exact absurd rfl ho
  | cons a l => rfl

end Go.Sp

