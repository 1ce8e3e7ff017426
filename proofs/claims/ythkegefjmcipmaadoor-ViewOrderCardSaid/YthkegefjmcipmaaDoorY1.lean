/- Texts of which each byte is turned. -/
import Derived.Test.YthkegefjmcipmaaDoorY0
namespace Go.Sp
open Go.Eng

/-- A text, each byte turned. -/
def mapB (f : UInt8 → UInt8) (s : ByteArray) : ByteArray := mkS (s.data.toList.map f)

theorem size_mapB (f : UInt8 → UInt8) (s : ByteArray) : (mapB f s).size = s.size := by
  rw [mapB, size_mkS, List.length_map, size_data]

theorem mapB_mapB (f g : UInt8 → UInt8) (s : ByteArray) : mapB f (mapB g s) = mapB (fun b => f (g b)) s := by
  simp only [mapB, data_mkS, List.map_map]; rfl

theorem mapB_id {f : UInt8 → UInt8} {s : ByteArray} (h : ∀ b ∈ s.data.toList, f b = b) : mapB f s = s := by
  rw [mapB]
  have : s.data.toList.map f = s.data.toList := by
    conv => rhs; rw [← List.map_id s.data.toList]
    exact List.map_congr_left h
  rw [this, mkS_toList]

/-- The byte at a place. -/
def bAt (s : ByteArray) (i : Nat) : UInt8 := (s.data.toList[i]?).getD 0

theorem byteAt_eq (s : ByteArray) (i : Nat) : byteAt s i = ((bAt s i).toNat : Int) := rfl

theorem bAt_lt (s : ByteArray) (i : Nat) : (bAt s i).toNat < 256 := UInt8.toNat_lt _

/-- The bytes on the way: those ahead of i are turned. -/
def half (f : UInt8 → UInt8) (s : ByteArray) (i q : Nat) : Int := if q < i then ((f (bAt s q)).toNat : Int) else byteAt s q

theorem half_zero (f : UInt8 → UInt8) (s : ByteArray) : half f s 0 = byteAt s := by
  funext q; simp [half]

theorem half_at (f : UInt8 → UInt8) (s : ByteArray) (i : Nat) : half f s i i = byteAt s i := by simp [half]

theorem half_upd {f : UInt8 → UInt8} {s : ByteArray} {i : Nat} {x : Int} (h : x = ((f (bAt s i)).toNat : Int)) : upd (half f s i) i x = half f s (i + 1) := by
  funext q
  simp only [upd, half]
  by_cases h1 : q = i
  · subst h1; rw [if_pos rfl, if_pos (by omega)]; exact h
  · rw [if_neg h1]
    by_cases h2 : q < i
    · rw [if_pos h2, if_pos (by omega)]
    · rw [if_neg h2, if_neg (by omega)]

theorem half_same {f : UInt8 → UInt8} {s : ByteArray} {i : Nat} (h : f (bAt s i) = bAt s i) : half f s i = half f s (i + 1) := by
  funext q
  simp only [half]
  by_cases h1 : q = i
  · subst h1; rw [if_neg (by omega), if_pos (by omega), h]; rfl
  · by_cases h2 : q < i
    · rw [if_pos h2, if_pos (by omega)]
    · rw [if_neg h2, if_neg (by omega)]

theorem half_read (f : UInt8 → UInt8) (s : ByteArray) : mkI ((List.range s.size).map fun i => half f s s.size (0 + i)) = mapB f s := by
  have e : (List.range s.size).map (fun i => half f s s.size (0 + i)) = s.data.toList.map fun b => ((f b).toNat : Int) := by
    apply List.ext_getElem
    · simp [size_data]
    · intro i h1 h2
      simp only [List.length_map, List.length_range] at h1
      simp only [List.getElem_map, List.getElem_range, Nat.zero_add, half, if_pos h1, bAt]
      rw [List.getElem?_eq_getElem (by rw [size_data]; exact h1)]
      rfl
  rw [mkI, e, mapB, List.map_map]
  congr 1
  apply List.map_congr_left
  intro b _
  simp

/-- The block of the bytes. -/
def halfH (f : UInt8 → UInt8) (s : ByteArray) (i : Nat) : HH → HH
  | ⟨n, .rows c [.ints k _] ty, o⟩ :: H => ⟨n, .rows c [.ints k (half f s i)] ty, o⟩ :: H
  | H => H

end Go.Sp

