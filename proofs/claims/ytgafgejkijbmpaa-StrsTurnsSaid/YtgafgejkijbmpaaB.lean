/- Strs: what the functions tell: parts of texts. -/
import Derived.Test.YtgafgejkijbmpaaA
namespace Go.Eng

theorem size_data (s : ByteArray) : s.data.toList.length = s.size := by rw [Array.length_toList]; rfl

theorem size_subS (s : ByteArray) (a b : Nat) : (subS s a b).size = min (b - a) (s.size - a) := by
  rw [subS, size_mkS, List.length_take, List.length_drop, size_data]

theorem mkS_toList (s : ByteArray) : mkS s.data.toList = s := by
  apply ByteArray.ext; simp [mkS]

@[simp] theorem data_mkS (l : List UInt8) : (mkS l).data.toList = l := by simp [mkS]

theorem subS_zero (s : ByteArray) {b : Nat} (h : s.size ≤ b) : subS s 0 b = s := by
  rw [subS, List.drop_zero, Nat.sub_zero, List.take_of_length_le (by rw [size_data]; exact h), mkS_toList]

theorem eqS_refl (s : ByteArray) : eqS s s = true := by simp [eqS]

theorem eqS_iff {a b : ByteArray} : eqS a b = true ↔ a = b := by
  constructor
  · intro h
    have : a.data.toList = b.data.toList := by simpa [eqS] using h
    rw [← mkS_toList a, this, mkS_toList]
  · rintro rfl; exact eqS_refl _

abbrev S0 : ByteArray := ByteArray.mk #[]

end Go.Eng

namespace Go.Sp
open Go.Eng

def sOf : Option ByteArray → ByteArray
  | some s => s
  | none => ByteArray.mk #[]

def nOf : Option Int → Int
  | some n => n
  | none => 0

def cOf {α : Type} : Option α → Int
  | some _ => 0
  | none => 2

/-- The lesser of two. -/
def lo (a b : Int) : Int := if b < a then b else a

def leftO (s : ByteArray) (n : Int) : Option ByteArray := if s.size ≤ 255 ∧ 0 ≤ n then some (subS s 0 (lo n s.size).toNat) else none
def rightO (s : ByteArray) (n : Int) : Option ByteArray := if s.size ≤ 255 ∧ 0 ≤ n then some (subS s (s.size - lo n s.size).toNat s.size) else none
def midO (s : ByteArray) (at_ n : Int) : Option ByteArray := if s.size ≤ 255 ∧ 1 ≤ at_ ∧ 0 ≤ n then some (subS s (lo (at_ - 1) s.size).toNat (lo (at_ - 1) s.size + lo n (s.size - lo (at_ - 1) s.size)).toNat) else none
def toldO (s : ByteArray) : Option ByteArray := if s.size ≤ 255 then some s else none
def replO (s : ByteArray) (at_ n : Int) (t : ByteArray) : Option ByteArray :=
  if s.size ≤ 255 ∧ t.size ≤ 255 ∧ 1 ≤ at_ ∧ 0 ≤ n then toldO (catS (catS (subS s 0 (lo (at_ - 1) s.size).toNat) t) (subS s (lo (at_ - 1) s.size + lo n (s.size - lo (at_ - 1) s.size)).toNat s.size)) else none

theorem subS_subS (s : ByteArray) {k q n : Nat} (h : s.size ≤ n) (hq : k + q ≤ s.size) : subS (subS s k n) 0 q = subS s k (k + q) := by
  simp only [subS, data_mkS, List.drop_zero, Nat.sub_zero, List.take_take]
  rw [show min q (n - k) = k + q - k by omega]

theorem lo_le (a b : Int) : lo a b ≤ a ∧ lo a b ≤ b := by unfold lo; split <;> omega
theorem lo_nn {a b : Int} (h : 0 ≤ a) (h2 : 0 ≤ b) : 0 ≤ lo a b := by unfold lo; split <;> omega

/-- The place from which on something is found, from 1 on; none: it is not. -/
def findO (p s : ByteArray) (from_ : Int) : Option Int :=
  if p.size ≤ 255 ∧ s.size ≤ 255 ∧ 1 ≤ from_ ∧ from_ ≤ s.size + 1 then
    (if 0 ≤ Lib.index (s.data.toList.drop (from_ - 1).toNat) p.data.toList then some (from_ + Lib.index (s.data.toList.drop (from_ - 1).toNat) p.data.toList) else none)
  else none

theorem occAt_sub {s p : ByteArray} {i : Nat} (h : i + p.size ≤ s.size) : Lib.occAt s.data.toList p.data.toList i = eqS (subS s i (i + p.size)) p := by
  rw [Bool.eq_iff_iff]
  unfold Lib.occAt
  rw [List.isPrefixOf_iff_prefix, List.prefix_iff_eq_take, size_data, eqS, subS, data_mkS, show i + p.size - i = p.size by omega, beq_iff_eq]
  exact ⟨fun h => h.symm, fun h => h.symm⟩

theorem occAt_room {s p : ByteArray} {i : Nat} (h : Lib.occAt s.data.toList p.data.toList i = true) (hi : i ≤ s.size) : i + p.size ≤ s.size := by
  unfold Lib.occAt at h
  rw [List.isPrefixOf_iff_prefix] at h
  have := h.length_le
  rw [List.length_drop, size_data, size_data] at this
  omega

theorem occAt_drop (s p : List UInt8) (k j : Nat) : Lib.occAt (s.drop k) p j = Lib.occAt s p (k + j) := by
  unfold Lib.occAt
  rw [List.drop_drop]

theorem findO_hit {p s : ByteArray} {from_ : Int} {i : Nat} (h1 : p.size ≤ 255) (h2 : s.size ≤ 255) (h3 : 1 ≤ from_) (h4 : from_ - 1 ≤ i) (hi : i ≤ s.size) (ho : Lib.occAt s.data.toList p.data.toList i = true)
    (hn : ∀ j : Nat, from_ - 1 ≤ (j : Int) → j < i → Lib.occAt s.data.toList p.data.toList j = false) : findO p s from_ = some ((i : Int) + 1) := by
  have e : Lib.index (s.data.toList.drop (from_ - 1).toNat) p.data.toList = ((i - (from_ - 1).toNat : Nat) : Int) := by
    refine Lib.index_hit (fun j hj => ?_) (by rw [List.length_drop, size_data]; omega) ?_
    · rw [occAt_drop]; exact hn _ (by omega) (by omega)
    · rw [occAt_drop, show (from_ - 1).toNat + (i - (from_ - 1).toNat) = i by omega]; exact ho
  rw [show findO p s from_ = _ from if_pos ⟨by omega, by omega, by omega, by omega⟩, e, if_pos (by omega)]
  congr 1; omega

theorem findO_none {p s : ByteArray} {from_ : Int} (h3 : 1 ≤ from_) (hn : ∀ j : Nat, from_ - 1 ≤ (j : Int) → j ≤ s.size → Lib.occAt s.data.toList p.data.toList j = false) : findO p s from_ = none := by
  unfold findO
  split
  · have e : Lib.index (s.data.toList.drop (from_ - 1).toNat) p.data.toList = -1 := by
      refine Lib.index_none (fun j hj => ?_)
      rw [List.length_drop, size_data] at hj
      rw [occAt_drop]; exact hn _ (by omega) (by omega)
    rw [e, if_neg (by omega)]
  · rfl

end Go.Sp
namespace Go.Proofs.Ytgafgejkijbmpaa
open Go Go.Eng Go.Sp
set_option linter.unusedVariables false
set_option linter.unusedSimpArgs false


set_option maxRecDepth 100000 in
theorem left_vc (s : ByteArray) (n : Int) {R : AV → Prop} (h : (∀ (n1 n2 n3 n4 : Nat), n1 = n1 ∧ ∀ (n5 : Nat), ((0 : Int) ≤ (0 : Int) ∧ (0 : Int) < (1 : Int)) ∧ n5 = n5 ∧ br (!decide ((↑s.size : Int) ≤ (255 : Int))) (∀ (n6 : Nat), n6 = n6 ∧ n3 = n3 ∧ n4 = n4 ∧ n3 = n3 ∧ n4 = n4 ∧ R (AV.tup [AV.v (Value.string (ByteArray.mk #[])), AV.v (Value.int IntKind.i64 (2 : Int))])) (n2 = n2 ∧ br (!decide (n ≥ (0 : Int))) (∀ (n6 : Nat), n6 = n6 ∧ n3 = n3 ∧ n4 = n4 ∧ n3 = n3 ∧ n4 = n4 ∧ R (AV.tup [AV.v (Value.string (ByteArray.mk #[])), AV.v (Value.int IntKind.i64 (2 : Int))])) (n1 = n1 ∧ n2 = n2 ∧ n1 = n1 ∧ (((0 : Int) ≤ if (↑s.size : Int) < n then (↑s.size : Int) else n) ∧ (if (↑s.size : Int) < n then (↑s.size : Int) else n) ≤ (↑s.size : Int)) ∧ n3 = n3 ∧ n3 = n3 ∧ ∀ (n6 : Nat), ((0 : Int) ≤ (0 : Int) ∧ (0 : Int) < (1 : Int)) ∧ n6 = n6 ∧ br (!decide ((↑(subS s (0 : Nat) (if (↑s.size : Int) < n then (↑s.size : Int) else n).toNat).size : Int) ≤ (255 : Int))) (∀ (n7 : Nat), n7 = n7 ∧ n3 = n3 ∧ n4 = n4 ∧ n3 = n3 ∧ n4 = n4 ∧ R (AV.tup [AV.v (Value.string (ByteArray.mk #[])), AV.v (Value.int IntKind.i64 (2 : Int))])) (n3 = n3 ∧ n3 = n3 ∧ n4 = n4 ∧ n3 = n3 ∧ n4 = n4 ∧ R (AV.tup [AV.v (Value.string (subS s (0 : Nat) (if (↑s.size : Int) < n then (↑s.size : Int) else n).toNat)), AV.v (Value.int IntKind.i64 (0 : Int))])))))) : LC Try.prog 22 [.v (.string s), .v (.int .i64 n)] [] (fun z_ _ => R z_) :=
  lc_of_exec (tbl := t4) tab_ok t4_ok mixed noinv 2 _ Try.func22 rfl Try.ntmps22 (by decide) (by kernel_rfl) (Nat.le_of_ble_eq_true rfl) (@Eq.mpr (execN tab t4 noinv 2 Try.f22.ntmps [] none 0 (body Try.f22) (argsT [.v (.string s), .v (.int .i64 n)] 0) [] (post Try.f22 tab (retK (fun z_ _ => R z_)))) _ (by kernel_rfl) h)

set_option maxRecDepth 100000 in
theorem left_lc (s : ByteArray) (n : Int) : LC Try.prog 22 [.v (.string s), .v (.int .i64 n)] [] (fun z_ _ => z_ = .tup [.v (.string (sOf (leftO s n))), .v (.int .i64 (cOf (leftO s n)))]) :=
  left_vc s n (by
    intro n1 n2 n3 n4
    have no : ¬ (s.size ≤ 255 ∧ 0 ≤ n) → AV.tup [AV.v (Value.string (ByteArray.mk #[])), AV.v (Value.int IntKind.i64 2)] = .tup [.v (.string (sOf (leftO s n))), .v (.int .i64 (cOf (leftO s n)))] := fun h => by
      rw [show leftO s n = none from if_neg h]; rfl
    simp only [true_and, and_true, br_iff, Bool.not_eq_true', Bool.not_eq_false', decide_eq_true_eq, decide_eq_false_iff_not, size_subS]
    intro n5
    refine ⟨by decide, fun h1 n6 => no (by omega), fun h1 => ⟨fun h2 n6 => no (by omega), fun h2 => ?_⟩⟩
    refine ⟨by split <;> omega, fun n6 => ⟨by decide, fun h3 => absurd h3 ?_, fun h3 => ?_⟩⟩
    · split <;> omega
    · rw [show leftO s n = _ from if_pos ⟨by omega, by omega⟩]; rfl)

def leftH : List AV → Option AV
  | [.v (.string s), .v (.int .i64 n)] => some (.tup [.v (.string (sOf (leftO s n))), .v (.int .i64 (cOf (leftO s n)))])
  | _ => none

theorem left_ok : POk Try.prog 22 leftH := POk.of_lc (enters_of (c := body Try.f22) Try.func22 rfl (by kernel_rfl)) (by
  intro args v h
  unfold leftH at h
  split at h
  · cases h; exact left_lc _ _
  · cases h)



set_option maxRecDepth 100000 in
theorem right_vc (s : ByteArray) (n : Int) {R : AV → Prop} (h : (∀ (n1 n2 n3 n4 : Nat), n1 = n1 ∧ ∀ (n5 : Nat), ((0 : Int) ≤ (0 : Int) ∧ (0 : Int) < (1 : Int)) ∧ n5 = n5 ∧ br (!decide ((↑s.size : Int) ≤ (255 : Int))) (∀ (n6 : Nat), n6 = n6 ∧ n3 = n3 ∧ n4 = n4 ∧ n3 = n3 ∧ n4 = n4 ∧ R (AV.tup [AV.v (Value.string (ByteArray.mk #[])), AV.v (Value.int IntKind.i64 (2 : Int))])) (n2 = n2 ∧ br (!decide (n ≥ (0 : Int))) (∀ (n6 : Nat), n6 = n6 ∧ n3 = n3 ∧ n4 = n4 ∧ n3 = n3 ∧ n4 = n4 ∧ R (AV.tup [AV.v (Value.string (ByteArray.mk #[])), AV.v (Value.int IntKind.i64 (2 : Int))])) (n1 = n1 ∧ n1 = n1 ∧ n2 = n2 ∧ n1 = n1 ∧ ((0 : Int) ≤ IntKind.i64.wrap ((↑s.size : Int) - if (↑s.size : Int) < n then (↑s.size : Int) else n) ∧ IntKind.i64.wrap ((↑s.size : Int) - if (↑s.size : Int) < n then (↑s.size : Int) else n) ≤ (↑s.size : Int)) ∧ s.size ≤ s.size ∧ n3 = n3 ∧ n3 = n3 ∧ ∀ (n6 : Nat), ((0 : Int) ≤ (0 : Int) ∧ (0 : Int) < (1 : Int)) ∧ n6 = n6 ∧ br (!decide ((↑(subS s (IntKind.i64.wrap ((↑s.size : Int) - if (↑s.size : Int) < n then (↑s.size : Int) else n)).toNat s.size).size : Int) ≤ (255 : Int))) (∀ (n7 : Nat), n7 = n7 ∧ n3 = n3 ∧ n4 = n4 ∧ n3 = n3 ∧ n4 = n4 ∧ R (AV.tup [AV.v (Value.string (ByteArray.mk #[])), AV.v (Value.int IntKind.i64 (2 : Int))])) (n3 = n3 ∧ n3 = n3 ∧ n4 = n4 ∧ n3 = n3 ∧ n4 = n4 ∧ R (AV.tup [AV.v (Value.string (subS s (IntKind.i64.wrap ((↑s.size : Int) - if (↑s.size : Int) < n then (↑s.size : Int) else n)).toNat s.size)), AV.v (Value.int IntKind.i64 (0 : Int))])))))) : LC Try.prog 24 [.v (.string s), .v (.int .i64 n)] [] (fun z_ _ => R z_) :=
  lc_of_exec (tbl := t4) tab_ok t4_ok mixed noinv 2 _ Try.func24 rfl Try.ntmps24 (by decide) (by kernel_rfl) (Nat.le_of_ble_eq_true rfl) (@Eq.mpr (execN tab t4 noinv 2 Try.f24.ntmps [] none 0 (body Try.f24) (argsT [.v (.string s), .v (.int .i64 n)] 0) [] (post Try.f24 tab (retK (fun z_ _ => R z_)))) _ (by kernel_rfl) h)

set_option maxRecDepth 100000 in
theorem right_lc (s : ByteArray) (n : Int) : LC Try.prog 24 [.v (.string s), .v (.int .i64 n)] [] (fun z_ _ => z_ = .tup [.v (.string (sOf (rightO s n))), .v (.int .i64 (cOf (rightO s n)))]) :=
  right_vc s n (by
    intro n1 n2 n3 n4
    have no : ¬ (s.size ≤ 255 ∧ 0 ≤ n) → AV.tup [AV.v (Value.string (ByteArray.mk #[])), AV.v (Value.int IntKind.i64 2)] = .tup [.v (.string (sOf (rightO s n))), .v (.int .i64 (cOf (rightO s n)))] := fun h => by
      rw [show rightO s n = none from if_neg h]; rfl
    simp only [true_and, and_true, br_iff, Bool.not_eq_true', Bool.not_eq_false', decide_eq_true_eq, decide_eq_false_iff_not, size_subS]
    intro n5
    refine ⟨by decide, fun h1 n6 => no (by omega), fun h1 => ⟨fun h2 n6 => no (by omega), fun h2 => ?_⟩⟩
    have e : IntKind.i64.wrap ((s.size : Int) - if (s.size : Int) < n then (s.size : Int) else n) = (s.size : Int) - lo n s.size := by rw [w64 (by split <;> omega)]; rfl
    have hl : 0 ≤ lo n s.size ∧ lo n s.size ≤ s.size := by unfold lo; split <;> omega
    simp only [e]
    refine ⟨by omega, Nat.le_refl _, fun n6 => ⟨by decide, fun h3 => absurd h3 (by omega), fun h3 => ?_⟩⟩
    rw [show rightO s n = _ from if_pos ⟨by omega, by omega⟩]; rfl)

def rightH : List AV → Option AV
  | [.v (.string s), .v (.int .i64 n)] => some (.tup [.v (.string (sOf (rightO s n))), .v (.int .i64 (cOf (rightO s n)))])
  | _ => none

theorem right_ok : POk Try.prog 24 rightH := POk.of_lc (enters_of (c := body Try.f24) Try.func24 rfl (by kernel_rfl)) (by
  intro args v h
  unfold rightH at h
  split at h
  · cases h; exact right_lc _ _
  · cases h)



set_option maxRecDepth 100000 in
theorem mid_vc (s : ByteArray) (at_ n : Int) {R : AV → Prop} (h : (∀ (n1 n2 n3 n4 n5 : Nat), n1 = n1 ∧ ∀ (n6 : Nat), ((0 : Int) ≤ (0 : Int) ∧ (0 : Int) < (1 : Int)) ∧ n6 = n6 ∧ br (!decide ((↑s.size : Int) ≤ (255 : Int))) (∀ (n7 : Nat), n7 = n7 ∧ n4 = n4 ∧ n5 = n5 ∧ n4 = n4 ∧ n5 = n5 ∧ R (AV.tup [AV.v (Value.string (ByteArray.mk #[])), AV.v (Value.int IntKind.i64 (2 : Int))])) (n1 = n1 ∧ n2 = n2 ∧ n3 = n3 ∧ br (decide (at_ ≥ (1 : Int))) (br (!decide (n ≥ (0 : Int))) (∀ (n7 : Nat), n7 = n7 ∧ n4 = n4 ∧ n5 = n5 ∧ n4 = n4 ∧ n5 = n5 ∧ R (AV.tup [AV.v (Value.string (ByteArray.mk #[])), AV.v (Value.int IntKind.i64 (2 : Int))])) (n1 = n1 ∧ ((0 : Int) ≤ IntKind.i64.wrap ((if (↑s.size : Int) < IntKind.i64.wrap (at_ - (1 : Int)) then (↑s.size : Int) else IntKind.i64.wrap (at_ - (1 : Int))) + if IntKind.i64.wrap ((↑s.size : Int) - if (↑s.size : Int) < IntKind.i64.wrap (at_ - (1 : Int)) then (↑s.size : Int) else IntKind.i64.wrap (at_ - (1 : Int))) < n then IntKind.i64.wrap ((↑s.size : Int) - if (↑s.size : Int) < IntKind.i64.wrap (at_ - (1 : Int)) then (↑s.size : Int) else IntKind.i64.wrap (at_ - (1 : Int))) else n) ∧ IntKind.i64.wrap ((if (↑s.size : Int) < IntKind.i64.wrap (at_ - (1 : Int)) then (↑s.size : Int) else IntKind.i64.wrap (at_ - (1 : Int))) + if IntKind.i64.wrap ((↑s.size : Int) - if (↑s.size : Int) < IntKind.i64.wrap (at_ - (1 : Int)) then (↑s.size : Int) else IntKind.i64.wrap (at_ - (1 : Int))) < n then IntKind.i64.wrap ((↑s.size : Int) - if (↑s.size : Int) < IntKind.i64.wrap (at_ - (1 : Int)) then (↑s.size : Int) else IntKind.i64.wrap (at_ - (1 : Int))) else n) ≤ (↑s.size : Int)) ∧ (((0 : Int) ≤ if (↑s.size : Int) < IntKind.i64.wrap (at_ - (1 : Int)) then (↑s.size : Int) else IntKind.i64.wrap (at_ - (1 : Int))) ∧ (if (↑s.size : Int) < IntKind.i64.wrap (at_ - (1 : Int)) then (↑s.size : Int) else IntKind.i64.wrap (at_ - (1 : Int))) ≤ IntKind.i64.wrap ((if (↑s.size : Int) < IntKind.i64.wrap (at_ - (1 : Int)) then (↑s.size : Int) else IntKind.i64.wrap (at_ - (1 : Int))) + if IntKind.i64.wrap ((↑s.size : Int) - if (↑s.size : Int) < IntKind.i64.wrap (at_ - (1 : Int)) then (↑s.size : Int) else IntKind.i64.wrap (at_ - (1 : Int))) < n then IntKind.i64.wrap ((↑s.size : Int) - if (↑s.size : Int) < IntKind.i64.wrap (at_ - (1 : Int)) then (↑s.size : Int) else IntKind.i64.wrap (at_ - (1 : Int))) else n)) ∧ n4 = n4 ∧ n4 = n4 ∧ ∀ (n7 : Nat), ((0 : Int) ≤ (0 : Int) ∧ (0 : Int) < (1 : Int)) ∧ n7 = n7 ∧ br (!decide ((↑(subS s (if (↑s.size : Int) < IntKind.i64.wrap (at_ - (1 : Int)) then (↑s.size : Int) else IntKind.i64.wrap (at_ - (1 : Int))).toNat (IntKind.i64.wrap ((if (↑s.size : Int) < IntKind.i64.wrap (at_ - (1 : Int)) then (↑s.size : Int) else IntKind.i64.wrap (at_ - (1 : Int))) + if IntKind.i64.wrap ((↑s.size : Int) - if (↑s.size : Int) < IntKind.i64.wrap (at_ - (1 : Int)) then (↑s.size : Int) else IntKind.i64.wrap (at_ - (1 : Int))) < n then IntKind.i64.wrap ((↑s.size : Int) - if (↑s.size : Int) < IntKind.i64.wrap (at_ - (1 : Int)) then (↑s.size : Int) else IntKind.i64.wrap (at_ - (1 : Int))) else n)).toNat).size : Int) ≤ (255 : Int))) (∀ (n8 : Nat), n8 = n8 ∧ n4 = n4 ∧ n5 = n5 ∧ n4 = n4 ∧ n5 = n5 ∧ R (AV.tup [AV.v (Value.string (ByteArray.mk #[])), AV.v (Value.int IntKind.i64 (2 : Int))])) (n4 = n4 ∧ n4 = n4 ∧ n5 = n5 ∧ n4 = n4 ∧ n5 = n5 ∧ R (AV.tup [AV.v (Value.string (subS s (if (↑s.size : Int) < IntKind.i64.wrap (at_ - (1 : Int)) then (↑s.size : Int) else IntKind.i64.wrap (at_ - (1 : Int))).toNat (IntKind.i64.wrap ((if (↑s.size : Int) < IntKind.i64.wrap (at_ - (1 : Int)) then (↑s.size : Int) else IntKind.i64.wrap (at_ - (1 : Int))) + if IntKind.i64.wrap ((↑s.size : Int) - if (↑s.size : Int) < IntKind.i64.wrap (at_ - (1 : Int)) then (↑s.size : Int) else IntKind.i64.wrap (at_ - (1 : Int))) < n then IntKind.i64.wrap ((↑s.size : Int) - if (↑s.size : Int) < IntKind.i64.wrap (at_ - (1 : Int)) then (↑s.size : Int) else IntKind.i64.wrap (at_ - (1 : Int))) else n)).toNat)), AV.v (Value.int IntKind.i64 (0 : Int))])))) (∀ (n7 : Nat), n7 = n7 ∧ n4 = n4 ∧ n5 = n5 ∧ n4 = n4 ∧ n5 = n5 ∧ R (AV.tup [AV.v (Value.string (ByteArray.mk #[])), AV.v (Value.int IntKind.i64 (2 : Int))]))))) : LC Try.prog 21 [.v (.string s), .v (.int .i64 at_), .v (.int .i64 n)] [] (fun z_ _ => R z_) :=
  lc_of_exec (tbl := t4) tab_ok t4_ok mixed noinv 2 _ Try.func21 rfl Try.ntmps21 (by decide) (by kernel_rfl) (Nat.le_of_ble_eq_true rfl) (@Eq.mpr (execN tab t4 noinv 2 Try.f21.ntmps [] none 0 (body Try.f21) (argsT [.v (.string s), .v (.int .i64 at_), .v (.int .i64 n)] 0) [] (post Try.f21 tab (retK (fun z_ _ => R z_)))) _ (by kernel_rfl) h)

set_option maxRecDepth 100000 in
theorem mid_lc (s : ByteArray) (at_ n : Int) (hq : at_ ≤ 9223372036854775807) : LC Try.prog 21 [.v (.string s), .v (.int .i64 at_), .v (.int .i64 n)] [] (fun z_ _ => z_ = .tup [.v (.string (sOf (midO s at_ n))), .v (.int .i64 (cOf (midO s at_ n)))]) :=
  mid_vc s at_ n (by
    intro n1 n2 n3 n4 n5
    have no : ¬ (s.size ≤ 255 ∧ 1 ≤ at_ ∧ 0 ≤ n) → AV.tup [AV.v (Value.string (ByteArray.mk #[])), AV.v (Value.int IntKind.i64 2)] = .tup [.v (.string (sOf (midO s at_ n))), .v (.int .i64 (cOf (midO s at_ n)))] := fun h => by
      rw [show midO s at_ n = none from if_neg h]; rfl
    simp only [true_and, and_true, br_iff, Bool.not_eq_true', Bool.not_eq_false', decide_eq_true_eq, decide_eq_false_iff_not, size_subS, ge_iff_le]
    intro n6
    refine ⟨by decide, fun h1 n7 => no (by omega), fun h1 => ⟨fun h2 => ⟨fun h3 n7 => no (by omega), fun h3 => ?_⟩, fun h2 n7 => no (by omega)⟩⟩
    have hr : midO s at_ n = _ := if_pos ⟨by omega, by omega, by omega⟩
    have e0 : IntKind.i64.wrap (at_ - 1) = at_ - 1 := w64 (by omega)
    have f0 : (if (s.size : Int) < at_ - 1 then (s.size : Int) else at_ - 1) = lo (at_ - 1) s.size := rfl
    have hl := lo_le (at_ - 1) s.size
    have hn := lo_nn (a := at_ - 1) (b := s.size) (by omega) (by omega)
    simp only [e0, f0]
    generalize hk : lo (at_ - 1) s.size = k at *
    have e1 : IntKind.i64.wrap ((s.size : Int) - k) = s.size - k := w64 (by omega)
    have f1 : (if (s.size : Int) - k < n then (s.size : Int) - k else n) = lo n (s.size - k) := rfl
    have hl2 := lo_le n (s.size - k)
    have hn2 := lo_nn (a := n) (b := s.size - k) (by omega) (by omega)
    simp only [e1, f1]
    generalize hj : lo n (s.size - k) = q at *
    have e2 : IntKind.i64.wrap (k + q) = k + q := w64 (by omega)
    simp only [e2]
    refine ⟨by omega, by omega, fun n7 => ⟨by decide, fun h4 => absurd h4 (by omega), fun h4 => ?_⟩⟩
    rw [hr]; rfl)

def midH : List AV → Option (Prop × AV)
  | [.v (.string s), .v (.int .i64 at_), .v (.int .i64 n)] => some (at_ ≤ 9223372036854775807, .tup [.v (.string (sOf (midO s at_ n))), .v (.int .i64 (cOf (midO s at_ n)))])
  | _ => none

theorem mid_ok : PrOk Try.prog 21 midH := PrOk.of_lc (enters_of (c := body Try.f21) Try.func21 rfl (by kernel_rfl)) (by
  intro args p h hp
  unfold midH at h
  split at h
  · cases h; exact mid_lc _ _ _ hp
  · cases h)



set_option maxRecDepth 100000 in
theorem repl_vc (s : ByteArray) (at_ n : Int) (t : ByteArray) {R : AV → Prop} (h : (∀ (n1 n2 n3 n4 n5 n6 : Nat), n1 = n1 ∧ n4 = n4 ∧ ∀ (n7 : Nat), ((0 : Int) ≤ (0 : Int) ∧ (0 : Int) < (2 : Int)) ∧ n7 = n7 ∧ br (!decide ((↑s.size : Int) ≤ (255 : Int))) (∀ (n8 : Nat), n8 = n8 ∧ n5 = n5 ∧ n6 = n6 ∧ n5 = n5 ∧ n6 = n6 ∧ R (AV.tup [AV.v (Value.string (ByteArray.mk #[])), AV.v (Value.int IntKind.i64 (2 : Int))])) (((0 : Int) ≤ (1 : Int) ∧ (1 : Int) < (2 : Int)) ∧ n7 = n7 ∧ br (!decide ((↑t.size : Int) ≤ (255 : Int))) (∀ (n8 : Nat), n8 = n8 ∧ n5 = n5 ∧ n6 = n6 ∧ n5 = n5 ∧ n6 = n6 ∧ R (AV.tup [AV.v (Value.string (ByteArray.mk #[])), AV.v (Value.int IntKind.i64 (2 : Int))])) (n1 = n1 ∧ n2 = n2 ∧ n3 = n3 ∧ br (decide (at_ ≥ (1 : Int))) (br (!decide (n ≥ (0 : Int))) (∀ (n8 : Nat), n8 = n8 ∧ n5 = n5 ∧ n6 = n6 ∧ n5 = n5 ∧ n6 = n6 ∧ R (AV.tup [AV.v (Value.string (ByteArray.mk #[])), AV.v (Value.int IntKind.i64 (2 : Int))])) (n1 = n1 ∧ (((0 : Int) ≤ if (↑s.size : Int) < IntKind.i64.wrap (at_ - (1 : Int)) then (↑s.size : Int) else IntKind.i64.wrap (at_ - (1 : Int))) ∧ (if (↑s.size : Int) < IntKind.i64.wrap (at_ - (1 : Int)) then (↑s.size : Int) else IntKind.i64.wrap (at_ - (1 : Int))) ≤ (↑s.size : Int)) ∧ n4 = n4 ∧ (subS s (0 : Nat) (if (↑s.size : Int) < IntKind.i64.wrap (at_ - (1 : Int)) then (↑s.size : Int) else IntKind.i64.wrap (at_ - (1 : Int))).toNat).size + t.size ≤ (9223372036854775807 : Nat) ∧ n1 = n1 ∧ ((0 : Int) ≤ IntKind.i64.wrap ((if (↑s.size : Int) < IntKind.i64.wrap (at_ - (1 : Int)) then (↑s.size : Int) else IntKind.i64.wrap (at_ - (1 : Int))) + if IntKind.i64.wrap ((↑s.size : Int) - if (↑s.size : Int) < IntKind.i64.wrap (at_ - (1 : Int)) then (↑s.size : Int) else IntKind.i64.wrap (at_ - (1 : Int))) < n then IntKind.i64.wrap ((↑s.size : Int) - if (↑s.size : Int) < IntKind.i64.wrap (at_ - (1 : Int)) then (↑s.size : Int) else IntKind.i64.wrap (at_ - (1 : Int))) else n) ∧ IntKind.i64.wrap ((if (↑s.size : Int) < IntKind.i64.wrap (at_ - (1 : Int)) then (↑s.size : Int) else IntKind.i64.wrap (at_ - (1 : Int))) + if IntKind.i64.wrap ((↑s.size : Int) - if (↑s.size : Int) < IntKind.i64.wrap (at_ - (1 : Int)) then (↑s.size : Int) else IntKind.i64.wrap (at_ - (1 : Int))) < n then IntKind.i64.wrap ((↑s.size : Int) - if (↑s.size : Int) < IntKind.i64.wrap (at_ - (1 : Int)) then (↑s.size : Int) else IntKind.i64.wrap (at_ - (1 : Int))) else n) ≤ (↑s.size : Int)) ∧ s.size ≤ s.size ∧ (catS (subS s (0 : Nat) (if (↑s.size : Int) < IntKind.i64.wrap (at_ - (1 : Int)) then (↑s.size : Int) else IntKind.i64.wrap (at_ - (1 : Int))).toNat) t).size + (subS s (IntKind.i64.wrap ((if (↑s.size : Int) < IntKind.i64.wrap (at_ - (1 : Int)) then (↑s.size : Int) else IntKind.i64.wrap (at_ - (1 : Int))) + if IntKind.i64.wrap ((↑s.size : Int) - if (↑s.size : Int) < IntKind.i64.wrap (at_ - (1 : Int)) then (↑s.size : Int) else IntKind.i64.wrap (at_ - (1 : Int))) < n then IntKind.i64.wrap ((↑s.size : Int) - if (↑s.size : Int) < IntKind.i64.wrap (at_ - (1 : Int)) then (↑s.size : Int) else IntKind.i64.wrap (at_ - (1 : Int))) else n)).toNat s.size).size ≤ (9223372036854775807 : Nat) ∧ n5 = n5 ∧ n5 = n5 ∧ ∀ (n8 : Nat), ((0 : Int) ≤ (0 : Int) ∧ (0 : Int) < (1 : Int)) ∧ n8 = n8 ∧ br (!decide ((↑(catS (catS (subS s (0 : Nat) (if (↑s.size : Int) < IntKind.i64.wrap (at_ - (1 : Int)) then (↑s.size : Int) else IntKind.i64.wrap (at_ - (1 : Int))).toNat) t) (subS s (IntKind.i64.wrap ((if (↑s.size : Int) < IntKind.i64.wrap (at_ - (1 : Int)) then (↑s.size : Int) else IntKind.i64.wrap (at_ - (1 : Int))) + if IntKind.i64.wrap ((↑s.size : Int) - if (↑s.size : Int) < IntKind.i64.wrap (at_ - (1 : Int)) then (↑s.size : Int) else IntKind.i64.wrap (at_ - (1 : Int))) < n then IntKind.i64.wrap ((↑s.size : Int) - if (↑s.size : Int) < IntKind.i64.wrap (at_ - (1 : Int)) then (↑s.size : Int) else IntKind.i64.wrap (at_ - (1 : Int))) else n)).toNat s.size)).size : Int) ≤ (255 : Int))) (∀ (n9 : Nat), n9 = n9 ∧ n5 = n5 ∧ n6 = n6 ∧ n5 = n5 ∧ n6 = n6 ∧ R (AV.tup [AV.v (Value.string (ByteArray.mk #[])), AV.v (Value.int IntKind.i64 (2 : Int))])) (n5 = n5 ∧ n5 = n5 ∧ n6 = n6 ∧ n5 = n5 ∧ n6 = n6 ∧ R (AV.tup [AV.v (Value.string (catS (catS (subS s (0 : Nat) (if (↑s.size : Int) < IntKind.i64.wrap (at_ - (1 : Int)) then (↑s.size : Int) else IntKind.i64.wrap (at_ - (1 : Int))).toNat) t) (subS s (IntKind.i64.wrap ((if (↑s.size : Int) < IntKind.i64.wrap (at_ - (1 : Int)) then (↑s.size : Int) else IntKind.i64.wrap (at_ - (1 : Int))) + if IntKind.i64.wrap ((↑s.size : Int) - if (↑s.size : Int) < IntKind.i64.wrap (at_ - (1 : Int)) then (↑s.size : Int) else IntKind.i64.wrap (at_ - (1 : Int))) < n then IntKind.i64.wrap ((↑s.size : Int) - if (↑s.size : Int) < IntKind.i64.wrap (at_ - (1 : Int)) then (↑s.size : Int) else IntKind.i64.wrap (at_ - (1 : Int))) else n)).toNat s.size))), AV.v (Value.int IntKind.i64 (0 : Int))])))) (∀ (n8 : Nat), n8 = n8 ∧ n5 = n5 ∧ n6 = n6 ∧ n5 = n5 ∧ n6 = n6 ∧ R (AV.tup [AV.v (Value.string (ByteArray.mk #[])), AV.v (Value.int IntKind.i64 (2 : Int))])))))) : LC Try.prog 17 [.v (.string s), .v (.int .i64 at_), .v (.int .i64 n), .v (.string t)] [] (fun z_ _ => R z_) :=
  lc_of_exec (tbl := t4) tab_ok t4_ok mixed noinv 2 _ Try.func17 rfl Try.ntmps17 (by decide) (by kernel_rfl) (Nat.le_of_ble_eq_true rfl) (@Eq.mpr (execN tab t4 noinv 2 Try.f17.ntmps [] none 0 (body Try.f17) (argsT [.v (.string s), .v (.int .i64 at_), .v (.int .i64 n), .v (.string t)] 0) [] (post Try.f17 tab (retK (fun z_ _ => R z_)))) _ (by kernel_rfl) h)

set_option maxRecDepth 100000 in
theorem repl_lc (s : ByteArray) (at_ n : Int) (t : ByteArray) (hq : at_ ≤ 9223372036854775807) : LC Try.prog 17 [.v (.string s), .v (.int .i64 at_), .v (.int .i64 n), .v (.string t)] [] (fun z_ _ => z_ = .tup [.v (.string (sOf (replO s at_ n t))), .v (.int .i64 (cOf (replO s at_ n t)))]) :=
  repl_vc s at_ n t (by
    intro n1 n2 n3 n4 n5 n6
    have no : ¬ (s.size ≤ 255 ∧ t.size ≤ 255 ∧ 1 ≤ at_ ∧ 0 ≤ n) → AV.tup [AV.v (Value.string (ByteArray.mk #[])), AV.v (Value.int IntKind.i64 2)] = .tup [.v (.string (sOf (replO s at_ n t))), .v (.int .i64 (cOf (replO s at_ n t)))] := fun h => by
      rw [show replO s at_ n t = none from if_neg h]; rfl
    simp only [true_and, and_true, br_iff, Bool.not_eq_true', Bool.not_eq_false', decide_eq_true_eq, decide_eq_false_iff_not, ge_iff_le]
    intro n7
    refine ⟨by decide, fun h1 n8 => no (by omega), fun h1 => ⟨by decide, fun h2 n8 => no (by omega), fun h2 => ⟨fun h3 => ⟨fun h4 n8 => no (by omega), fun h4 => ?_⟩, fun h3 n8 => no (by omega)⟩⟩⟩
    have hr : replO s at_ n t = _ := if_pos ⟨by omega, by omega, by omega, by omega⟩
    have e0 : IntKind.i64.wrap (at_ - 1) = at_ - 1 := w64 (by omega)
    have f0 : (if (s.size : Int) < at_ - 1 then (s.size : Int) else at_ - 1) = lo (at_ - 1) s.size := rfl
    have hl := lo_le (at_ - 1) s.size
    have hn := lo_nn (a := at_ - 1) (b := s.size) (by omega) (by omega)
    simp only [e0, f0]
    generalize hk : lo (at_ - 1) s.size = k at *
    have e1 : IntKind.i64.wrap ((s.size : Int) - k) = s.size - k := w64 (by omega)
    have f1 : (if (s.size : Int) - k < n then (s.size : Int) - k else n) = lo n (s.size - k) := rfl
    have hl2 := lo_le n (s.size - k)
    have hn2 := lo_nn (a := n) (b := s.size - k) (by omega) (by omega)
    simp only [e1, f1]
    generalize hj : lo n (s.size - k) = q at *
    have e2 : IntKind.i64.wrap (k + q) = k + q := w64 (by omega)
    simp only [e2]
    have z1 : (subS s 0 k.toNat).size ≤ s.size := by rw [size_subS]; omega
    have z2 : (subS s (k + q).toNat s.size).size ≤ s.size := by rw [size_subS]; omega
    refine ⟨by omega, by omega, by omega, Nat.le_refl _, by rw [size_catS]; omega, fun n8 => ⟨by decide, fun h5 n9 => ?_, fun h5 => ?_⟩⟩
    · rw [hr, show toldO _ = none from if_neg (by omega)]; rfl
    · rw [hr, show toldO _ = _ from if_pos (by omega)]; rfl)

def replH : List AV → Option (Prop × AV)
  | [.v (.string s), .v (.int .i64 at_), .v (.int .i64 n), .v (.string t)] => some (at_ ≤ 9223372036854775807, .tup [.v (.string (sOf (replO s at_ n t))), .v (.int .i64 (cOf (replO s at_ n t)))])
  | _ => none

theorem repl_ok : PrOk Try.prog 17 replH := PrOk.of_lc (enters_of (c := body Try.f17) Try.func17 rfl (by kernel_rfl)) (by
  intro args p h hp
  unfold replH at h
  split at h
  · cases h; exact repl_lc _ _ _ _ hp
  · cases h)



set_option maxRecDepth 100000 in
theorem find_vc (m : Int) (p s : ByteArray) (from_ : Int) {R : AV → Prop} (h : (∀ (n1 n2 n3 n4 n5 : Nat), n1 = n1 ∧ n2 = n2 ∧ ∀ (n6 : Nat), ((0 : Int) ≤ (0 : Int) ∧ (0 : Int) < (2 : Int)) ∧ n6 = n6 ∧ br (!decide ((↑p.size : Int) ≤ (255 : Int))) (∀ (n7 : Nat), n7 = n7 ∧ n4 = n4 ∧ n5 = n5 ∧ n4 = n4 ∧ n5 = n5 ∧ R (AV.tup [AV.v (Value.int IntKind.i64 (0 : Int)), AV.v (Value.int IntKind.i64 (2 : Int))])) (((0 : Int) ≤ (1 : Int) ∧ (1 : Int) < (2 : Int)) ∧ n6 = n6 ∧ br (!decide ((↑s.size : Int) ≤ (255 : Int))) (∀ (n7 : Nat), n7 = n7 ∧ n4 = n4 ∧ n5 = n5 ∧ n4 = n4 ∧ n5 = n5 ∧ R (AV.tup [AV.v (Value.int IntKind.i64 (0 : Int)), AV.v (Value.int IntKind.i64 (2 : Int))])) (n3 = n3 ∧ br (decide (from_ ≥ (1 : Int))) (n3 = n3 ∧ n2 = n2 ∧ br (!decide (from_ ≤ IntKind.i64.wrap ((↑s.size : Int) + (1 : Int)))) (∀ (n7 : Nat), n7 = n7 ∧ n4 = n4 ∧ n5 = n5 ∧ n4 = n4 ∧ n5 = n5 ∧ R (AV.tup [AV.v (Value.int IntKind.i64 (0 : Int)), AV.v (Value.int IntKind.i64 (2 : Int))])) (n2 = n2 ∧ n3 = n3 ∧ ((0 : Int) ≤ IntKind.i64.wrap (from_ - (1 : Int)) ∧ IntKind.i64.wrap (from_ - (1 : Int)) ≤ (↑s.size : Int)) ∧ s.size ≤ s.size ∧ n1 = n1 ∧ (subS s (IntKind.i64.wrap (from_ - (1 : Int))).toNat s.size).size < (4294967281 : Nat) ∧ some (Blk.mk n3 (Cont.cells [AV.v (Value.int IntKind.i64 from_)] (3 : Nat)) true) = some (Blk.mk n3 (Cont.cells [AV.v (Value.int IntKind.i64 from_)] (3 : Nat)) true) ∧ some (Blk.mk n2 (Cont.cells [AV.v (Value.string s)] (9 : Nat)) true) = some (Blk.mk n2 (Cont.cells [AV.v (Value.string s)] (9 : Nat)) true) ∧ br (!decide (Lib.index (subS s (IntKind.i64.wrap (from_ - (1 : Int))).toNat s.size).data.toList p.data.toList ≥ (0 : Int))) (∀ (n7 : Nat), n7 = n7 ∧ n4 = n4 ∧ n5 = n5 ∧ n4 = n4 ∧ n5 = n5 ∧ R (AV.tup [AV.v (Value.int IntKind.i64 (0 : Int)), AV.v (Value.int IntKind.i64 (2 : Int))])) (n3 = n3 ∧ n4 = n4 ∧ n5 = n5 ∧ n4 = n4 ∧ n5 = n5 ∧ R (AV.tup [AV.v (Value.int IntKind.i64 (IntKind.i64.wrap (from_ + Lib.index (subS s (IntKind.i64.wrap (from_ - (1 : Int))).toNat s.size).data.toList p.data.toList))), AV.v (Value.int IntKind.i64 (0 : Int))])))) (∀ (n7 : Nat), n7 = n7 ∧ n4 = n4 ∧ n5 = n5 ∧ n4 = n4 ∧ n5 = n5 ∧ R (AV.tup [AV.v (Value.int IntKind.i64 (0 : Int)), AV.v (Value.int IntKind.i64 (2 : Int))])))))) : LC Try.prog 12 [.v (.string p), .v (.string s), .v (.int .i64 from_)] [gB m] (fun z_ _ => R z_) :=
  lc_of_exec (tbl := t4) tab_ok t4_ok mixed noinv 2 _ Try.func12 rfl Try.ntmps12 (by decide) (by kernel_rfl) (Nat.le_of_ble_eq_true rfl) (@Eq.mpr (execN tab t4 noinv 2 Try.f12.ntmps [] none 0 (body Try.f12) (argsT [.v (.string p), .v (.string s), .v (.int .i64 from_)] 0) [gB m] (post Try.f12 tab (retK (fun z_ _ => R z_)))) _ (by kernel_rfl) h)

set_option maxRecDepth 100000 in
theorem find_lc (m : Int) (p s : ByteArray) (from_ : Int) (hq : from_ ≤ 9223372036854775807) : LC Try.prog 12 [.v (.string p), .v (.string s), .v (.int .i64 from_)] [gB m] (fun z_ _ => z_ = .tup [.v (.int .i64 (nOf (findO p s from_))), .v (.int .i64 (cOf (findO p s from_)))]) :=
  find_vc m p s from_ (by
    intro n1 n2 n3 n4 n5
    have no : ¬ (p.size ≤ 255 ∧ s.size ≤ 255 ∧ 1 ≤ from_ ∧ from_ ≤ s.size + 1) → AV.tup [AV.v (Value.int IntKind.i64 0), AV.v (Value.int IntKind.i64 2)] = .tup [.v (.int .i64 (nOf (findO p s from_))), .v (.int .i64 (cOf (findO p s from_)))] := fun h => by
      rw [show findO p s from_ = none from if_neg h]; rfl
    simp only [true_and, and_true, br_iff, Bool.not_eq_true', Bool.not_eq_false', decide_eq_true_eq, decide_eq_false_iff_not, ge_iff_le]
    intro n6
    refine ⟨by decide, fun h1 n7 => no (by omega), fun h1 => ⟨by decide, fun h2 n7 => no (by omega), fun h2 => ?_⟩⟩
    have e0 : IntKind.i64.wrap ((s.size : Int) + 1) = s.size + 1 := w64 (by omega)
    simp only [e0]
    refine ⟨fun h3 => ⟨fun h4 n7 => no (by omega), fun h4 => ?_⟩, fun h3 n7 => no (by omega)⟩
    have e1 : IntKind.i64.wrap (from_ - 1) = from_ - 1 := w64 (by omega)
    have e2 : (subS s (from_ - 1).toNat s.size).data.toList = s.data.toList.drop (from_ - 1).toNat := by
      rw [subS, data_mkS, List.take_of_length_le (by rw [List.length_drop, size_data]; exact Nat.le_refl _)]
    have hi := Lib.index_le (s.data.toList.drop (from_ - 1).toNat) p.data.toList
    have hg := Lib.index_ge (s.data.toList.drop (from_ - 1).toNat) p.data.toList
    rw [List.length_drop, size_data] at hi
    have hr : findO p s from_ = _ := if_pos ⟨by omega, by omega, by omega, by omega⟩
    simp only [e1, e2]
    refine ⟨by omega, Nat.le_refl _, ?_, fun h5 n7 => ?_, fun h5 => ?_⟩
    · have hz := size_subS s (from_ - 1).toNat s.size
      show (subS s (from_ - 1).toNat s.size).size < _
      omega
    · rw [hr, if_neg h5]; rfl
    · rw [hr, if_pos h5, w64 (by omega)]; rfl)

def findH : List AV → Option (Prop × AV)
  | [.v (.string p), .v (.string s), .v (.int .i64 from_)] => some (from_ ≤ 9223372036854775807, .tup [.v (.int .i64 (nOf (findO p s from_))), .v (.int .i64 (cOf (findO p s from_)))])
  | _ => none

theorem find_ok : HOk Try.prog 12 (glH findH) := glH_ok (enters_of (c := body Try.f12) Try.func12 rfl (by kernel_rfl)) (by
  intro args p m h hp
  unfold findH at h
  split at h
  · cases h; exact find_lc m _ _ _ hp
  · cases h)



def longI : Handler := inlH tab [] noinv 2 Try.f45 3

set_option maxRecDepth 100000 in
theorem long_ok : HOk Try.prog 45 longI :=
  inl_ok (tbl := []) tab_ok trivial mixed noinv 2 _ 3 Try.func45 rfl Try.ntmps45 (by decide) (by kernel_rfl) (Nat.le_of_ble_eq_true rfl)



def standsI : Handler := inlH tab [] noinv 2 Try.f46 3

set_option maxRecDepth 100000 in
theorem stands_ok : HOk Try.prog 46 standsI :=
  inl_ok (tbl := []) tab_ok trivial mixed noinv 2 _ 3 Try.func46 rfl Try.ntmps46 (by decide) (by kernel_rfl) (Nat.le_of_ble_eq_true rfl)



def toldI : Handler := inlH tab [] noinv 2 Try.f53 1

set_option maxRecDepth 100000 in
theorem told_ok : HOk Try.prog 53 toldI :=
  inl_ok (tbl := []) tab_ok trivial mixed noinv 2 _ 1 Try.func53 rfl Try.ntmps53 (by decide) (by kernel_rfl) (Nat.le_of_ble_eq_true rfl)


def t5 : Tbl := (45, .gen longI) :: (46, .gen standsI) :: (53, .gen toldI) :: []

theorem t5_ok : TblOk Try.prog t5 := ⟨long_ok, stands_ok, told_ok, trivial⟩


set_option maxRecDepth 100000 in
theorem rleft_vc (s : ByteArray) (n : Int) {R : AV → Prop} (h : (br (decide ((↑s.size : Int) > (255 : Int))) (R (AV.tup [AV.v (Value.string (ByteArray.mk #[])), AV.v (Value.int IntKind.i64 (2 : Int))])) (br (decide (n < (0 : Int))) (R (AV.tup [AV.v (Value.string (ByteArray.mk #[])), AV.v (Value.int IntKind.i64 (2 : Int))])) ((((0 : Int) ≤ if (↑s.size : Int) < n then (↑s.size : Int) else n) ∧ (if (↑s.size : Int) < n then (↑s.size : Int) else n) ≤ (↑s.size : Int)) ∧ R (AV.tup [AV.v (Value.string (subS s (0 : Nat) (if (↑s.size : Int) < n then (↑s.size : Int) else n).toNat)), AV.v (Value.int IntKind.i64 (0 : Int))]))))) : LC Try.prog 23 [.v (.string s), .v (.int .i64 n)] [] (fun z_ _ => R z_) :=
  lc_of_exec (tbl := t5) tab_ok t5_ok mixed noinv 2 _ Try.func23 rfl Try.ntmps23 (by decide) (by kernel_rfl) (Nat.le_of_ble_eq_true rfl) (@Eq.mpr (execN tab t5 noinv 2 Try.f23.ntmps [] none 0 (body Try.f23) (argsT [.v (.string s), .v (.int .i64 n)] 0) [] (post Try.f23 tab (retK (fun z_ _ => R z_)))) _ (by kernel_rfl) h)

set_option maxRecDepth 100000 in
theorem rleft_lc (s : ByteArray) (n : Int) : LC Try.prog 23 [.v (.string s), .v (.int .i64 n)] [] (fun z_ _ => z_ = .tup [.v (.string (sOf (leftO s n))), .v (.int .i64 (cOf (leftO s n)))]) :=
  rleft_vc s n (by
    have no : ¬ (s.size ≤ 255 ∧ 0 ≤ n) → AV.tup [AV.v (Value.string (ByteArray.mk #[])), AV.v (Value.int IntKind.i64 2)] = .tup [.v (.string (sOf (leftO s n))), .v (.int .i64 (cOf (leftO s n)))] := fun h => by
      rw [show leftO s n = none from if_neg h]; rfl
    simp only [br_iff, decide_eq_true_eq, decide_eq_false_iff_not]
    refine ⟨fun h1 => no (by omega), fun h1 => ⟨fun h2 => no (by omega), fun h2 => ⟨by split <;> omega, ?_⟩⟩⟩
    rw [show leftO s n = _ from if_pos ⟨by omega, by omega⟩]; rfl)

def rleftH : List AV → Option AV
  | [.v (.string s), .v (.int .i64 n)] => some (.tup [.v (.string (sOf (leftO s n))), .v (.int .i64 (cOf (leftO s n)))])
  | _ => none

theorem rleft_ok : POk Try.prog 23 rleftH := POk.of_lc (enters_of (c := body Try.f23) Try.func23 rfl (by kernel_rfl)) (by
  intro args v h
  unfold rleftH at h
  split at h
  · cases h; exact rleft_lc _ _
  · cases h)



set_option maxRecDepth 100000 in
theorem rright_vc (s : ByteArray) (n : Int) {R : AV → Prop} (h : (br (decide ((↑s.size : Int) > (255 : Int))) (R (AV.tup [AV.v (Value.string (ByteArray.mk #[])), AV.v (Value.int IntKind.i64 (2 : Int))])) (br (decide (n < (0 : Int))) (R (AV.tup [AV.v (Value.string (ByteArray.mk #[])), AV.v (Value.int IntKind.i64 (2 : Int))])) (((0 : Int) ≤ IntKind.i64.wrap ((↑s.size : Int) - if (↑s.size : Int) < n then (↑s.size : Int) else n) ∧ IntKind.i64.wrap ((↑s.size : Int) - if (↑s.size : Int) < n then (↑s.size : Int) else n) ≤ (↑s.size : Int)) ∧ s.size ≤ s.size ∧ R (AV.tup [AV.v (Value.string (subS s (IntKind.i64.wrap ((↑s.size : Int) - if (↑s.size : Int) < n then (↑s.size : Int) else n)).toNat s.size)), AV.v (Value.int IntKind.i64 (0 : Int))]))))) : LC Try.prog 25 [.v (.string s), .v (.int .i64 n)] [] (fun z_ _ => R z_) :=
  lc_of_exec (tbl := t5) tab_ok t5_ok mixed noinv 2 _ Try.func25 rfl Try.ntmps25 (by decide) (by kernel_rfl) (Nat.le_of_ble_eq_true rfl) (@Eq.mpr (execN tab t5 noinv 2 Try.f25.ntmps [] none 0 (body Try.f25) (argsT [.v (.string s), .v (.int .i64 n)] 0) [] (post Try.f25 tab (retK (fun z_ _ => R z_)))) _ (by kernel_rfl) h)

set_option maxRecDepth 100000 in
theorem rright_lc (s : ByteArray) (n : Int) : LC Try.prog 25 [.v (.string s), .v (.int .i64 n)] [] (fun z_ _ => z_ = .tup [.v (.string (sOf (rightO s n))), .v (.int .i64 (cOf (rightO s n)))]) :=
  rright_vc s n (by
    have no : ¬ (s.size ≤ 255 ∧ 0 ≤ n) → AV.tup [AV.v (Value.string (ByteArray.mk #[])), AV.v (Value.int IntKind.i64 2)] = .tup [.v (.string (sOf (rightO s n))), .v (.int .i64 (cOf (rightO s n)))] := fun h => by
      rw [show rightO s n = none from if_neg h]; rfl
    simp only [br_iff, decide_eq_true_eq, decide_eq_false_iff_not]
    refine ⟨fun h1 => no (by omega), fun h1 => ⟨fun h2 => no (by omega), fun h2 => ?_⟩⟩
    have e : IntKind.i64.wrap ((s.size : Int) - if (s.size : Int) < n then (s.size : Int) else n) = (s.size : Int) - lo n s.size := by rw [w64 (by split <;> omega)]; rfl
    have hl : 0 ≤ lo n s.size ∧ lo n s.size ≤ s.size := by unfold lo; split <;> omega
    simp only [e]
    refine ⟨by omega, Nat.le_refl _, ?_⟩
    rw [show rightO s n = _ from if_pos ⟨by omega, by omega⟩]; rfl)

def rrightH : List AV → Option AV
  | [.v (.string s), .v (.int .i64 n)] => some (.tup [.v (.string (sOf (rightO s n))), .v (.int .i64 (cOf (rightO s n)))])
  | _ => none

theorem rright_ok : POk Try.prog 25 rrightH := POk.of_lc (enters_of (c := body Try.f25) Try.func25 rfl (by kernel_rfl)) (by
  intro args v h
  unfold rrightH at h
  split at h
  · cases h; exact rright_lc _ _
  · cases h)



set_option maxRecDepth 100000 in
theorem rmid_vc (s : ByteArray) (at_ n : Int) {R : AV → Prop} (h : (br (decide ((↑s.size : Int) > (255 : Int))) (R (AV.tup [AV.v (Value.string (ByteArray.mk #[])), AV.v (Value.int IntKind.i64 (2 : Int))])) (br (decide (n < (0 : Int))) (R (AV.tup [AV.v (Value.string (ByteArray.mk #[])), AV.v (Value.int IntKind.i64 (2 : Int))])) (br (decide (at_ < (1 : Int))) (R (AV.tup [AV.v (Value.string (ByteArray.mk #[])), AV.v (Value.int IntKind.i64 (2 : Int))])) ((((0 : Int) ≤ if (↑s.size : Int) < IntKind.i64.wrap (at_ - (1 : Int)) then (↑s.size : Int) else IntKind.i64.wrap (at_ - (1 : Int))) ∧ (if (↑s.size : Int) < IntKind.i64.wrap (at_ - (1 : Int)) then (↑s.size : Int) else IntKind.i64.wrap (at_ - (1 : Int))) ≤ (↑s.size : Int)) ∧ s.size ≤ s.size ∧ (((0 : Int) ≤ if (↑(subS s (if (↑s.size : Int) < IntKind.i64.wrap (at_ - (1 : Int)) then (↑s.size : Int) else IntKind.i64.wrap (at_ - (1 : Int))).toNat s.size).size : Int) < n then (↑(subS s (if (↑s.size : Int) < IntKind.i64.wrap (at_ - (1 : Int)) then (↑s.size : Int) else IntKind.i64.wrap (at_ - (1 : Int))).toNat s.size).size : Int) else n) ∧ (if (↑(subS s (if (↑s.size : Int) < IntKind.i64.wrap (at_ - (1 : Int)) then (↑s.size : Int) else IntKind.i64.wrap (at_ - (1 : Int))).toNat s.size).size : Int) < n then (↑(subS s (if (↑s.size : Int) < IntKind.i64.wrap (at_ - (1 : Int)) then (↑s.size : Int) else IntKind.i64.wrap (at_ - (1 : Int))).toNat s.size).size : Int) else n) ≤ (↑(subS s (if (↑s.size : Int) < IntKind.i64.wrap (at_ - (1 : Int)) then (↑s.size : Int) else IntKind.i64.wrap (at_ - (1 : Int))).toNat s.size).size : Int)) ∧ R (AV.tup [AV.v (Value.string (subS (subS s (if (↑s.size : Int) < IntKind.i64.wrap (at_ - (1 : Int)) then (↑s.size : Int) else IntKind.i64.wrap (at_ - (1 : Int))).toNat s.size) (0 : Nat) (if (↑(subS s (if (↑s.size : Int) < IntKind.i64.wrap (at_ - (1 : Int)) then (↑s.size : Int) else IntKind.i64.wrap (at_ - (1 : Int))).toNat s.size).size : Int) < n then (↑(subS s (if (↑s.size : Int) < IntKind.i64.wrap (at_ - (1 : Int)) then (↑s.size : Int) else IntKind.i64.wrap (at_ - (1 : Int))).toNat s.size).size : Int) else n).toNat)), AV.v (Value.int IntKind.i64 (0 : Int))])))))) : LC Try.prog 26 [.v (.string s), .v (.int .i64 at_), .v (.int .i64 n)] [] (fun z_ _ => R z_) :=
  lc_of_exec (tbl := t5) tab_ok t5_ok mixed noinv 2 _ Try.func26 rfl Try.ntmps26 (by decide) (by kernel_rfl) (Nat.le_of_ble_eq_true rfl) (@Eq.mpr (execN tab t5 noinv 2 Try.f26.ntmps [] none 0 (body Try.f26) (argsT [.v (.string s), .v (.int .i64 at_), .v (.int .i64 n)] 0) [] (post Try.f26 tab (retK (fun z_ _ => R z_)))) _ (by kernel_rfl) h)

set_option maxRecDepth 100000 in
theorem rmid_lc (s : ByteArray) (at_ n : Int) (hq : at_ ≤ 9223372036854775807) : LC Try.prog 26 [.v (.string s), .v (.int .i64 at_), .v (.int .i64 n)] [] (fun z_ _ => z_ = .tup [.v (.string (sOf (midO s at_ n))), .v (.int .i64 (cOf (midO s at_ n)))]) :=
  rmid_vc s at_ n (by
    have no : ¬ (s.size ≤ 255 ∧ 1 ≤ at_ ∧ 0 ≤ n) → AV.tup [AV.v (Value.string (ByteArray.mk #[])), AV.v (Value.int IntKind.i64 2)] = .tup [.v (.string (sOf (midO s at_ n))), .v (.int .i64 (cOf (midO s at_ n)))] := fun h => by
      rw [show midO s at_ n = none from if_neg h]; rfl
    simp only [true_and, and_true, br_iff, Bool.not_eq_true', Bool.not_eq_false', decide_eq_true_eq, decide_eq_false_iff_not]
    refine ⟨fun h1 => no (by omega), fun h1 => ⟨fun h2 => no (by omega), fun h2 => ⟨fun h3 => no (by omega), fun h3 => ?_⟩⟩⟩
    have hr : midO s at_ n = _ := if_pos ⟨by omega, by omega, by omega⟩
    have e0 : IntKind.i64.wrap (at_ - 1) = at_ - 1 := w64 (by omega)
    have f0 : (if (s.size : Int) < at_ - 1 then (s.size : Int) else at_ - 1) = lo (at_ - 1) s.size := rfl
    have hl := lo_le (at_ - 1) s.size
    have hn := lo_nn (a := at_ - 1) (b := s.size) (by omega) (by omega)
    simp only [e0, f0]
    generalize hk : lo (at_ - 1) s.size = k at *
    have z : ((subS s k.toNat s.size).size : Int) = s.size - k := by rw [size_subS]; omega
    simp only [z]
    have f1 : (if (s.size : Int) - k < n then (s.size : Int) - k else n) = lo n (s.size - k) := rfl
    have hl2 := lo_le n (s.size - k)
    have hn2 := lo_nn (a := n) (b := s.size - k) (by omega) (by omega)
    simp only [f1]
    generalize hj : lo n (s.size - k) = q at *
    refine ⟨by omega, Nat.le_refl _, by omega, ?_⟩
    rw [hr, subS_subS s (by omega) (by omega)]
    rw [show (k + q).toNat = k.toNat + q.toNat by omega]; rfl)

def rmidH : List AV → Option (Prop × AV)
  | [.v (.string s), .v (.int .i64 at_), .v (.int .i64 n)] => some (at_ ≤ 9223372036854775807, .tup [.v (.string (sOf (midO s at_ n))), .v (.int .i64 (cOf (midO s at_ n)))])
  | _ => none

theorem rmid_ok : PrOk Try.prog 26 rmidH := PrOk.of_lc (enters_of (c := body Try.f26) Try.func26 rfl (by kernel_rfl)) (by
  intro args p h hp
  unfold rmidH at h
  split at h
  · cases h; exact rmid_lc _ _ _ hp
  · cases h)



set_option maxRecDepth 100000 in
theorem rrepl_vc (s : ByteArray) (at_ n : Int) (t : ByteArray) {R : AV → Prop} (h : (br (decide ((↑s.size : Int) > (255 : Int))) (R (AV.tup [AV.v (Value.string (ByteArray.mk #[])), AV.v (Value.int IntKind.i64 (2 : Int))])) (br (decide ((↑t.size : Int) > (255 : Int))) (R (AV.tup [AV.v (Value.string (ByteArray.mk #[])), AV.v (Value.int IntKind.i64 (2 : Int))])) (br (decide (at_ < (1 : Int))) (R (AV.tup [AV.v (Value.string (ByteArray.mk #[])), AV.v (Value.int IntKind.i64 (2 : Int))])) (br (decide (n < (0 : Int))) (R (AV.tup [AV.v (Value.string (ByteArray.mk #[])), AV.v (Value.int IntKind.i64 (2 : Int))])) ((((0 : Int) ≤ if (↑s.size : Int) < IntKind.i64.wrap (at_ - (1 : Int)) then (↑s.size : Int) else IntKind.i64.wrap (at_ - (1 : Int))) ∧ (if (↑s.size : Int) < IntKind.i64.wrap (at_ - (1 : Int)) then (↑s.size : Int) else IntKind.i64.wrap (at_ - (1 : Int))) ≤ (↑s.size : Int)) ∧ (subS s (0 : Nat) (if (↑s.size : Int) < IntKind.i64.wrap (at_ - (1 : Int)) then (↑s.size : Int) else IntKind.i64.wrap (at_ - (1 : Int))).toNat).size + t.size ≤ (9223372036854775807 : Nat) ∧ ((0 : Int) ≤ IntKind.i64.wrap ((if (↑s.size : Int) < IntKind.i64.wrap (at_ - (1 : Int)) then (↑s.size : Int) else IntKind.i64.wrap (at_ - (1 : Int))) + if IntKind.i64.wrap ((↑s.size : Int) - if (↑s.size : Int) < IntKind.i64.wrap (at_ - (1 : Int)) then (↑s.size : Int) else IntKind.i64.wrap (at_ - (1 : Int))) < n then IntKind.i64.wrap ((↑s.size : Int) - if (↑s.size : Int) < IntKind.i64.wrap (at_ - (1 : Int)) then (↑s.size : Int) else IntKind.i64.wrap (at_ - (1 : Int))) else n) ∧ IntKind.i64.wrap ((if (↑s.size : Int) < IntKind.i64.wrap (at_ - (1 : Int)) then (↑s.size : Int) else IntKind.i64.wrap (at_ - (1 : Int))) + if IntKind.i64.wrap ((↑s.size : Int) - if (↑s.size : Int) < IntKind.i64.wrap (at_ - (1 : Int)) then (↑s.size : Int) else IntKind.i64.wrap (at_ - (1 : Int))) < n then IntKind.i64.wrap ((↑s.size : Int) - if (↑s.size : Int) < IntKind.i64.wrap (at_ - (1 : Int)) then (↑s.size : Int) else IntKind.i64.wrap (at_ - (1 : Int))) else n) ≤ (↑s.size : Int)) ∧ s.size ≤ s.size ∧ (catS (subS s (0 : Nat) (if (↑s.size : Int) < IntKind.i64.wrap (at_ - (1 : Int)) then (↑s.size : Int) else IntKind.i64.wrap (at_ - (1 : Int))).toNat) t).size + (subS s (IntKind.i64.wrap ((if (↑s.size : Int) < IntKind.i64.wrap (at_ - (1 : Int)) then (↑s.size : Int) else IntKind.i64.wrap (at_ - (1 : Int))) + if IntKind.i64.wrap ((↑s.size : Int) - if (↑s.size : Int) < IntKind.i64.wrap (at_ - (1 : Int)) then (↑s.size : Int) else IntKind.i64.wrap (at_ - (1 : Int))) < n then IntKind.i64.wrap ((↑s.size : Int) - if (↑s.size : Int) < IntKind.i64.wrap (at_ - (1 : Int)) then (↑s.size : Int) else IntKind.i64.wrap (at_ - (1 : Int))) else n)).toNat s.size).size ≤ (9223372036854775807 : Nat) ∧ br (decide ((↑(catS (catS (subS s (0 : Nat) (if (↑s.size : Int) < IntKind.i64.wrap (at_ - (1 : Int)) then (↑s.size : Int) else IntKind.i64.wrap (at_ - (1 : Int))).toNat) t) (subS s (IntKind.i64.wrap ((if (↑s.size : Int) < IntKind.i64.wrap (at_ - (1 : Int)) then (↑s.size : Int) else IntKind.i64.wrap (at_ - (1 : Int))) + if IntKind.i64.wrap ((↑s.size : Int) - if (↑s.size : Int) < IntKind.i64.wrap (at_ - (1 : Int)) then (↑s.size : Int) else IntKind.i64.wrap (at_ - (1 : Int))) < n then IntKind.i64.wrap ((↑s.size : Int) - if (↑s.size : Int) < IntKind.i64.wrap (at_ - (1 : Int)) then (↑s.size : Int) else IntKind.i64.wrap (at_ - (1 : Int))) else n)).toNat s.size)).size : Int) > (255 : Int))) (R (AV.tup [AV.v (Value.string (ByteArray.mk #[])), AV.v (Value.int IntKind.i64 (2 : Int))])) (R (AV.tup [AV.v (Value.string (catS (catS (subS s (0 : Nat) (if (↑s.size : Int) < IntKind.i64.wrap (at_ - (1 : Int)) then (↑s.size : Int) else IntKind.i64.wrap (at_ - (1 : Int))).toNat) t) (subS s (IntKind.i64.wrap ((if (↑s.size : Int) < IntKind.i64.wrap (at_ - (1 : Int)) then (↑s.size : Int) else IntKind.i64.wrap (at_ - (1 : Int))) + if IntKind.i64.wrap ((↑s.size : Int) - if (↑s.size : Int) < IntKind.i64.wrap (at_ - (1 : Int)) then (↑s.size : Int) else IntKind.i64.wrap (at_ - (1 : Int))) < n then IntKind.i64.wrap ((↑s.size : Int) - if (↑s.size : Int) < IntKind.i64.wrap (at_ - (1 : Int)) then (↑s.size : Int) else IntKind.i64.wrap (at_ - (1 : Int))) else n)).toNat s.size))), AV.v (Value.int IntKind.i64 (0 : Int))])))))))) : LC Try.prog 18 [.v (.string s), .v (.int .i64 at_), .v (.int .i64 n), .v (.string t)] [] (fun z_ _ => R z_) :=
  lc_of_exec (tbl := t5) tab_ok t5_ok mixed noinv 2 _ Try.func18 rfl Try.ntmps18 (by decide) (by kernel_rfl) (Nat.le_of_ble_eq_true rfl) (@Eq.mpr (execN tab t5 noinv 2 Try.f18.ntmps [] none 0 (body Try.f18) (argsT [.v (.string s), .v (.int .i64 at_), .v (.int .i64 n), .v (.string t)] 0) [] (post Try.f18 tab (retK (fun z_ _ => R z_)))) _ (by kernel_rfl) h)

set_option maxRecDepth 100000 in
theorem rrepl_lc (s : ByteArray) (at_ n : Int) (t : ByteArray) (hq : at_ ≤ 9223372036854775807) : LC Try.prog 18 [.v (.string s), .v (.int .i64 at_), .v (.int .i64 n), .v (.string t)] [] (fun z_ _ => z_ = .tup [.v (.string (sOf (replO s at_ n t))), .v (.int .i64 (cOf (replO s at_ n t)))]) :=
  rrepl_vc s at_ n t (by
    have no : ¬ (s.size ≤ 255 ∧ t.size ≤ 255 ∧ 1 ≤ at_ ∧ 0 ≤ n) → AV.tup [AV.v (Value.string (ByteArray.mk #[])), AV.v (Value.int IntKind.i64 2)] = .tup [.v (.string (sOf (replO s at_ n t))), .v (.int .i64 (cOf (replO s at_ n t)))] := fun h => by
      rw [show replO s at_ n t = none from if_neg h]; rfl
    simp only [true_and, and_true, br_iff, Bool.not_eq_true', Bool.not_eq_false', decide_eq_true_eq, decide_eq_false_iff_not, gt_iff_lt]
    refine ⟨fun h1 => no (by omega), fun h1 => ⟨fun h2 => no (by omega), fun h2 => ⟨fun h3 => no (by omega), fun h3 => ⟨fun h4 => no (by omega), fun h4 => ?_⟩⟩⟩⟩
    have hr : replO s at_ n t = _ := if_pos ⟨by omega, by omega, by omega, by omega⟩
    have e0 : IntKind.i64.wrap (at_ - 1) = at_ - 1 := w64 (by omega)
    have f0 : (if (s.size : Int) < at_ - 1 then (s.size : Int) else at_ - 1) = lo (at_ - 1) s.size := rfl
    have hl := lo_le (at_ - 1) s.size
    have hn := lo_nn (a := at_ - 1) (b := s.size) (by omega) (by omega)
    simp only [e0, f0]
    generalize hk : lo (at_ - 1) s.size = k at *
    have e1 : IntKind.i64.wrap ((s.size : Int) - k) = s.size - k := w64 (by omega)
    have f1 : (if (s.size : Int) - k < n then (s.size : Int) - k else n) = lo n (s.size - k) := rfl
    have hl2 := lo_le n (s.size - k)
    have hn2 := lo_nn (a := n) (b := s.size - k) (by omega) (by omega)
    simp only [e1, f1]
    generalize hj : lo n (s.size - k) = q at *
    have e2 : IntKind.i64.wrap (k + q) = k + q := w64 (by omega)
    simp only [e2]
    have z1 : (subS s 0 k.toNat).size ≤ s.size := by rw [size_subS]; omega
    have z2 : (subS s (k + q).toNat s.size).size ≤ s.size := by rw [size_subS]; omega
    refine ⟨by omega, by omega, by omega, Nat.le_refl _, by rw [size_catS]; omega, fun h5 => ?_, fun h5 => ?_⟩
    · rw [hr, show toldO _ = none from if_neg (by omega)]; rfl
    · rw [hr, show toldO _ = _ from if_pos (by omega)]; rfl)

def rreplH : List AV → Option (Prop × AV)
  | [.v (.string s), .v (.int .i64 at_), .v (.int .i64 n), .v (.string t)] => some (at_ ≤ 9223372036854775807, .tup [.v (.string (sOf (replO s at_ n t))), .v (.int .i64 (cOf (replO s at_ n t)))])
  | _ => none

theorem rrepl_ok : PrOk Try.prog 18 rreplH := PrOk.of_lc (enters_of (c := body Try.f18) Try.func18 rfl (by kernel_rfl)) (by
  intro args p h hp
  unfold rreplH at h
  split at h
  · cases h; exact rrepl_lc _ _ _ _ hp
  · cases h)



set_option maxRecDepth 100000 in
theorem rfind_vc (p s : ByteArray) (from_ : Int) {R : AV → Prop} (h : (br (decide ((↑p.size : Int) > (255 : Int))) (R (AV.tup [AV.v (Value.int IntKind.i64 (0 : Int)), AV.v (Value.int IntKind.i64 (2 : Int))])) (br (decide ((↑s.size : Int) > (255 : Int))) (R (AV.tup [AV.v (Value.int IntKind.i64 (0 : Int)), AV.v (Value.int IntKind.i64 (2 : Int))])) (br (decide (from_ < (1 : Int))) (R (AV.tup [AV.v (Value.int IntKind.i64 (0 : Int)), AV.v (Value.int IntKind.i64 (2 : Int))])) (br (decide (from_ > IntKind.i64.wrap ((↑s.size : Int) + (1 : Int)))) (R (AV.tup [AV.v (Value.int IntKind.i64 (0 : Int)), AV.v (Value.int IntKind.i64 (2 : Int))])) ((∃ (x : Nat), (from_ - (1 : Int) ≤ (↑x : Int) ∧ x ≤ s.size + (1 : Nat) ∧ ∀ (j : Nat), from_ - (1 : Int) ≤ (↑j : Int) → j < x → Lib.occAt s.data.toList p.data.toList j = false) ∧ ((AV.v (Value.int IntKind.i64 (IntKind.i64.wrap (from_ - (1 : Int))))).den = (AV.v (Value.int IntKind.i64 (↑x : Int))).den ∧ (AV.v (Value.string p)).den = (AV.v (Value.string p)).den ∧ (AV.v (Value.string s)).den = (AV.v (Value.string s)).den ∧ (AV.v (Value.int IntKind.i64 from_)).den = (AV.v (Value.int IntKind.i64 from_)).den ∧ True) ∧ LeH [] []) ∧ ∀ (n1 : Nat), (from_ - (1 : Int) ≤ (↑n1 : Int) ∧ n1 ≤ s.size + (1 : Nat) ∧ ∀ (j : Nat), from_ - (1 : Int) ≤ (↑j : Int) → j < n1 → Lib.occAt s.data.toList p.data.toList j = false) → br (decide ((↑n1 : Int) ≤ (↑s.size : Int))) (br (decide (IntKind.i64.wrap ((↑n1 : Int) + (↑p.size : Int)) ≤ (↑s.size : Int))) (((0 : Int) ≤ IntKind.i64.wrap ((↑n1 : Int) + (↑p.size : Int)) ∧ IntKind.i64.wrap ((↑n1 : Int) + (↑p.size : Int)) ≤ (↑s.size : Int)) ∧ ((0 : Int) ≤ (↑n1 : Int) ∧ (↑n1 : Int) ≤ IntKind.i64.wrap ((↑n1 : Int) + (↑p.size : Int))) ∧ br (eqS (subS s (↑n1 : Int).toNat (IntKind.i64.wrap ((↑n1 : Int) + (↑p.size : Int))).toNat) p) (R (AV.tup [AV.v (Value.int IntKind.i64 (IntKind.i64.wrap ((↑n1 : Int) + (1 : Int)))), AV.v (Value.int IntKind.i64 (0 : Int))])) (∃ (x' : Nat), (from_ - (1 : Int) ≤ (↑x' : Int) ∧ x' ≤ s.size + (1 : Nat) ∧ ∀ (j : Nat), from_ - (1 : Int) ≤ (↑j : Int) → j < x' → Lib.occAt s.data.toList p.data.toList j = false) ∧ s.size + (1 : Nat) - x' < s.size + (1 : Nat) - n1 ∧ ((AV.v (Value.int IntKind.i64 (IntKind.i64.wrap ((↑n1 : Int) + (1 : Int))))).den = (AV.v (Value.int IntKind.i64 (↑x' : Int))).den ∧ (AV.v (Value.string p)).den = (AV.v (Value.string p)).den ∧ (AV.v (Value.string s)).den = (AV.v (Value.string s)).den ∧ (AV.v (Value.int IntKind.i64 from_)).den = (AV.v (Value.int IntKind.i64 from_)).den ∧ True) ∧ LeH [] [])) (∃ (x' : Nat), (from_ - (1 : Int) ≤ (↑x' : Int) ∧ x' ≤ s.size + (1 : Nat) ∧ ∀ (j : Nat), from_ - (1 : Int) ≤ (↑j : Int) → j < x' → Lib.occAt s.data.toList p.data.toList j = false) ∧ s.size + (1 : Nat) - x' < s.size + (1 : Nat) - n1 ∧ ((AV.v (Value.int IntKind.i64 (IntKind.i64.wrap ((↑n1 : Int) + (1 : Int))))).den = (AV.v (Value.int IntKind.i64 (↑x' : Int))).den ∧ (AV.v (Value.string p)).den = (AV.v (Value.string p)).den ∧ (AV.v (Value.string s)).den = (AV.v (Value.string s)).den ∧ (AV.v (Value.int IntKind.i64 from_)).den = (AV.v (Value.int IntKind.i64 from_)).den ∧ True) ∧ LeH [] [])) (R (AV.tup [AV.v (Value.int IntKind.i64 (0 : Int)), AV.v (Value.int IntKind.i64 (2 : Int))])))))))) : LC Try.prog 13 [.v (.string p), .v (.string s), .v (.int .i64 from_)] [] (fun z_ _ => R z_) :=
  lc_of_exec (tbl := t5) tab_ok t5_ok mixed (fun _ T H => .inv Nat (fun i => ((8, .v (.int .i64 (i : Int))) :: keepT [0, 1, 2] T, H)) (fun i => from_ - 1 ≤ (i : Int) ∧ i ≤ s.size + 1 ∧ ∀ j : Nat, from_ - 1 ≤ (j : Int) → j < i → Lib.occAt s.data.toList p.data.toList j = false) (fun i => s.size + 1 - i)) 2 _ Try.func13 rfl Try.ntmps13 (by decide) (by kernel_rfl) (Nat.le_of_ble_eq_true rfl) (@Eq.mpr (execN tab t5 (fun _ T H => .inv Nat (fun i => ((8, .v (.int .i64 (i : Int))) :: keepT [0, 1, 2] T, H)) (fun i => from_ - 1 ≤ (i : Int) ∧ i ≤ s.size + 1 ∧ ∀ j : Nat, from_ - 1 ≤ (j : Int) → j < i → Lib.occAt s.data.toList p.data.toList j = false) (fun i => s.size + 1 - i)) 2 Try.f13.ntmps [] none 0 (body Try.f13) (argsT [.v (.string p), .v (.string s), .v (.int .i64 from_)] 0) [] (post Try.f13 tab (retK (fun z_ _ => R z_)))) _ (by kernel_rfl) h)

set_option maxRecDepth 100000 in
theorem rfind_lc (p s : ByteArray) (from_ : Int) : LC Try.prog 13 [.v (.string p), .v (.string s), .v (.int .i64 from_)] [] (fun z_ _ => z_ = .tup [.v (.int .i64 (nOf (findO p s from_))), .v (.int .i64 (cOf (findO p s from_)))]) :=
  rfind_vc p s from_ (by
    have no : ¬ (p.size ≤ 255 ∧ s.size ≤ 255 ∧ 1 ≤ from_ ∧ from_ ≤ s.size + 1) → AV.tup [AV.v (Value.int IntKind.i64 0), AV.v (Value.int IntKind.i64 2)] = .tup [.v (.int .i64 (nOf (findO p s from_))), .v (.int .i64 (cOf (findO p s from_)))] := fun h => by
      rw [show findO p s from_ = none from if_neg h]; rfl
    simp only [br_iff, decide_eq_true_eq, decide_eq_false_iff_not, gt_iff_lt, true_and, and_true, AV.den, Value.int.injEq, Int.toNat_natCast]
    refine ⟨fun h1 => no (by omega), fun h1 => ⟨fun h2 => no (by omega), fun h2 => ⟨fun h3 => no (by omega), fun h3 => ?_⟩⟩⟩
    have e0 : IntKind.i64.wrap ((s.size : Int) + 1) = s.size + 1 := w64 (by omega)
    simp only [e0]
    refine ⟨fun h4 => no (by omega), fun h4 => ?_⟩
    have e1 : IntKind.i64.wrap (from_ - 1) = from_ - 1 := w64 (by omega)
    simp only [e1]
    refine ⟨⟨(from_ - 1).toNat, ⟨by omega, by omega, fun j h5 h6 => by omega⟩, by omega, LeH.refl _⟩, fun i hi => ⟨fun h5 => ?_, fun h5 => ?_⟩⟩
    · have e2 : IntKind.i64.wrap ((i : Int) + p.size) = ((i + p.size : Nat) : Int) := by rw [w64 (by omega)]; omega
      have e3 : IntKind.i64.wrap ((i : Int) + 1) = ((i + 1 : Nat) : Int) := by rw [w64 (by omega)]; omega
      simp only [e2, e3, Int.toNat_natCast]
      refine ⟨fun h6 => ⟨⟨by omega, by omega⟩, by omega, fun h7 => ?_, fun h7 => ?_⟩, fun h6 => ?_⟩
      · rw [findO_hit (by omega) (by omega) (by omega) hi.1 (by omega) (by rw [occAt_sub (by omega)]; exact h7) hi.2.2]; rfl
      · refine ⟨i + 1, ⟨by omega, by omega, fun j h8 h9 => ?_⟩, by omega, rfl, LeH.refl _⟩
        by_cases h10 : j = i
        · subst h10; rw [occAt_sub (by omega)]; exact h7
        · exact hi.2.2 j h8 (by omega)
      · refine ⟨i + 1, ⟨by omega, by omega, fun j h8 h9 => ?_⟩, by omega, rfl, LeH.refl _⟩
        by_cases h10 : j = i
        · subst h10
          rw [Bool.eq_false_iff]
          intro h11
          have := occAt_room h11 (by omega)
          omega
        · exact hi.2.2 j h8 (by omega)
    · rw [findO_none (by omega) (fun j h6 h7 => hi.2.2 j h6 (by omega))]; rfl)

def rfindH : List AV → Option AV
  | [.v (.string p), .v (.string s), .v (.int .i64 from_)] => some (.tup [.v (.int .i64 (nOf (findO p s from_))), .v (.int .i64 (cOf (findO p s from_)))])
  | _ => none

theorem rfind_ok : POk Try.prog 13 rfindH := POk.of_lc (enters_of (c := body Try.f13) Try.func13 rfl (by kernel_rfl)) (by
  intro args v h
  unfold rfindH at h
  split at h
  · cases h; exact rfind_lc _ _ _
  · cases h)


end Go.Proofs.Ytgafgejkijbmpaa

