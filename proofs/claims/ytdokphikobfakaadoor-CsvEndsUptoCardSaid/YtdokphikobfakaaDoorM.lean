/- Csv: what is written, plainly: lengths; bytes that grow. -/
import Derived.Test.YtdokphikobfakaaDoorL
namespace Go.Sp
open Go.Eng Go.Proofs.YtdokphikobfakaaDoor

def pushB (B : ByteArray) (b : UInt8) : ByteArray := mkS (B.data.toList ++ [b])

theorem toList_pushB (B : ByteArray) (b : UInt8) : (pushB B b).data.toList = B.data.toList ++ [b] := by simp [pushB, mkS]
@[simp] theorem size_pushB (B : ByteArray) (b : UInt8) : (pushB B b).size = B.size + 1 := by
  have := congrArg List.length (toList_pushB B b)
  rw [List.length_append] at this
  simpa using this
theorem toList_catS (A B : ByteArray) : (catS A B).data.toList = A.data.toList ++ B.data.toList := by simp [catS, mkS]

theorem byteAt_app {A B : ByteArray} {l : List UInt8} (h : B.data.toList = A.data.toList ++ l) (i : Nat) : byteAt B i = if i < A.size then byteAt A i else ((l[i - A.size]?).getD 0).toNat := by
  have hl : A.data.toList.length = A.size := Array.length_toList
  unfold byteAt
  rw [h, List.getElem?_append, hl]
  split <;> rfl

/-- A byte more. -/
theorem joinOne {B : ByteArray} {m i : Nat} {c : Int} (h0 : 0 ≤ c) (h1 : c ≤ 255) (hm : m = B.size) :
    (if i < m then byteAt B i else if i < m + 1 then (match asI IntKind.u8 ((nth [AV.v (Value.int IntKind.u8 c)] ((i - m) * 1 + 0)).getD (AV.v undef)) with | some x => x | none => 0) else 0) = byteAt (pushB B c.toNat.toUInt8) i := by
  subst hm
  rw [byteAt_app (toList_pushB B _)]
  split
  · rfl
  · split
    · have e : i - B.size = 0 := by omega
      rw [e]
      have : (c.toNat.toUInt8).toNat = c.toNat := by simp; omega
      simp [nth, asI, sameK, this]
      omega
    · have : 1 ≤ i - B.size := by omega
      rw [List.getElem?_eq_none (by simpa using this)]
      rfl

/-- A text more. -/
theorem joinStr {B s : ByteArray} {m i : Nat} (hm : m = B.size) : (if i < m then byteAt B i else if i < m + s.size then byteAt s (i - m) else 0) = byteAt (catS B s) i := by
  subst hm
  rw [byteAt_app (toList_catS B s)]
  split
  · rfl
  · split
    · rfl
    · have hl : s.data.toList.length = s.size := Array.length_toList
      rw [List.getElem?_eq_none (by rw [hl]; omega)]
      rfl

theorem upTo_succ (c : UInt8) (g : Nat → RW) (F : Nat → Nat → ByteArray) (i k : Nat) : upTo c g F i (k + 1) = upSep c g F i k ++ fieldL c (Nat.beq (g i).len 1) (F i k) := by
  simp [upTo, upSep, fieldsL, List.append_assoc]

theorem rowsL_succ (c : UInt8) (g : Nat → RW) (F : Nat → Nat → ByteArray) (i : Nat) : rowsL c g F (i + 1) = upTo c g F i (g i).len ++ [10] := by
  simp [upTo, rowsL]

theorem upTo_zero (c : UInt8) (g : Nat → RW) (F : Nat → Nat → ByteArray) (i : Nat) : upTo c g F i 0 = rowsL c g F i := by simp [upTo, fieldsL]

theorem rowsL_mono (c : UInt8) (g : Nat → RW) (F : Nat → Nat → ByteArray) {i j : Nat} (h : i ≤ j) : (rowsL c g F i).length ≤ (rowsL c g F j).length := by
  induction j with
  | zero => obtain rfl : i = 0 := by omega
            exact Nat.le_refl _
  | succ j ih =>
    rcases Nat.lt_or_ge i (j + 1) with h1 | h1
    · have := ih (by omega)
      rw [rowsL, List.length_append, List.length_append]
      omega
    · obtain rfl : i = j + 1 := by omega
      exact Nat.le_refl _

theorem fieldsL_mono (c : UInt8) (n : Nat) (F : Nat → ByteArray) {k l : Nat} (h : k ≤ l) : (fieldsL c n F k).length ≤ (fieldsL c n F l).length := by
  induction l with
  | zero => obtain rfl : k = 0 := by omega
            exact Nat.le_refl _
  | succ l ih =>
    rcases Nat.lt_or_ge k (l + 1) with h1 | h1
    · have := ih (by omega)
      rw [fieldsL, List.length_append, List.length_append]
      omega
    · obtain rfl : k = l + 1 := by omega
      exact Nat.le_refl _

theorem upTo_len (c : UInt8) (g : Nat → RW) (F : Nat → Nat → ByteArray) {i k L : Nat} (hi : i < L) (hk : k ≤ (g i).len) : (upTo c g F i k).length + 1 ≤ (rowsL c g F L).length := by
  have h1 := rowsL_mono c g F (i := i + 1) (j := L) hi
  have h2 := fieldsL_mono c (g i).len (F i) hk
  rw [rowsL, List.length_append, List.length_append] at h1
  rw [upTo, List.length_append]
  simp only [List.length_singleton] at h1
  omega

theorem quoteL_app : ∀ (l m : List UInt8), quoteL (l ++ m) = quoteL l ++ quoteL m
  | [], m => rfl
  | b :: l, m => by
    rw [List.cons_append, quoteL, quoteL]
    split <;> rw [quoteL_app l m] <;> rfl

theorem quoteL_take (l : List UInt8) (i : Nat) : (quoteL (l.take i)).length ≤ (quoteL l).length := by
  have := quoteL_app (l.take i) (l.drop i)
  rw [List.take_append_drop] at this
  rw [this, List.length_append]
  omega

theorem quoteL_ge : ∀ l : List UInt8, l.length ≤ (quoteL l).length
  | [] => Nat.le_refl _
  | b :: l => by
    have := quoteL_ge l
    rw [quoteL]
    split <;> simp only [List.length_cons] <;> omega

theorem fieldL_ge (c : UInt8) (al : Bool) (s : ByteArray) : s.size ≤ (fieldL c al s).length := by
  have h1 : s.data.toList.length = s.size := Array.length_toList
  have h2 := quoteL_ge s.data.toList
  unfold fieldL
  split
  · simp only [List.length_cons, List.length_append]; omega
  · omega

theorem quoteL_step {l : List UInt8} {i : Nat} {b : UInt8} (h : l[i]? = some b) : quoteL (l.take (i + 1)) = quoteL (l.take i) ++ (if b = 34 then [34, 34] else [b]) := by
  rw [List.take_add_one, h, quoteL_app]
  congr 1

/-- How long things are on the way. -/
theorem field_room {c : UInt8} {g : Nat → RW} {F : Nat → Nat → ByteArray} {i k L : Nat} (hi : i < L) (hk : k < (g i).len) : (upSep c g F i k).length + (fieldL c (Nat.beq (g i).len 1) (F i k)).length + 1 ≤ (rowsL c g F L).length := by
  have := upTo_len c g F (L := L) (k := k + 1) hi hk
  rw [upTo_succ, List.length_append] at this
  exact this

theorem fieldL_no {c : UInt8} {al : Bool} {s : ByteArray} (h : needsB s al c = false) : fieldL c al s = s.data.toList := by simp [fieldL, h]
theorem fieldL_yes {c : UInt8} {al : Bool} {s : ByteArray} (h : needsB s al c = true) : fieldL c al s = 34 :: quoteL s.data.toList ++ [34] := by simp [fieldL, h]

/-- May a byte part fields? -/
def sepOk (c : Int) : Prop := c ≠ 0 ∧ c ≠ 10 ∧ c ≠ 13 ∧ c ≠ 34

open Classical in
/-- What Write tells. -/
noncomputable def wrS (c : Int) (L : Nat) (g : Nat → RW) (F : Nat → Nat → ByteArray) : ByteArray × Int :=
  if ¬ sepOk c ∨ ¬ full L g then (ByteArray.mk #[], 2) else if 1048576 < L ∨ 16384 < wideN g L then (ByteArray.mk #[], 7) else (mkS (rowsL c.toNat.toUInt8 g F L), 0)

/-- .. as a value. -/
noncomputable def wrV (c : Int) (L : Nat) (g : Nat → RW) (F : Nat → Nat → ByteArray) : AV := .tup [.v (.string (wrS c L g F).1), .v (.int .i64 (wrS c L g F).2)]

theorem wrV_arg {c : Int} {L : Nat} {g : Nat → RW} {F : Nat → Nat → ByteArray} (h : ¬ sepOk c ∨ ¬ full L g) : wrV c L g F = .tup [.v (.string (ByteArray.mk #[])), .v (.int .i64 2)] := by
  simp only [wrV, wrS, if_pos h]
theorem wrV_big {c : Int} {L : Nat} {g : Nat → RW} {F : Nat → Nat → ByteArray} (h1 : sepOk c) (h2 : full L g) (h : 1048576 < L ∨ 16384 < wideN g L) : wrV c L g F = .tup [.v (.string (ByteArray.mk #[])), .v (.int .i64 7)] := by
  have h0 : ¬ (¬ sepOk c ∨ ¬ full L g) := by simp [h1, h2]
  simp only [wrV, wrS, if_neg h0, if_pos h]
theorem wrV_ok {c : Int} {L : Nat} {g : Nat → RW} {F : Nat → Nat → ByteArray} (h1 : sepOk c) (h2 : full L g) (h3 : ¬ (1048576 < L ∨ 16384 < wideN g L)) : wrV c L g F = .tup [.v (.string (mkS (rowsL c.toNat.toUInt8 g F L))), .v (.int .i64 0)] := by
  have h0 : ¬ (¬ sepOk c ∨ ¬ full L g) := by simp [h1, h2]
  simp only [wrV, wrS, if_neg h0, if_neg h3]

end Go.Sp

