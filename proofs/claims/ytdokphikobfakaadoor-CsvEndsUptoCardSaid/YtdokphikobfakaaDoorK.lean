/- Csv: a quoted field: each quote twice. -/
import Derived.Test.YtdokphikobfakaaDoorG
import Derived.Lib.SplitLaws
import Derived.Lib.Replace
namespace Go.Sp
open Go.Eng Go.Proofs.YtdokphikobfakaaDoor

/-- A field's bytes, each quote twice. -/
def quoteL : List UInt8 → List UInt8
  | [] => []
  | b :: l => if b = 34 then 34 :: 34 :: quoteL l else b :: quoteL l

theorem quoteL_len : ∀ l : List UInt8, (quoteL l).length ≤ 2 * l.length
  | [] => by simp [quoteL]
  | b :: l => by
    have := quoteL_len l
    rw [quoteL]
    split <;> simp only [List.length_cons] <;> omega

theorem replaceK_quote : ∀ l : List UInt8, Lib.replaceK [34] [34, 34] (Lib.count l [34]) l = quoteL l
  | [] => by
    rw [Lib.count_miss (by rfl)]; rfl
  | b :: l => by
    have ih := replaceK_quote l
    by_cases hb : b = 34
    · subst hb
      have hix : Lib.index (34 :: l) [34] = ((0 : Nat) : Int) := by rw [Lib.index]; simp [List.isPrefixOf]
      rw [Lib.count_cons_eq, Nat.add_comm, Lib.replaceK_hit _ _ _ _ 0 hix, quoteL, if_pos rfl]
      simp only [List.take_zero, List.nil_append, List.length_cons, List.length_nil, Nat.zero_add, List.drop_succ_cons, List.drop_zero, List.cons_append]
      rw [ih]
    · rw [Lib.count_cons_ne _ _ _ hb, quoteL, if_neg hb]
      cases hc : Lib.count l [34] with
      | zero =>
        rw [hc] at ih
        rw [← ih]; rfl
      | succ k =>
        obtain ⟨i, hi⟩ := Lib.index_of_count (s := l) (old := [34]) (by omega)
        have hp : ([34] : List UInt8).isPrefixOf (b :: l) = false := by simp [List.isPrefixOf, Ne.symm hb]
        have hm : ¬ (Lib.index l [34] == -1) = true := fun e => by have := beq_iff_eq.1 e; omega
        have hix : Lib.index (b :: l) [34] = ((i + 1 : Nat) : Int) := by rw [Lib.index, hp, if_neg (by simp), if_neg hm, hi]; rfl
        rw [hc, Lib.replaceK_hit _ _ _ _ i hi] at ih
        rw [Lib.replaceK_hit _ _ _ _ (i + 1) hix, ← ih]
        simp only [List.take_succ_cons, List.cons_append, List.length_cons, List.length_nil, Nat.zero_add]
        rw [List.drop_succ_cons]

theorem replaceAll_quote (l : List UInt8) : Lib.replaceAll l [34] [34, 34] = quoteL l := by
  unfold Lib.replaceAll Lib.replace Lib.replaceNum
  rw [if_neg (by decide), if_pos (.inl (by decide))]
  exact replaceK_quote l

/-- What is written of a field. -/
def fieldL (c : UInt8) (alone : Bool) (s : ByteArray) : List UInt8 := if needsB s alone c then 34 :: quoteL s.data.toList ++ [34] else s.data.toList

/-- What is written of the first fields of a row of so many. -/
def fieldsL (c : UInt8) (n : Nat) (F : Nat → ByteArray) : Nat → List UInt8
  | 0 => []
  | k + 1 => fieldsL c n F k ++ (if k = 0 then [] else [c]) ++ fieldL c (Nat.beq n 1) (F k)

/-- What is written of the first rows. -/
def rowsL (c : UInt8) (g : Nat → RW) (F : Nat → Nat → ByteArray) : Nat → List UInt8
  | 0 => []
  | i + 1 => rowsL c g F i ++ fieldsL c (g i).len (F i) (g i).len ++ [10]
end Go.Sp

