/- Place: what is read of a text. -/
import Derived.Test.YtilejaehbgljbaaDoorG
namespace Go.Sp
open Go.Eng Go.Proofs.YtilejaehbgljbaaDoor

def d1 (s : ByteArray) : Bool := decide (0 < s.size) && (byteAt s 0 == 36)
/-- A text behind a sign that it may begin with. -/
def tailD (s : ByteArray) : ByteArray := if d1 s then subS s 1 s.size else s
/-- Its letters, and what stands behind them. -/
def letsL (s : ByteArray) : ByteArray := subS s 0 (cutN 38 s.size s)
def restL (s : ByteArray) : ByteArray := subS s (cutN 38 s.size s) s.size

/-- Are these no right digits? -/
def badD (s : ByteArray) : Bool := decide (s.size = 0 ∨ s.size > 7 ∨ byteAt s 0 = 48 ∨ cutN 37 s.size s ≠ s.size)

/-- What a text is read as. -/
def parseA (s : ByteArray) : AV :=
  if colE (letsL (tailD s)) = 5 ∨ badD (tailD (restL (tailD s))) = true then .tup [.agg [.v (.int .i64 0), .v (.int .i64 0), .v (.bool false), .v (.bool false)], .v (.int .i64 5)]
  else if colE (letsL (tailD s)) ≠ 0 ∨ valN (tailD (restL (tailD s))) (tailD (restL (tailD s))).size > 1048576 then .tup [.agg [.v (.int .i64 0), .v (.int .i64 0), .v (.bool false), .v (.bool false)], .v (.int .i64 11)]
  else .tup [.agg [.v (.int .i64 (valN (tailD (restL (tailD s))) (tailD (restL (tailD s))).size)), .v (.int .i64 (colN (letsL (tailD s)))), .v (.bool (d1 (restL (tailD s)))), .v (.bool (d1 s))], .v (.int .i64 0)]

theorem loop_two {a b X Y B : Prop} (h1 : a → X) (h2 : a → b → Y) (h3 : ¬ a ∨ ¬ b → B) : (a → X ∧ (b → Y) ∧ (¬ b → B)) ∧ (¬ a → B) :=
  ⟨fun ha => ⟨h1 ha, h2 ha, fun hb => h3 (.inr hb)⟩, fun ha => h3 (.inl ha)⟩

theorem size_subS (s : ByteArray) (a b : Nat) : (subS s a b).size = min (b - a) (s.size - a) := by
  rw [subS, size_mkS, List.length_take, List.length_drop, size_data]

theorem subS_zero (s : ByteArray) {b : Nat} (h : s.size ≤ b) : subS s 0 b = s := by
  rw [subS, List.drop_zero, Nat.sub_zero, List.take_of_length_le (by rw [size_data]; exact h), mkS_toList]

theorem eqS_nil {s : ByteArray} : eqS s (ByteArray.mk #[]) = decide (s.size = 0) := by
  rw [Bool.eq_iff_iff, decide_eq_true_eq, eqS, beq_iff_eq]
  have e : (ByteArray.mk #[]).data.toList = [] := rfl
  rw [e, ← size_data s]
  exact List.length_eq_zero_iff.symm

theorem cutN_all {k m : Nat} {s : ByteArray} (h : s.size ≤ m) : cutN k m s = cutN k s.size s := by
  unfold cutN
  rw [List.take_of_length_le (by rw [size_data]; exact h), List.take_of_length_le (by rw [size_data]; exact Nat.le_refl _)]

theorem cut_one (k : Nat) (s : ByteArray) : cutN k 1 s = if 0 < s.size ∧ soB k (byteAt s 0) = true then 1 else 0 := by
  split
  · rename_i h
    have ha : allTo k s 1 := ⟨fun j hj => by
      obtain rfl : j = 0 := by omega
      exact h.2⟩
    exact (cut_eq (by omega) (by omega) ha (.inr (.inl rfl))).symm
  · rename_i h
    refine (cut_eq (by omega) (by omega) ⟨fun j hj => by omega⟩ ?_).symm
    by_cases h0 : 0 < s.size
    · exact .inr (.inr (by rw [← Bool.not_eq_true]; exact fun e => h ⟨h0, e⟩))
    · exact .inl (by omega)

theorem cut_all (k : Nat) (s : ByteArray) : allTo k s (cutN k s.size s) := ⟨fun j hj => by
  have hs := (cutN_le k s.size s).2
  have hp := (List.takeWhile_prefix (l := s.data.toList.take s.size) fun c => soB k (c.toNat : Int))
  have hm : ((s.data.toList.take s.size).takeWhile fun c => soB k (c.toNat : Int))[j]? = (s.data.toList.take s.size)[j]? := by
    obtain ⟨t, ht⟩ := hp
    conv => rhs; rw [← ht]
    rw [List.getElem?_append_left hj]
  have hall := List.all_takeWhile (p := fun c : UInt8 => soB k (c.toNat : Int)) (l := s.data.toList.take s.size)
  rw [List.getElem?_take, if_pos (by omega)] at hm
  have hj2 : j < ((s.data.toList.take s.size).takeWhile fun c => soB k (c.toNat : Int)).length := hj
  rw [List.getElem?_eq_getElem hj2] at hm
  have := List.all_eq_true.1 hall _ (List.getElem_mem hj2)
  rw [byteAt, ← hm]
  exact this⟩

theorem cut36 (s : ByteArray) : cutN 36 1 s = if d1 s then 1 else 0 := by
  rw [cut_one]
  simp only [d1, soB, Bool.and_eq_true, decide_eq_true_eq]

theorem tail_eq (s : ByteArray) : subS s (cutN 36 1 s) s.size = tailD s := by
  rw [cut36, tailD]
  split
  · rfl
  · exact subS_zero s (Nat.le_refl _)

theorem head_eq (s : ByteArray) : eqS (subS s 0 (cutN 36 1 s)) (ByteArray.mk #[]) = !d1 s := by
  rw [eqS_nil, size_subS, cut36]
  cases h : d1 s
  · simp
  · have : 0 < s.size := by simp [d1] at h; exact h.1
    simp; intro e; rw [e] at this; simp at this

theorem tail_size (s : ByteArray) : (tailD s).size ≤ s.size := by
  unfold tailD; split
  · rw [size_subS]; omega
  · exact Nat.le_refl _

theorem rest_size (s : ByteArray) : (restL s).size ≤ s.size := by
  rw [restL, size_subS]; omega

theorem byte_sub {s : ByteArray} {n : Nat} (h : 0 < n) : byteAt (subS s 0 n) 0 = byteAt s 0 := by
  unfold byteAt
  rw [subS, data_mkS, List.drop_zero, Nat.sub_zero, List.getElem?_take, if_pos h]

end Go.Sp
namespace Go.Proofs.YtilejaehbgljbaaDoor
open Go Go.Eng Go.Sp
set_option linter.unusedVariables false
set_option linter.unusedSimpArgs false


def cutMI : Handler := inlH tab [] noinv 2 Tryd.f35 1

set_option maxRecDepth 100000 in
theorem cutM_ok : HOk Tryd.prog 35 cutMI :=
  inl_ok (tbl := []) tab_ok trivial mixed noinv 2 _ 1 Tryd.func35 rfl Tryd.ntmps35 (by decide) (by kernel_rfl) (Nat.le_of_ble_eq_true rfl)


def h0 : Tbl := (35, .gen cutMI) :: (44, .gen cutH) :: (12, .pure colH) :: (40, .pre atoiH) :: []

theorem h0_ok : TblOk Tryd.prog h0 := ⟨cutM_ok, cut_h, col_pok, atoi7_ok, trivial⟩


set_option maxRecDepth 100000 in
theorem parse_vc (s : ByteArray) {R : AV → Prop} (h : (∀ (n1 n2 : Nat), n2 = n2 ∧ ((0 : Int) ≤ (1 : Int) ∧ (1 : Int) ≤ (9223372036854775807 : Int)) ∧ s.size ≤ (9223372036854775806 : Nat) ∧ n2 = n2 ∧ ((0 : Int) ≤ (↑s.size : Int) ∧ (↑s.size : Int) ≤ (9223372036854775807 : Int)) ∧ (subS s (cutN (36 : Nat) (1 : Nat) s) s.size).size ≤ (9223372036854775806 : Nat) ∧ n2 = n2 ∧ ((0 : Int) ≤ (1 : Int) ∧ (1 : Int) ≤ (9223372036854775807 : Int)) ∧ (subS (subS s (cutN (36 : Nat) (1 : Nat) s) s.size) (cutN (38 : Nat) (↑s.size : Int).toNat (subS s (cutN (36 : Nat) (1 : Nat) s) s.size)) (subS s (cutN (36 : Nat) (1 : Nat) s) s.size).size).size ≤ (9223372036854775806 : Nat) ∧ n2 = n2 ∧ ((0 : Int) ≤ (↑s.size : Int) ∧ (↑s.size : Int) ≤ (9223372036854775807 : Int)) ∧ (subS (subS (subS s (cutN (36 : Nat) (1 : Nat) s) s.size) (cutN (38 : Nat) (↑s.size : Int).toNat (subS s (cutN (36 : Nat) (1 : Nat) s) s.size)) (subS s (cutN (36 : Nat) (1 : Nat) s) s.size).size) (cutN (36 : Nat) (1 : Nat) (subS (subS s (cutN (36 : Nat) (1 : Nat) s) s.size) (cutN (38 : Nat) (↑s.size : Int).toNat (subS s (cutN (36 : Nat) (1 : Nat) s) s.size)) (subS s (cutN (36 : Nat) (1 : Nat) s) s.size).size)) (subS (subS s (cutN (36 : Nat) (1 : Nat) s) s.size) (cutN (38 : Nat) (↑s.size : Int).toNat (subS s (cutN (36 : Nat) (1 : Nat) s) s.size)) (subS s (cutN (36 : Nat) (1 : Nat) s) s.size).size).size).size ≤ (9223372036854775806 : Nat) ∧ n2 = n2 ∧ ((0 : Int) ≤ (1 : Int) ∧ (1 : Int) ≤ (9223372036854775807 : Int)) ∧ (subS (subS (subS (subS s (cutN (36 : Nat) (1 : Nat) s) s.size) (cutN (38 : Nat) (↑s.size : Int).toNat (subS s (cutN (36 : Nat) (1 : Nat) s) s.size)) (subS s (cutN (36 : Nat) (1 : Nat) s) s.size).size) (cutN (36 : Nat) (1 : Nat) (subS (subS s (cutN (36 : Nat) (1 : Nat) s) s.size) (cutN (38 : Nat) (↑s.size : Int).toNat (subS s (cutN (36 : Nat) (1 : Nat) s) s.size)) (subS s (cutN (36 : Nat) (1 : Nat) s) s.size).size)) (subS (subS s (cutN (36 : Nat) (1 : Nat) s) s.size) (cutN (38 : Nat) (↑s.size : Int).toNat (subS s (cutN (36 : Nat) (1 : Nat) s) s.size)) (subS s (cutN (36 : Nat) (1 : Nat) s) s.size).size).size) (cutN (37 : Nat) (↑s.size : Int).toNat (subS (subS (subS s (cutN (36 : Nat) (1 : Nat) s) s.size) (cutN (38 : Nat) (↑s.size : Int).toNat (subS s (cutN (36 : Nat) (1 : Nat) s) s.size)) (subS s (cutN (36 : Nat) (1 : Nat) s) s.size).size) (cutN (36 : Nat) (1 : Nat) (subS (subS s (cutN (36 : Nat) (1 : Nat) s) s.size) (cutN (38 : Nat) (↑s.size : Int).toNat (subS s (cutN (36 : Nat) (1 : Nat) s) s.size)) (subS s (cutN (36 : Nat) (1 : Nat) s) s.size).size)) (subS (subS s (cutN (36 : Nat) (1 : Nat) s) s.size) (cutN (38 : Nat) (↑s.size : Int).toNat (subS s (cutN (36 : Nat) (1 : Nat) s) s.size)) (subS s (cutN (36 : Nat) (1 : Nat) s) s.size).size).size)) (subS (subS (subS s (cutN (36 : Nat) (1 : Nat) s) s.size) (cutN (38 : Nat) (↑s.size : Int).toNat (subS s (cutN (36 : Nat) (1 : Nat) s) s.size)) (subS s (cutN (36 : Nat) (1 : Nat) s) s.size).size) (cutN (36 : Nat) (1 : Nat) (subS (subS s (cutN (36 : Nat) (1 : Nat) s) s.size) (cutN (38 : Nat) (↑s.size : Int).toNat (subS s (cutN (36 : Nat) (1 : Nat) s) s.size)) (subS s (cutN (36 : Nat) (1 : Nat) s) s.size).size)) (subS (subS s (cutN (36 : Nat) (1 : Nat) s) s.size) (cutN (38 : Nat) (↑s.size : Int).toNat (subS s (cutN (36 : Nat) (1 : Nat) s) s.size)) (subS s (cutN (36 : Nat) (1 : Nat) s) s.size).size).size).size).size ≤ (9223372036854775806 : Nat) ∧ br (colE (subS (subS s (cutN (36 : Nat) (1 : Nat) s) s.size) (0 : Nat) (cutN (38 : Nat) (↑s.size : Int).toNat (subS s (cutN (36 : Nat) (1 : Nat) s) s.size))) == (5 : Int)) (n1 = n1 ∧ n1 = n1 ∧ R (AV.tup [AV.agg [AV.v (Value.int IntKind.i64 (0 : Int)), AV.v (Value.int IntKind.i64 (0 : Int)), AV.v (Value.bool false), AV.v (Value.bool false)], AV.v (Value.int IntKind.i64 (5 : Int))])) (br (eqS (subS (subS (subS (subS s (cutN (36 : Nat) (1 : Nat) s) s.size) (cutN (38 : Nat) (↑s.size : Int).toNat (subS s (cutN (36 : Nat) (1 : Nat) s) s.size)) (subS s (cutN (36 : Nat) (1 : Nat) s) s.size).size) (cutN (36 : Nat) (1 : Nat) (subS (subS s (cutN (36 : Nat) (1 : Nat) s) s.size) (cutN (38 : Nat) (↑s.size : Int).toNat (subS s (cutN (36 : Nat) (1 : Nat) s) s.size)) (subS s (cutN (36 : Nat) (1 : Nat) s) s.size).size)) (subS (subS s (cutN (36 : Nat) (1 : Nat) s) s.size) (cutN (38 : Nat) (↑s.size : Int).toNat (subS s (cutN (36 : Nat) (1 : Nat) s) s.size)) (subS s (cutN (36 : Nat) (1 : Nat) s) s.size).size).size) (0 : Nat) (cutN (37 : Nat) (↑s.size : Int).toNat (subS (subS (subS s (cutN (36 : Nat) (1 : Nat) s) s.size) (cutN (38 : Nat) (↑s.size : Int).toNat (subS s (cutN (36 : Nat) (1 : Nat) s) s.size)) (subS s (cutN (36 : Nat) (1 : Nat) s) s.size).size) (cutN (36 : Nat) (1 : Nat) (subS (subS s (cutN (36 : Nat) (1 : Nat) s) s.size) (cutN (38 : Nat) (↑s.size : Int).toNat (subS s (cutN (36 : Nat) (1 : Nat) s) s.size)) (subS s (cutN (36 : Nat) (1 : Nat) s) s.size).size)) (subS (subS s (cutN (36 : Nat) (1 : Nat) s) s.size) (cutN (38 : Nat) (↑s.size : Int).toNat (subS s (cutN (36 : Nat) (1 : Nat) s) s.size)) (subS s (cutN (36 : Nat) (1 : Nat) s) s.size).size).size))) (ByteArray.mk #[])) (n1 = n1 ∧ n1 = n1 ∧ R (AV.tup [AV.agg [AV.v (Value.int IntKind.i64 (0 : Int)), AV.v (Value.int IntKind.i64 (0 : Int)), AV.v (Value.bool false), AV.v (Value.bool false)], AV.v (Value.int IntKind.i64 (5 : Int))])) (br (decide ((↑(subS (subS (subS (subS s (cutN (36 : Nat) (1 : Nat) s) s.size) (cutN (38 : Nat) (↑s.size : Int).toNat (subS s (cutN (36 : Nat) (1 : Nat) s) s.size)) (subS s (cutN (36 : Nat) (1 : Nat) s) s.size).size) (cutN (36 : Nat) (1 : Nat) (subS (subS s (cutN (36 : Nat) (1 : Nat) s) s.size) (cutN (38 : Nat) (↑s.size : Int).toNat (subS s (cutN (36 : Nat) (1 : Nat) s) s.size)) (subS s (cutN (36 : Nat) (1 : Nat) s) s.size).size)) (subS (subS s (cutN (36 : Nat) (1 : Nat) s) s.size) (cutN (38 : Nat) (↑s.size : Int).toNat (subS s (cutN (36 : Nat) (1 : Nat) s) s.size)) (subS s (cutN (36 : Nat) (1 : Nat) s) s.size).size).size) (0 : Nat) (cutN (37 : Nat) (↑s.size : Int).toNat (subS (subS (subS s (cutN (36 : Nat) (1 : Nat) s) s.size) (cutN (38 : Nat) (↑s.size : Int).toNat (subS s (cutN (36 : Nat) (1 : Nat) s) s.size)) (subS s (cutN (36 : Nat) (1 : Nat) s) s.size).size) (cutN (36 : Nat) (1 : Nat) (subS (subS s (cutN (36 : Nat) (1 : Nat) s) s.size) (cutN (38 : Nat) (↑s.size : Int).toNat (subS s (cutN (36 : Nat) (1 : Nat) s) s.size)) (subS s (cutN (36 : Nat) (1 : Nat) s) s.size).size)) (subS (subS s (cutN (36 : Nat) (1 : Nat) s) s.size) (cutN (38 : Nat) (↑s.size : Int).toNat (subS s (cutN (36 : Nat) (1 : Nat) s) s.size)) (subS s (cutN (36 : Nat) (1 : Nat) s) s.size).size).size))).size : Int) > (7 : Int))) (n1 = n1 ∧ n1 = n1 ∧ R (AV.tup [AV.agg [AV.v (Value.int IntKind.i64 (0 : Int)), AV.v (Value.int IntKind.i64 (0 : Int)), AV.v (Value.bool false), AV.v (Value.bool false)], AV.v (Value.int IntKind.i64 (5 : Int))])) (((0 : Int) ≤ (0 : Int) ∧ (0 : Int) < (↑(subS (subS (subS (subS s (cutN (36 : Nat) (1 : Nat) s) s.size) (cutN (38 : Nat) (↑s.size : Int).toNat (subS s (cutN (36 : Nat) (1 : Nat) s) s.size)) (subS s (cutN (36 : Nat) (1 : Nat) s) s.size).size) (cutN (36 : Nat) (1 : Nat) (subS (subS s (cutN (36 : Nat) (1 : Nat) s) s.size) (cutN (38 : Nat) (↑s.size : Int).toNat (subS s (cutN (36 : Nat) (1 : Nat) s) s.size)) (subS s (cutN (36 : Nat) (1 : Nat) s) s.size).size)) (subS (subS s (cutN (36 : Nat) (1 : Nat) s) s.size) (cutN (38 : Nat) (↑s.size : Int).toNat (subS s (cutN (36 : Nat) (1 : Nat) s) s.size)) (subS s (cutN (36 : Nat) (1 : Nat) s) s.size).size).size) (0 : Nat) (cutN (37 : Nat) (↑s.size : Int).toNat (subS (subS (subS s (cutN (36 : Nat) (1 : Nat) s) s.size) (cutN (38 : Nat) (↑s.size : Int).toNat (subS s (cutN (36 : Nat) (1 : Nat) s) s.size)) (subS s (cutN (36 : Nat) (1 : Nat) s) s.size).size) (cutN (36 : Nat) (1 : Nat) (subS (subS s (cutN (36 : Nat) (1 : Nat) s) s.size) (cutN (38 : Nat) (↑s.size : Int).toNat (subS s (cutN (36 : Nat) (1 : Nat) s) s.size)) (subS s (cutN (36 : Nat) (1 : Nat) s) s.size).size)) (subS (subS s (cutN (36 : Nat) (1 : Nat) s) s.size) (cutN (38 : Nat) (↑s.size : Int).toNat (subS s (cutN (36 : Nat) (1 : Nat) s) s.size)) (subS s (cutN (36 : Nat) (1 : Nat) s) s.size).size).size))).size : Int)) ∧ br (byteAt (subS (subS (subS (subS s (cutN (36 : Nat) (1 : Nat) s) s.size) (cutN (38 : Nat) (↑s.size : Int).toNat (subS s (cutN (36 : Nat) (1 : Nat) s) s.size)) (subS s (cutN (36 : Nat) (1 : Nat) s) s.size).size) (cutN (36 : Nat) (1 : Nat) (subS (subS s (cutN (36 : Nat) (1 : Nat) s) s.size) (cutN (38 : Nat) (↑s.size : Int).toNat (subS s (cutN (36 : Nat) (1 : Nat) s) s.size)) (subS s (cutN (36 : Nat) (1 : Nat) s) s.size).size)) (subS (subS s (cutN (36 : Nat) (1 : Nat) s) s.size) (cutN (38 : Nat) (↑s.size : Int).toNat (subS s (cutN (36 : Nat) (1 : Nat) s) s.size)) (subS s (cutN (36 : Nat) (1 : Nat) s) s.size).size).size) (0 : Nat) (cutN (37 : Nat) (↑s.size : Int).toNat (subS (subS (subS s (cutN (36 : Nat) (1 : Nat) s) s.size) (cutN (38 : Nat) (↑s.size : Int).toNat (subS s (cutN (36 : Nat) (1 : Nat) s) s.size)) (subS s (cutN (36 : Nat) (1 : Nat) s) s.size).size) (cutN (36 : Nat) (1 : Nat) (subS (subS s (cutN (36 : Nat) (1 : Nat) s) s.size) (cutN (38 : Nat) (↑s.size : Int).toNat (subS s (cutN (36 : Nat) (1 : Nat) s) s.size)) (subS s (cutN (36 : Nat) (1 : Nat) s) s.size).size)) (subS (subS s (cutN (36 : Nat) (1 : Nat) s) s.size) (cutN (38 : Nat) (↑s.size : Int).toNat (subS s (cutN (36 : Nat) (1 : Nat) s) s.size)) (subS s (cutN (36 : Nat) (1 : Nat) s) s.size).size).size))) (0 : Nat) == (48 : Int)) (n1 = n1 ∧ n1 = n1 ∧ R (AV.tup [AV.agg [AV.v (Value.int IntKind.i64 (0 : Int)), AV.v (Value.int IntKind.i64 (0 : Int)), AV.v (Value.bool false), AV.v (Value.bool false)], AV.v (Value.int IntKind.i64 (5 : Int))])) (br (!eqS (subS (subS (subS (subS (subS s (cutN (36 : Nat) (1 : Nat) s) s.size) (cutN (38 : Nat) (↑s.size : Int).toNat (subS s (cutN (36 : Nat) (1 : Nat) s) s.size)) (subS s (cutN (36 : Nat) (1 : Nat) s) s.size).size) (cutN (36 : Nat) (1 : Nat) (subS (subS s (cutN (36 : Nat) (1 : Nat) s) s.size) (cutN (38 : Nat) (↑s.size : Int).toNat (subS s (cutN (36 : Nat) (1 : Nat) s) s.size)) (subS s (cutN (36 : Nat) (1 : Nat) s) s.size).size)) (subS (subS s (cutN (36 : Nat) (1 : Nat) s) s.size) (cutN (38 : Nat) (↑s.size : Int).toNat (subS s (cutN (36 : Nat) (1 : Nat) s) s.size)) (subS s (cutN (36 : Nat) (1 : Nat) s) s.size).size).size) (cutN (37 : Nat) (↑s.size : Int).toNat (subS (subS (subS s (cutN (36 : Nat) (1 : Nat) s) s.size) (cutN (38 : Nat) (↑s.size : Int).toNat (subS s (cutN (36 : Nat) (1 : Nat) s) s.size)) (subS s (cutN (36 : Nat) (1 : Nat) s) s.size).size) (cutN (36 : Nat) (1 : Nat) (subS (subS s (cutN (36 : Nat) (1 : Nat) s) s.size) (cutN (38 : Nat) (↑s.size : Int).toNat (subS s (cutN (36 : Nat) (1 : Nat) s) s.size)) (subS s (cutN (36 : Nat) (1 : Nat) s) s.size).size)) (subS (subS s (cutN (36 : Nat) (1 : Nat) s) s.size) (cutN (38 : Nat) (↑s.size : Int).toNat (subS s (cutN (36 : Nat) (1 : Nat) s) s.size)) (subS s (cutN (36 : Nat) (1 : Nat) s) s.size).size).size)) (subS (subS (subS s (cutN (36 : Nat) (1 : Nat) s) s.size) (cutN (38 : Nat) (↑s.size : Int).toNat (subS s (cutN (36 : Nat) (1 : Nat) s) s.size)) (subS s (cutN (36 : Nat) (1 : Nat) s) s.size).size) (cutN (36 : Nat) (1 : Nat) (subS (subS s (cutN (36 : Nat) (1 : Nat) s) s.size) (cutN (38 : Nat) (↑s.size : Int).toNat (subS s (cutN (36 : Nat) (1 : Nat) s) s.size)) (subS s (cutN (36 : Nat) (1 : Nat) s) s.size).size)) (subS (subS s (cutN (36 : Nat) (1 : Nat) s) s.size) (cutN (38 : Nat) (↑s.size : Int).toNat (subS s (cutN (36 : Nat) (1 : Nat) s) s.size)) (subS s (cutN (36 : Nat) (1 : Nat) s) s.size).size).size).size) (0 : Nat) (cutN (39 : Nat) (1 : Nat) (subS (subS (subS (subS s (cutN (36 : Nat) (1 : Nat) s) s.size) (cutN (38 : Nat) (↑s.size : Int).toNat (subS s (cutN (36 : Nat) (1 : Nat) s) s.size)) (subS s (cutN (36 : Nat) (1 : Nat) s) s.size).size) (cutN (36 : Nat) (1 : Nat) (subS (subS s (cutN (36 : Nat) (1 : Nat) s) s.size) (cutN (38 : Nat) (↑s.size : Int).toNat (subS s (cutN (36 : Nat) (1 : Nat) s) s.size)) (subS s (cutN (36 : Nat) (1 : Nat) s) s.size).size)) (subS (subS s (cutN (36 : Nat) (1 : Nat) s) s.size) (cutN (38 : Nat) (↑s.size : Int).toNat (subS s (cutN (36 : Nat) (1 : Nat) s) s.size)) (subS s (cutN (36 : Nat) (1 : Nat) s) s.size).size).size) (cutN (37 : Nat) (↑s.size : Int).toNat (subS (subS (subS s (cutN (36 : Nat) (1 : Nat) s) s.size) (cutN (38 : Nat) (↑s.size : Int).toNat (subS s (cutN (36 : Nat) (1 : Nat) s) s.size)) (subS s (cutN (36 : Nat) (1 : Nat) s) s.size).size) (cutN (36 : Nat) (1 : Nat) (subS (subS s (cutN (36 : Nat) (1 : Nat) s) s.size) (cutN (38 : Nat) (↑s.size : Int).toNat (subS s (cutN (36 : Nat) (1 : Nat) s) s.size)) (subS s (cutN (36 : Nat) (1 : Nat) s) s.size).size)) (subS (subS s (cutN (36 : Nat) (1 : Nat) s) s.size) (cutN (38 : Nat) (↑s.size : Int).toNat (subS s (cutN (36 : Nat) (1 : Nat) s) s.size)) (subS s (cutN (36 : Nat) (1 : Nat) s) s.size).size).size)) (subS (subS (subS s (cutN (36 : Nat) (1 : Nat) s) s.size) (cutN (38 : Nat) (↑s.size : Int).toNat (subS s (cutN (36 : Nat) (1 : Nat) s) s.size)) (subS s (cutN (36 : Nat) (1 : Nat) s) s.size).size) (cutN (36 : Nat) (1 : Nat) (subS (subS s (cutN (36 : Nat) (1 : Nat) s) s.size) (cutN (38 : Nat) (↑s.size : Int).toNat (subS s (cutN (36 : Nat) (1 : Nat) s) s.size)) (subS s (cutN (36 : Nat) (1 : Nat) s) s.size).size)) (subS (subS s (cutN (36 : Nat) (1 : Nat) s) s.size) (cutN (38 : Nat) (↑s.size : Int).toNat (subS s (cutN (36 : Nat) (1 : Nat) s) s.size)) (subS s (cutN (36 : Nat) (1 : Nat) s) s.size).size).size).size))) (ByteArray.mk #[])) (n1 = n1 ∧ n1 = n1 ∧ R (AV.tup [AV.agg [AV.v (Value.int IntKind.i64 (0 : Int)), AV.v (Value.int IntKind.i64 (0 : Int)), AV.v (Value.bool false), AV.v (Value.bool false)], AV.v (Value.int IntKind.i64 (5 : Int))])) (((1 : Nat) ≤ (subS (subS (subS (subS s (cutN (36 : Nat) (1 : Nat) s) s.size) (cutN (38 : Nat) (↑s.size : Int).toNat (subS s (cutN (36 : Nat) (1 : Nat) s) s.size)) (subS s (cutN (36 : Nat) (1 : Nat) s) s.size).size) (cutN (36 : Nat) (1 : Nat) (subS (subS s (cutN (36 : Nat) (1 : Nat) s) s.size) (cutN (38 : Nat) (↑s.size : Int).toNat (subS s (cutN (36 : Nat) (1 : Nat) s) s.size)) (subS s (cutN (36 : Nat) (1 : Nat) s) s.size).size)) (subS (subS s (cutN (36 : Nat) (1 : Nat) s) s.size) (cutN (38 : Nat) (↑s.size : Int).toNat (subS s (cutN (36 : Nat) (1 : Nat) s) s.size)) (subS s (cutN (36 : Nat) (1 : Nat) s) s.size).size).size) (0 : Nat) (cutN (37 : Nat) (↑s.size : Int).toNat (subS (subS (subS s (cutN (36 : Nat) (1 : Nat) s) s.size) (cutN (38 : Nat) (↑s.size : Int).toNat (subS s (cutN (36 : Nat) (1 : Nat) s) s.size)) (subS s (cutN (36 : Nat) (1 : Nat) s) s.size).size) (cutN (36 : Nat) (1 : Nat) (subS (subS s (cutN (36 : Nat) (1 : Nat) s) s.size) (cutN (38 : Nat) (↑s.size : Int).toNat (subS s (cutN (36 : Nat) (1 : Nat) s) s.size)) (subS s (cutN (36 : Nat) (1 : Nat) s) s.size).size)) (subS (subS s (cutN (36 : Nat) (1 : Nat) s) s.size) (cutN (38 : Nat) (↑s.size : Int).toNat (subS s (cutN (36 : Nat) (1 : Nat) s) s.size)) (subS s (cutN (36 : Nat) (1 : Nat) s) s.size).size).size))).size ∧ (subS (subS (subS (subS s (cutN (36 : Nat) (1 : Nat) s) s.size) (cutN (38 : Nat) (↑s.size : Int).toNat (subS s (cutN (36 : Nat) (1 : Nat) s) s.size)) (subS s (cutN (36 : Nat) (1 : Nat) s) s.size).size) (cutN (36 : Nat) (1 : Nat) (subS (subS s (cutN (36 : Nat) (1 : Nat) s) s.size) (cutN (38 : Nat) (↑s.size : Int).toNat (subS s (cutN (36 : Nat) (1 : Nat) s) s.size)) (subS s (cutN (36 : Nat) (1 : Nat) s) s.size).size)) (subS (subS s (cutN (36 : Nat) (1 : Nat) s) s.size) (cutN (38 : Nat) (↑s.size : Int).toNat (subS s (cutN (36 : Nat) (1 : Nat) s) s.size)) (subS s (cutN (36 : Nat) (1 : Nat) s) s.size).size).size) (0 : Nat) (cutN (37 : Nat) (↑s.size : Int).toNat (subS (subS (subS s (cutN (36 : Nat) (1 : Nat) s) s.size) (cutN (38 : Nat) (↑s.size : Int).toNat (subS s (cutN (36 : Nat) (1 : Nat) s) s.size)) (subS s (cutN (36 : Nat) (1 : Nat) s) s.size).size) (cutN (36 : Nat) (1 : Nat) (subS (subS s (cutN (36 : Nat) (1 : Nat) s) s.size) (cutN (38 : Nat) (↑s.size : Int).toNat (subS s (cutN (36 : Nat) (1 : Nat) s) s.size)) (subS s (cutN (36 : Nat) (1 : Nat) s) s.size).size)) (subS (subS s (cutN (36 : Nat) (1 : Nat) s) s.size) (cutN (38 : Nat) (↑s.size : Int).toNat (subS s (cutN (36 : Nat) (1 : Nat) s) s.size)) (subS s (cutN (36 : Nat) (1 : Nat) s) s.size).size).size))).size ≤ (7 : Nat) ∧ allTo (37 : Nat) (subS (subS (subS (subS s (cutN (36 : Nat) (1 : Nat) s) s.size) (cutN (38 : Nat) (↑s.size : Int).toNat (subS s (cutN (36 : Nat) (1 : Nat) s) s.size)) (subS s (cutN (36 : Nat) (1 : Nat) s) s.size).size) (cutN (36 : Nat) (1 : Nat) (subS (subS s (cutN (36 : Nat) (1 : Nat) s) s.size) (cutN (38 : Nat) (↑s.size : Int).toNat (subS s (cutN (36 : Nat) (1 : Nat) s) s.size)) (subS s (cutN (36 : Nat) (1 : Nat) s) s.size).size)) (subS (subS s (cutN (36 : Nat) (1 : Nat) s) s.size) (cutN (38 : Nat) (↑s.size : Int).toNat (subS s (cutN (36 : Nat) (1 : Nat) s) s.size)) (subS s (cutN (36 : Nat) (1 : Nat) s) s.size).size).size) (0 : Nat) (cutN (37 : Nat) (↑s.size : Int).toNat (subS (subS (subS s (cutN (36 : Nat) (1 : Nat) s) s.size) (cutN (38 : Nat) (↑s.size : Int).toNat (subS s (cutN (36 : Nat) (1 : Nat) s) s.size)) (subS s (cutN (36 : Nat) (1 : Nat) s) s.size).size) (cutN (36 : Nat) (1 : Nat) (subS (subS s (cutN (36 : Nat) (1 : Nat) s) s.size) (cutN (38 : Nat) (↑s.size : Int).toNat (subS s (cutN (36 : Nat) (1 : Nat) s) s.size)) (subS s (cutN (36 : Nat) (1 : Nat) s) s.size).size)) (subS (subS s (cutN (36 : Nat) (1 : Nat) s) s.size) (cutN (38 : Nat) (↑s.size : Int).toNat (subS s (cutN (36 : Nat) (1 : Nat) s) s.size)) (subS s (cutN (36 : Nat) (1 : Nat) s) s.size).size).size))) (subS (subS (subS (subS s (cutN (36 : Nat) (1 : Nat) s) s.size) (cutN (38 : Nat) (↑s.size : Int).toNat (subS s (cutN (36 : Nat) (1 : Nat) s) s.size)) (subS s (cutN (36 : Nat) (1 : Nat) s) s.size).size) (cutN (36 : Nat) (1 : Nat) (subS (subS s (cutN (36 : Nat) (1 : Nat) s) s.size) (cutN (38 : Nat) (↑s.size : Int).toNat (subS s (cutN (36 : Nat) (1 : Nat) s) s.size)) (subS s (cutN (36 : Nat) (1 : Nat) s) s.size).size)) (subS (subS s (cutN (36 : Nat) (1 : Nat) s) s.size) (cutN (38 : Nat) (↑s.size : Int).toNat (subS s (cutN (36 : Nat) (1 : Nat) s) s.size)) (subS s (cutN (36 : Nat) (1 : Nat) s) s.size).size).size) (0 : Nat) (cutN (37 : Nat) (↑s.size : Int).toNat (subS (subS (subS s (cutN (36 : Nat) (1 : Nat) s) s.size) (cutN (38 : Nat) (↑s.size : Int).toNat (subS s (cutN (36 : Nat) (1 : Nat) s) s.size)) (subS s (cutN (36 : Nat) (1 : Nat) s) s.size).size) (cutN (36 : Nat) (1 : Nat) (subS (subS s (cutN (36 : Nat) (1 : Nat) s) s.size) (cutN (38 : Nat) (↑s.size : Int).toNat (subS s (cutN (36 : Nat) (1 : Nat) s) s.size)) (subS s (cutN (36 : Nat) (1 : Nat) s) s.size).size)) (subS (subS s (cutN (36 : Nat) (1 : Nat) s) s.size) (cutN (38 : Nat) (↑s.size : Int).toNat (subS s (cutN (36 : Nat) (1 : Nat) s) s.size)) (subS s (cutN (36 : Nat) (1 : Nat) s) s.size).size).size))).size) ∧ br (colE (subS (subS s (cutN (36 : Nat) (1 : Nat) s) s.size) (0 : Nat) (cutN (38 : Nat) (↑s.size : Int).toNat (subS s (cutN (36 : Nat) (1 : Nat) s) s.size))) != (0 : Int)) (n1 = n1 ∧ n1 = n1 ∧ R (AV.tup [AV.agg [AV.v (Value.int IntKind.i64 (0 : Int)), AV.v (Value.int IntKind.i64 (0 : Int)), AV.v (Value.bool false), AV.v (Value.bool false)], AV.v (Value.int IntKind.i64 (11 : Int))])) (br (decide (valN (subS (subS (subS (subS s (cutN (36 : Nat) (1 : Nat) s) s.size) (cutN (38 : Nat) (↑s.size : Int).toNat (subS s (cutN (36 : Nat) (1 : Nat) s) s.size)) (subS s (cutN (36 : Nat) (1 : Nat) s) s.size).size) (cutN (36 : Nat) (1 : Nat) (subS (subS s (cutN (36 : Nat) (1 : Nat) s) s.size) (cutN (38 : Nat) (↑s.size : Int).toNat (subS s (cutN (36 : Nat) (1 : Nat) s) s.size)) (subS s (cutN (36 : Nat) (1 : Nat) s) s.size).size)) (subS (subS s (cutN (36 : Nat) (1 : Nat) s) s.size) (cutN (38 : Nat) (↑s.size : Int).toNat (subS s (cutN (36 : Nat) (1 : Nat) s) s.size)) (subS s (cutN (36 : Nat) (1 : Nat) s) s.size).size).size) (0 : Nat) (cutN (37 : Nat) (↑s.size : Int).toNat (subS (subS (subS s (cutN (36 : Nat) (1 : Nat) s) s.size) (cutN (38 : Nat) (↑s.size : Int).toNat (subS s (cutN (36 : Nat) (1 : Nat) s) s.size)) (subS s (cutN (36 : Nat) (1 : Nat) s) s.size).size) (cutN (36 : Nat) (1 : Nat) (subS (subS s (cutN (36 : Nat) (1 : Nat) s) s.size) (cutN (38 : Nat) (↑s.size : Int).toNat (subS s (cutN (36 : Nat) (1 : Nat) s) s.size)) (subS s (cutN (36 : Nat) (1 : Nat) s) s.size).size)) (subS (subS s (cutN (36 : Nat) (1 : Nat) s) s.size) (cutN (38 : Nat) (↑s.size : Int).toNat (subS s (cutN (36 : Nat) (1 : Nat) s) s.size)) (subS s (cutN (36 : Nat) (1 : Nat) s) s.size).size).size))) (subS (subS (subS (subS s (cutN (36 : Nat) (1 : Nat) s) s.size) (cutN (38 : Nat) (↑s.size : Int).toNat (subS s (cutN (36 : Nat) (1 : Nat) s) s.size)) (subS s (cutN (36 : Nat) (1 : Nat) s) s.size).size) (cutN (36 : Nat) (1 : Nat) (subS (subS s (cutN (36 : Nat) (1 : Nat) s) s.size) (cutN (38 : Nat) (↑s.size : Int).toNat (subS s (cutN (36 : Nat) (1 : Nat) s) s.size)) (subS s (cutN (36 : Nat) (1 : Nat) s) s.size).size)) (subS (subS s (cutN (36 : Nat) (1 : Nat) s) s.size) (cutN (38 : Nat) (↑s.size : Int).toNat (subS s (cutN (36 : Nat) (1 : Nat) s) s.size)) (subS s (cutN (36 : Nat) (1 : Nat) s) s.size).size).size) (0 : Nat) (cutN (37 : Nat) (↑s.size : Int).toNat (subS (subS (subS s (cutN (36 : Nat) (1 : Nat) s) s.size) (cutN (38 : Nat) (↑s.size : Int).toNat (subS s (cutN (36 : Nat) (1 : Nat) s) s.size)) (subS s (cutN (36 : Nat) (1 : Nat) s) s.size).size) (cutN (36 : Nat) (1 : Nat) (subS (subS s (cutN (36 : Nat) (1 : Nat) s) s.size) (cutN (38 : Nat) (↑s.size : Int).toNat (subS s (cutN (36 : Nat) (1 : Nat) s) s.size)) (subS s (cutN (36 : Nat) (1 : Nat) s) s.size).size)) (subS (subS s (cutN (36 : Nat) (1 : Nat) s) s.size) (cutN (38 : Nat) (↑s.size : Int).toNat (subS s (cutN (36 : Nat) (1 : Nat) s) s.size)) (subS s (cutN (36 : Nat) (1 : Nat) s) s.size).size).size))).size > (1048576 : Int))) (n1 = n1 ∧ n1 = n1 ∧ R (AV.tup [AV.agg [AV.v (Value.int IntKind.i64 (0 : Int)), AV.v (Value.int IntKind.i64 (0 : Int)), AV.v (Value.bool false), AV.v (Value.bool false)], AV.v (Value.int IntKind.i64 (11 : Int))])) (n1 = n1 ∧ n1 = n1 ∧ R (AV.tup [AV.agg [AV.v (Value.int IntKind.i64 (valN (subS (subS (subS (subS s (cutN (36 : Nat) (1 : Nat) s) s.size) (cutN (38 : Nat) (↑s.size : Int).toNat (subS s (cutN (36 : Nat) (1 : Nat) s) s.size)) (subS s (cutN (36 : Nat) (1 : Nat) s) s.size).size) (cutN (36 : Nat) (1 : Nat) (subS (subS s (cutN (36 : Nat) (1 : Nat) s) s.size) (cutN (38 : Nat) (↑s.size : Int).toNat (subS s (cutN (36 : Nat) (1 : Nat) s) s.size)) (subS s (cutN (36 : Nat) (1 : Nat) s) s.size).size)) (subS (subS s (cutN (36 : Nat) (1 : Nat) s) s.size) (cutN (38 : Nat) (↑s.size : Int).toNat (subS s (cutN (36 : Nat) (1 : Nat) s) s.size)) (subS s (cutN (36 : Nat) (1 : Nat) s) s.size).size).size) (0 : Nat) (cutN (37 : Nat) (↑s.size : Int).toNat (subS (subS (subS s (cutN (36 : Nat) (1 : Nat) s) s.size) (cutN (38 : Nat) (↑s.size : Int).toNat (subS s (cutN (36 : Nat) (1 : Nat) s) s.size)) (subS s (cutN (36 : Nat) (1 : Nat) s) s.size).size) (cutN (36 : Nat) (1 : Nat) (subS (subS s (cutN (36 : Nat) (1 : Nat) s) s.size) (cutN (38 : Nat) (↑s.size : Int).toNat (subS s (cutN (36 : Nat) (1 : Nat) s) s.size)) (subS s (cutN (36 : Nat) (1 : Nat) s) s.size).size)) (subS (subS s (cutN (36 : Nat) (1 : Nat) s) s.size) (cutN (38 : Nat) (↑s.size : Int).toNat (subS s (cutN (36 : Nat) (1 : Nat) s) s.size)) (subS s (cutN (36 : Nat) (1 : Nat) s) s.size).size).size))) (subS (subS (subS (subS s (cutN (36 : Nat) (1 : Nat) s) s.size) (cutN (38 : Nat) (↑s.size : Int).toNat (subS s (cutN (36 : Nat) (1 : Nat) s) s.size)) (subS s (cutN (36 : Nat) (1 : Nat) s) s.size).size) (cutN (36 : Nat) (1 : Nat) (subS (subS s (cutN (36 : Nat) (1 : Nat) s) s.size) (cutN (38 : Nat) (↑s.size : Int).toNat (subS s (cutN (36 : Nat) (1 : Nat) s) s.size)) (subS s (cutN (36 : Nat) (1 : Nat) s) s.size).size)) (subS (subS s (cutN (36 : Nat) (1 : Nat) s) s.size) (cutN (38 : Nat) (↑s.size : Int).toNat (subS s (cutN (36 : Nat) (1 : Nat) s) s.size)) (subS s (cutN (36 : Nat) (1 : Nat) s) s.size).size).size) (0 : Nat) (cutN (37 : Nat) (↑s.size : Int).toNat (subS (subS (subS s (cutN (36 : Nat) (1 : Nat) s) s.size) (cutN (38 : Nat) (↑s.size : Int).toNat (subS s (cutN (36 : Nat) (1 : Nat) s) s.size)) (subS s (cutN (36 : Nat) (1 : Nat) s) s.size).size) (cutN (36 : Nat) (1 : Nat) (subS (subS s (cutN (36 : Nat) (1 : Nat) s) s.size) (cutN (38 : Nat) (↑s.size : Int).toNat (subS s (cutN (36 : Nat) (1 : Nat) s) s.size)) (subS s (cutN (36 : Nat) (1 : Nat) s) s.size).size)) (subS (subS s (cutN (36 : Nat) (1 : Nat) s) s.size) (cutN (38 : Nat) (↑s.size : Int).toNat (subS s (cutN (36 : Nat) (1 : Nat) s) s.size)) (subS s (cutN (36 : Nat) (1 : Nat) s) s.size).size).size))).size)), AV.v (Value.int IntKind.i64 (colN (subS (subS s (cutN (36 : Nat) (1 : Nat) s) s.size) (0 : Nat) (cutN (38 : Nat) (↑s.size : Int).toNat (subS s (cutN (36 : Nat) (1 : Nat) s) s.size))))), AV.v (Value.bool !eqS (subS (subS (subS s (cutN (36 : Nat) (1 : Nat) s) s.size) (cutN (38 : Nat) (↑s.size : Int).toNat (subS s (cutN (36 : Nat) (1 : Nat) s) s.size)) (subS s (cutN (36 : Nat) (1 : Nat) s) s.size).size) (0 : Nat) (cutN (36 : Nat) (1 : Nat) (subS (subS s (cutN (36 : Nat) (1 : Nat) s) s.size) (cutN (38 : Nat) (↑s.size : Int).toNat (subS s (cutN (36 : Nat) (1 : Nat) s) s.size)) (subS s (cutN (36 : Nat) (1 : Nat) s) s.size).size))) (ByteArray.mk #[])), AV.v (Value.bool !eqS (subS s (0 : Nat) (cutN (36 : Nat) (1 : Nat) s)) (ByteArray.mk #[]))], AV.v (Value.int IntKind.i64 (0 : Int))])))))))))) : LC Tryd.prog 17 [.v (.string s)] [] (fun z_ _ => R z_) :=
  lc_of_exec (tbl := h0) tab_ok h0_ok mixed noinv 2 _ Tryd.func17 rfl Tryd.ntmps17 (by decide) (by kernel_rfl) (Nat.le_of_ble_eq_true rfl) (@Eq.mpr (execN tab h0 noinv 2 Tryd.f17.ntmps [] none 0 (body Tryd.f17) (argsT [.v (.string s)] 0) [] (post Tryd.f17 tab (retK (fun z_ _ => R z_)))) _ (by kernel_rfl) h)


theorem parse_lc (s : ByteArray) (hs : s.size ≤ 9223372036854775806) : LC Tryd.prog 17 [.v (.string s)] [] (fun z _ => z = parseA s) :=
  parse_vc s (by
    intro _ _
    simp only [true_and, and_true, br_iff, Bool.not_eq_true', Bool.not_eq_false', decide_eq_true_eq, decide_eq_false_iff_not, beq_iff_eq, beq_eq_false_iff_ne, bne_iff_ne, bne_eq_false_iff_eq, AV.den, Value.int.injEq, Int.toNat_natCast, Nat.zero_add, tail_eq, head_eq]
    have ts := tail_size s
    have rs := rest_size (tailD s)
    have c38 : cutN 38 s.size (tailD s) = cutN 38 (tailD s).size (tailD s) := cutN_all ts
    have e1 : subS (tailD s) 0 (cutN 38 (tailD s).size (tailD s)) = letsL (tailD s) := rfl
    have e2 : subS (tailD s) (cutN 38 (tailD s).size (tailD s)) (tailD s).size = restL (tailD s) := rfl
    simp only [c38, e1, e2]
    have tr := tail_size (restL (tailD s))
    have hP : parseA s = parseA s := rfl
    conv at hP => rhs; unfold parseA
    generalize hL : letsL (tailD s) = L at *
    generalize hR : d1 (restL (tailD s)) = fr at *
    generalize hq : tailD (restL (tailD s)) = q at *
    have c37 : cutN 37 s.size q = cutN 37 q.size q := cutN_all (by omega)
    simp only [c37]
    have hn := (cutN_le 37 q.size q).2
    have ha : allTo 37 q (cutN 37 q.size q) := cut_all 37 q
    generalize hN : cutN 37 q.size q = N at *
    have zD : (subS q 0 N).size = N := by rw [size_subS]; omega
    have zR : (subS q N q.size).size = q.size - N := by rw [size_subS]; omega
    have zR2 : (subS (subS q N q.size) 0 (cutN 39 1 (subS q N q.size))).size = if N < q.size then 1 else 0 := by
      rw [size_subS, zR, cut_one, zR]
      by_cases h : N < q.size
      · rw [if_pos h, if_pos ⟨by omega, rfl⟩]; omega
      · rw [if_neg h, if_neg (fun h2 => h (by omega))]; omega
    simp only [eqS_nil, zD, zR2, decide_eq_true_eq, decide_eq_false_iff_not, size_subS]
    refine ⟨by decide, hs, ⟨by omega, by omega⟩, by omega, by decide, by omega, ⟨by omega, by omega⟩, by omega, by decide, by omega, fun h5 => ?_, fun h5 => ?_⟩
    · rw [hP, if_pos (.inl h5)]
    have bad : badD q = true → parseA s = .tup [.agg [.v (.int .i64 0), .v (.int .i64 0), .v (.bool false), .v (.bool false)], .v (.int .i64 5)] := fun h => by rw [hP, if_pos (.inr h)]
    have bq : badD q = decide (q.size = 0 ∨ q.size > 7 ∨ byteAt q 0 = 48 ∨ N ≠ q.size) := by rw [← hN]; rfl
    have bad2 : (q.size = 0 ∨ q.size > 7 ∨ byteAt q 0 = 48 ∨ N ≠ q.size) → AV.tup [.agg [.v (.int .i64 0), .v (.int .i64 0), .v (.bool false), .v (.bool false)], .v (.int .i64 5)] = parseA s := fun h => (bad (by rw [bq, decide_eq_true_eq]; exact h)).symm
    refine ⟨fun h => bad2 (by omega), fun h => ⟨fun h7 => bad2 (by omega), fun h7 => ⟨⟨by omega, by omega⟩, fun h8 => ?_, fun h8 => ⟨fun h9 => ?_, fun h9 => ?_⟩⟩⟩⟩
    · rw [byte_sub (by omega)] at h8
      exact bad2 (.inr (.inr (.inl h8)))
    · have : N < q.size := Classical.byContradiction fun e => h9 (if_neg e)
      exact bad2 (by omega)
    · have hNq : N = q.size := by
        by_cases e : N < q.size
        · rw [if_pos e] at h9; cases h9
        · omega
      rw [byte_sub (by omega)] at h8
      rw [hNq, subS_zero q (Nat.le_refl _)]
      rw [hNq] at ha
      have good : badD q = false := by
        rw [bq, decide_eq_false_iff_not]; omega
      rw [hP, if_neg (by rw [good]; intro h; rcases h with h | h; exact h5 h; cases h)]
      refine ⟨⟨by omega, by omega, ha⟩, fun h10 => by rw [if_pos (.inl h10)], fun h10 => ⟨fun h11 => by rw [if_pos (.inr h11)], fun h11 => by rw [if_neg (by omega), Bool.not_not, Bool.not_not]⟩⟩)


set_option maxRecDepth 100000 in
theorem rdollar_vc (s : ByteArray) {R : AV → Prop} (h : (br (decide ((↑s.size : Int) > (0 : Int))) (((0 : Int) ≤ (0 : Int) ∧ (0 : Int) < (↑s.size : Int)) ∧ br (byteAt s (0 : Nat) == (36 : Int)) (((0 : Int) ≤ (1 : Int) ∧ (1 : Int) ≤ (↑s.size : Int)) ∧ s.size ≤ s.size ∧ R (AV.tup [AV.v (Value.string (subS s (1 : Nat) s.size)), AV.v (Value.bool true)])) (R (AV.tup [AV.v (Value.string s), AV.v (Value.bool false)]))) (R (AV.tup [AV.v (Value.string s), AV.v (Value.bool false)])))) : LC Tryd.prog 41 [.v (.string s)] [] (fun z_ _ => R z_) :=
  lc_of_exec (tbl := []) tab_ok trivial mixed noinv 2 _ Tryd.func41 rfl Tryd.ntmps41 (by decide) (by kernel_rfl) (Nat.le_of_ble_eq_true rfl) (@Eq.mpr (execN tab [] noinv 2 Tryd.f41.ntmps [] none 0 (body Tryd.f41) (argsT [.v (.string s)] 0) [] (post Tryd.f41 tab (retK (fun z_ _ => R z_)))) _ (by kernel_rfl) h)

set_option maxRecDepth 100000 in
theorem rdollar_lc (s : ByteArray) : LC Tryd.prog 41 [.v (.string s)] [] (fun z_ _ => z_ = .tup [.v (.string (tailD s)), .v (.bool (d1 s))]) :=
  rdollar_vc s (by
    simp only [true_and, and_true, br_iff, Bool.not_eq_true', Bool.not_eq_false', decide_eq_true_eq, decide_eq_false_iff_not, beq_iff_eq, beq_eq_false_iff_ne]
    refine ⟨fun h => ⟨⟨by omega, by omega⟩, fun h2 => ⟨⟨by omega, by omega⟩, Nat.le_refl _, ?_⟩, fun h2 => ?_⟩, fun h => ?_⟩
    · have hd : d1 s = true := by rw [d1, Bool.and_eq_true, decide_eq_true_eq, beq_iff_eq]; exact ⟨by omega, h2⟩
      rw [tailD, hd]; rfl
    · have hd : d1 s = false := by rw [d1, beq_eq_false_iff_ne.2 h2, Bool.and_false]
      rw [tailD, hd]; rfl
    · have hd : d1 s = false := by rw [d1, decide_eq_false (by omega), Bool.false_and]
      rw [tailD, hd]; rfl)

def rdollarH : List AV → Option AV
  | [.v (.string s)] => some (.tup [.v (.string (tailD s)), .v (.bool (d1 s))])
  | _ => none

theorem rdollar_ok : POk Tryd.prog 41 rdollarH := POk.of_lc (enters_of (c := body Tryd.f41) Tryd.func41 rfl (by kernel_rfl)) (by
  intro args v h
  unfold rdollarH at h
  split at h
  · cases h; exact rdollar_lc _
  · cases h)


def h1 : Tbl := (41, .pure rdollarH) :: (30, .pure let2H) :: (13, .pure colH) :: []

theorem h1_ok : TblOk Tryd.prog h1 := ⟨rdollar_ok, let2_ok, rCol_pok, trivial⟩


set_option maxRecDepth 100000 in
theorem rparse_vc (s : ByteArray) {R : AV → Prop} (h : (∀ (n1 : Nat), (∃ (x : Nat), (x ≤ (tailD s).size ∧ allTo (38 : Nat) (tailD s) x) ∧ ((AV.v (Value.int IntKind.i64 (0 : Int))).den = (AV.v (Value.int IntKind.i64 (↑x : Int))).den ∧ (AV.v (Value.string (tailD s))).den = (AV.v (Value.string (tailD s))).den ∧ (AV.ptr (0 : Nat) n1 (0 : Nat)).den = (AV.ptr (0 : Nat) n1 (0 : Nat)).den ∧ (AV.v (Value.bool (d1 s))).den = (AV.v (Value.bool (d1 s))).den ∧ True) ∧ LeH [Blk.mk n1 (Cont.cells [AV.v (Value.int IntKind.i64 (0 : Int)), AV.v (Value.int IntKind.i64 (0 : Int)), AV.v (Value.bool false), AV.v (Value.bool false)] (36 : Nat)) true] [Blk.mk n1 (Cont.cells [AV.v (Value.int IntKind.i64 (0 : Int)), AV.v (Value.int IntKind.i64 (0 : Int)), AV.v (Value.bool false), AV.v (Value.bool false)] (36 : Nat)) true]) ∧ ∀ (n2 : Nat), n2 ≤ (tailD s).size ∧ allTo (38 : Nat) (tailD s) n2 → br (decide ((↑n2 : Int) < (↑(tailD s).size : Int))) (((0 : Int) ≤ (↑n2 : Int) ∧ (↑n2 : Int) < (↑(tailD s).size : Int)) ∧ br (decide (letR (byteAt (tailD s) (↑n2 : Int).toNat) > (0 : Int))) (∃ (x' : Nat), (x' ≤ (tailD s).size ∧ allTo (38 : Nat) (tailD s) x') ∧ (tailD s).size - x' < (tailD s).size - n2 ∧ ((AV.v (Value.int IntKind.i64 (IntKind.i64.wrap ((↑n2 : Int) + (1 : Int))))).den = (AV.v (Value.int IntKind.i64 (↑x' : Int))).den ∧ (AV.v (Value.string (tailD s))).den = (AV.v (Value.string (tailD s))).den ∧ (AV.ptr (0 : Nat) n1 (0 : Nat)).den = (AV.ptr (0 : Nat) n1 (0 : Nat)).den ∧ (AV.v (Value.bool (d1 s))).den = (AV.v (Value.bool (d1 s))).den ∧ True) ∧ LeH [Blk.mk n1 (Cont.cells [AV.v (Value.int IntKind.i64 (0 : Int)), AV.v (Value.int IntKind.i64 (0 : Int)), AV.v (Value.bool false), AV.v (Value.bool false)] (36 : Nat)) true] [Blk.mk n1 (Cont.cells [AV.v (Value.int IntKind.i64 (0 : Int)), AV.v (Value.int IntKind.i64 (0 : Int)), AV.v (Value.bool false), AV.v (Value.bool false)] (36 : Nat)) true]) (((0 : Int) ≤ (↑n2 : Int) ∧ (↑n2 : Int) ≤ (↑(tailD s).size : Int)) ∧ br (colE (subS (tailD s) (0 : Nat) (↑n2 : Int).toNat) == (5 : Int)) (n1 = n1 ∧ n1 = n1 ∧ R (AV.tup [AV.agg [AV.v (Value.int IntKind.i64 (0 : Int)), AV.v (Value.int IntKind.i64 (0 : Int)), AV.v (Value.bool false), AV.v (Value.bool false)], AV.v (Value.int IntKind.i64 (5 : Int))])) (((0 : Int) ≤ (↑n2 : Int) ∧ (↑n2 : Int) ≤ (↑(tailD s).size : Int)) ∧ (tailD s).size ≤ (tailD s).size ∧ br ((↑(tailD (subS (tailD s) (↑n2 : Int).toNat (tailD s).size)).size : Int) == (0 : Int)) (n1 = n1 ∧ n1 = n1 ∧ R (AV.tup [AV.agg [AV.v (Value.int IntKind.i64 (0 : Int)), AV.v (Value.int IntKind.i64 (0 : Int)), AV.v (Value.bool false), AV.v (Value.bool false)], AV.v (Value.int IntKind.i64 (5 : Int))])) (br (decide ((↑(tailD (subS (tailD s) (↑n2 : Int).toNat (tailD s).size)).size : Int) > (7 : Int))) (n1 = n1 ∧ n1 = n1 ∧ R (AV.tup [AV.agg [AV.v (Value.int IntKind.i64 (0 : Int)), AV.v (Value.int IntKind.i64 (0 : Int)), AV.v (Value.bool false), AV.v (Value.bool false)], AV.v (Value.int IntKind.i64 (5 : Int))])) (((0 : Int) ≤ (0 : Int) ∧ (0 : Int) < (↑(tailD (subS (tailD s) (↑n2 : Int).toNat (tailD s).size)).size : Int)) ∧ br (byteAt (tailD (subS (tailD s) (↑n2 : Int).toNat (tailD s).size)) (0 : Nat) == (48 : Int)) (n1 = n1 ∧ n1 = n1 ∧ R (AV.tup [AV.agg [AV.v (Value.int IntKind.i64 (0 : Int)), AV.v (Value.int IntKind.i64 (0 : Int)), AV.v (Value.bool false), AV.v (Value.bool false)], AV.v (Value.int IntKind.i64 (5 : Int))])) ((∃ (x : Nat), (x ≤ (tailD (subS (tailD s) (↑n2 : Int).toNat (tailD s).size)).size ∧ allTo (37 : Nat) (tailD (subS (tailD s) (↑n2 : Int).toNat (tailD s).size)) x) ∧ ((AV.v (Value.int IntKind.i64 (0 : Int))).den = (AV.v (Value.int IntKind.i64 (↑x : Int))).den ∧ (AV.v (Value.int IntKind.i64 (0 : Int))).den = (AV.v (Value.int IntKind.i64 (valN (tailD (subS (tailD s) (↑n2 : Int).toNat (tailD s).size)) x))).den ∧ (AV.v (Value.string (tailD (subS (tailD s) (↑n2 : Int).toNat (tailD s).size)))).den = (AV.v (Value.string (tailD (subS (tailD s) (↑n2 : Int).toNat (tailD s).size)))).den ∧ (AV.ptr (0 : Nat) n1 (0 : Nat)).den = (AV.ptr (0 : Nat) n1 (0 : Nat)).den ∧ (AV.v (Value.bool (d1 s))).den = (AV.v (Value.bool (d1 s))).den ∧ (AV.v (Value.int IntKind.i64 (colN (subS (tailD s) (0 : Nat) (↑n2 : Int).toNat)))).den = (AV.v (Value.int IntKind.i64 (colN (subS (tailD s) (0 : Nat) (↑n2 : Int).toNat)))).den ∧ (AV.v (Value.int IntKind.i64 (colE (subS (tailD s) (0 : Nat) (↑n2 : Int).toNat)))).den = (AV.v (Value.int IntKind.i64 (colE (subS (tailD s) (0 : Nat) (↑n2 : Int).toNat)))).den ∧ (AV.v (Value.bool (d1 (subS (tailD s) (↑n2 : Int).toNat (tailD s).size)))).den = (AV.v (Value.bool (d1 (subS (tailD s) (↑n2 : Int).toNat (tailD s).size)))).den ∧ True) ∧ LeH [Blk.mk n1 (Cont.cells [AV.v (Value.int IntKind.i64 (0 : Int)), AV.v (Value.int IntKind.i64 (0 : Int)), AV.v (Value.bool false), AV.v (Value.bool false)] (36 : Nat)) true] [Blk.mk n1 (Cont.cells [AV.v (Value.int IntKind.i64 (0 : Int)), AV.v (Value.int IntKind.i64 (0 : Int)), AV.v (Value.bool false), AV.v (Value.bool false)] (36 : Nat)) true]) ∧ ∀ (n4 : Nat), n4 ≤ (tailD (subS (tailD s) (↑n2 : Int).toNat (tailD s).size)).size ∧ allTo (37 : Nat) (tailD (subS (tailD s) (↑n2 : Int).toNat (tailD s).size)) n4 → br (decide ((↑n4 : Int) < (↑(tailD (subS (tailD s) (↑n2 : Int).toNat (tailD s).size)).size : Int))) (((0 : Int) ≤ (↑n4 : Int) ∧ (↑n4 : Int) < (↑(tailD (subS (tailD s) (↑n2 : Int).toNat (tailD s).size)).size : Int)) ∧ br (decide (byteAt (tailD (subS (tailD s) (↑n2 : Int).toNat (tailD s).size)) (↑n4 : Int).toNat < (48 : Int))) (n1 = n1 ∧ n1 = n1 ∧ R (AV.tup [AV.agg [AV.v (Value.int IntKind.i64 (0 : Int)), AV.v (Value.int IntKind.i64 (0 : Int)), AV.v (Value.bool false), AV.v (Value.bool false)], AV.v (Value.int IntKind.i64 (5 : Int))])) (((0 : Int) ≤ (↑n4 : Int) ∧ (↑n4 : Int) < (↑(tailD (subS (tailD s) (↑n2 : Int).toNat (tailD s).size)).size : Int)) ∧ br (decide (byteAt (tailD (subS (tailD s) (↑n2 : Int).toNat (tailD s).size)) (↑n4 : Int).toNat > (57 : Int))) (n1 = n1 ∧ n1 = n1 ∧ R (AV.tup [AV.agg [AV.v (Value.int IntKind.i64 (0 : Int)), AV.v (Value.int IntKind.i64 (0 : Int)), AV.v (Value.bool false), AV.v (Value.bool false)], AV.v (Value.int IntKind.i64 (5 : Int))])) (((0 : Int) ≤ (↑n4 : Int) ∧ (↑n4 : Int) < (↑(tailD (subS (tailD s) (↑n2 : Int).toNat (tailD s).size)).size : Int)) ∧ ∃ (x' : Nat), (x' ≤ (tailD (subS (tailD s) (↑n2 : Int).toNat (tailD s).size)).size ∧ allTo (37 : Nat) (tailD (subS (tailD s) (↑n2 : Int).toNat (tailD s).size)) x') ∧ (tailD (subS (tailD s) (↑n2 : Int).toNat (tailD s).size)).size - x' < (tailD (subS (tailD s) (↑n2 : Int).toNat (tailD s).size)).size - n4 ∧ ((AV.v (Value.int IntKind.i64 (IntKind.i64.wrap ((↑n4 : Int) + (1 : Int))))).den = (AV.v (Value.int IntKind.i64 (↑x' : Int))).den ∧ (AV.v (Value.int IntKind.i64 (IntKind.i64.wrap (IntKind.i64.wrap ((10 : Int) * valN (tailD (subS (tailD s) (↑n2 : Int).toNat (tailD s).size)) n4) + IntKind.i64.wrap (IntKind.u8.wrap (byteAt (tailD (subS (tailD s) (↑n2 : Int).toNat (tailD s).size)) (↑n4 : Int).toNat - (48 : Int))))))).den = (AV.v (Value.int IntKind.i64 (valN (tailD (subS (tailD s) (↑n2 : Int).toNat (tailD s).size)) x'))).den ∧ (AV.v (Value.string (tailD (subS (tailD s) (↑n2 : Int).toNat (tailD s).size)))).den = (AV.v (Value.string (tailD (subS (tailD s) (↑n2 : Int).toNat (tailD s).size)))).den ∧ (AV.ptr (0 : Nat) n1 (0 : Nat)).den = (AV.ptr (0 : Nat) n1 (0 : Nat)).den ∧ (AV.v (Value.bool (d1 s))).den = (AV.v (Value.bool (d1 s))).den ∧ (AV.v (Value.int IntKind.i64 (colN (subS (tailD s) (0 : Nat) (↑n2 : Int).toNat)))).den = (AV.v (Value.int IntKind.i64 (colN (subS (tailD s) (0 : Nat) (↑n2 : Int).toNat)))).den ∧ (AV.v (Value.int IntKind.i64 (colE (subS (tailD s) (0 : Nat) (↑n2 : Int).toNat)))).den = (AV.v (Value.int IntKind.i64 (colE (subS (tailD s) (0 : Nat) (↑n2 : Int).toNat)))).den ∧ (AV.v (Value.bool (d1 (subS (tailD s) (↑n2 : Int).toNat (tailD s).size)))).den = (AV.v (Value.bool (d1 (subS (tailD s) (↑n2 : Int).toNat (tailD s).size)))).den ∧ True) ∧ LeH [Blk.mk n1 (Cont.cells [AV.v (Value.int IntKind.i64 (0 : Int)), AV.v (Value.int IntKind.i64 (0 : Int)), AV.v (Value.bool false), AV.v (Value.bool false)] (36 : Nat)) true] [Blk.mk n1 (Cont.cells [AV.v (Value.int IntKind.i64 (0 : Int)), AV.v (Value.int IntKind.i64 (0 : Int)), AV.v (Value.bool false), AV.v (Value.bool false)] (36 : Nat)) true]))) (br (colE (subS (tailD s) (0 : Nat) (↑n2 : Int).toNat) != (0 : Int)) (n1 = n1 ∧ n1 = n1 ∧ R (AV.tup [AV.agg [AV.v (Value.int IntKind.i64 (0 : Int)), AV.v (Value.int IntKind.i64 (0 : Int)), AV.v (Value.bool false), AV.v (Value.bool false)], AV.v (Value.int IntKind.i64 (11 : Int))])) (br (decide (valN (tailD (subS (tailD s) (↑n2 : Int).toNat (tailD s).size)) n4 > (1048576 : Int))) (n1 = n1 ∧ n1 = n1 ∧ R (AV.tup [AV.agg [AV.v (Value.int IntKind.i64 (0 : Int)), AV.v (Value.int IntKind.i64 (0 : Int)), AV.v (Value.bool false), AV.v (Value.bool false)], AV.v (Value.int IntKind.i64 (11 : Int))])) (n1 = n1 ∧ n1 = n1 ∧ R (AV.tup [AV.agg [AV.v (Value.int IntKind.i64 (valN (tailD (subS (tailD s) (↑n2 : Int).toNat (tailD s).size)) n4)), AV.v (Value.int IntKind.i64 (colN (subS (tailD s) (0 : Nat) (↑n2 : Int).toNat))), AV.v (Value.bool (d1 (subS (tailD s) (↑n2 : Int).toNat (tailD s).size))), AV.v (Value.bool (d1 s))], AV.v (Value.int IntKind.i64 (0 : Int))])))))))))) (((0 : Int) ≤ (↑n2 : Int) ∧ (↑n2 : Int) ≤ (↑(tailD s).size : Int)) ∧ br (colE (subS (tailD s) (0 : Nat) (↑n2 : Int).toNat) == (5 : Int)) (n1 = n1 ∧ n1 = n1 ∧ R (AV.tup [AV.agg [AV.v (Value.int IntKind.i64 (0 : Int)), AV.v (Value.int IntKind.i64 (0 : Int)), AV.v (Value.bool false), AV.v (Value.bool false)], AV.v (Value.int IntKind.i64 (5 : Int))])) (((0 : Int) ≤ (↑n2 : Int) ∧ (↑n2 : Int) ≤ (↑(tailD s).size : Int)) ∧ (tailD s).size ≤ (tailD s).size ∧ br ((↑(tailD (subS (tailD s) (↑n2 : Int).toNat (tailD s).size)).size : Int) == (0 : Int)) (n1 = n1 ∧ n1 = n1 ∧ R (AV.tup [AV.agg [AV.v (Value.int IntKind.i64 (0 : Int)), AV.v (Value.int IntKind.i64 (0 : Int)), AV.v (Value.bool false), AV.v (Value.bool false)], AV.v (Value.int IntKind.i64 (5 : Int))])) (br (decide ((↑(tailD (subS (tailD s) (↑n2 : Int).toNat (tailD s).size)).size : Int) > (7 : Int))) (n1 = n1 ∧ n1 = n1 ∧ R (AV.tup [AV.agg [AV.v (Value.int IntKind.i64 (0 : Int)), AV.v (Value.int IntKind.i64 (0 : Int)), AV.v (Value.bool false), AV.v (Value.bool false)], AV.v (Value.int IntKind.i64 (5 : Int))])) (((0 : Int) ≤ (0 : Int) ∧ (0 : Int) < (↑(tailD (subS (tailD s) (↑n2 : Int).toNat (tailD s).size)).size : Int)) ∧ br (byteAt (tailD (subS (tailD s) (↑n2 : Int).toNat (tailD s).size)) (0 : Nat) == (48 : Int)) (n1 = n1 ∧ n1 = n1 ∧ R (AV.tup [AV.agg [AV.v (Value.int IntKind.i64 (0 : Int)), AV.v (Value.int IntKind.i64 (0 : Int)), AV.v (Value.bool false), AV.v (Value.bool false)], AV.v (Value.int IntKind.i64 (5 : Int))])) ((∃ (x : Nat), (x ≤ (tailD (subS (tailD s) (↑n2 : Int).toNat (tailD s).size)).size ∧ allTo (37 : Nat) (tailD (subS (tailD s) (↑n2 : Int).toNat (tailD s).size)) x) ∧ ((AV.v (Value.int IntKind.i64 (0 : Int))).den = (AV.v (Value.int IntKind.i64 (↑x : Int))).den ∧ (AV.v (Value.int IntKind.i64 (0 : Int))).den = (AV.v (Value.int IntKind.i64 (valN (tailD (subS (tailD s) (↑n2 : Int).toNat (tailD s).size)) x))).den ∧ (AV.v (Value.string (tailD (subS (tailD s) (↑n2 : Int).toNat (tailD s).size)))).den = (AV.v (Value.string (tailD (subS (tailD s) (↑n2 : Int).toNat (tailD s).size)))).den ∧ (AV.ptr (0 : Nat) n1 (0 : Nat)).den = (AV.ptr (0 : Nat) n1 (0 : Nat)).den ∧ (AV.v (Value.bool (d1 s))).den = (AV.v (Value.bool (d1 s))).den ∧ (AV.v (Value.int IntKind.i64 (colN (subS (tailD s) (0 : Nat) (↑n2 : Int).toNat)))).den = (AV.v (Value.int IntKind.i64 (colN (subS (tailD s) (0 : Nat) (↑n2 : Int).toNat)))).den ∧ (AV.v (Value.int IntKind.i64 (colE (subS (tailD s) (0 : Nat) (↑n2 : Int).toNat)))).den = (AV.v (Value.int IntKind.i64 (colE (subS (tailD s) (0 : Nat) (↑n2 : Int).toNat)))).den ∧ (AV.v (Value.bool (d1 (subS (tailD s) (↑n2 : Int).toNat (tailD s).size)))).den = (AV.v (Value.bool (d1 (subS (tailD s) (↑n2 : Int).toNat (tailD s).size)))).den ∧ True) ∧ LeH [Blk.mk n1 (Cont.cells [AV.v (Value.int IntKind.i64 (0 : Int)), AV.v (Value.int IntKind.i64 (0 : Int)), AV.v (Value.bool false), AV.v (Value.bool false)] (36 : Nat)) true] [Blk.mk n1 (Cont.cells [AV.v (Value.int IntKind.i64 (0 : Int)), AV.v (Value.int IntKind.i64 (0 : Int)), AV.v (Value.bool false), AV.v (Value.bool false)] (36 : Nat)) true]) ∧ ∀ (n4 : Nat), n4 ≤ (tailD (subS (tailD s) (↑n2 : Int).toNat (tailD s).size)).size ∧ allTo (37 : Nat) (tailD (subS (tailD s) (↑n2 : Int).toNat (tailD s).size)) n4 → br (decide ((↑n4 : Int) < (↑(tailD (subS (tailD s) (↑n2 : Int).toNat (tailD s).size)).size : Int))) (((0 : Int) ≤ (↑n4 : Int) ∧ (↑n4 : Int) < (↑(tailD (subS (tailD s) (↑n2 : Int).toNat (tailD s).size)).size : Int)) ∧ br (decide (byteAt (tailD (subS (tailD s) (↑n2 : Int).toNat (tailD s).size)) (↑n4 : Int).toNat < (48 : Int))) (n1 = n1 ∧ n1 = n1 ∧ R (AV.tup [AV.agg [AV.v (Value.int IntKind.i64 (0 : Int)), AV.v (Value.int IntKind.i64 (0 : Int)), AV.v (Value.bool false), AV.v (Value.bool false)], AV.v (Value.int IntKind.i64 (5 : Int))])) (((0 : Int) ≤ (↑n4 : Int) ∧ (↑n4 : Int) < (↑(tailD (subS (tailD s) (↑n2 : Int).toNat (tailD s).size)).size : Int)) ∧ br (decide (byteAt (tailD (subS (tailD s) (↑n2 : Int).toNat (tailD s).size)) (↑n4 : Int).toNat > (57 : Int))) (n1 = n1 ∧ n1 = n1 ∧ R (AV.tup [AV.agg [AV.v (Value.int IntKind.i64 (0 : Int)), AV.v (Value.int IntKind.i64 (0 : Int)), AV.v (Value.bool false), AV.v (Value.bool false)], AV.v (Value.int IntKind.i64 (5 : Int))])) (((0 : Int) ≤ (↑n4 : Int) ∧ (↑n4 : Int) < (↑(tailD (subS (tailD s) (↑n2 : Int).toNat (tailD s).size)).size : Int)) ∧ ∃ (x' : Nat), (x' ≤ (tailD (subS (tailD s) (↑n2 : Int).toNat (tailD s).size)).size ∧ allTo (37 : Nat) (tailD (subS (tailD s) (↑n2 : Int).toNat (tailD s).size)) x') ∧ (tailD (subS (tailD s) (↑n2 : Int).toNat (tailD s).size)).size - x' < (tailD (subS (tailD s) (↑n2 : Int).toNat (tailD s).size)).size - n4 ∧ ((AV.v (Value.int IntKind.i64 (IntKind.i64.wrap ((↑n4 : Int) + (1 : Int))))).den = (AV.v (Value.int IntKind.i64 (↑x' : Int))).den ∧ (AV.v (Value.int IntKind.i64 (IntKind.i64.wrap (IntKind.i64.wrap ((10 : Int) * valN (tailD (subS (tailD s) (↑n2 : Int).toNat (tailD s).size)) n4) + IntKind.i64.wrap (IntKind.u8.wrap (byteAt (tailD (subS (tailD s) (↑n2 : Int).toNat (tailD s).size)) (↑n4 : Int).toNat - (48 : Int))))))).den = (AV.v (Value.int IntKind.i64 (valN (tailD (subS (tailD s) (↑n2 : Int).toNat (tailD s).size)) x'))).den ∧ (AV.v (Value.string (tailD (subS (tailD s) (↑n2 : Int).toNat (tailD s).size)))).den = (AV.v (Value.string (tailD (subS (tailD s) (↑n2 : Int).toNat (tailD s).size)))).den ∧ (AV.ptr (0 : Nat) n1 (0 : Nat)).den = (AV.ptr (0 : Nat) n1 (0 : Nat)).den ∧ (AV.v (Value.bool (d1 s))).den = (AV.v (Value.bool (d1 s))).den ∧ (AV.v (Value.int IntKind.i64 (colN (subS (tailD s) (0 : Nat) (↑n2 : Int).toNat)))).den = (AV.v (Value.int IntKind.i64 (colN (subS (tailD s) (0 : Nat) (↑n2 : Int).toNat)))).den ∧ (AV.v (Value.int IntKind.i64 (colE (subS (tailD s) (0 : Nat) (↑n2 : Int).toNat)))).den = (AV.v (Value.int IntKind.i64 (colE (subS (tailD s) (0 : Nat) (↑n2 : Int).toNat)))).den ∧ (AV.v (Value.bool (d1 (subS (tailD s) (↑n2 : Int).toNat (tailD s).size)))).den = (AV.v (Value.bool (d1 (subS (tailD s) (↑n2 : Int).toNat (tailD s).size)))).den ∧ True) ∧ LeH [Blk.mk n1 (Cont.cells [AV.v (Value.int IntKind.i64 (0 : Int)), AV.v (Value.int IntKind.i64 (0 : Int)), AV.v (Value.bool false), AV.v (Value.bool false)] (36 : Nat)) true] [Blk.mk n1 (Cont.cells [AV.v (Value.int IntKind.i64 (0 : Int)), AV.v (Value.int IntKind.i64 (0 : Int)), AV.v (Value.bool false), AV.v (Value.bool false)] (36 : Nat)) true]))) (br (colE (subS (tailD s) (0 : Nat) (↑n2 : Int).toNat) != (0 : Int)) (n1 = n1 ∧ n1 = n1 ∧ R (AV.tup [AV.agg [AV.v (Value.int IntKind.i64 (0 : Int)), AV.v (Value.int IntKind.i64 (0 : Int)), AV.v (Value.bool false), AV.v (Value.bool false)], AV.v (Value.int IntKind.i64 (11 : Int))])) (br (decide (valN (tailD (subS (tailD s) (↑n2 : Int).toNat (tailD s).size)) n4 > (1048576 : Int))) (n1 = n1 ∧ n1 = n1 ∧ R (AV.tup [AV.agg [AV.v (Value.int IntKind.i64 (0 : Int)), AV.v (Value.int IntKind.i64 (0 : Int)), AV.v (Value.bool false), AV.v (Value.bool false)], AV.v (Value.int IntKind.i64 (11 : Int))])) (n1 = n1 ∧ n1 = n1 ∧ R (AV.tup [AV.agg [AV.v (Value.int IntKind.i64 (valN (tailD (subS (tailD s) (↑n2 : Int).toNat (tailD s).size)) n4)), AV.v (Value.int IntKind.i64 (colN (subS (tailD s) (0 : Nat) (↑n2 : Int).toNat))), AV.v (Value.bool (d1 (subS (tailD s) (↑n2 : Int).toNat (tailD s).size))), AV.v (Value.bool (d1 s))], AV.v (Value.int IntKind.i64 (0 : Int))]))))))))))) : LC Tryd.prog 18 [.v (.string s)] [] (fun z_ _ => R z_) :=
  lc_of_exec (tbl := h1) tab_ok h1_ok mixed (fun b T H => match b with
  | 0 => .inv Nat (fun i => ((5, .v (.int .i64 (i : Int))) :: keepT [0, 2, 4] T, H)) (fun i => i ≤ (strA (T.get 0)).size ∧ allTo 38 (strA (T.get 0)) i) (fun i => (strA (T.get 0)).size - i)
  | _ => .inv Nat (fun i => ((10, .v (.int .i64 (i : Int))) :: (9, .v (.int .i64 (valN (strA (T.get 0)) i))) :: keepT [0, 2, 4, 6, 7, 8] T, H)) (fun i => i ≤ (strA (T.get 0)).size ∧ allTo 37 (strA (T.get 0)) i) (fun i => (strA (T.get 0)).size - i)) 2 _ Tryd.func18 rfl Tryd.ntmps18 (by decide) (by kernel_rfl) (Nat.le_of_ble_eq_true rfl) (@Eq.mpr (execN tab h1 (fun b T H => match b with
  | 0 => .inv Nat (fun i => ((5, .v (.int .i64 (i : Int))) :: keepT [0, 2, 4] T, H)) (fun i => i ≤ (strA (T.get 0)).size ∧ allTo 38 (strA (T.get 0)) i) (fun i => (strA (T.get 0)).size - i)
  | _ => .inv Nat (fun i => ((10, .v (.int .i64 (i : Int))) :: (9, .v (.int .i64 (valN (strA (T.get 0)) i))) :: keepT [0, 2, 4, 6, 7, 8] T, H)) (fun i => i ≤ (strA (T.get 0)).size ∧ allTo 37 (strA (T.get 0)) i) (fun i => (strA (T.get 0)).size - i)) 2 Tryd.f18.ntmps [] none 0 (body Tryd.f18) (argsT [.v (.string s)] 0) [] (post Tryd.f18 tab (retK (fun z_ _ => R z_)))) _ (by kernel_rfl) h)


theorem rparse_lc (s : ByteArray) (hs : s.size ≤ 9223372036854775806) : LC Tryd.prog 18 [.v (.string s)] [] (fun z _ => z = parseA s) :=
  rparse_vc s (by
    intro _
    have b38 : ∀ (s : ByteArray) (i : Nat), soB 38 (byteAt s i) = decide (letR (byteAt s i) > 0) := fun s i => by
      show decide (letP (byteAt s i) > 0) = _
      rw [letP_byte, letR_byte]
    simp only [true_and, and_true, br_iff, Bool.not_eq_true', Bool.not_eq_false', decide_eq_true_eq, decide_eq_false_iff_not, beq_iff_eq, beq_eq_false_iff_ne, bne_iff_ne, bne_eq_false_iff_eq, AV.den, Value.int.injEq, Int.toNat_natCast, Nat.zero_add]
    have ts := tail_size s
    refine ⟨⟨0, ⟨by omega, ⟨fun j hj => by omega⟩⟩, rfl, LeH.refl _⟩, fun i hi => ?_⟩
    obtain ⟨i1, i2⟩ := hi
    refine loop_two (fun h => ⟨by omega, by omega⟩) (fun h hl => ⟨i + 1, ⟨by omega, allTo_step i2 (by rw [b38, decide_eq_true_eq]; exact hl)⟩, by omega, by rw [w64 (by omega)]; omega, LeH.refl _⟩) (fun hstop => ?_)
    have hi : i = cutN 38 (tailD s).size (tailD s) := cut_eq i1 (by omega) i2 (by
      rcases hstop with h | h
      · left; omega
      · right; right; rw [b38, decide_eq_false_iff_not]; exact h)
    have iL : subS (tailD s) 0 i = letsL (tailD s) := by rw [hi]; rfl
    have iR : subS (tailD s) i (tailD s).size = restL (tailD s) := by rw [hi]; rfl
    have rs := rest_size (tailD s)
    have tr := tail_size (restL (tailD s))
    simp only [iL, iR]
    have hP : parseA s = parseA s := rfl
    conv at hP => rhs; unfold parseA
    generalize hL : letsL (tailD s) = L at *
    generalize hR : d1 (restL (tailD s)) = fr at *
    generalize hq : tailD (restL (tailD s)) = q at *
    refine ⟨⟨by omega, by omega⟩, fun h5 => by rw [hP, if_pos (.inl h5)], fun h5 => ⟨⟨by omega, by omega⟩, Nat.le_refl _, ?_⟩⟩
    have bad : (q.size = 0 ∨ q.size > 7 ∨ byteAt q 0 = 48 ∨ cutN 37 q.size q ≠ q.size) → AV.tup [.agg [.v (.int .i64 0), .v (.int .i64 0), .v (.bool false), .v (.bool false)], .v (.int .i64 5)] = parseA s := fun h => by
      rw [hP, if_pos (.inr (by rw [badD, decide_eq_true_eq]; exact h))]
    refine ⟨fun h => bad (by omega), fun h => ⟨fun h7 => bad (by omega), fun h7 => ⟨⟨by omega, by omega⟩, fun h8 => bad (.inr (.inr (.inl h8))), fun h8 => ⟨⟨0, ⟨by omega, ⟨fun j hj => by omega⟩⟩, ⟨rfl, rfl⟩, LeH.refl _⟩, fun j hj => ?_⟩⟩⟩⟩
    obtain ⟨j1, j2⟩ := hj
    have nodig : soB 37 (byteAt q j) = false → j < q.size → cutN 37 q.size q ≠ q.size := fun h hlt he => by
      have := cut_eq (k := 37) j1 (by omega : j ≤ q.size) j2 (.inr (.inr h))
      omega
    refine ⟨fun hlt => ?_, fun hge => ?_⟩
    · have hv := val_bound (n := j) j2
      have hv2 : valN q j < 10000000 := by
        have : 10 ^ j ≤ 10 ^ 7 := Nat.pow_le_pow_right (by decide) (by omega)
        omega
      have bb := byteAt_b q j
      have e1 : IntKind.i64.wrap ((j : Int) + 1) = ((j + 1 : Nat) : Int) := by rw [w64 (by omega)]; omega
      refine ⟨⟨by omega, by omega⟩, fun h9 => bad (.inr (.inr (.inr (nodig (by simp [soB]; omega) (by omega))))), fun h9 => ⟨⟨by omega, by omega⟩, fun h10 => bad (.inr (.inr (.inr (nodig (by simp [soB]; omega) (by omega))))), fun h10 => ⟨⟨by omega, by omega⟩, j + 1, ⟨by omega, allTo_step j2 (by simp [soB]; omega)⟩, by omega, ⟨e1, ?_⟩, LeH.refl _⟩⟩⟩
      rw [w8 (by omega), w64 (x := 10 * valN q j) (by omega), w64 (x := byteAt q j - 48) (by omega), w64 (by omega), valN]
      omega
    · obtain rfl : j = q.size := by omega
      have hc : cutN 37 q.size q = q.size := (cut_eq j1 (Nat.le_refl _) j2 (.inl rfl)).symm
      have good : badD q = false := by
        rw [badD, decide_eq_false_iff_not]; omega
      rw [hP, if_neg (by rw [good]; intro h; rcases h with h | h; exact h5 h; cases h)]
      refine ⟨fun h10 => by rw [if_pos (.inl h10)], fun h10 => ⟨fun h11 => by rw [if_pos (.inr h11)], fun h11 => by rw [if_neg (by omega)]⟩⟩)
def parseH : List AV → Option (Prop × AV)
  | [.v (.string s)] => some (s.size ≤ 9223372036854775806, parseA s)
  | _ => none

theorem parseX_ok : PrOk Tryd.prog 17 parseH := PrOk.of_lc (enters_of (c := body Tryd.f17) Tryd.func17 rfl (by kernel_rfl)) (by
  intro args p h hp
  unfold parseH at h
  split at h
  · cases h; exact parse_lc _ hp
  · cases h)

theorem rparseX_ok : PrOk Tryd.prog 18 parseH := PrOk.of_lc (enters_of (c := body Tryd.f18) Tryd.func18 rfl (by kernel_rfl)) (by
  intro args p h hp
  unfold parseH at h
  split at h
  · cases h; exact rparse_lc _ hp
  · cases h)

def printH : List AV → Option (Prop × AV)
  | [.agg [.v (.int .i64 r), .v (.int .i64 c), .v (.bool fr), .v (.bool fc)]] => some (True, .tup [.v (.string (printB r c fr fc)), .v (.int .i64 (ifB (okP r c) 0 2))])
  | _ => none

theorem printX_ok : HOk Tryd.prog 15 (tabH GT printH) := tabH_ok (enters_of (c := body Tryd.f15) Tryd.func15 rfl (by kernel_rfl)) (by
  intro args p o h hp ho
  unfold printH at h
  split at h
  · cases h; exact print_lc o ho _ _ _ _
  · cases h)

theorem rprintX_ok : PrOk Tryd.prog 16 printH := PrOk.of_lc (enters_of (c := body Tryd.f16) Tryd.func16 rfl (by kernel_rfl)) (by
  intro args p h hp
  unfold printH at h
  split at h
  · cases h; exact rprint_lc _ _ _ _
  · cases h)

def h2 : Tbl := (15, .gen (tabH GT printH)) :: (16, .pre printH) :: (17, .pre parseH) :: (18, .pre parseH) :: tb8

theorem h2_ok : TblOk Tryd.prog h2 := ⟨printX_ok, rprintX_ok, parseX_ok, rparseX_ok, tb8_ok⟩
end Go.Proofs.YtilejaehbgljbaaDoor

