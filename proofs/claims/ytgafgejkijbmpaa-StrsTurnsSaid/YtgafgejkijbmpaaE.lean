/- Strs: texts made of texts. -/
import Derived.Test.YtgafgejkijbmpaaC
import Derived.Test.YtgafgejkijbmpaaY1
import Derived.Lib.DecodeN
namespace Go.Sp
open Go.Eng

/-- A byte in small letters. -/
def lowB (b : UInt8) : UInt8 := if 65 ≤ b.toNat ∧ b.toNat ≤ 90 then b + 32 else b
/-- A byte in great letters. -/
def upB (b : UInt8) : UInt8 := if 97 ≤ b.toNat ∧ b.toNat ≤ 122 then b - 32 else b

/-- A number made of a number, ahead of a place. -/
def turn (f : Int → Int) (g : Nat → Int) (i q : Nat) : Int := if q < i then f (g q) else g q

def upI (c : Int) : Int := if 97 ≤ c ∧ c ≤ 122 then c - 32 else c

def lowI (c : Int) : Int := if 65 ≤ c ∧ c ≤ 90 then c + 32 else c

theorem turn_half {fI : Int → Int} {f : UInt8 → UInt8} (h : ∀ b : UInt8, fI b.toNat = ((f b).toNat : Int)) (s : ByteArray) (i : Nat) : turn fI (byteAt s) i = half f s i := by
  funext q
  simp only [turn, half]
  split
  · rw [byteAt_eq, h]
  · rfl

theorem low_h (b : UInt8) : lowI b.toNat = ((lowB b).toNat : Int) := by
  have hb := UInt8.toNat_lt b
  unfold lowI lowB
  split
  · rw [if_pos (by omega), UInt8.toNat_add]
    simp only [UInt8.toNat_ofNat]
    omega
  · rw [if_neg (by omega)]

theorem up_h (b : UInt8) : upI b.toNat = ((upB b).toNat : Int) := by
  have hb := UInt8.toNat_lt b
  unfold upI upB
  split
  · rw [if_pos (by omega), UInt8.toNat_sub_of_le _ _ (by rw [UInt8.le_iff_toNat_le]; simp only [UInt8.toNat_ofNat]; omega)]
    simp only [UInt8.toNat_ofNat]
    omega
  · rw [if_neg (by omega)]

theorem get_bAt (s : ByteArray) (i : Nat) : s.get! i = bAt s i := by
  simp only [ByteArray.get!, bAt, getElem!_def, Array.getElem?_toList]
  cases s.data[i]? <;> rfl

theorem decodeN_lo {n b0 b1 b2 b3 : Nat} (h : b0 < 128) : Lib.decodeN n b0 b1 b2 b3 = (b0, 1) := by
  unfold Lib.decodeN; rw [if_pos h]

theorem decodeN_hi {n b0 b1 b2 b3 : Nat} (h : 128 ≤ b0) : 128 ≤ (Lib.decodeN n b0 b1 b2 b3).1 ∧
    ((Lib.decodeN n b0 b1 b2 b3).2 = 1 ∨ ((Lib.decodeN n b0 b1 b2 b3).2 = 2 ∧ 1 < n ∧ 128 ≤ b1) ∨ ((Lib.decodeN n b0 b1 b2 b3).2 = 3 ∧ 2 < n ∧ 128 ≤ b1 ∧ 128 ≤ b2) ∨ ((Lib.decodeN n b0 b1 b2 b3).2 = 4 ∧ 3 < n ∧ 128 ≤ b1 ∧ 128 ≤ b2 ∧ 128 ≤ b3)) := by
  unfold Lib.decodeN
  rw [if_neg (by omega)]
  repeat' split
  all_goals (dsimp only; omega)

theorem decode_lo {s : ByteArray} {i : Nat} (h : (bAt s i).toNat < 128) : Utf8.decode s i = ((bAt s i).toNat, 1) := by
  rw [Lib.decode_at, decodeN_lo (by rw [get_bAt]; exact h), get_bAt]

theorem decode_hi {s : ByteArray} {i : Nat} (hi : i < s.size) (h : 128 ≤ (bAt s i).toNat) :
    128 ≤ (Utf8.decode s i).1 ∧ 1 ≤ (Utf8.decode s i).2 ∧ i + (Utf8.decode s i).2 ≤ s.size ∧ ∀ q, i ≤ q → q < i + (Utf8.decode s i).2 → 128 ≤ (bAt s q).toNat := by
  rw [Lib.decode_at]
  have := decodeN_hi (n := s.size - i) (b0 := (s.get! i).toNat) (b1 := (s.get! (i + 1)).toNat) (b2 := (s.get! (i + 2)).toNat) (b3 := (s.get! (i + 3)).toNat) (by rw [get_bAt]; exact h)
  obtain ⟨h1, h2⟩ := this
  refine ⟨h1, by omega, by omega, fun q hq1 hq2 => ?_⟩
  simp only [get_bAt] at h2 hq2
  have hq : q = i ∨ q = i + 1 ∨ q = i + 2 ∨ q = i + 3 := by omega
  rcases hq with rfl | rfl | rfl | rfl
  · exact h
  all_goals omega

theorem half_skip {f : UInt8 → UInt8} {s : ByteArray} {i j : Nat} (hij : i ≤ j) (h : ∀ q, i ≤ q → q < j → f (bAt s q) = bAt s q) : half f s i = half f s j := by
  funext q
  simp only [half]
  by_cases h1 : q < i
  · rw [if_pos h1, if_pos (by omega)]
  · rw [if_neg h1]
    by_cases h2 : q < j
    · rw [if_pos h2, h q (by omega) h2]; rfl
    · rw [if_neg h2]

theorem up_not {b : UInt8} (h : 128 ≤ b.toNat) : upB b = b := by rw [upB, if_neg (by omega)]

theorem eqS_nil {s : ByteArray} : eqS s (ByteArray.mk #[]) = true ↔ s.size = 0 := by
  rw [eqS_iff]
  constructor
  · rintro rfl; rfl
  · intro h
    have h1 : s.data.toList = [] := List.eq_nil_of_length_eq_zero (by rw [size_data]; exact h)
    rw [← mkS_toList s, h1]
    rfl

theorem eqS_nil_f {s : ByteArray} : eqS s (ByteArray.mk #[]) = false ↔ s.size ≠ 0 := by
  rw [Bool.eq_false_iff, ne_eq, eqS_nil]

theorem rep_le {a n : Nat} (h : 1 ≤ a) : ((n : Int) ≤ Int.tdiv 255 a) ↔ a * n ≤ 255 := by
  rw [Int.tdiv_eq_ediv_of_nonneg (by omega), Int.le_ediv_iff_mul_le (by omega)]
  rw [Nat.mul_comm]; omega

theorem rep_size (s : ByteArray) (n : Nat) : (mkS (Lib.repeatL s.data.toList n)).size = s.size * n := by
  rw [size_mkS]
  induction n with
  | zero => rfl
  | succ n ih => rw [Lib.repeatL, List.length_append, ih, size_data, Nat.mul_succ]; omega

theorem rep_succ (s : ByteArray) (n : Nat) : catS (mkS (Lib.repeatL s.data.toList n)) s = mkS (Lib.repeatL s.data.toList (n + 1)) := by
  rw [catS, data_mkS]
  congr 1
  induction n with
  | zero => simp [Lib.repeatL]
  | succ n ih => rw [Lib.repeatL, List.append_assoc, ih, ← Lib.repeatL]

theorem rep_nil {s : ByteArray} (h : s.size = 0) (n : Nat) : mkS (Lib.repeatL s.data.toList n) = ByteArray.mk #[] := by
  have h1 : s.data.toList = [] := List.eq_nil_of_length_eq_zero (by rw [size_data]; exact h)
  rw [h1]
  induction n with
  | zero => rfl
  | succ n ih => rw [Lib.repeatL, List.nil_append]; exact ih

theorem blt_t {a b : Nat} : a.blt b = true ↔ a < b := by rw [Nat.blt_eq]
theorem blt_f {a b : Nat} : a.blt b = false ↔ ¬ a < b := by rw [Bool.eq_false_iff, ne_eq, Nat.blt_eq]

theorem or32 : ∀ k : Fin 26, ibits .or .u8 ((65 + k.1 : Nat) : Int) 32 = ((97 + k.1 : Nat) : Int) := by decide +kernel

theorem low_or {x : Int} (h : 65 ≤ x) (h2 : x ≤ 90) : ibits .or .u8 x 32 = lowI x := by
  have := or32 ⟨(x - 65).toNat, by omega⟩
  simp only [show ((65 + (x - 65).toNat : Nat) : Int) = x by omega] at this
  rw [this, lowI, if_pos ⟨h, h2⟩]; omega

end Go.Sp
namespace Go.Eng
open Go.Sp

def lenA : Option AV → Nat
  | some (.sl _ _ _ _ n _) => n
  | _ => 0

/-- The newest block's numbers, turned ahead of a place. -/
def turnH (f : Int → Int) (i : Nat) : HH → HH
  | [⟨n, .rows c [.ints k g] ty, o⟩] => [⟨n, .rows c [.ints k (turn f g i)] ty, o⟩]
  | b :: H => b :: turnH f i H
  | [] => []

def turnH2 (f : Int → Int) (i : Nat) : HH → HH
  | [⟨n, .rows c [.ints k g] ty, o⟩, b] => [⟨n, .rows c [.ints k (turn f g i)] ty, o⟩, b]
  | b :: H => b :: turnH2 f i H
  | [] => []

/-- The newest block of a text's runes, ahead of a place. -/
def strH (i : Nat) : HH → HH
  | [⟨n, .iters s _, o⟩] => [⟨n, .iters s i, o⟩]
  | b :: H => b :: strH i H
  | [] => []

end Go.Eng
namespace Go.Proofs.Ytgafgejkijbmpaa
open Go Go.Eng Go.Sp
set_option linter.unusedVariables false
set_option linter.unusedSimpArgs false

def repF : List AV → Option (Prop × AV)
  | [.v (.string s), .v (.int .i64 c)] => some ((0 ≤ c ∧ c ≤ 9223372036854775807 ∧ s.size * c.toNat ≤ 140737488355328), .v (.string (mkS (Lib.repeatL s.data.toList c.toNat))))
  | _ => none

theorem rep_ok : PrOk Try.prog 65 repF := ⟨enters_of (c := body Try.f65) Try.func65 rfl (by kernel_rfl), fun args p w h hp => by
  unfold repF at h
  split at h
  · rename_i s c
    cases h
    obtain ⟨k, rfl⟩ : ∃ k : Nat, c = (k : Int) := ⟨c.toNat, by have := hp.1; omega⟩
    refine (Go.Proofs.Try.strings_Repeat s k w (by have := hp.2.1; omega) hp.2.2).mono fun e w' hq => ?_
    obtain ⟨rfl, hb⟩ := hq
    exact ⟨rfl, ⟨hb.os, hb.tape, hb.output, hb.size, fun k hk _ => hb.block k hk⟩⟩
  · cases h⟩

def e2 : Tbl := (65, .pre repF) :: t2

theorem e2_ok : TblOk Try.prog e2 := ⟨rep_ok, t2_ok⟩


def lowCI : Handler := inlH tab e2 (fun _ T H => .inv Nat (fun i => ((12, .v (.int .i64 (i : Int))) :: keepT [2, 10, 11] T, turnH lowI i H)) (fun i => i ≤ lenA (T.get 10)) (fun i => lenA (T.get 10) - i)) 2 Try.f63 1

set_option maxRecDepth 100000 in
theorem lowC_ok : HOk Try.prog 63 lowCI :=
  inl_ok (tbl := e2) tab_ok e2_ok mixed (fun _ T H => .inv Nat (fun i => ((12, .v (.int .i64 (i : Int))) :: keepT [2, 10, 11] T, turnH lowI i H)) (fun i => i ≤ lenA (T.get 10)) (fun i => lenA (T.get 10) - i)) 2 _ 1 Try.func63 rfl Try.ntmps63 (by decide) (by kernel_rfl) (Nat.le_of_ble_eq_true rfl)



def repCI : Handler := inlH tab e2 noinv 2 Try.f64 2

set_option maxRecDepth 100000 in
theorem repC_ok : HOk Try.prog 64 repCI :=
  inl_ok (tbl := e2) tab_ok e2_ok mixed noinv 2 _ 2 Try.func64 rfl Try.ntmps64 (by decide) (by kernel_rfl) (Nat.le_of_ble_eq_true rfl)



def charCI : Handler := inlH tab e2 noinv 2 Try.f68 1

set_option maxRecDepth 100000 in
theorem charC_ok : HOk Try.prog 68 charCI :=
  inl_ok (tbl := e2) tab_ok e2_ok mixed noinv 2 _ 1 Try.func68 rfl Try.ntmps68 (by decide) (by kernel_rfl) (Nat.le_of_ble_eq_true rfl)



def codeCI : Handler := inlH tab e2 noinv 2 Try.f69 1

set_option maxRecDepth 100000 in
theorem codeC_ok : HOk Try.prog 69 codeCI :=
  inl_ok (tbl := e2) tab_ok e2_ok mixed noinv 2 _ 1 Try.func69 rfl Try.ntmps69 (by decide) (by kernel_rfl) (Nat.le_of_ble_eq_true rfl)


def e3 : Tbl := (63, .gen lowCI) :: (64, .gen repCI) :: (68, .gen charCI) :: (69, .gen codeCI) :: e2

theorem e3_ok : TblOk Try.prog e3 := ⟨lowC_ok, repC_ok, charC_ok, codeC_ok, e2_ok⟩

def textsE : Handler := guardH tab e3 noinv Try.f50 Try.f77 77

theorem textsE_ok : HOk Try.prog 50 textsE := guard_ok tab_ok e3_ok mixed noinv Try.func50 rfl (by kernel_rfl) Try.func77 rfl (by kernel_rfl)

def numbersE : Handler := guardH tab e3 noinv Try.f40 Try.f70 70

theorem numbersE_ok : HOk Try.prog 40 numbersE := guard_ok tab_ok e3_ok mixed noinv Try.func40 rfl (by kernel_rfl) Try.func70 rfl (by kernel_rfl)

def e4 : Tbl := (50, .gen textsE) :: (40, .gen numbersE) :: e3

theorem e4_ok : TblOk Try.prog e4 := ⟨textsE_ok, numbersE_ok, e3_ok⟩

def charO (n : Int) : Option ByteArray := if 1 ≤ n ∧ n ≤ 255 then some (mkI [n]) else none

def codeO (s : ByteArray) : Option Int := if s.size ≤ 255 ∧ 1 ≤ s.size then some (byteAt s 0) else none

def repO (s : ByteArray) (n : Int) : Option ByteArray :=
  if s.size ≤ 255 ∧ 0 ≤ n then (if s.size * n.toNat ≤ 255 then some (mkS (Lib.repeatL s.data.toList n.toNat)) else none) else none

def lowO (s : ByteArray) : Option ByteArray := if s.size ≤ 255 then some (mapB lowB s) else none


set_option maxRecDepth 100000 in
theorem lower_vc (s : ByteArray) {R : AV → Prop} (h : (∀ (n1 n2 n3 : Nat), n1 = n1 ∧ ∀ (n4 : Nat), ((0 : Int) ≤ (0 : Int) ∧ (0 : Int) < (1 : Int)) ∧ n4 = n4 ∧ br (!decide ((↑s.size : Int) ≤ (255 : Int))) (∀ (n5 : Nat), n5 = n5 ∧ n2 = n2 ∧ n3 = n3 ∧ n2 = n2 ∧ n3 = n3 ∧ R (AV.tup [AV.v (Value.string (ByteArray.mk #[])), AV.v (Value.int IntKind.i64 (2 : Int))])) (n1 = n1 ∧ ∀ (n5 n6 : Nat), s.size ≤ n6 → (∃ (x : Nat), x ≤ s.size ∧ ((AV.v (Value.int IntKind.i64 (0 : Int))).den = (AV.v (Value.int IntKind.i64 (↑x : Int))).den ∧ (AV.sl (4 : Nat) n5 (0 : Nat) (1 : Nat) s.size n6).den = (AV.sl (4 : Nat) n5 (0 : Nat) (1 : Nat) s.size n6).den ∧ (AV.sl (4 : Nat) n5 (0 : Nat) (1 : Nat) s.size n6).den = (AV.sl (4 : Nat) n5 (0 : Nat) (1 : Nat) s.size n6).den ∧ (AV.v (Value.int IntKind.i64 (↑s.size : Int))).den = (AV.v (Value.int IntKind.i64 (↑s.size : Int))).den ∧ True) ∧ LeH [Blk.mk n1 (Cont.cells [AV.v (Value.string s)] (9 : Nat)) true, Blk.mk n2 (Cont.cells [AV.v (Value.string ByteArray.empty)] (9 : Nat)) true, Blk.mk n3 (Cont.cells [AV.v (Value.int IntKind.i64 (0 : Int))] (22 : Nat)) true, Blk.mk n4 (Cont.cells [AV.v (Value.string s)] (9 : Nat)) true, Blk.mk n5 (Cont.rows n6 [Col.ints IntKind.u8 (byteAt s)] (5 : Nat)) true] [Blk.mk n1 (Cont.cells [AV.v (Value.string s)] (9 : Nat)) true, Blk.mk n2 (Cont.cells [AV.v (Value.string ByteArray.empty)] (9 : Nat)) true, Blk.mk n3 (Cont.cells [AV.v (Value.int IntKind.i64 (0 : Int))] (22 : Nat)) true, Blk.mk n4 (Cont.cells [AV.v (Value.string s)] (9 : Nat)) true, Blk.mk n5 (Cont.rows n6 [Col.ints IntKind.u8 (turn lowI (byteAt s) x)] (5 : Nat)) true]) ∧ ∀ (n8 : Nat), n8 ≤ s.size → br (decide ((↑n8 : Int) < (↑s.size : Int))) (((0 : Int) ≤ (↑n8 : Int) ∧ (↑n8 : Int) < (↑s.size : Int)) ∧ n5 = n5 ∧ (0 : Nat) + (↑n8 : Int).toNat < n6 ∧ br (decide (turn lowI (byteAt s) n8 ((0 : Nat) + (↑n8 : Int).toNat) ≥ (65 : Int))) (br (decide (turn lowI (byteAt s) n8 ((0 : Nat) + (↑n8 : Int).toNat) ≤ (90 : Int))) (((0 : Int) ≤ (↑n8 : Int) ∧ (↑n8 : Int) < (↑s.size : Int)) ∧ n5 = n5 ∧ (0 : Nat) + (↑n8 : Int).toNat < n6 ∧ ∃ (x' : Nat), x' ≤ s.size ∧ s.size - x' < s.size - n8 ∧ ((AV.v (Value.int IntKind.i64 (IntKind.i64.wrap ((↑n8 : Int) + (1 : Int))))).den = (AV.v (Value.int IntKind.i64 (↑x' : Int))).den ∧ (AV.sl (4 : Nat) n5 (0 : Nat) (1 : Nat) s.size n6).den = (AV.sl (4 : Nat) n5 (0 : Nat) (1 : Nat) s.size n6).den ∧ (AV.sl (4 : Nat) n5 (0 : Nat) (1 : Nat) s.size n6).den = (AV.sl (4 : Nat) n5 (0 : Nat) (1 : Nat) s.size n6).den ∧ (AV.v (Value.int IntKind.i64 (↑s.size : Int))).den = (AV.v (Value.int IntKind.i64 (↑s.size : Int))).den ∧ True) ∧ LeH [Blk.mk n1 (Cont.cells [AV.v (Value.string s)] (9 : Nat)) true, Blk.mk n2 (Cont.cells [AV.v (Value.string ByteArray.empty)] (9 : Nat)) true, Blk.mk n3 (Cont.cells [AV.v (Value.int IntKind.i64 (0 : Int))] (22 : Nat)) true, Blk.mk n4 (Cont.cells [AV.v (Value.string s)] (9 : Nat)) true, Blk.mk n5 (Cont.rows n6 [Col.ints IntKind.u8 (upd (turn lowI (byteAt s) n8) ((0 : Nat) + (↑n8 : Int).toNat) (ibits BinOp.or IntKind.u8 (turn lowI (byteAt s) n8 ((0 : Nat) + (↑n8 : Int).toNat)) (32 : Int)))] (5 : Nat)) true] [Blk.mk n1 (Cont.cells [AV.v (Value.string s)] (9 : Nat)) true, Blk.mk n2 (Cont.cells [AV.v (Value.string ByteArray.empty)] (9 : Nat)) true, Blk.mk n3 (Cont.cells [AV.v (Value.int IntKind.i64 (0 : Int))] (22 : Nat)) true, Blk.mk n4 (Cont.cells [AV.v (Value.string s)] (9 : Nat)) true, Blk.mk n5 (Cont.rows n6 [Col.ints IntKind.u8 (turn lowI (byteAt s) x')] (5 : Nat)) true]) (∃ (x' : Nat), x' ≤ s.size ∧ s.size - x' < s.size - n8 ∧ ((AV.v (Value.int IntKind.i64 (IntKind.i64.wrap ((↑n8 : Int) + (1 : Int))))).den = (AV.v (Value.int IntKind.i64 (↑x' : Int))).den ∧ (AV.sl (4 : Nat) n5 (0 : Nat) (1 : Nat) s.size n6).den = (AV.sl (4 : Nat) n5 (0 : Nat) (1 : Nat) s.size n6).den ∧ (AV.sl (4 : Nat) n5 (0 : Nat) (1 : Nat) s.size n6).den = (AV.sl (4 : Nat) n5 (0 : Nat) (1 : Nat) s.size n6).den ∧ (AV.v (Value.int IntKind.i64 (↑s.size : Int))).den = (AV.v (Value.int IntKind.i64 (↑s.size : Int))).den ∧ True) ∧ LeH [Blk.mk n1 (Cont.cells [AV.v (Value.string s)] (9 : Nat)) true, Blk.mk n2 (Cont.cells [AV.v (Value.string ByteArray.empty)] (9 : Nat)) true, Blk.mk n3 (Cont.cells [AV.v (Value.int IntKind.i64 (0 : Int))] (22 : Nat)) true, Blk.mk n4 (Cont.cells [AV.v (Value.string s)] (9 : Nat)) true, Blk.mk n5 (Cont.rows n6 [Col.ints IntKind.u8 (turn lowI (byteAt s) n8)] (5 : Nat)) true] [Blk.mk n1 (Cont.cells [AV.v (Value.string s)] (9 : Nat)) true, Blk.mk n2 (Cont.cells [AV.v (Value.string ByteArray.empty)] (9 : Nat)) true, Blk.mk n3 (Cont.cells [AV.v (Value.int IntKind.i64 (0 : Int))] (22 : Nat)) true, Blk.mk n4 (Cont.cells [AV.v (Value.string s)] (9 : Nat)) true, Blk.mk n5 (Cont.rows n6 [Col.ints IntKind.u8 (turn lowI (byteAt s) x')] (5 : Nat)) true])) (∃ (x' : Nat), x' ≤ s.size ∧ s.size - x' < s.size - n8 ∧ ((AV.v (Value.int IntKind.i64 (IntKind.i64.wrap ((↑n8 : Int) + (1 : Int))))).den = (AV.v (Value.int IntKind.i64 (↑x' : Int))).den ∧ (AV.sl (4 : Nat) n5 (0 : Nat) (1 : Nat) s.size n6).den = (AV.sl (4 : Nat) n5 (0 : Nat) (1 : Nat) s.size n6).den ∧ (AV.sl (4 : Nat) n5 (0 : Nat) (1 : Nat) s.size n6).den = (AV.sl (4 : Nat) n5 (0 : Nat) (1 : Nat) s.size n6).den ∧ (AV.v (Value.int IntKind.i64 (↑s.size : Int))).den = (AV.v (Value.int IntKind.i64 (↑s.size : Int))).den ∧ True) ∧ LeH [Blk.mk n1 (Cont.cells [AV.v (Value.string s)] (9 : Nat)) true, Blk.mk n2 (Cont.cells [AV.v (Value.string ByteArray.empty)] (9 : Nat)) true, Blk.mk n3 (Cont.cells [AV.v (Value.int IntKind.i64 (0 : Int))] (22 : Nat)) true, Blk.mk n4 (Cont.cells [AV.v (Value.string s)] (9 : Nat)) true, Blk.mk n5 (Cont.rows n6 [Col.ints IntKind.u8 (turn lowI (byteAt s) n8)] (5 : Nat)) true] [Blk.mk n1 (Cont.cells [AV.v (Value.string s)] (9 : Nat)) true, Blk.mk n2 (Cont.cells [AV.v (Value.string ByteArray.empty)] (9 : Nat)) true, Blk.mk n3 (Cont.cells [AV.v (Value.int IntKind.i64 (0 : Int))] (22 : Nat)) true, Blk.mk n4 (Cont.cells [AV.v (Value.string s)] (9 : Nat)) true, Blk.mk n5 (Cont.rows n6 [Col.ints IntKind.u8 (turn lowI (byteAt s) x')] (5 : Nat)) true])) (n5 = n5 ∧ (0 : Nat) + s.size ≤ n6 ∧ n2 = n2 ∧ n2 = n2 ∧ ∀ (n10 : Nat), ((0 : Int) ≤ (0 : Int) ∧ (0 : Int) < (1 : Int)) ∧ n10 = n10 ∧ br (!decide ((↑(mkI (List.map (fun (i : Nat) => turn lowI (byteAt s) n8 ((0 : Nat) + i)) (List.range s.size))).size : Int) ≤ (255 : Int))) (∀ (n11 : Nat), n11 = n11 ∧ n2 = n2 ∧ n3 = n3 ∧ n2 = n2 ∧ n3 = n3 ∧ R (AV.tup [AV.v (Value.string (ByteArray.mk #[])), AV.v (Value.int IntKind.i64 (2 : Int))])) (n2 = n2 ∧ n2 = n2 ∧ n3 = n3 ∧ n2 = n2 ∧ n3 = n3 ∧ R (AV.tup [AV.v (Value.string (mkI (List.map (fun (i : Nat) => turn lowI (byteAt s) n8 ((0 : Nat) + i)) (List.range s.size)))), AV.v (Value.int IntKind.i64 (0 : Int))])))))) : LC Try.prog 28 [.v (.string s)] [] (fun z_ _ => R z_) :=
  lc_of_exec (tbl := e4) tab_ok e4_ok mixed noinv 2 _ Try.func28 rfl Try.ntmps28 (by decide) (by kernel_rfl) (Nat.le_of_ble_eq_true rfl) (@Eq.mpr (execN tab e4 noinv 2 Try.f28.ntmps [] none 0 (body Try.f28) (argsT [.v (.string s)] 0) [] (post Try.f28 tab (retK (fun z_ _ => R z_)))) _ (by kernel_rfl) h)

set_option maxRecDepth 100000 in
theorem lower_lc (s : ByteArray) : LC Try.prog 28 [.v (.string s)] [] (fun z_ _ => z_ = .tup [.v (.string (sOf (lowO s))), .v (.int .i64 (cOf (lowO s)))]) :=
  lower_vc s (by
    intro n1 n2 n3
    simp only [true_and, and_true, br_iff, Bool.not_eq_true', Bool.not_eq_false', decide_eq_true_eq, decide_eq_false_iff_not, AV.den, Value.int.injEq]
    intro n4
    refine ⟨by decide, fun h1 n5 => by rw [show lowO s = none from if_neg (by omega)]; rfl, fun h1 n5 n6 h2 => ?_⟩
    rw [show lowO s = some _ from if_pos (by omega)]
    simp only [turn_half low_h, Nat.zero_add, Int.toNat_natCast, half_at]
    refine ⟨⟨0, by omega, rfl, leEq (by rw [half_zero])⟩, fun i hi => ⟨fun h => ?_, fun h => ?_⟩⟩
    · have nx : IntKind.i64.wrap ((i : Int) + 1) = ((i + 1 : Nat) : Int) := by rw [w64 (by omega)]; omega
      refine ⟨by omega, by omega, fun h3 => ⟨fun h4 => ⟨by omega, by omega, i + 1, by omega, by omega, nx, leEq (by rw [half_upd (by rw [low_or h3 h4, byteAt_eq, low_h])])⟩, fun h4 => ⟨i + 1, by omega, by omega, nx, leEq (by rw [half_same (by rw [byteAt_eq] at h4; rw [lowB, if_neg (by omega)])])⟩⟩, fun h3 => ⟨i + 1, by omega, by omega, nx, leEq (by rw [half_same (by rw [byteAt_eq] at h3; rw [lowB, if_neg (by omega)])])⟩⟩
    · obtain rfl : i = s.size := by omega
      have hr := half_read lowB s
      simp only [Nat.zero_add] at hr
      simp only [hr, size_mapB]
      exact ⟨h2, fun _ => ⟨by decide, fun h3 => absurd h1 h3, fun _ => rfl⟩⟩)

def lowerH : List AV → Option AV
  | [.v (.string s)] => some (.tup [.v (.string (sOf (lowO s))), .v (.int .i64 (cOf (lowO s)))])
  | _ => none

theorem lower_ok : POk Try.prog 28 lowerH := POk.of_lc (enters_of (c := body Try.f28) Try.func28 rfl (by kernel_rfl)) (by
  intro args v h
  unfold lowerH at h
  split at h
  · cases h; exact lower_lc _
  · cases h)



set_option maxRecDepth 100000 in
theorem char_vc (n : Int) {R : AV → Prop} (h : (∀ (n1 n2 n3 : Nat), n1 = n1 ∧ br (decide (n ≥ (1 : Int))) (n1 = n1 ∧ br (!decide (n ≤ (255 : Int))) (∀ (n4 : Nat), n4 = n4 ∧ n2 = n2 ∧ n3 = n3 ∧ n2 = n2 ∧ n3 = n3 ∧ R (AV.tup [AV.v (Value.string (ByteArray.mk #[])), AV.v (Value.int IntKind.i64 (2 : Int))])) (n1 = n1 ∧ ∀ (n4 : Nat), n4 = n4 ∧ n2 = n2 ∧ n2 = n2 ∧ ∀ (n5 : Nat), ((0 : Int) ≤ (0 : Int) ∧ (0 : Int) < (1 : Int)) ∧ n5 = n5 ∧ n2 = n2 ∧ n2 = n2 ∧ n3 = n3 ∧ n2 = n2 ∧ n3 = n3 ∧ R (AV.tup [AV.v (Value.string (mkI [IntKind.u8.wrap n])), AV.v (Value.int IntKind.i64 (0 : Int))]))) (∀ (n4 : Nat), n4 = n4 ∧ n2 = n2 ∧ n3 = n3 ∧ n2 = n2 ∧ n3 = n3 ∧ R (AV.tup [AV.v (Value.string (ByteArray.mk #[])), AV.v (Value.int IntKind.i64 (2 : Int))])))) : LC Try.prog 36 [.v (.int .i64 n)] [] (fun z_ _ => R z_) :=
  lc_of_exec (tbl := e4) tab_ok e4_ok mixed noinv 2 _ Try.func36 rfl Try.ntmps36 (by decide) (by kernel_rfl) (Nat.le_of_ble_eq_true rfl) (@Eq.mpr (execN tab e4 noinv 2 Try.f36.ntmps [] none 0 (body Try.f36) (argsT [.v (.int .i64 n)] 0) [] (post Try.f36 tab (retK (fun z_ _ => R z_)))) _ (by kernel_rfl) h)

set_option maxRecDepth 100000 in
theorem char_lc (n : Int) : LC Try.prog 36 [.v (.int .i64 n)] [] (fun z_ _ => z_ = .tup [.v (.string (sOf (charO n))), .v (.int .i64 (cOf (charO n)))]) :=
  char_vc n (by
    simp only [true_and, and_true, br_iff, Bool.not_eq_true', Bool.not_eq_false', decide_eq_true_eq, decide_eq_false_iff_not, ge_iff_le, gt_iff_lt, beq_iff_eq, beq_eq_false_iff_ne]
    by_cases hc : 1 ≤ n ∧ n ≤ 255
    · rw [show charO n = some _ from if_pos hc, IntWalk.u8_in _ (by omega)]
      repeat' (first | (refine ⟨?_, ?_⟩) | intro _)
      all_goals (first | trivial | omega | rfl | (exfalso; omega))
    · rw [show charO n = none from if_neg hc]
      repeat' (first | (refine ⟨?_, ?_⟩) | intro _)
      all_goals (first | trivial | omega | rfl | (exfalso; omega)))

def charH : List AV → Option AV
  | [.v (.int .i64 n)] => some (.tup [.v (.string (sOf (charO n))), .v (.int .i64 (cOf (charO n)))])
  | _ => none

theorem char_ok : POk Try.prog 36 charH := POk.of_lc (enters_of (c := body Try.f36) Try.func36 rfl (by kernel_rfl)) (by
  intro args v h
  unfold charH at h
  split at h
  · cases h; exact char_lc _
  · cases h)



set_option maxRecDepth 100000 in
theorem code_vc (s : ByteArray) {R : AV → Prop} (h : (∀ (n1 n2 n3 : Nat), n1 = n1 ∧ ∀ (n4 : Nat), ((0 : Int) ≤ (0 : Int) ∧ (0 : Int) < (1 : Int)) ∧ n4 = n4 ∧ br (!decide ((↑s.size : Int) ≤ (255 : Int))) (∀ (n5 : Nat), n5 = n5 ∧ n2 = n2 ∧ n3 = n3 ∧ n2 = n2 ∧ n3 = n3 ∧ R (AV.tup [AV.v (Value.int IntKind.i64 (0 : Int)), AV.v (Value.int IntKind.i64 (2 : Int))])) (n1 = n1 ∧ br (!!eqS s (ByteArray.mk #[])) (∀ (n5 : Nat), n5 = n5 ∧ n2 = n2 ∧ n3 = n3 ∧ n2 = n2 ∧ n3 = n3 ∧ R (AV.tup [AV.v (Value.int IntKind.i64 (0 : Int)), AV.v (Value.int IntKind.i64 (2 : Int))])) (n1 = n1 ∧ ((0 : Int) ≤ (0 : Int) ∧ (0 : Int) < (↑s.size : Int)) ∧ n2 = n2 ∧ n3 = n3 ∧ n2 = n2 ∧ n3 = n3 ∧ R (AV.tup [AV.v (Value.int IntKind.i64 (IntKind.i64.wrap (byteAt s (0 : Nat)))), AV.v (Value.int IntKind.i64 (0 : Int))]))))) : LC Try.prog 38 [.v (.string s)] [] (fun z_ _ => R z_) :=
  lc_of_exec (tbl := e4) tab_ok e4_ok mixed noinv 2 _ Try.func38 rfl Try.ntmps38 (by decide) (by kernel_rfl) (Nat.le_of_ble_eq_true rfl) (@Eq.mpr (execN tab e4 noinv 2 Try.f38.ntmps [] none 0 (body Try.f38) (argsT [.v (.string s)] 0) [] (post Try.f38 tab (retK (fun z_ _ => R z_)))) _ (by kernel_rfl) h)

set_option maxRecDepth 100000 in
theorem code_lc (s : ByteArray) : LC Try.prog 38 [.v (.string s)] [] (fun z_ _ => z_ = .tup [.v (.int .i64 (nOf (codeO s))), .v (.int .i64 (cOf (codeO s)))]) :=
  code_vc s (by
    simp only [true_and, and_true, br_iff, Bool.not_eq_true', Bool.not_eq_false', decide_eq_true_eq, decide_eq_false_iff_not, ge_iff_le, gt_iff_lt, beq_iff_eq, beq_eq_false_iff_ne, eqS_nil, eqS_nil_f, ne_eq, Bool.not_not]
    have hb := bAt_lt s 0
    by_cases hc : s.size ≤ 255 ∧ 1 ≤ s.size
    · rw [show codeO s = some _ from if_pos hc, byteAt_eq, w64 (by omega)]
      repeat' (first | (refine ⟨?_, ?_⟩) | intro _)
      all_goals (first | trivial | omega | rfl | (exfalso; omega))
    · rw [show codeO s = none from if_neg hc]
      repeat' (first | (refine ⟨?_, ?_⟩) | intro _)
      all_goals (first | trivial | omega | rfl | (exfalso; omega)))

def codeH : List AV → Option AV
  | [.v (.string s)] => some (.tup [.v (.int .i64 (nOf (codeO s))), .v (.int .i64 (cOf (codeO s)))])
  | _ => none

theorem code_ok : POk Try.prog 38 codeH := POk.of_lc (enters_of (c := body Try.f38) Try.func38 rfl (by kernel_rfl)) (by
  intro args v h
  unfold codeH at h
  split at h
  · cases h; exact code_lc _
  · cases h)



set_option maxRecDepth 100000 in
theorem repeat_vc (s : ByteArray) (n : Int) {R : AV → Prop} (h : (∀ (n1 n2 n3 n4 : Nat), n1 = n1 ∧ ∀ (n5 : Nat), ((0 : Int) ≤ (0 : Int) ∧ (0 : Int) < (1 : Int)) ∧ n5 = n5 ∧ br (!decide ((↑s.size : Int) ≤ (255 : Int))) (∀ (n6 : Nat), n6 = n6 ∧ n3 = n3 ∧ n4 = n4 ∧ n3 = n3 ∧ n4 = n4 ∧ R (AV.tup [AV.v (Value.string (ByteArray.mk #[])), AV.v (Value.int IntKind.i64 (2 : Int))])) (n2 = n2 ∧ br (!decide (n ≥ (0 : Int))) (∀ (n6 : Nat), n6 = n6 ∧ n3 = n3 ∧ n4 = n4 ∧ n3 = n3 ∧ n4 = n4 ∧ R (AV.tup [AV.v (Value.string (ByteArray.mk #[])), AV.v (Value.int IntKind.i64 (2 : Int))])) (n1 = n1 ∧ br (eqS s (ByteArray.mk #[])) (n3 = n3 ∧ n3 = n3 ∧ ∀ (n6 : Nat), ((0 : Int) ≤ (0 : Int) ∧ (0 : Int) < (1 : Int)) ∧ n6 = n6 ∧ n3 = n3 ∧ n3 = n3 ∧ n4 = n4 ∧ n3 = n3 ∧ n4 = n4 ∧ R (AV.tup [AV.v (Value.string (ByteArray.mk #[])), AV.v (Value.int IntKind.i64 (0 : Int))])) (n2 = n2 ∧ n1 = n1 ∧ (↑s.size : Int) ≠ (0 : Int) ∧ br (!decide (n ≤ IntKind.i64.wrap (Int.tdiv (255 : Int) (↑s.size : Int)))) (∀ (n6 : Nat), n6 = n6 ∧ n3 = n3 ∧ n4 = n4 ∧ n3 = n3 ∧ n4 = n4 ∧ R (AV.tup [AV.v (Value.string (ByteArray.mk #[])), AV.v (Value.int IntKind.i64 (2 : Int))])) (some (Blk.mk n1 (Cont.cells [AV.v (Value.string s)] (9 : Nat)) true) = some (Blk.mk n1 (Cont.cells [AV.v (Value.string s)] (9 : Nat)) true) ∧ some (Blk.mk n2 (Cont.cells [AV.v (Value.int IntKind.i64 n)] (3 : Nat)) true) = some (Blk.mk n2 (Cont.cells [AV.v (Value.int IntKind.i64 n)] (3 : Nat)) true) ∧ n1 = n1 ∧ n2 = n2 ∧ ((0 : Int) ≤ n ∧ n ≤ (9223372036854775807 : Int) ∧ s.size * n.toNat ≤ (140737488355328 : Nat)) ∧ n3 = n3 ∧ n3 = n3 ∧ ∀ (n6 : Nat), ((0 : Int) ≤ (0 : Int) ∧ (0 : Int) < (1 : Int)) ∧ n6 = n6 ∧ br (!decide ((↑(mkS (Lib.repeatL s.data.toList n.toNat)).size : Int) ≤ (255 : Int))) (∀ (n7 : Nat), n7 = n7 ∧ n3 = n3 ∧ n4 = n4 ∧ n3 = n3 ∧ n4 = n4 ∧ R (AV.tup [AV.v (Value.string (ByteArray.mk #[])), AV.v (Value.int IntKind.i64 (2 : Int))])) (n3 = n3 ∧ n3 = n3 ∧ n4 = n4 ∧ n3 = n3 ∧ n4 = n4 ∧ R (AV.tup [AV.v (Value.string (mkS (Lib.repeatL s.data.toList n.toNat))), AV.v (Value.int IntKind.i64 (0 : Int))])))))))) : LC Try.prog 30 [.v (.string s), .v (.int .i64 n)] [] (fun z_ _ => R z_) :=
  lc_of_exec (tbl := e4) tab_ok e4_ok mixed noinv 2 _ Try.func30 rfl Try.ntmps30 (by decide) (by kernel_rfl) (Nat.le_of_ble_eq_true rfl) (@Eq.mpr (execN tab e4 noinv 2 Try.f30.ntmps [] none 0 (body Try.f30) (argsT [.v (.string s), .v (.int .i64 n)] 0) [] (post Try.f30 tab (retK (fun z_ _ => R z_)))) _ (by kernel_rfl) h)

set_option maxRecDepth 100000 in
theorem repeat_lc (s : ByteArray) (n : Int) : LC Try.prog 30 [.v (.string s), .v (.int .i64 n)] [] (fun z_ _ => z_ = .tup [.v (.string (sOf (repO s n))), .v (.int .i64 (cOf (repO s n)))]) :=
  repeat_vc s n (by
    simp only [true_and, and_true, br_iff, Bool.not_eq_true', Bool.not_eq_false', decide_eq_true_eq, decide_eq_false_iff_not, ge_iff_le, gt_iff_lt, beq_iff_eq, beq_eq_false_iff_ne, eqS_nil, eqS_nil_f, ne_eq, Bool.not_not]
    by_cases h1 : s.size ≤ 255 ∧ 0 ≤ n
    · obtain ⟨k, rfl⟩ : ∃ k : Nat, n = (k : Int) := ⟨n.toNat, by omega⟩
      have hr : repO s k = _ := if_pos h1
      by_cases h2 : s.size = 0
      · rw [if_pos (by rw [h2]; omega), rep_nil h2] at hr
        rw [hr]
        repeat' (first | (refine ⟨?_, ?_⟩) | intro _)
        all_goals (first | trivial | omega | rfl | (exfalso; omega))
      · have hd : IntKind.i64.wrap (Int.tdiv 255 s.size) = Int.tdiv 255 s.size := by
          have : Int.tdiv 255 s.size ≤ 255 := by rw [Int.tdiv_eq_ediv_of_nonneg (by omega)]; exact Int.ediv_le_self _ (by omega)
          have : 0 ≤ Int.tdiv 255 s.size := by rw [Int.tdiv_eq_ediv_of_nonneg (by omega)]; exact Int.ediv_nonneg (by omega) (by omega)
          exact w64 (by omega)
        simp only [hd, rep_le (show 1 ≤ s.size by omega), Int.toNat_natCast, rep_size] at hr ⊢
        by_cases h3 : s.size * k ≤ 255
        · rw [if_pos h3] at hr
          rw [hr]
          have hk : k ≤ s.size * k := Nat.le_mul_of_pos_left k (by omega)
          repeat' (first | (refine ⟨?_, ?_⟩) | intro _)
          all_goals (first | trivial | omega | rfl | (exfalso; omega))
        · rw [if_neg h3] at hr
          rw [hr]
          have hk : k ≤ s.size * k := Nat.le_mul_of_pos_left k (by omega)
          repeat' (first | (refine ⟨?_, ?_⟩) | intro _)
          all_goals (first | trivial | omega | rfl | (exfalso; omega))
    · rw [show repO s n = none from if_neg h1]
      repeat' (first | (refine ⟨?_, ?_⟩) | intro _)
      all_goals (first | trivial | omega | rfl | (exfalso; omega)))

def repeatH : List AV → Option AV
  | [.v (.string s), .v (.int .i64 n)] => some (.tup [.v (.string (sOf (repO s n))), .v (.int .i64 (cOf (repO s n)))])
  | _ => none

theorem repeat_ok : POk Try.prog 30 repeatH := POk.of_lc (enters_of (c := body Try.f30) Try.func30 rfl (by kernel_rfl)) (by
  intro args v h
  unfold repeatH at h
  split at h
  · cases h; exact repeat_lc _ _
  · cases h)

def rlongI : Handler := inlH tab [] noinv 2 Try.f45 3

set_option maxRecDepth 100000 in
theorem rlong_ok : HOk Try.prog 45 rlongI :=
  inl_ok (tbl := []) tab_ok trivial mixed noinv 2 _ 3 Try.func45 rfl Try.ntmps45 (by decide) (by kernel_rfl) (Nat.le_of_ble_eq_true rfl)


def e5 : Tbl := (45, .gen rlongI) :: (53, .gen toldI) :: []

theorem e5_ok : TblOk Try.prog e5 := ⟨rlong_ok, told_ok, trivial⟩


set_option maxRecDepth 100000 in
theorem rlower_vc (s : ByteArray) {R : AV → Prop} (h : (br (decide ((↑s.size : Int) > (255 : Int))) (R (AV.tup [AV.v (Value.string (ByteArray.mk #[])), AV.v (Value.int IntKind.i64 (2 : Int))])) (∀ (n1 n2 : Nat), s.size ≤ n2 → (∃ (x : Nat), x ≤ s.size ∧ ((AV.v (Value.int IntKind.i64 (0 : Int))).den = (AV.v (Value.int IntKind.i64 (↑x : Int))).den ∧ (AV.v (Value.string s)).den = (AV.v (Value.string s)).den ∧ (AV.sl (0 : Nat) n1 (0 : Nat) (1 : Nat) s.size n2).den = (AV.sl (0 : Nat) n1 (0 : Nat) (1 : Nat) s.size n2).den ∧ True) ∧ LeH [Blk.mk n1 (Cont.rows n2 [Col.ints IntKind.u8 (byteAt s)] (5 : Nat)) true] [Blk.mk n1 (Cont.rows n2 [Col.ints IntKind.u8 (turn lowI (byteAt s) x)] (5 : Nat)) true]) ∧ ∀ (n4 : Nat), n4 ≤ s.size → br (decide ((↑n4 : Int) < (↑s.size : Int))) (((0 : Int) ≤ (↑n4 : Int) ∧ (↑n4 : Int) < (↑s.size : Int)) ∧ n1 = n1 ∧ (0 : Nat) + (↑n4 : Int).toNat < n2 ∧ br (decide (turn lowI (byteAt s) n4 ((0 : Nat) + (↑n4 : Int).toNat) ≥ (65 : Int))) (((0 : Int) ≤ (↑n4 : Int) ∧ (↑n4 : Int) < (↑s.size : Int)) ∧ n1 = n1 ∧ (0 : Nat) + (↑n4 : Int).toNat < n2 ∧ br (decide (turn lowI (byteAt s) n4 ((0 : Nat) + (↑n4 : Int).toNat) ≤ (90 : Int))) (((0 : Int) ≤ (↑n4 : Int) ∧ (↑n4 : Int) < (↑s.size : Int)) ∧ n1 = n1 ∧ (0 : Nat) + (↑n4 : Int).toNat < n2 ∧ ((0 : Int) ≤ (↑n4 : Int) ∧ (↑n4 : Int) < (↑s.size : Int)) ∧ n1 = n1 ∧ (0 : Nat) + (↑n4 : Int).toNat < n2 ∧ ∃ (x' : Nat), x' ≤ s.size ∧ s.size - x' < s.size - n4 ∧ ((AV.v (Value.int IntKind.i64 (IntKind.i64.wrap ((↑n4 : Int) + (1 : Int))))).den = (AV.v (Value.int IntKind.i64 (↑x' : Int))).den ∧ (AV.v (Value.string s)).den = (AV.v (Value.string s)).den ∧ (AV.sl (0 : Nat) n1 (0 : Nat) (1 : Nat) s.size n2).den = (AV.sl (0 : Nat) n1 (0 : Nat) (1 : Nat) s.size n2).den ∧ True) ∧ LeH [Blk.mk n1 (Cont.rows n2 [Col.ints IntKind.u8 (upd (turn lowI (byteAt s) n4) ((0 : Nat) + (↑n4 : Int).toNat) (IntKind.u8.wrap (IntKind.u8.wrap (turn lowI (byteAt s) n4 ((0 : Nat) + (↑n4 : Int).toNat) - (65 : Int)) + (97 : Int))))] (5 : Nat)) true] [Blk.mk n1 (Cont.rows n2 [Col.ints IntKind.u8 (turn lowI (byteAt s) x')] (5 : Nat)) true]) (∃ (x' : Nat), x' ≤ s.size ∧ s.size - x' < s.size - n4 ∧ ((AV.v (Value.int IntKind.i64 (IntKind.i64.wrap ((↑n4 : Int) + (1 : Int))))).den = (AV.v (Value.int IntKind.i64 (↑x' : Int))).den ∧ (AV.v (Value.string s)).den = (AV.v (Value.string s)).den ∧ (AV.sl (0 : Nat) n1 (0 : Nat) (1 : Nat) s.size n2).den = (AV.sl (0 : Nat) n1 (0 : Nat) (1 : Nat) s.size n2).den ∧ True) ∧ LeH [Blk.mk n1 (Cont.rows n2 [Col.ints IntKind.u8 (turn lowI (byteAt s) n4)] (5 : Nat)) true] [Blk.mk n1 (Cont.rows n2 [Col.ints IntKind.u8 (turn lowI (byteAt s) x')] (5 : Nat)) true])) (∃ (x' : Nat), x' ≤ s.size ∧ s.size - x' < s.size - n4 ∧ ((AV.v (Value.int IntKind.i64 (IntKind.i64.wrap ((↑n4 : Int) + (1 : Int))))).den = (AV.v (Value.int IntKind.i64 (↑x' : Int))).den ∧ (AV.v (Value.string s)).den = (AV.v (Value.string s)).den ∧ (AV.sl (0 : Nat) n1 (0 : Nat) (1 : Nat) s.size n2).den = (AV.sl (0 : Nat) n1 (0 : Nat) (1 : Nat) s.size n2).den ∧ True) ∧ LeH [Blk.mk n1 (Cont.rows n2 [Col.ints IntKind.u8 (turn lowI (byteAt s) n4)] (5 : Nat)) true] [Blk.mk n1 (Cont.rows n2 [Col.ints IntKind.u8 (turn lowI (byteAt s) x')] (5 : Nat)) true])) (n1 = n1 ∧ (0 : Nat) + s.size ≤ n2 ∧ R (AV.tup [AV.v (Value.string (mkI (List.map (fun (i : Nat) => turn lowI (byteAt s) n4 ((0 : Nat) + i)) (List.range s.size)))), AV.v (Value.int IntKind.i64 (0 : Int))]))))) : LC Try.prog 35 [.v (.string s)] [] (fun z_ _ => R z_) :=
  lc_of_exec (tbl := e5) tab_ok e5_ok mixed (fun b T H => .inv Nat (fun i => ((5, .v (.int .i64 (i : Int))) :: keepT [0, 4] T, turnH lowI i H)) (fun i => i ≤ s.size) (fun i => s.size - i)) 2 _ Try.func35 rfl Try.ntmps35 (by decide) (by kernel_rfl) (Nat.le_of_ble_eq_true rfl) (@Eq.mpr (execN tab e5 (fun b T H => .inv Nat (fun i => ((5, .v (.int .i64 (i : Int))) :: keepT [0, 4] T, turnH lowI i H)) (fun i => i ≤ s.size) (fun i => s.size - i)) 2 Try.f35.ntmps [] none 0 (body Try.f35) (argsT [.v (.string s)] 0) [] (post Try.f35 tab (retK (fun z_ _ => R z_)))) _ (by kernel_rfl) h)

set_option maxRecDepth 100000 in
theorem rlower_lc (s : ByteArray) : LC Try.prog 35 [.v (.string s)] [] (fun z_ _ => z_ = .tup [.v (.string (sOf (lowO s))), .v (.int .i64 (cOf (lowO s)))]) :=
  rlower_vc s (by
    intros
    simp only [true_and, and_true, br_iff, Bool.not_eq_true', Bool.not_eq_false', decide_eq_true_eq, decide_eq_false_iff_not, ge_iff_le, gt_iff_lt, beq_iff_eq, beq_eq_false_iff_ne, AV.den, Value.int.injEq, turn_half low_h, turn_half up_h, Nat.zero_add, Int.toNat_natCast, half_at]
    refine ⟨fun h1 => by rw [show lowO s = none from if_neg (by omega)]; rfl, fun h1 n1 n2 h2 => ?_⟩
    rw [show lowO s = some _ from if_pos (by omega)]
    refine ⟨⟨0, by omega, rfl, leEq (by rw [half_zero])⟩, fun i hi => ⟨fun h => ?_, fun h => ?_⟩⟩
    · have nx : IntKind.i64.wrap ((i : Int) + 1) = ((i + 1 : Nat) : Int) := by rw [w64 (by omega)]; omega
      have hx : ∀ h3 : 65 ≤ byteAt s i, byteAt s i ≤ 90 → IntKind.u8.wrap (IntKind.u8.wrap (byteAt s i - 65) + 97) = ((lowB (bAt s i)).toNat : Int) := fun h3 h4 => by
        rw [IntWalk.u8_in (byteAt s i - 65) (by omega), IntWalk.u8_in _ (by omega), ← low_h, ← byteAt_eq, lowI, if_pos ⟨h3, h4⟩]; omega
      refine ⟨by omega, by omega, fun h3 => ⟨by omega, by omega, fun h4 => ⟨by omega, by omega, by omega, by omega, i + 1, by omega, by omega, nx, leEq (by rw [half_upd (hx h3 h4)])⟩, fun h4 => ⟨i + 1, by omega, by omega, nx, leEq (by rw [half_same (by rw [byteAt_eq] at h4; rw [lowB, if_neg (by omega)])])⟩⟩, fun h3 => ⟨i + 1, by omega, by omega, nx, leEq (by rw [half_same (by rw [byteAt_eq] at h3; rw [lowB, if_neg (by omega)])])⟩⟩
    · obtain rfl : i = s.size := by omega
      have hr := half_read lowB s
      simp only [Nat.zero_add] at hr
      simp only [hr]
      exact ⟨h2, rfl⟩)

def rlowerH : List AV → Option AV
  | [.v (.string s)] => some (.tup [.v (.string (sOf (lowO s))), .v (.int .i64 (cOf (lowO s)))])
  | _ => none

theorem rlower_ok : POk Try.prog 35 rlowerH := POk.of_lc (enters_of (c := body Try.f35) Try.func35 rfl (by kernel_rfl)) (by
  intro args v h
  unfold rlowerH at h
  split at h
  · cases h; exact rlower_lc _
  · cases h)



set_option maxRecDepth 100000 in
theorem rchar_vc (n : Int) {R : AV → Prop} (h : (br (decide (n < (1 : Int))) (R (AV.tup [AV.v (Value.string (ByteArray.mk #[])), AV.v (Value.int IntKind.i64 (2 : Int))])) (br (decide (n > (255 : Int))) (R (AV.tup [AV.v (Value.string (ByteArray.mk #[])), AV.v (Value.int IntKind.i64 (2 : Int))])) (∀ (n1 : Nat), n1 = n1 ∧ R (AV.tup [AV.v (Value.string (mkI [IntKind.u8.wrap n])), AV.v (Value.int IntKind.i64 (0 : Int))]))))) : LC Try.prog 37 [.v (.int .i64 n)] [] (fun z_ _ => R z_) :=
  lc_of_exec (tbl := []) tab_ok trivial mixed noinv 2 _ Try.func37 rfl Try.ntmps37 (by decide) (by kernel_rfl) (Nat.le_of_ble_eq_true rfl) (@Eq.mpr (execN tab [] noinv 2 Try.f37.ntmps [] none 0 (body Try.f37) (argsT [.v (.int .i64 n)] 0) [] (post Try.f37 tab (retK (fun z_ _ => R z_)))) _ (by kernel_rfl) h)

set_option maxRecDepth 100000 in
theorem rchar_lc (n : Int) : LC Try.prog 37 [.v (.int .i64 n)] [] (fun z_ _ => z_ = .tup [.v (.string (sOf (charO n))), .v (.int .i64 (cOf (charO n)))]) :=
  rchar_vc n (by
    simp only [true_and, and_true, br_iff, Bool.not_eq_true', Bool.not_eq_false', decide_eq_true_eq, decide_eq_false_iff_not, ge_iff_le, gt_iff_lt, beq_iff_eq, beq_eq_false_iff_ne, eqS_nil, eqS_nil_f, ne_eq, Bool.not_not]
    by_cases hc : 1 ≤ n ∧ n ≤ 255
    · rw [show charO n = some _ from if_pos hc, IntWalk.u8_in _ (by omega)]
      repeat' (first | (refine ⟨?_, ?_⟩) | intro _)
      all_goals (first | trivial | omega | rfl | (exfalso; omega))
    · rw [show charO n = none from if_neg hc]
      repeat' (first | (refine ⟨?_, ?_⟩) | intro _)
      all_goals (first | trivial | omega | rfl | (exfalso; omega)))

def rcharH : List AV → Option AV
  | [.v (.int .i64 n)] => some (.tup [.v (.string (sOf (charO n))), .v (.int .i64 (cOf (charO n)))])
  | _ => none

theorem rchar_ok : POk Try.prog 37 rcharH := POk.of_lc (enters_of (c := body Try.f37) Try.func37 rfl (by kernel_rfl)) (by
  intro args v h
  unfold rcharH at h
  split at h
  · cases h; exact rchar_lc _
  · cases h)



set_option maxRecDepth 100000 in
theorem rcode_vc (s : ByteArray) {R : AV → Prop} (h : (br (decide ((↑s.size : Int) > (255 : Int))) (R (AV.tup [AV.v (Value.int IntKind.i64 (0 : Int)), AV.v (Value.int IntKind.i64 (2 : Int))])) (br (eqS s (ByteArray.mk #[])) (R (AV.tup [AV.v (Value.int IntKind.i64 (0 : Int)), AV.v (Value.int IntKind.i64 (2 : Int))])) (((0 : Int) ≤ (0 : Int) ∧ (0 : Int) < (↑s.size : Int)) ∧ R (AV.tup [AV.v (Value.int IntKind.i64 (IntKind.i64.wrap (byteAt s (0 : Nat)))), AV.v (Value.int IntKind.i64 (0 : Int))]))))) : LC Try.prog 39 [.v (.string s)] [] (fun z_ _ => R z_) :=
  lc_of_exec (tbl := e5) tab_ok e5_ok mixed noinv 2 _ Try.func39 rfl Try.ntmps39 (by decide) (by kernel_rfl) (Nat.le_of_ble_eq_true rfl) (@Eq.mpr (execN tab e5 noinv 2 Try.f39.ntmps [] none 0 (body Try.f39) (argsT [.v (.string s)] 0) [] (post Try.f39 tab (retK (fun z_ _ => R z_)))) _ (by kernel_rfl) h)

set_option maxRecDepth 100000 in
theorem rcode_lc (s : ByteArray) : LC Try.prog 39 [.v (.string s)] [] (fun z_ _ => z_ = .tup [.v (.int .i64 (nOf (codeO s))), .v (.int .i64 (cOf (codeO s)))]) :=
  rcode_vc s (by
    simp only [true_and, and_true, br_iff, Bool.not_eq_true', Bool.not_eq_false', decide_eq_true_eq, decide_eq_false_iff_not, ge_iff_le, gt_iff_lt, beq_iff_eq, beq_eq_false_iff_ne, eqS_nil, eqS_nil_f, ne_eq, Bool.not_not]
    have hb := bAt_lt s 0
    by_cases hc : s.size ≤ 255 ∧ 1 ≤ s.size
    · rw [show codeO s = some _ from if_pos hc, byteAt_eq, w64 (by omega)]
      repeat' (first | (refine ⟨?_, ?_⟩) | intro _)
      all_goals (first | trivial | omega | rfl | (exfalso; omega))
    · rw [show codeO s = none from if_neg hc]
      repeat' (first | (refine ⟨?_, ?_⟩) | intro _)
      all_goals (first | trivial | omega | rfl | (exfalso; omega)))

def rcodeH : List AV → Option AV
  | [.v (.string s)] => some (.tup [.v (.int .i64 (nOf (codeO s))), .v (.int .i64 (cOf (codeO s)))])
  | _ => none

theorem rcode_ok : POk Try.prog 39 rcodeH := POk.of_lc (enters_of (c := body Try.f39) Try.func39 rfl (by kernel_rfl)) (by
  intro args v h
  unfold rcodeH at h
  split at h
  · cases h; exact rcode_lc _
  · cases h)



set_option maxRecDepth 100000 in
theorem rrep_vc (s : ByteArray) (n : Int) {R : AV → Prop} (h : (br (decide ((↑s.size : Int) > (255 : Int))) (R (AV.tup [AV.v (Value.string (ByteArray.mk #[])), AV.v (Value.int IntKind.i64 (2 : Int))])) (br (decide (n < (0 : Int))) (R (AV.tup [AV.v (Value.string (ByteArray.mk #[])), AV.v (Value.int IntKind.i64 (2 : Int))])) ((∃ (x : Nat), (s.size * x ≤ (255 : Nat) ∧ ((↑x : Int) ≤ n ∨ x = (0 : Nat))) ∧ ((AV.v (Value.int IntKind.i64 (0 : Int))).den = (AV.v (Value.int IntKind.i64 (↑x : Int))).den ∧ (AV.v (Value.string (ByteArray.mk #[]))).den = (AV.v (Value.string (mkS (Lib.repeatL s.data.toList x)))).den ∧ (AV.v (Value.string s)).den = (AV.v (Value.string s)).den ∧ (AV.v (Value.int IntKind.i64 n)).den = (AV.v (Value.int IntKind.i64 n)).den ∧ True) ∧ LeH [] []) ∧ ∀ (n1 : Nat), s.size * n1 ≤ (255 : Nat) ∧ ((↑n1 : Int) ≤ n ∨ n1 = (0 : Nat)) → br (decide ((↑n1 : Int) < n)) (br (!eqS s (ByteArray.mk #[])) ((mkS (Lib.repeatL s.data.toList n1)).size + s.size ≤ (9223372036854775807 : Nat) ∧ br (decide ((↑(catS (mkS (Lib.repeatL s.data.toList n1)) s).size : Int) > (255 : Int))) (R (AV.tup [AV.v (Value.string (ByteArray.mk #[])), AV.v (Value.int IntKind.i64 (2 : Int))])) (∃ (x' : Nat), (s.size * x' ≤ (255 : Nat) ∧ ((↑x' : Int) ≤ n ∨ x' = (0 : Nat))) ∧ n.toNat - x' < n.toNat - n1 ∧ ((AV.v (Value.int IntKind.i64 (IntKind.i64.wrap ((↑n1 : Int) + (1 : Int))))).den = (AV.v (Value.int IntKind.i64 (↑x' : Int))).den ∧ (AV.v (Value.string (catS (mkS (Lib.repeatL s.data.toList n1)) s))).den = (AV.v (Value.string (mkS (Lib.repeatL s.data.toList x')))).den ∧ (AV.v (Value.string s)).den = (AV.v (Value.string s)).den ∧ (AV.v (Value.int IntKind.i64 n)).den = (AV.v (Value.int IntKind.i64 n)).den ∧ True) ∧ LeH [] [])) (R (AV.tup [AV.v (Value.string (mkS (Lib.repeatL s.data.toList n1))), AV.v (Value.int IntKind.i64 (0 : Int))]))) (R (AV.tup [AV.v (Value.string (mkS (Lib.repeatL s.data.toList n1))), AV.v (Value.int IntKind.i64 (0 : Int))])))))) : LC Try.prog 32 [.v (.string s), .v (.int .i64 n)] [] (fun z_ _ => R z_) :=
  lc_of_exec (tbl := e5) tab_ok e5_ok mixed (fun _ T H => .inv Nat (fun i => ((7, .v (.int .i64 (i : Int))) :: (6, .v (.string (mkS (Lib.repeatL s.data.toList i)))) :: keepT [0, 1] T, H)) (fun i => s.size * i ≤ 255 ∧ ((i : Int) ≤ n ∨ i = 0)) (fun i => n.toNat - i)) 2 _ Try.func32 rfl Try.ntmps32 (by decide) (by kernel_rfl) (Nat.le_of_ble_eq_true rfl) (@Eq.mpr (execN tab e5 (fun _ T H => .inv Nat (fun i => ((7, .v (.int .i64 (i : Int))) :: (6, .v (.string (mkS (Lib.repeatL s.data.toList i)))) :: keepT [0, 1] T, H)) (fun i => s.size * i ≤ 255 ∧ ((i : Int) ≤ n ∨ i = 0)) (fun i => n.toNat - i)) 2 Try.f32.ntmps [] none 0 (body Try.f32) (argsT [.v (.string s), .v (.int .i64 n)] 0) [] (post Try.f32 tab (retK (fun z_ _ => R z_)))) _ (by kernel_rfl) h)

set_option maxRecDepth 100000 in
theorem rrep_lc (s : ByteArray) (n : Int) (hq : n ≤ 9223372036854775807) : LC Try.prog 32 [.v (.string s), .v (.int .i64 n)] [] (fun z_ _ => z_ = .tup [.v (.string (sOf (repO s n))), .v (.int .i64 (cOf (repO s n)))]) :=
  rrep_vc s n (by
    simp only [true_and, and_true, br_iff, Bool.not_eq_true', Bool.not_eq_false', decide_eq_true_eq, decide_eq_false_iff_not, ge_iff_le, gt_iff_lt, beq_iff_eq, beq_eq_false_iff_ne, AV.den, Value.int.injEq, turn_half low_h, turn_half up_h, Nat.zero_add, Int.toNat_natCast, half_at, eqS_nil, eqS_nil_f]
    have no : ¬(s.size ≤ 255 ∧ 0 ≤ n) → repO s n = none := fun h => if_neg h
    refine ⟨fun h => by rw [no (by omega)]; rfl, fun h1 => ⟨fun h => by rw [no (by omega)]; rfl, fun h2 => ⟨⟨0, ⟨by omega, .inr rfl⟩, ⟨rfl, rfl⟩, LeH.refl _⟩, fun i hi => ?_⟩⟩⟩
    obtain ⟨k, rfl⟩ : ∃ k : Nat, n = (k : Int) := ⟨n.toNat, by omega⟩
    have hr : repO s k = _ := if_pos ⟨by omega, by omega⟩
    simp only [Int.toNat_natCast] at hr ⊢
    refine ⟨fun h3 => ⟨fun h4 => ?_, fun h4 => ?_⟩, fun h3 => ?_⟩
    · simp only [rep_succ, rep_size]
      have hm := Nat.mul_le_mul_left s.size (show i + 1 ≤ k by omega)
      refine ⟨by omega, fun h5 => ?_, fun h5 => ⟨i + 1, ⟨by omega, .inl (by omega)⟩, by omega, ⟨by rw [w64 (by omega)]; omega, rfl⟩, LeH.refl _⟩⟩
      rw [if_neg (by omega)] at hr
      rw [hr]; rfl
    · rw [h4, Nat.zero_mul, if_pos (by omega), rep_nil h4] at hr
      rw [hr, rep_nil h4]; rfl
    · obtain rfl : i = k := by omega
      rw [if_pos hi.1] at hr
      rw [hr]; rfl)

def rrepH : List AV → Option (Prop × AV)
  | [.v (.string s), .v (.int .i64 n)] => some (n ≤ 9223372036854775807, .tup [.v (.string (sOf (repO s n))), .v (.int .i64 (cOf (repO s n)))])
  | _ => none

theorem rrep_ok : PrOk Try.prog 32 rrepH := PrOk.of_lc (enters_of (c := body Try.f32) Try.func32 rfl (by kernel_rfl)) (by
  intro args p h hp
  unfold rrepH at h
  split at h
  · cases h; exact rrep_lc _ _ hp
  · cases h)



set_option maxRecDepth 100000 in
theorem fold_vc (s : ByteArray) {R : AV → Prop} (h : (∀ (n1 n2 : Nat), s.size ≤ n2 → ∀ (n4 : Nat), (∃ (x : Nat), x ≤ s.size ∧ ((AV.v (Value.string s)).den = (AV.v (Value.string s)).den ∧ (AV.sl (0 : Nat) n1 (0 : Nat) (1 : Nat) s.size n2).den = (AV.sl (0 : Nat) n1 (0 : Nat) (1 : Nat) s.size n2).den ∧ (AV.ptr (1 : Nat) n4 (0 : Nat)).den = (AV.ptr (1 : Nat) n4 (0 : Nat)).den ∧ True) ∧ LeH [Blk.mk n1 (Cont.rows n2 [Col.ints IntKind.u8 (byteAt s)] (5 : Nat)) true, Blk.mk n4 (Cont.iters s (0 : Nat)) true] [Blk.mk n1 (Cont.rows n2 [Col.ints IntKind.u8 (turn upI (byteAt s) x)] (5 : Nat)) true, Blk.mk n4 (Cont.iters s x) true]) ∧ ∀ (n5 : Nat), n5 ≤ s.size → n4 = n4 ∧ br (n5.blt s.size) (br (decide ((↑(Utf8.decode s n5).fst : Int) ≥ (97 : Int))) (br (decide ((↑(Utf8.decode s n5).fst : Int) ≤ (122 : Int))) (((0 : Int) ≤ (↑n5 : Int) ∧ (↑n5 : Int) < (↑s.size : Int)) ∧ n1 = n1 ∧ (0 : Nat) + (↑n5 : Int).toNat < n2 ∧ ((0 : Int) ≤ (↑n5 : Int) ∧ (↑n5 : Int) < (↑s.size : Int)) ∧ n1 = n1 ∧ (0 : Nat) + (↑n5 : Int).toNat < n2 ∧ ∃ (x' : Nat), x' ≤ s.size ∧ s.size - x' < s.size - n5 ∧ ((AV.v (Value.string s)).den = (AV.v (Value.string s)).den ∧ (AV.sl (0 : Nat) n1 (0 : Nat) (1 : Nat) s.size n2).den = (AV.sl (0 : Nat) n1 (0 : Nat) (1 : Nat) s.size n2).den ∧ (AV.ptr (1 : Nat) n4 (0 : Nat)).den = (AV.ptr (1 : Nat) n4 (0 : Nat)).den ∧ True) ∧ LeH [Blk.mk n1 (Cont.rows n2 [Col.ints IntKind.u8 (upd (turn upI (byteAt s) n5) ((0 : Nat) + (↑n5 : Int).toNat) (IntKind.u8.wrap (turn upI (byteAt s) n5 ((0 : Nat) + (↑n5 : Int).toNat) - (32 : Int))))] (5 : Nat)) true, Blk.mk n4 (Cont.iters s (n5 + (Utf8.decode s n5).snd)) true] [Blk.mk n1 (Cont.rows n2 [Col.ints IntKind.u8 (turn upI (byteAt s) x')] (5 : Nat)) true, Blk.mk n4 (Cont.iters s x') true]) (∃ (x' : Nat), x' ≤ s.size ∧ s.size - x' < s.size - n5 ∧ ((AV.v (Value.string s)).den = (AV.v (Value.string s)).den ∧ (AV.sl (0 : Nat) n1 (0 : Nat) (1 : Nat) s.size n2).den = (AV.sl (0 : Nat) n1 (0 : Nat) (1 : Nat) s.size n2).den ∧ (AV.ptr (1 : Nat) n4 (0 : Nat)).den = (AV.ptr (1 : Nat) n4 (0 : Nat)).den ∧ True) ∧ LeH [Blk.mk n1 (Cont.rows n2 [Col.ints IntKind.u8 (turn upI (byteAt s) n5)] (5 : Nat)) true, Blk.mk n4 (Cont.iters s (n5 + (Utf8.decode s n5).snd)) true] [Blk.mk n1 (Cont.rows n2 [Col.ints IntKind.u8 (turn upI (byteAt s) x')] (5 : Nat)) true, Blk.mk n4 (Cont.iters s x') true])) (∃ (x' : Nat), x' ≤ s.size ∧ s.size - x' < s.size - n5 ∧ ((AV.v (Value.string s)).den = (AV.v (Value.string s)).den ∧ (AV.sl (0 : Nat) n1 (0 : Nat) (1 : Nat) s.size n2).den = (AV.sl (0 : Nat) n1 (0 : Nat) (1 : Nat) s.size n2).den ∧ (AV.ptr (1 : Nat) n4 (0 : Nat)).den = (AV.ptr (1 : Nat) n4 (0 : Nat)).den ∧ True) ∧ LeH [Blk.mk n1 (Cont.rows n2 [Col.ints IntKind.u8 (turn upI (byteAt s) n5)] (5 : Nat)) true, Blk.mk n4 (Cont.iters s (n5 + (Utf8.decode s n5).snd)) true] [Blk.mk n1 (Cont.rows n2 [Col.ints IntKind.u8 (turn upI (byteAt s) x')] (5 : Nat)) true, Blk.mk n4 (Cont.iters s x') true])) (n1 = n1 ∧ (0 : Nat) + s.size ≤ n2 ∧ R (AV.v (Value.string (mkI (List.map (fun (i : Nat) => turn upI (byteAt s) n5 ((0 : Nat) + i)) (List.range s.size)))))))) : LC Try.prog 29 [.v (.string s)] [] (fun z_ _ => R z_) :=
  lc_of_exec (tbl := []) tab_ok trivial mixed (fun _ T H => .inv Nat (fun i => (keepT [0, 3, 9] T, strH i (turnH2 upI i H))) (fun i => i ≤ s.size) (fun i => s.size - i)) 2 _ Try.func29 rfl Try.ntmps29 (by decide) (by kernel_rfl) (Nat.le_of_ble_eq_true rfl) (@Eq.mpr (execN tab [] (fun _ T H => .inv Nat (fun i => (keepT [0, 3, 9] T, strH i (turnH2 upI i H))) (fun i => i ≤ s.size) (fun i => s.size - i)) 2 Try.f29.ntmps [] none 0 (body Try.f29) (argsT [.v (.string s)] 0) [] (post Try.f29 tab (retK (fun z_ _ => R z_)))) _ (by kernel_rfl) h)

set_option maxRecDepth 100000 in
theorem fold_lc (s : ByteArray) : LC Try.prog 29 [.v (.string s)] [] (fun z_ _ => z_ = .v (.string (mapB upB s))) :=
  fold_vc s (by
    intro n1 n2 h2 n4
    simp only [true_and, and_true, br_iff, Bool.not_eq_true', Bool.not_eq_false', decide_eq_true_eq, decide_eq_false_iff_not, ge_iff_le, gt_iff_lt, beq_iff_eq, beq_eq_false_iff_ne, AV.den, Value.int.injEq, turn_half low_h, turn_half up_h, Nat.zero_add, Int.toNat_natCast, half_at, blt_t, blt_f]
    refine ⟨⟨0, by omega, leEq (by rw [half_zero])⟩, fun i hi => ⟨fun h => ?_, fun h => ?_⟩⟩
    · by_cases hb : (bAt s i).toNat < 128
      · rw [decode_lo hb]
        refine ⟨fun h3 => ⟨fun h4 => ⟨by omega, by omega, by omega, by omega, i + 1, by omega, by omega, leEq (by rw [half_upd (by rw [byteAt_eq, IntWalk.u8_in _ (by omega), ← up_h, upI, if_pos ⟨h3, h4⟩])])⟩, fun h4 => ⟨i + 1, by omega, by omega, leEq (by rw [half_same (by rw [upB, if_neg (by omega)])])⟩⟩, fun h3 => ⟨i + 1, by omega, by omega, leEq (by rw [half_same (by rw [upB, if_neg (by omega)])])⟩⟩
      · obtain ⟨d1, d2, d3, d4⟩ := decode_hi h (by omega)
        have hs := half_skip (f := upB) (s := s) (i := i) (j := i + (Utf8.decode s i).2) (by omega) (fun q q1 q2 => up_not (d4 q q1 q2))
        exact ⟨fun h3 => ⟨fun h4 => absurd h4 (by omega), fun h4 => ⟨_, d3, by omega, leEq (by rw [hs])⟩⟩, fun h3 => absurd h3 (by omega)⟩
    · obtain rfl : i = s.size := by omega
      have hr := half_read upB s
      simp only [Nat.zero_add] at hr
      simp only [hr]
      exact ⟨h2, trivial⟩)

def foldH : List AV → Option AV
  | [.v (.string s)] => some (.v (.string (mapB upB s)))
  | _ => none

theorem fold_ok : POk Try.prog 29 foldH := POk.of_lc (enters_of (c := body Try.f29) Try.func29 rfl (by kernel_rfl)) (by
  intro args v h
  unfold foldH at h
  split at h
  · cases h; exact fold_lc _
  · cases h)

end Go.Proofs.Ytgafgejkijbmpaa

