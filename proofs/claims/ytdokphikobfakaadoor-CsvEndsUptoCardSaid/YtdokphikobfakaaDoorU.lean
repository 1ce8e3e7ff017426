/- Csv: a plain field is read, a row ends: their conditions. -/
import Derived.Test.YtdokphikobfakaaDoorS
import Derived.Test.YtdokphikobfakaaDoorF
namespace Go.Sp
open Go.Eng Go.Proofs.YtdokphikobfakaaDoor

/-- What is no sign and no parting byte. -/
def plainB (c b : UInt8) : Bool := !(b == c) && !(b == 34 || b == 13 || b == 10)

/-- A plain field from there. -/
noncomputable def pR (s : ByteArray) (pos : Nat) (c : UInt8) : FR :=
  let t := (s.data.toList.drop pos).takeWhile (plainB c)
  if (s.data.toList.drop (pos + t.length)).head? = some 34 then ⟨ByteArray.mk #[], pos + t.length, ((pos + t.length : Nat) : Int)⟩ else ⟨mkS t, pos + t.length, -1⟩

end Go.Sp
namespace Go.Eng
open Go.Sp Go.Proofs.YtdokphikobfakaaDoor

def ifnJ (s : ByteArray) : Nat → TT → HH → LI := fun _ T H =>
  .inv Nat (fun i => (keepT [0, 1, 2, 10] T, strH i H)) (fun i => i ≤ s.size ∧ ∀ q, q < i → ¬ isSign (bAt s q)) (fun i => s.size - i)

/-- Which sign stands first. -/
def ifnF : List AV → Option AV
  | [.v (.string s), .fn (.func 45) [] [], .v (.bool true)] => some (.v (.int .i64 (Lib.indexAny s.data.toList [34, 13, 10])))
  | _ => none

end Go.Eng
namespace Go.Proofs.YtdokphikobfakaaDoor
open Go Go.Eng Go.Sp
set_option linter.unusedVariables false
set_option linter.unusedSimpArgs false


def c45I : Handler := inlH tab [] noinv 2 Tryd.f45 1

set_option maxRecDepth 100000 in
theorem c45_ok : HOk Tryd.prog 45 c45I :=
  inl_ok (tbl := []) tab_ok trivial mixed noinv 2 _ 1 Tryd.func45 rfl Tryd.ntmps45 (by decide) (by kernel_rfl) (Nat.le_of_ble_eq_true rfl)


def tu : Tbl := (45, .gen c45I) :: []

theorem tu_ok : TblOk Tryd.prog tu := ⟨c45_ok, trivial⟩


set_option maxRecDepth 100000 in
theorem ifn_vc (s : ByteArray) {R : AV → Prop} (h : (∀ (n1 : Nat), (∃ (x : Nat), (x ≤ s.size ∧ ∀ (q : Nat), q < x → ¬isSign (bAt s q)) ∧ ((AV.v (Value.string s)).den = (AV.v (Value.string s)).den ∧ (AV.fn (Fn.func (45 : FuncId)) [] []).den = (AV.fn (Fn.func (45 : FuncId)) [] []).den ∧ (AV.v (Value.bool true)).den = (AV.v (Value.bool true)).den ∧ (AV.ptr (0 : Nat) n1 (0 : Nat)).den = (AV.ptr (0 : Nat) n1 (0 : Nat)).den ∧ True) ∧ LeH [Blk.mk n1 (Cont.iters s (0 : Nat)) true] [Blk.mk n1 (Cont.iters s x) true]) ∧ ∀ (n2 : Nat), (n2 ≤ s.size ∧ ∀ (q : Nat), q < n2 → ¬isSign (bAt s q)) → n1 = n1 ∧ br (n2.blt s.size) (br ((↑(Utf8.decode s n2).fst : Int) == (10 : Int)) (R (AV.v (Value.int IntKind.i64 (↑n2 : Int)))) (br ((↑(Utf8.decode s n2).fst : Int) == (13 : Int)) (R (AV.v (Value.int IntKind.i64 (↑n2 : Int)))) (br (((↑(Utf8.decode s n2).fst : Int) == (34 : Int)) == true) (R (AV.v (Value.int IntKind.i64 (↑n2 : Int)))) (∃ (x' : Nat), (x' ≤ s.size ∧ ∀ (q : Nat), q < x' → ¬isSign (bAt s q)) ∧ s.size - x' < s.size - n2 ∧ ((AV.v (Value.string s)).den = (AV.v (Value.string s)).den ∧ (AV.fn (Fn.func (45 : FuncId)) [] []).den = (AV.fn (Fn.func (45 : FuncId)) [] []).den ∧ (AV.v (Value.bool true)).den = (AV.v (Value.bool true)).den ∧ (AV.ptr (0 : Nat) n1 (0 : Nat)).den = (AV.ptr (0 : Nat) n1 (0 : Nat)).den ∧ True) ∧ LeH [Blk.mk n1 (Cont.iters s (n2 + (Utf8.decode s n2).snd)) true] [Blk.mk n1 (Cont.iters s x') true])))) (R (AV.v (Value.int IntKind.i64 (-1 : Int)))))) : LC Tryd.prog 58 [.v (.string s), .fn (.func 45) [] [], .v (.bool true)] [] (fun z_ _ => R z_) :=
  lc_of_exec (tbl := tu) tab_ok tu_ok mixed ((ifnJ s)) 2 _ Tryd.func58 rfl Tryd.ntmps58 (by decide) (by kernel_rfl) (Nat.le_of_ble_eq_true rfl) (@Eq.mpr (execN tab tu ((ifnJ s)) 2 Tryd.f58.ntmps [] none 0 (body Tryd.f58) (argsT [.v (.string s), .fn (.func 45) [] [], .v (.bool true)] 0) [] (post Tryd.f58 tab (retK (fun z_ _ => R z_)))) _ (by kernel_rfl) h)


theorem ifn_lc (s : ByteArray) : LC Tryd.prog 58 [.v (.string s), .fn (.func 45) [] [], .v (.bool true)] [] (fun z _ => z = .v (.int .i64 (Lib.indexAny s.data.toList [34, 13, 10]))) :=
  ifn_vc s (by
    intro n1
    simp only [true_and, and_true]
    refine ⟨⟨0, ⟨Nat.zero_le _, fun q hq => absurd hq (Nat.not_lt_zero _)⟩, LeH.refl _⟩, fun i hi => ?_⟩
    obtain ⟨h1, h2⟩ := hi
    refine br_intro (fun hlt => ?_) (fun hge => ?_)
    · have hlt : i < s.size := by rw [Nat.blt_eq] at hlt; exact hlt
      have hb : s.data.toList[i]? = some (bAt s i) := by
        rw [bAt, List.getElem?_eq_getElem (by rw [size_data]; exact hlt)]; rfl
      have yes : isSign (bAt s i) → AV.v (Value.int .i64 (i : Int)) = .v (.int .i64 (Lib.indexAny s.data.toList [34, 13, 10])) := fun hs => by
        rw [Lib.indexAny_hit (noAny_of h2) hb (sign_mem.2 hs)]
      rcases Nat.lt_or_ge (bAt s i).toNat 128 with hb1 | hb1
      · rw [decode_lo hb1]
        have by_ : ∀ {k : Nat}, k < 256 → (((bAt s i).toNat : Int) == (k : Int)) = true → bAt s i = k.toUInt8 := fun {k} hk h => by
          have : ((bAt s i).toNat : Int) = (k : Int) := by simpa using h
          apply UInt8.toNat.inj
          show (bAt s i).toNat = _
          simp; omega
        refine br_intro (fun h => yes (.inr (.inr (by_ (k := 10) (by decide) h)))) (fun g1 => br_intro (fun h => yes (.inr (.inl (by_ (k := 13) (by decide) h)))) (fun g2 => br_intro (fun h => yes (.inl (by_ (k := 34) (by decide) (by simpa using h)))) (fun g3 => ?_)))
        have hs : ¬ isSign (bAt s i) := by
          rintro (e | e | e)
          · rw [e] at g3; simp at g3
          · rw [e] at g2; simp at g2
          · rw [e] at g1; simp at g1
        refine ⟨i + 1, ⟨hlt, fun q hq => ?_⟩, by omega, LeH.refl _⟩
        rcases Nat.lt_or_ge q i with h3 | h3
        · exact h2 q h3
        · obtain rfl : q = i := by omega
          exact hs
      · obtain ⟨d1, d2, d3, d4⟩ := decode_hi hlt hb1
        refine br_intro (fun h => ?_) (fun _ => br_intro (fun h => ?_) (fun _ => br_intro (fun h => ?_) (fun _ => ⟨i + (Utf8.decode s i).2, ⟨d3, fun q hq => ?_⟩, by omega, LeH.refl _⟩)))
        · simp at h; omega
        · simp at h; omega
        · simp at h; omega
        · rcases Nat.lt_or_ge q i with h3 | h3
          · exact h2 q h3
          · have := d4 q h3 hq
            rintro (e | e | e) <;> rw [e] at this <;> exact absurd this (by decide)
    · have hge : ¬ i < s.size := by rw [← Bool.not_eq_true, Nat.blt_eq] at hge; exact hge
      obtain rfl : i = s.size := by omega
      have := noAny_of h2
      rw [← size_data] at this
      rw [Lib.indexAny_none this])

theorem ifn_ok : POk Tryd.prog 58 ifnF := POk.of_lc (enters_of (c := body Tryd.f58) Tryd.func58 rfl (by kernel_rfl)) fun args v h => by
  unfold ifnF at h
  split at h
  · rename_i s
    cases h
    exact ifn_lc s
  · cases h

def tu1 : Tbl := (58, .pure ifnF) :: []

theorem tu1_ok : TblOk Tryd.prog tu1 := ⟨ifn_ok, trivial⟩


def c46I : Handler := inlH tab tu1 noinv 2 Tryd.f46 2

set_option maxRecDepth 100000 in
theorem c46_ok : HOk Tryd.prog 46 c46I :=
  inl_ok (tbl := tu1) tab_ok tu1_ok mixed noinv 2 _ 2 Tryd.func46 rfl Tryd.ntmps46 (by decide) (by kernel_rfl) (Nat.le_of_ble_eq_true rfl)


def tu2 : Tbl := (46, .gen c46I) :: (28, .pure byteF) :: (32, .pure preF) :: (35, .gen c35I) :: []

theorem tu2_ok : TblOk Tryd.prog tu2 := ⟨c46_ok, byte_ok, pre_ok, c35_ok, trivial⟩


set_option maxRecDepth 100000 in
theorem pla0_vc (n : Nat) (s : ByteArray) (pos : Nat) (c : Int) {R : AV → HH → Prop} (h : (n = n ∧ n = n ∧ ((0 : Int) ≤ (↑pos : Int) ∧ (↑pos : Int) ≤ (↑s.size : Int)) ∧ s.size ≤ s.size ∧ n = n ∧ br (decide (Lib.indexByte (subS s (↑pos : Int).toNat s.size).data.toList c.toNat.toUInt8 ≥ (0 : Int))) (((0 : Int) ≤ Lib.indexByte (subS s (↑pos : Int).toNat s.size).data.toList c.toNat.toUInt8 ∧ Lib.indexByte (subS s (↑pos : Int).toNat s.size).data.toList c.toNat.toUInt8 ≤ (↑(subS s (↑pos : Int).toNat s.size).size : Int)) ∧ br (decide (Lib.indexAny (subS (subS s (↑pos : Int).toNat s.size) (0 : Nat) (Lib.indexByte (subS s (↑pos : Int).toNat s.size).data.toList c.toNat.toUInt8).toNat).data.toList [(34 : UInt8), (13 : UInt8), (10 : UInt8)] ≥ (0 : Int))) (((0 : Int) ≤ Lib.indexAny (subS (subS s (↑pos : Int).toNat s.size) (0 : Nat) (Lib.indexByte (subS s (↑pos : Int).toNat s.size).data.toList c.toNat.toUInt8).toNat).data.toList [(34 : UInt8), (13 : UInt8), (10 : UInt8)] ∧ Lib.indexAny (subS (subS s (↑pos : Int).toNat s.size) (0 : Nat) (Lib.indexByte (subS s (↑pos : Int).toNat s.size).data.toList c.toNat.toUInt8).toNat).data.toList [(34 : UInt8), (13 : UInt8), (10 : UInt8)] ≤ (↑(subS (subS s (↑pos : Int).toNat s.size) (0 : Nat) (Lib.indexByte (subS s (↑pos : Int).toNat s.size).data.toList c.toNat.toUInt8).toNat).size : Int)) ∧ n = n ∧ n = n ∧ n = n ∧ n = n ∧ ((0 : Int) ≤ IntKind.i64.wrap ((↑pos : Int) + (↑(subS (subS (subS s (↑pos : Int).toNat s.size) (0 : Nat) (Lib.indexByte (subS s (↑pos : Int).toNat s.size).data.toList c.toNat.toUInt8).toNat) (0 : Nat) (Lib.indexAny (subS (subS s (↑pos : Int).toNat s.size) (0 : Nat) (Lib.indexByte (subS s (↑pos : Int).toNat s.size).data.toList c.toNat.toUInt8).toNat).data.toList [(34 : UInt8), (13 : UInt8), (10 : UInt8)]).toNat).size : Int)) ∧ IntKind.i64.wrap ((↑pos : Int) + (↑(subS (subS (subS s (↑pos : Int).toNat s.size) (0 : Nat) (Lib.indexByte (subS s (↑pos : Int).toNat s.size).data.toList c.toNat.toUInt8).toNat) (0 : Nat) (Lib.indexAny (subS (subS s (↑pos : Int).toNat s.size) (0 : Nat) (Lib.indexByte (subS s (↑pos : Int).toNat s.size).data.toList c.toNat.toUInt8).toNat).data.toList [(34 : UInt8), (13 : UInt8), (10 : UInt8)]).toNat).size : Int)) ≤ (↑s.size : Int)) ∧ s.size ≤ s.size ∧ br (Lib.hasPrefix (subS s (IntKind.i64.wrap ((↑pos : Int) + (↑(subS (subS (subS s (↑pos : Int).toNat s.size) (0 : Nat) (Lib.indexByte (subS s (↑pos : Int).toNat s.size).data.toList c.toNat.toUInt8).toNat) (0 : Nat) (Lib.indexAny (subS (subS s (↑pos : Int).toNat s.size) (0 : Nat) (Lib.indexByte (subS s (↑pos : Int).toNat s.size).data.toList c.toNat.toUInt8).toNat).data.toList [(34 : UInt8), (13 : UInt8), (10 : UInt8)]).toNat).size : Int))).toNat s.size).data.toList (ByteArray.mk #[(34 : UInt8)]).data.toList) (n = n ∧ n = n ∧ R (AV.v (Value.string (ByteArray.mk #[]))) [Blk.mk n (Cont.cells [AV.v (Value.string s), AV.v (Value.int IntKind.i64 (IntKind.i64.wrap ((↑pos : Int) + (↑(subS (subS (subS s (↑pos : Int).toNat s.size) (0 : Nat) (Lib.indexByte (subS s (↑pos : Int).toNat s.size).data.toList c.toNat.toUInt8).toNat) (0 : Nat) (Lib.indexAny (subS (subS s (↑pos : Int).toNat s.size) (0 : Nat) (Lib.indexByte (subS s (↑pos : Int).toNat s.size).data.toList c.toNat.toUInt8).toNat).data.toList [(34 : UInt8), (13 : UInt8), (10 : UInt8)]).toNat).size : Int)))), AV.v (Value.int IntKind.u8 c), AV.v (Value.int IntKind.i64 (IntKind.i64.wrap ((↑pos : Int) + (↑(subS (subS (subS s (↑pos : Int).toNat s.size) (0 : Nat) (Lib.indexByte (subS s (↑pos : Int).toNat s.size).data.toList c.toNat.toUInt8).toNat) (0 : Nat) (Lib.indexAny (subS (subS s (↑pos : Int).toNat s.size) (0 : Nat) (Lib.indexByte (subS s (↑pos : Int).toNat s.size).data.toList c.toNat.toUInt8).toNat).data.toList [(34 : UInt8), (13 : UInt8), (10 : UInt8)]).toNat).size : Int))))] (54 : Nat)) true]) (R (AV.v (Value.string (subS (subS (subS s (↑pos : Int).toNat s.size) (0 : Nat) (Lib.indexByte (subS s (↑pos : Int).toNat s.size).data.toList c.toNat.toUInt8).toNat) (0 : Nat) (Lib.indexAny (subS (subS s (↑pos : Int).toNat s.size) (0 : Nat) (Lib.indexByte (subS s (↑pos : Int).toNat s.size).data.toList c.toNat.toUInt8).toNat).data.toList [(34 : UInt8), (13 : UInt8), (10 : UInt8)]).toNat))) [Blk.mk n (Cont.cells [AV.v (Value.string s), AV.v (Value.int IntKind.i64 (IntKind.i64.wrap ((↑pos : Int) + (↑(subS (subS (subS s (↑pos : Int).toNat s.size) (0 : Nat) (Lib.indexByte (subS s (↑pos : Int).toNat s.size).data.toList c.toNat.toUInt8).toNat) (0 : Nat) (Lib.indexAny (subS (subS s (↑pos : Int).toNat s.size) (0 : Nat) (Lib.indexByte (subS s (↑pos : Int).toNat s.size).data.toList c.toNat.toUInt8).toNat).data.toList [(34 : UInt8), (13 : UInt8), (10 : UInt8)]).toNat).size : Int)))), AV.v (Value.int IntKind.u8 c), AV.v (Value.int IntKind.i64 (-1 : Int))] (54 : Nat)) true])) (n = n ∧ n = n ∧ n = n ∧ n = n ∧ ((0 : Int) ≤ IntKind.i64.wrap ((↑pos : Int) + (↑(subS (subS s (↑pos : Int).toNat s.size) (0 : Nat) (Lib.indexByte (subS s (↑pos : Int).toNat s.size).data.toList c.toNat.toUInt8).toNat).size : Int)) ∧ IntKind.i64.wrap ((↑pos : Int) + (↑(subS (subS s (↑pos : Int).toNat s.size) (0 : Nat) (Lib.indexByte (subS s (↑pos : Int).toNat s.size).data.toList c.toNat.toUInt8).toNat).size : Int)) ≤ (↑s.size : Int)) ∧ s.size ≤ s.size ∧ br (Lib.hasPrefix (subS s (IntKind.i64.wrap ((↑pos : Int) + (↑(subS (subS s (↑pos : Int).toNat s.size) (0 : Nat) (Lib.indexByte (subS s (↑pos : Int).toNat s.size).data.toList c.toNat.toUInt8).toNat).size : Int))).toNat s.size).data.toList (ByteArray.mk #[(34 : UInt8)]).data.toList) (n = n ∧ n = n ∧ R (AV.v (Value.string (ByteArray.mk #[]))) [Blk.mk n (Cont.cells [AV.v (Value.string s), AV.v (Value.int IntKind.i64 (IntKind.i64.wrap ((↑pos : Int) + (↑(subS (subS s (↑pos : Int).toNat s.size) (0 : Nat) (Lib.indexByte (subS s (↑pos : Int).toNat s.size).data.toList c.toNat.toUInt8).toNat).size : Int)))), AV.v (Value.int IntKind.u8 c), AV.v (Value.int IntKind.i64 (IntKind.i64.wrap ((↑pos : Int) + (↑(subS (subS s (↑pos : Int).toNat s.size) (0 : Nat) (Lib.indexByte (subS s (↑pos : Int).toNat s.size).data.toList c.toNat.toUInt8).toNat).size : Int))))] (54 : Nat)) true]) (R (AV.v (Value.string (subS (subS s (↑pos : Int).toNat s.size) (0 : Nat) (Lib.indexByte (subS s (↑pos : Int).toNat s.size).data.toList c.toNat.toUInt8).toNat))) [Blk.mk n (Cont.cells [AV.v (Value.string s), AV.v (Value.int IntKind.i64 (IntKind.i64.wrap ((↑pos : Int) + (↑(subS (subS s (↑pos : Int).toNat s.size) (0 : Nat) (Lib.indexByte (subS s (↑pos : Int).toNat s.size).data.toList c.toNat.toUInt8).toNat).size : Int)))), AV.v (Value.int IntKind.u8 c), AV.v (Value.int IntKind.i64 (-1 : Int))] (54 : Nat)) true]))) (br (decide (Lib.indexAny (subS s (↑pos : Int).toNat s.size).data.toList [(34 : UInt8), (13 : UInt8), (10 : UInt8)] ≥ (0 : Int))) (((0 : Int) ≤ Lib.indexAny (subS s (↑pos : Int).toNat s.size).data.toList [(34 : UInt8), (13 : UInt8), (10 : UInt8)] ∧ Lib.indexAny (subS s (↑pos : Int).toNat s.size).data.toList [(34 : UInt8), (13 : UInt8), (10 : UInt8)] ≤ (↑(subS s (↑pos : Int).toNat s.size).size : Int)) ∧ n = n ∧ n = n ∧ n = n ∧ n = n ∧ ((0 : Int) ≤ IntKind.i64.wrap ((↑pos : Int) + (↑(subS (subS s (↑pos : Int).toNat s.size) (0 : Nat) (Lib.indexAny (subS s (↑pos : Int).toNat s.size).data.toList [(34 : UInt8), (13 : UInt8), (10 : UInt8)]).toNat).size : Int)) ∧ IntKind.i64.wrap ((↑pos : Int) + (↑(subS (subS s (↑pos : Int).toNat s.size) (0 : Nat) (Lib.indexAny (subS s (↑pos : Int).toNat s.size).data.toList [(34 : UInt8), (13 : UInt8), (10 : UInt8)]).toNat).size : Int)) ≤ (↑s.size : Int)) ∧ s.size ≤ s.size ∧ br (Lib.hasPrefix (subS s (IntKind.i64.wrap ((↑pos : Int) + (↑(subS (subS s (↑pos : Int).toNat s.size) (0 : Nat) (Lib.indexAny (subS s (↑pos : Int).toNat s.size).data.toList [(34 : UInt8), (13 : UInt8), (10 : UInt8)]).toNat).size : Int))).toNat s.size).data.toList (ByteArray.mk #[(34 : UInt8)]).data.toList) (n = n ∧ n = n ∧ R (AV.v (Value.string (ByteArray.mk #[]))) [Blk.mk n (Cont.cells [AV.v (Value.string s), AV.v (Value.int IntKind.i64 (IntKind.i64.wrap ((↑pos : Int) + (↑(subS (subS s (↑pos : Int).toNat s.size) (0 : Nat) (Lib.indexAny (subS s (↑pos : Int).toNat s.size).data.toList [(34 : UInt8), (13 : UInt8), (10 : UInt8)]).toNat).size : Int)))), AV.v (Value.int IntKind.u8 c), AV.v (Value.int IntKind.i64 (IntKind.i64.wrap ((↑pos : Int) + (↑(subS (subS s (↑pos : Int).toNat s.size) (0 : Nat) (Lib.indexAny (subS s (↑pos : Int).toNat s.size).data.toList [(34 : UInt8), (13 : UInt8), (10 : UInt8)]).toNat).size : Int))))] (54 : Nat)) true]) (R (AV.v (Value.string (subS (subS s (↑pos : Int).toNat s.size) (0 : Nat) (Lib.indexAny (subS s (↑pos : Int).toNat s.size).data.toList [(34 : UInt8), (13 : UInt8), (10 : UInt8)]).toNat))) [Blk.mk n (Cont.cells [AV.v (Value.string s), AV.v (Value.int IntKind.i64 (IntKind.i64.wrap ((↑pos : Int) + (↑(subS (subS s (↑pos : Int).toNat s.size) (0 : Nat) (Lib.indexAny (subS s (↑pos : Int).toNat s.size).data.toList [(34 : UInt8), (13 : UInt8), (10 : UInt8)]).toNat).size : Int)))), AV.v (Value.int IntKind.u8 c), AV.v (Value.int IntKind.i64 (-1 : Int))] (54 : Nat)) true])) (n = n ∧ n = n ∧ n = n ∧ n = n ∧ ((0 : Int) ≤ IntKind.i64.wrap ((↑pos : Int) + (↑(subS s (↑pos : Int).toNat s.size).size : Int)) ∧ IntKind.i64.wrap ((↑pos : Int) + (↑(subS s (↑pos : Int).toNat s.size).size : Int)) ≤ (↑s.size : Int)) ∧ s.size ≤ s.size ∧ br (Lib.hasPrefix (subS s (IntKind.i64.wrap ((↑pos : Int) + (↑(subS s (↑pos : Int).toNat s.size).size : Int))).toNat s.size).data.toList (ByteArray.mk #[(34 : UInt8)]).data.toList) (n = n ∧ n = n ∧ R (AV.v (Value.string (ByteArray.mk #[]))) [Blk.mk n (Cont.cells [AV.v (Value.string s), AV.v (Value.int IntKind.i64 (IntKind.i64.wrap ((↑pos : Int) + (↑(subS s (↑pos : Int).toNat s.size).size : Int)))), AV.v (Value.int IntKind.u8 c), AV.v (Value.int IntKind.i64 (IntKind.i64.wrap ((↑pos : Int) + (↑(subS s (↑pos : Int).toNat s.size).size : Int))))] (54 : Nat)) true]) (R (AV.v (Value.string (subS s (↑pos : Int).toNat s.size))) [Blk.mk n (Cont.cells [AV.v (Value.string s), AV.v (Value.int IntKind.i64 (IntKind.i64.wrap ((↑pos : Int) + (↑(subS s (↑pos : Int).toNat s.size).size : Int)))), AV.v (Value.int IntKind.u8 c), AV.v (Value.int IntKind.i64 (-1 : Int))] (54 : Nat)) true]))))) : LC Tryd.prog 34 [.ptr 0 n 0] [rdB n s pos c (-1) true] R :=
  lc_of_exec (tbl := tu2) tab_ok tu2_ok mixed noinv 2 _ Tryd.func34 rfl Tryd.ntmps34 (by decide) (by kernel_rfl) (Nat.le_of_ble_eq_true rfl) (@Eq.mpr (execN tab tu2 noinv 2 Tryd.f34.ntmps [] none 0 (body Tryd.f34) (argsT [.ptr 0 n 0] 0) [rdB n s pos c (-1) true] (post Tryd.f34 tab (retK R))) _ (by kernel_rfl) h)



set_option maxRecDepth 100000 in
theorem end0_vc (n : Nat) (s : ByteArray) (pos : Nat) (c : Int) {R : AV → HH → Prop} (h : (n = n ∧ n = n ∧ ((0 : Int) ≤ (↑pos : Int) ∧ (↑pos : Int) ≤ (↑s.size : Int)) ∧ s.size ≤ s.size ∧ br (eqS (subS s (↑pos : Int).toNat s.size) (ByteArray.mk #[])) (R (AV.tup []) [Blk.mk n (Cont.cells [AV.v (Value.string s), AV.v (Value.int IntKind.i64 (↑pos : Int)), AV.v (Value.int IntKind.u8 c), AV.v (Value.int IntKind.i64 (-1 : Int))] (54 : Nat)) true]) (br (Lib.hasPrefix (subS s (↑pos : Int).toNat s.size).data.toList (ByteArray.mk #[(10 : UInt8)]).data.toList) (n = n ∧ n = n ∧ R (AV.tup []) [Blk.mk n (Cont.cells [AV.v (Value.string s), AV.v (Value.int IntKind.i64 (IntKind.i64.wrap ((↑pos : Int) + (1 : Int)))), AV.v (Value.int IntKind.u8 c), AV.v (Value.int IntKind.i64 (-1 : Int))] (54 : Nat)) true]) (br (Lib.hasPrefix (subS s (↑pos : Int).toNat s.size).data.toList (ByteArray.mk #[(13 : UInt8), (10 : UInt8)]).data.toList) (n = n ∧ n = n ∧ R (AV.tup []) [Blk.mk n (Cont.cells [AV.v (Value.string s), AV.v (Value.int IntKind.i64 (IntKind.i64.wrap ((↑pos : Int) + (2 : Int)))), AV.v (Value.int IntKind.u8 c), AV.v (Value.int IntKind.i64 (-1 : Int))] (54 : Nat)) true]) (n = n ∧ n = n ∧ R (AV.tup []) [Blk.mk n (Cont.cells [AV.v (Value.string s), AV.v (Value.int IntKind.i64 (↑pos : Int)), AV.v (Value.int IntKind.u8 c), AV.v (Value.int IntKind.i64 (↑pos : Int))] (54 : Nat)) true]))))) : LC Tryd.prog 26 [.ptr 0 n 0] [rdB n s pos c (-1) true] R :=
  lc_of_exec (tbl := tu2) tab_ok tu2_ok mixed noinv 2 _ Tryd.func26 rfl Tryd.ntmps26 (by decide) (by kernel_rfl) (Nat.le_of_ble_eq_true rfl) (@Eq.mpr (execN tab tu2 noinv 2 Tryd.f26.ntmps [] none 0 (body Tryd.f26) (argsT [.ptr 0 n 0] 0) [rdB n s pos c (-1) true] (post Tryd.f26 tab (retK R))) _ (by kernel_rfl) h)

end Go.Proofs.YtdokphikobfakaaDoor

namespace Go.Sp
open Go.Eng Go.Proofs.YtdokphikobfakaaDoor

theorem tw_cut {p : UInt8 → Bool} {b : UInt8} {r : List UInt8} (hb : p b = false) : ∀ {h : List UInt8}, (∀ x ∈ h, p x = true) → (h ++ b :: r).takeWhile p = h
  | [], _ => by simp [hb]
  | x :: h, hx => by
    rw [List.cons_append, List.takeWhile_cons, if_pos (hx x List.mem_cons_self), tw_cut hb fun y hy => hx y (List.mem_cons_of_mem _ hy)]

theorem tw_all {p : UInt8 → Bool} : ∀ {h : List UInt8}, (∀ x ∈ h, p x = true) → h.takeWhile p = h
  | [], _ => rfl
  | x :: h, hx => by
    rw [List.takeWhile_cons, if_pos (hx x List.mem_cons_self), tw_all fun y hy => hx y (List.mem_cons_of_mem _ hy)]

theorem tw_and (p q : UInt8 → Bool) : ∀ l : List UInt8, l.takeWhile (fun b => p b && q b) = (l.takeWhile p).takeWhile q
  | [] => rfl
  | x :: l => by
    have ih := tw_and p q l
    cases hp : p x <;> cases hq : q x <;> simp [hp, hq, ih]

/-- Which sign stands first. -/
theorem ixa_split : ∀ {l : List UInt8}, (∃ b ∈ l, isSign b) → ∃ k : Nat, Lib.indexAny l [34, 13, 10] = (k : Int) ∧ k < l.length ∧ (∀ b ∈ l.take k, ¬ isSign b) ∧ ∃ d, isSign d ∧ l = l.take k ++ d :: l.drop (k + 1)
  | [], h => by obtain ⟨b, hb, _⟩ := h; cases hb
  | b :: l, h => by
    rw [Lib.indexAny]
    by_cases hb : isSign b
    · rw [if_pos (sign_mem.2 hb)]
      exact ⟨0, rfl, by simp, by simp, b, hb, by simp⟩
    · have hc : ¬ ([34, 13, 10] : List UInt8).contains b = true := fun e => hb (sign_mem.1 e)
      rw [if_neg hc]
      obtain ⟨x, hx, hs⟩ := h
      have hl : ∃ b ∈ l, isSign b := by
        rcases List.mem_cons.1 hx with rfl | hx
        · exact absurd hs hb
        · exact ⟨x, hx, hs⟩
      obtain ⟨k, h1, h2, h3, d, h4, h5⟩ := ixa_split hl
      refine ⟨k + 1, ?_, by simp <;> omega, ?_, d, h4, ?_⟩
      · rw [h1, if_neg (by simp <;> omega)]; omega
      · intro y hy
        rw [List.take_succ_cons, List.mem_cons] at hy
        rcases hy with rfl | hy
        · exact hb
        · exact h3 y hy
      · rw [List.take_succ_cons, List.drop_succ_cons, List.cons_append, ← h5]

def noSign (b : UInt8) : Bool := !(b == 34 || b == 13 || b == 10)
theorem noSign_iff {b : UInt8} : noSign b = true ↔ ¬ isSign b := by
  unfold noSign isSign
  simp [not_or, and_assoc]
theorem noSign_no {b : UInt8} (h : isSign b) : noSign b = false := by
  cases hb : noSign b with
  | false => rfl
  | true => exact absurd h (noSign_iff.1 hb)

theorem plain_two (c : UInt8) (l : List UInt8) : l.takeWhile (plainB c) = (l.takeWhile fun b => !(b == c)).takeWhile noSign := tw_and _ _ l

/-- A text cut ahead of a byte. -/
theorem cut_byte (c : UInt8) (s : ByteArray) : ∃ t : ByteArray, t.data.toList = s.data.toList.takeWhile (fun b => !(b == c)) ∧ t.size ≤ s.size ∧
    ((Lib.indexByte s.data.toList c ≥ 0 ∧ Lib.indexByte s.data.toList c ≤ (s.size : Int) ∧ subS s 0 (Lib.indexByte s.data.toList c).toNat = t) ∨ (¬ Lib.indexByte s.data.toList c ≥ 0 ∧ s = t)) := by
  have hs : s.data.toList.length = s.size := Array.length_toList
  by_cases h : Lib.indexByte s.data.toList c ≥ 0
  · obtain ⟨k, h1, h2, h3, h4⟩ := ixb_split c ((byte_mem c _).1 h)
    refine ⟨subS s 0 k, ?_, by rw [size_subS]; omega, .inl ⟨h, by omega, by rw [h1, Int.toNat_natCast]⟩⟩
    have e : (subS s 0 k).data.toList = s.data.toList.take k := by rw [toList_sub]; simp
    rw [e]
    conv => rhs; rw [h4]
    rw [tw_cut (by simp) fun x hx => ?_]
    have : x ≠ c := fun e => h3 (e ▸ hx)
    simp [this]
  · refine ⟨s, ?_, Nat.le_refl _, .inr ⟨h, rfl⟩⟩
    rw [tw_all fun x hx => ?_]
    have : x ≠ c := fun e => h ((byte_mem c _).2 (e ▸ hx))
    simp [this]

/-- A text cut ahead of a sign. -/
theorem cut_sign (s : ByteArray) : ∃ t : ByteArray, t.data.toList = s.data.toList.takeWhile noSign ∧ t.size ≤ s.size ∧
    ((Lib.indexAny s.data.toList [34, 13, 10] ≥ 0 ∧ Lib.indexAny s.data.toList [34, 13, 10] ≤ (s.size : Int) ∧ subS s 0 (Lib.indexAny s.data.toList [34, 13, 10]).toNat = t) ∨ (¬ Lib.indexAny s.data.toList [34, 13, 10] ≥ 0 ∧ s = t)) := by
  have hs : s.data.toList.length = s.size := Array.length_toList
  by_cases h : Lib.indexAny s.data.toList [34, 13, 10] ≥ 0
  · obtain ⟨k, h1, h2, h3, d, h5, h4⟩ := ixa_split ((any_mem _).1 h)
    refine ⟨subS s 0 k, ?_, by rw [size_subS]; omega, .inl ⟨h, by omega, by rw [h1, Int.toNat_natCast]⟩⟩
    have e : (subS s 0 k).data.toList = s.data.toList.take k := by rw [toList_sub]; simp
    rw [e]
    conv => rhs; rw [h4]
    rw [tw_cut (noSign_no h5) fun x hx => noSign_iff.2 (h3 x hx)]
  · refine ⟨s, ?_, Nat.le_refl _, .inr ⟨h, rfl⟩⟩
    rw [tw_all fun x hx => noSign_iff.2 fun hsg => h ((any_mem _).2 ⟨x, hx, hsg⟩)]

/-- The end of a row. -/
noncomputable def eR (s : ByteArray) (pos : Nat) : FR :=
  match s.data.toList.drop pos with
  | [] => ⟨ByteArray.mk #[], pos, -1⟩
  | [b] => if b = 10 then ⟨ByteArray.mk #[], pos + 1, -1⟩ else ⟨ByteArray.mk #[], pos, (pos : Int)⟩
  | b :: d :: _ => if b = 10 then ⟨ByteArray.mk #[], pos + 1, -1⟩ else if b = 13 ∧ d = 10 then ⟨ByteArray.mk #[], pos + 2, -1⟩ else ⟨ByteArray.mk #[], pos, (pos : Int)⟩

end Go.Sp
namespace Go.Eng
open Go.Sp Go.Proofs.YtdokphikobfakaaDoor

def pH : Handler := fun _ args H K =>
  match args with
  | [.ptr id n 0] => ∃ (s : ByteArray) (pos : Nat) (c : Int), nth H id = some (rdB n s pos c (-1) true) ∧ pos ≤ s.size ∧ s.size ≤ 4294967296 ∧ K (.ret (.v (.string (pR s pos c.toNat.toUInt8).t))) (H.set id (rdB n s (pR s pos c.toNat.toUInt8).pos c (pR s pos c.toNat.toUInt8).bad true))
  | _ => False
def eH : Handler := fun _ args H K =>
  match args with
  | [.ptr id n 0] => ∃ (s : ByteArray) (pos : Nat) (c : Int), nth H id = some (rdB n s pos c (-1) true) ∧ pos ≤ s.size ∧ s.size ≤ 4294967296 ∧ K (.ret (.tup [])) (H.set id (rdB n s (eR s pos).pos c (eR s pos).bad true))
  | _ => False
end Go.Eng
namespace Go.Proofs.YtdokphikobfakaaDoor
open Go Go.Eng Go.Sp
set_option linter.unusedVariables false
set_option linter.unusedSimpArgs false

theorem pla_fin {n : Nat} {s t : ByteArray} {pos : Nat} {c : Int} (ht : t.data.toList = (s.data.toList.drop pos).takeWhile (plainB c.toNat.toUInt8)) (hp : pos + t.size ≤ s.size) (hs : s.size ≤ 4294967296) :
    (0 ≤ IntKind.i64.wrap ((pos : Int) + (t.size : Int)) ∧ IntKind.i64.wrap ((pos : Int) + (t.size : Int)) ≤ (s.size : Int)) ∧ s.size ≤ s.size ∧
    br (Lib.hasPrefix (subS s (IntKind.i64.wrap ((pos : Int) + (t.size : Int))).toNat s.size).data.toList [34])
      (AV.v (Value.string (ByteArray.mk #[])) = .v (.string (pR s pos c.toNat.toUInt8).t) ∧ LeH [Blk.mk n (.cells [.v (.string s), .v (.int .i64 (IntKind.i64.wrap ((pos : Int) + (t.size : Int)))), .v (.int .u8 c), .v (.int .i64 (IntKind.i64.wrap ((pos : Int) + (t.size : Int))))] 54) true] [rdB n s (pR s pos c.toNat.toUInt8).pos c (pR s pos c.toNat.toUInt8).bad true])
      (AV.v (Value.string t) = .v (.string (pR s pos c.toNat.toUInt8).t) ∧ LeH [Blk.mk n (.cells [.v (.string s), .v (.int .i64 (IntKind.i64.wrap ((pos : Int) + (t.size : Int)))), .v (.int .u8 c), .v (.int .i64 (-1))] 54) true] [rdB n s (pR s pos c.toNat.toUInt8).pos c (pR s pos c.toNat.toUInt8).bad true]) := by
  have hw : IntKind.i64.wrap ((pos : Int) + (t.size : Int)) = ((pos + t.size : Nat) : Int) := by rw [w64 (by omega)]; omega
  have hl : ((s.data.toList.drop pos).takeWhile (plainB c.toNat.toUInt8)).length = t.size := by rw [← ht]; exact Array.length_toList
  rw [hw, Int.toNat_natCast, toList_subE]
  refine ⟨⟨by omega, by omega⟩, Nat.le_refl _, br_intro (fun h => ?_) (fun h => ?_)⟩
  · have e : pR s pos c.toNat.toUInt8 = ⟨ByteArray.mk #[], pos + t.size, ((pos + t.size : Nat) : Int)⟩ := by
      unfold pR
      simp only [hl]
      rw [if_pos (pre_head.1 h)]
    rw [e]
    exact ⟨rfl, LeH.refl _⟩
  · have e : pR s pos c.toNat.toUInt8 = ⟨t, pos + t.size, -1⟩ := by
      unfold pR
      simp only [hl]
      rw [if_neg (fun h2 => by rw [pre_head.2 h2] at h; cases h), ← ht, mkS_toList]
    rw [e]
    exact ⟨rfl, LeH.refl _⟩

set_option maxRecDepth 20000 in
theorem pla_lc (n : Nat) (s : ByteArray) (pos : Nat) (c : Int) (hp : pos ≤ s.size) (hs : s.size ≤ 4294967296) : LC Tryd.prog 34 [.ptr 0 n 0] [rdB n s pos c (-1) true] (fun z H' => z = .v (.string (pR s pos c.toNat.toUInt8).t) ∧ LeH H' [rdB n s (pR s pos c.toNat.toUInt8).pos c (pR s pos c.toNat.toUInt8).bad true]) :=
  pla0_vc n s pos c (by
    simp only [true_and, and_true, Int.toNat_natCast]
    refine ⟨⟨by omega, by omega⟩, Nat.le_refl _, ?_⟩
    have h0 : (subS s pos s.size).data.toList = s.data.toList.drop pos := toList_subE s pos
    have hz0 : (subS s pos s.size).size = s.size - pos := by rw [size_subS]; omega
    obtain ⟨t1, a1, a2, a3⟩ := cut_byte c.toNat.toUInt8 (subS s pos s.size)
    obtain ⟨t2, b1, b2, b3⟩ := cut_sign t1
    have ht : t2.data.toList = (s.data.toList.drop pos).takeWhile (plainB c.toNat.toUInt8) := by
      rw [b1, a1, h0, plain_two]
    have fin := pla_fin (n := n) ht (by omega) hs
    refine br_intro (fun h => ?_) (fun h => ?_)
    · have h := of_decide_eq_true h
      rcases a3 with ⟨a3, a4, a5⟩ | ⟨a3, _⟩
      · subst a5
        refine ⟨⟨a3, a4⟩, br_intro (fun g => ?_) (fun g => ?_)⟩
        · have g := of_decide_eq_true g
          rcases b3 with ⟨b3, b4, b5⟩ | ⟨b3, _⟩
          · subst b5
            exact ⟨⟨b3, b4⟩, fin⟩
          · exact absurd g b3
        · have g := of_decide_eq_false g
          rcases b3 with ⟨b3, _⟩ | ⟨_, b5⟩
          · exact absurd b3 g
          · subst b5; exact fin
      · exact absurd h a3
    · have h := of_decide_eq_false h
      rcases a3 with ⟨a3, _⟩ | ⟨_, a5⟩
      · exact absurd a3 h
      · subst a5
        refine br_intro (fun g => ?_) (fun g => ?_)
        · have g := of_decide_eq_true g
          rcases b3 with ⟨b3, b4, b5⟩ | ⟨b3, _⟩
          · subst b5
            exact ⟨⟨b3, b4⟩, fin⟩
          · exact absurd g b3
        · have g := of_decide_eq_false g
          rcases b3 with ⟨b3, _⟩ | ⟨_, b5⟩
          · exact absurd b3 g
          · subst b5; exact fin)

theorem pre_two {l : List UInt8} : Lib.hasPrefix l [13, 10] = true ↔ ∃ m, l = 13 :: 10 :: m := by
  match l with
  | [] => simp [Lib.hasPrefix]
  | [b] => simp [Lib.hasPrefix, List.isPrefixOf]
  | b :: d :: m =>
    have : Lib.hasPrefix (b :: d :: m) [13, 10] = (((13 : UInt8) == b) && ((10 : UInt8) == d)) := by simp [Lib.hasPrefix, List.isPrefixOf]
    rw [this, Bool.and_eq_true, beq_iff_eq, beq_iff_eq]
    constructor
    · rintro ⟨rfl, rfl⟩; exact ⟨m, rfl⟩
    · rintro ⟨m', e⟩; cases e; exact ⟨rfl, rfl⟩
theorem pre_ten {l : List UInt8} : Lib.hasPrefix l [10] = true ↔ ∃ m, l = 10 :: m := by
  match l with
  | [] => simp [Lib.hasPrefix]
  | b :: m =>
    have : Lib.hasPrefix (b :: m) [10] = ((10 : UInt8) == b) := by simp [Lib.hasPrefix, List.isPrefixOf]
    rw [this, beq_iff_eq]
    constructor
    · rintro rfl; exact ⟨m, rfl⟩
    · rintro ⟨m', e⟩; cases e; rfl

theorem end_lc (n : Nat) (s : ByteArray) (pos : Nat) (c : Int) (hp : pos ≤ s.size) (hs : s.size ≤ 4294967296) : LC Tryd.prog 26 [.ptr 0 n 0] [rdB n s pos c (-1) true] (fun z H' => z = .tup [] ∧ LeH H' [rdB n s (eR s pos).pos c (eR s pos).bad true]) :=
  end0_vc n s pos c (by
    have w1 : IntKind.i64.wrap ((pos : Int) + 1) = ((pos + 1 : Nat) : Int) := by rw [w64 (by omega)]; omega
    have w2 : IntKind.i64.wrap ((pos : Int) + 2) = ((pos + 2 : Nat) : Int) := by rw [w64 (by omega)]; omega
    simp only [true_and, and_true, Int.toNat_natCast, w1, w2]
    have h0 : (subS s pos s.size).data.toList = s.data.toList.drop pos := toList_subE s pos
    refine ⟨⟨by omega, by omega⟩, Nat.le_refl _, br_intro (fun h => ?_) (fun h => br_intro (fun g => ?_) (fun g => br_intro (fun k => ?_) (fun k => ?_)))⟩
    · have hz : s.data.toList.drop pos = [] := by rw [← h0, eqS_iff.1 h]
      have e : eR s pos = ⟨ByteArray.mk #[], pos, -1⟩ := by unfold eR; rw [hz]
      rw [e]; exact LeH.refl _
    · obtain ⟨m, hm⟩ := pre_ten.1 (h0 ▸ g)
      have e : eR s pos = ⟨ByteArray.mk #[], pos + 1, -1⟩ := by unfold eR; rw [hm]; cases m <;> simp
      rw [e]; exact LeH.refl _
    · obtain ⟨m, hm⟩ := pre_two.1 (h0 ▸ k)
      have e : eR s pos = ⟨ByteArray.mk #[], pos + 2, -1⟩ := by unfold eR; simp [hm]
      rw [e]; exact LeH.refl _
    · have e : eR s pos = ⟨ByteArray.mk #[], pos, (pos : Int)⟩ := by
        unfold eR
        have g' : ¬ ∃ m, s.data.toList.drop pos = 10 :: m := fun hx => by rw [← h0] at hx; rw [pre_ten.2 hx] at g; cases g
        have k' : ¬ ∃ m, s.data.toList.drop pos = 13 :: 10 :: m := fun hx => by rw [← h0] at hx; rw [pre_two.2 hx] at k; cases k
        have h' : s.data.toList.drop pos ≠ [] := fun hx => by
          have : eqS (subS s pos s.size) (ByteArray.mk #[]) = true := by simp [eqS, h0, hx]
          rw [this] at h; cases h
        match hd : s.data.toList.drop pos with
        | [] => exact absurd hd h'
        | [b] => rw [hd] at g'; simp only [if_neg fun e : b = 10 => g' ⟨[], by rw [e]⟩]
        | b :: d :: m =>
          rw [hd] at g' k'
          simp only [if_neg fun e : b = 10 => g' ⟨d :: m, by rw [e]⟩, if_neg fun e : b = 13 ∧ d = 10 => k' ⟨m, by rw [e.1, e.2]⟩]
      rw [e]; exact LeH.refl _)

theorem pH_ok : HOk Tryd.prog 34 pH := HOk.of_at (enters_of (c := body Tryd.f34) Tryd.func34 rfl (by kernel_rfl)) fun rs args H K hk => by
  unfold pH at hk
  split at hk
  · rename_i id n
    obtain ⟨s, pos, c, h1, h2, h3, hk⟩ := hk
    refine ⟨id, _, [.ptr 0 n 0], _, by rw [← nth_eq]; exact h1, rfl, pla_lc n s pos c h2 h3, fun z H' hz => ?_⟩
    obtain ⟨rfl, hle⟩ := hz
    exact ⟨_, _, [], rfl, by rw [List.append_nil]; exact hk, hle⟩
  · exact hk.elim
theorem eH_ok : HOk Tryd.prog 26 eH := HOk.of_at (enters_of (c := body Tryd.f26) Tryd.func26 rfl (by kernel_rfl)) fun rs args H K hk => by
  unfold eH at hk
  split at hk
  · rename_i id n
    obtain ⟨s, pos, c, h1, h2, h3, hk⟩ := hk
    refine ⟨id, _, [.ptr 0 n 0], _, by rw [← nth_eq]; exact h1, rfl, end_lc n s pos c h2 h3, fun z H' hz => ?_⟩
    obtain ⟨rfl, hle⟩ := hz
    exact ⟨_, _, [], rfl, by rw [List.append_nil]; exact hk, hle⟩
  · exact hk.elim
end Go.Proofs.YtdokphikobfakaaDoor

