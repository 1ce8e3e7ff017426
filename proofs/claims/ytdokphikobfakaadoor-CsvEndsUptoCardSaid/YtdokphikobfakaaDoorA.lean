/- Csv: the examples. -/
import Derived.Test.YtdokphikobfakaaDoorTab
import Derived.Test.YtdokphikobfakaaDoorY5
import Derived.Test.YtdokphikobfakaaDoorEngT
import Derived.Test.YtdokphikobfakaaDoorShelf
import Derived.IntWalk
namespace Go.Eng
/-- A text cut at a part. -/
def cutF : List AV → Option (Prop × AV)
  | [.v (.string s), .v (.string t)] => some (s.size < 4294967281, .tup [.v (.string (mkS (Lib.cut s.data.toList t.data.toList).1)), .v (.string (mkS (Lib.cut s.data.toList t.data.toList).2.1)), .v (.bool (Lib.cut s.data.toList t.data.toList).2.2)])
  | _ => none
/-- All of a part in a text made another. -/
def replF : List AV → Option (Prop × AV)
  | [.v (.string s), .v (.string t), .v (.string u)] => some (s.size < 4294967281 ∧ 1 ≤ t.size ∧ s.size + Lib.countB s t * u.size ≤ 140737488355328, .v (.string (mkS (Lib.replaceAll s.data.toList t.data.toList u.data.toList))))
  | _ => none
/-- Where a byte stands. -/
def byteF : List AV → Option AV
  | [.v (.string s), .v (.int .u8 c)] => some (.v (.int .i64 (Lib.indexByte s.data.toList c.toNat.toUInt8)))
  | _ => none
/-- Whether a text begins with one. -/
def preF : List AV → Option AV
  | [.v (.string s), .v (.string t)] => some (.v (.bool (Lib.hasPrefix s.data.toList t.data.toList)))
  | _ => none
end Go.Eng
namespace Go.Proofs.YtdokphikobfakaaDoor
open Go Go.Eng
set_option linter.unusedVariables false
set_option linter.unusedSimpArgs false

theorem mixed : Tryd.prog.follows .mixedOrders = true := by kernel_rfl

theorem w64 {x : Int} (h : -9223372036854775808 ≤ x ∧ x ≤ 9223372036854775807) : IntKind.i64.wrap x = x := IntWalk.i64_in _ h

theorem cut_ok : HOk Tryd.prog 44 (glH cutF) := glH_ok (enters_of (c := body Tryd.f44) Tryd.func44 rfl (by kernel_rfl)) fun args p m h hp => by
  unfold cutF at h
  split at h
  · rename_i s t
    cases h
    refine ⟨enters_of (c := body Tryd.f44) Tryd.func44 rfl (by kernel_rfl), fun w hw => (Go.Proofs.Tryd.strings_Cut s t m w hp (gB_cell hw)).mono fun e w' hq => ?_⟩
    obtain ⟨rfl, n, rfl⟩ := hq
    exact ⟨_, [gB m], rfl, rfl, ((HeapOk.enter hw).same (w' := w.drewN n) { heap := rfl, os := rfl, tape := rfl, output := rfl, dr := trivial }).toExt⟩
  · cases h

theorem repl_ok : HOk Tryd.prog 18 (glH replF) := glH_ok (enters_of (c := body Tryd.f18) Tryd.func18 rfl (by kernel_rfl)) fun args p m h hp => by
  unfold replF at h
  split at h
  · rename_i s t u
    cases h
    refine ⟨enters_of (c := body Tryd.f18) Tryd.func18 rfl (by kernel_rfl), fun w hw => (Go.Proofs.Tryd.strings_ReplaceAll s t u m w hp.1 (gB_cell hw) hp.2.1 hp.2.2).mono fun e w' hq => ?_⟩
    obtain ⟨rfl, hb⟩ := hq
    exact ⟨_, [gB m], rfl, rfl, (frm_of_below hb).toExt hw⟩
  · cases h

theorem byte_ok : POk Tryd.prog 28 byteF := POk.of_lc (enters_of (c := body Tryd.f28) Tryd.func28 rfl (by kernel_rfl)) fun args v h => by
  unfold byteF at h
  split at h
  · rename_i s c
    cases h
    refine ⟨enters_of (c := body Tryd.f28) Tryd.func28 rfl (by kernel_rfl), fun w hw => (Go.Proofs.Tryd.strings_IndexByte s c w).mono fun e w' hq => ?_⟩
    obtain ⟨rfl, rfl⟩ := hq
    exact ⟨_, [], rfl, rfl, (HeapOk.enter hw).toExt⟩
  · cases h

theorem pre_ok : POk Tryd.prog 32 preF := POk.of_lc (enters_of (c := body Tryd.f32) Tryd.func32 rfl (by kernel_rfl)) fun args v h => by
  unfold preF at h
  split at h
  · rename_i s t
    cases h
    refine ⟨enters_of (c := body Tryd.f32) Tryd.func32 rfl (by kernel_rfl), fun w hw => (Go.Proofs.Tryd.strings_HasPrefix s t w).mono fun e w' hq => ?_⟩
    obtain ⟨rfl, rfl⟩ := hq
    exact ⟨_, [], rfl, rfl, (HeapOk.enter hw).toExt⟩
  · cases h

def tx : Tbl := (4294967295, .ext mergeFlag) :: (36, .ext idH) :: (62, .ext (makeH 5)) :: (44, .gen (glH cutF)) :: (18, .gen (glH replF)) :: (28, .pure byteF) :: (32, .pure preF) :: []

theorem tx_ok : TblOk Tryd.prog tx := ⟨flag_ok, idH_ok Tryd.func36 (by kernel_rfl) (by kernel_rfl) (by kernel_rfl) (by kernel_rfl), makeH_ok (ps := #[3]) Tryd.underlying36 Tryd.func62 (by kernel_rfl) (by kernel_rfl) (by kernel_rfl) (by kernel_rfl), cut_ok, repl_ok, byte_ok, pre_ok, trivial⟩

-- (*foolscap/csv.reader).plainS1


def sf45I : Handler := inlH tab tx (fun _ _ _ => .unroll 12) 2 Tryd.f45 1

set_option maxRecDepth 100000 in
theorem sf45_ok : HOk Tryd.prog 45 sf45I :=
  inl_ok (tbl := tx) tab_ok tx_ok mixed (fun _ _ _ => .unroll 12) 2 _ 1 Tryd.func45 rfl Tryd.ntmps45 (by decide) (by kernel_rfl) (Nat.le_of_ble_eq_true rfl)


def st1 : Tbl := (45, .gen sf45I) :: tx

theorem st1_ok : TblOk Tryd.prog st1 := ⟨sf45_ok, tx_ok⟩

-- foolscap/csv.WideS1


def sf23I : Handler := inlH tab st1 (fun _ _ _ => .unroll 12) 2 Tryd.f23 2

set_option maxRecDepth 100000 in
theorem sf23_ok : HOk Tryd.prog 23 sf23I :=
  inl_ok (tbl := st1) tab_ok st1_ok mixed (fun _ _ _ => .unroll 12) 2 _ 2 Tryd.func23 rfl Tryd.ntmps23 (by decide) (by kernel_rfl) (Nat.le_of_ble_eq_true rfl)


def st2 : Tbl := (23, .gen sf23I) :: st1

theorem st2_ok : TblOk Tryd.prog st2 := ⟨sf23_ok, st1_ok⟩

-- (*strings.Builder).copyCheck


def sf27I : Handler := inlH tab st2 (fun _ _ _ => .unroll 12) 2 Tryd.f27 1

set_option maxRecDepth 100000 in
theorem sf27_ok : HOk Tryd.prog 27 sf27I :=
  inl_ok (tbl := st2) tab_ok st2_ok mixed (fun _ _ _ => .unroll 12) 2 _ 1 Tryd.func27 rfl Tryd.ntmps27 (by decide) (by kernel_rfl) (Nat.le_of_ble_eq_true rfl)


def st3 : Tbl := (27, .gen sf27I) :: st2

theorem st3_ok : TblOk Tryd.prog st3 := ⟨sf27_ok, st2_ok⟩

-- (*strings.Builder).WriteByte


def sf16I : Handler := inlH tab st3 (fun _ _ _ => .unroll 12) 2 Tryd.f16 2

set_option maxRecDepth 100000 in
theorem sf16_ok : HOk Tryd.prog 16 sf16I :=
  inl_ok (tbl := st3) tab_ok st3_ok mixed (fun _ _ _ => .unroll 12) 2 _ 2 Tryd.func16 rfl Tryd.ntmps16 (by decide) (by kernel_rfl) (Nat.le_of_ble_eq_true rfl)


def st4 : Tbl := (16, .gen sf16I) :: st3

theorem st4_ok : TblOk Tryd.prog st4 := ⟨sf16_ok, st3_ok⟩

-- (*strings.Builder).WriteString


def sf19I : Handler := inlH tab st4 (fun _ _ _ => .unroll 12) 2 Tryd.f19 2

set_option maxRecDepth 100000 in
theorem sf19_ok : HOk Tryd.prog 19 sf19I :=
  inl_ok (tbl := st4) tab_ok st4_ok mixed (fun _ _ _ => .unroll 12) 2 _ 2 Tryd.func19 rfl Tryd.ntmps19 (by decide) (by kernel_rfl) (Nat.le_of_ble_eq_true rfl)


def st5 : Tbl := (19, .gen sf19I) :: st4

theorem st5_ok : TblOk Tryd.prog st5 := ⟨sf19_ok, st4_ok⟩

-- (*strings.Builder).String


def sf20I : Handler := inlH tab st5 (fun _ _ _ => .unroll 12) 2 Tryd.f20 1

set_option maxRecDepth 100000 in
theorem sf20_ok : HOk Tryd.prog 20 sf20I :=
  inl_ok (tbl := st5) tab_ok st5_ok mixed (fun _ _ _ => .unroll 12) 2 _ 1 Tryd.func20 rfl Tryd.ntmps20 (by decide) (by kernel_rfl) (Nat.le_of_ble_eq_true rfl)


def st6 : Tbl := (20, .gen sf20I) :: st5

theorem st6_ok : TblOk Tryd.prog st6 := ⟨sf20_ok, st5_ok⟩

-- (*foolscap/csv.reader).wrong


def sf35I : Handler := inlH tab st6 (fun _ _ _ => .unroll 12) 2 Tryd.f35 2

set_option maxRecDepth 100000 in
theorem sf35_ok : HOk Tryd.prog 35 sf35I :=
  inl_ok (tbl := st6) tab_ok st6_ok mixed (fun _ _ _ => .unroll 12) 2 _ 2 Tryd.func35 rfl Tryd.ntmps35 (by decide) (by kernel_rfl) (Nat.le_of_ble_eq_true rfl)


def st7 : Tbl := (35, .gen sf35I) :: st6

theorem st7_ok : TblOk Tryd.prog st7 := ⟨sf35_ok, st6_ok⟩

-- (*foolscap/csv.reader).quoted


def sf33I : Handler := inlH tab st7 (fun _ _ _ => .unroll 12) 2 Tryd.f33 1

set_option maxRecDepth 100000 in
theorem sf33_ok : HOk Tryd.prog 33 sf33I :=
  inl_ok (tbl := st7) tab_ok st7_ok mixed (fun _ _ _ => .unroll 12) 2 _ 1 Tryd.func33 rfl Tryd.ntmps33 (by decide) (by kernel_rfl) (Nat.le_of_ble_eq_true rfl)


def st8 : Tbl := (33, .gen sf33I) :: st7

theorem st8_ok : TblOk Tryd.prog st8 := ⟨sf33_ok, st7_ok⟩

-- strings.indexFunc


def sf58I : Handler := inlH tab st8 (fun _ _ _ => .unroll 12) 2 Tryd.f58 3

set_option maxRecDepth 100000 in
theorem sf58_ok : HOk Tryd.prog 58 sf58I :=
  inl_ok (tbl := st8) tab_ok st8_ok mixed (fun _ _ _ => .unroll 12) 2 _ 3 Tryd.func58 rfl Tryd.ntmps58 (by decide) (by kernel_rfl) (Nat.le_of_ble_eq_true rfl)


def st9 : Tbl := (58, .gen sf58I) :: st8

theorem st9_ok : TblOk Tryd.prog st9 := ⟨sf58_ok, st8_ok⟩

-- strings.IndexFunc


def sf46I : Handler := inlH tab st9 (fun _ _ _ => .unroll 12) 2 Tryd.f46 2

set_option maxRecDepth 100000 in
theorem sf46_ok : HOk Tryd.prog 46 sf46I :=
  inl_ok (tbl := st9) tab_ok st9_ok mixed (fun _ _ _ => .unroll 12) 2 _ 2 Tryd.func46 rfl Tryd.ntmps46 (by decide) (by kernel_rfl) (Nat.le_of_ble_eq_true rfl)


def st10 : Tbl := (46, .gen sf46I) :: st9

theorem st10_ok : TblOk Tryd.prog st10 := ⟨sf46_ok, st9_ok⟩

-- (*foolscap/csv.reader).plain


def sf34I : Handler := inlH tab st10 (fun _ _ _ => .unroll 12) 2 Tryd.f34 1

set_option maxRecDepth 100000 in
theorem sf34_ok : HOk Tryd.prog 34 sf34I :=
  inl_ok (tbl := st10) tab_ok st10_ok mixed (fun _ _ _ => .unroll 12) 2 _ 1 Tryd.func34 rfl Tryd.ntmps34 (by decide) (by kernel_rfl) (Nat.le_of_ble_eq_true rfl)


def st11 : Tbl := (34, .gen sf34I) :: st10

theorem st11_ok : TblOk Tryd.prog st11 := ⟨sf34_ok, st10_ok⟩

-- (*foolscap/csv.reader).fieldsS1


def sf31I : Handler := inlH tab st11 (fun _ _ _ => .unroll 12) 2 Tryd.f31 2

set_option maxRecDepth 100000 in
theorem sf31_ok : HOk Tryd.prog 31 sf31I :=
  inl_ok (tbl := st11) tab_ok st11_ok mixed (fun _ _ _ => .unroll 12) 2 _ 2 Tryd.func31 rfl Tryd.ntmps31 (by decide) (by kernel_rfl) (Nat.le_of_ble_eq_true rfl)


def st12 : Tbl := (31, .gen sf31I) :: st11

theorem st12_ok : TblOk Tryd.prog st12 := ⟨sf31_ok, st11_ok⟩

-- foolscap/csv.Wide


def sf10I : Handler := inlH tab st12 (fun _ _ _ => .unroll 12) 2 Tryd.f10 1

set_option maxRecDepth 100000 in
theorem sf10_ok : HOk Tryd.prog 10 sf10I :=
  inl_ok (tbl := st12) tab_ok st12_ok mixed (fun _ _ _ => .unroll 12) 2 _ 1 Tryd.func10 rfl Tryd.ntmps10 (by decide) (by kernel_rfl) (Nat.le_of_ble_eq_true rfl)


def st13 : Tbl := (10, .gen sf10I) :: st12

theorem st13_ok : TblOk Tryd.prog st13 := ⟨sf10_ok, st12_ok⟩

-- foolscap/csv.separator


def sf15I : Handler := inlH tab st13 (fun _ _ _ => .unroll 12) 2 Tryd.f15 1

set_option maxRecDepth 100000 in
theorem sf15_ok : HOk Tryd.prog 15 sf15I :=
  inl_ok (tbl := st13) tab_ok st13_ok mixed (fun _ _ _ => .unroll 12) 2 _ 1 Tryd.func15 rfl Tryd.ntmps15 (by decide) (by kernel_rfl) (Nat.le_of_ble_eq_true rfl)


def st14 : Tbl := (15, .gen sf15I) :: st13

theorem st14_ok : TblOk Tryd.prog st14 := ⟨sf15_ok, st13_ok⟩

-- (*foolscap/csv.reader).fields


def sf25I : Handler := inlH tab st14 (fun _ _ _ => .unroll 12) 2 Tryd.f25 1

set_option maxRecDepth 100000 in
theorem sf25_ok : HOk Tryd.prog 25 sf25I :=
  inl_ok (tbl := st14) tab_ok st14_ok mixed (fun _ _ _ => .unroll 12) 2 _ 1 Tryd.func25 rfl Tryd.ntmps25 (by decide) (by kernel_rfl) (Nat.le_of_ble_eq_true rfl)


def st15 : Tbl := (25, .gen sf25I) :: st14

theorem st15_ok : TblOk Tryd.prog st15 := ⟨sf25_ok, st14_ok⟩

-- (*foolscap/csv.reader).end


def sf26I : Handler := inlH tab st15 (fun _ _ _ => .unroll 12) 2 Tryd.f26 1

set_option maxRecDepth 100000 in
theorem sf26_ok : HOk Tryd.prog 26 sf26I :=
  inl_ok (tbl := st15) tab_ok st15_ok mixed (fun _ _ _ => .unroll 12) 2 _ 1 Tryd.func26 rfl Tryd.ntmps26 (by decide) (by kernel_rfl) (Nat.le_of_ble_eq_true rfl)


def st16 : Tbl := (26, .gen sf26I) :: st15

theorem st16_ok : TblOk Tryd.prog st16 := ⟨sf26_ok, st15_ok⟩

-- foolscap/csv.Read


def sf13I : Handler := inlH tab st16 (fun _ _ _ => .unroll 12) 2 Tryd.f13 2

set_option maxRecDepth 100000 in
theorem sf13_ok : HOk Tryd.prog 13 sf13I :=
  inl_ok (tbl := st16) tab_ok st16_ok mixed (fun _ _ _ => .unroll 12) 2 _ 2 Tryd.func13 rfl Tryd.ntmps13 (by decide) (by kernel_rfl) (Nat.le_of_ble_eq_true rfl)


def st17 : Tbl := (13, .gen sf13I) :: st16

theorem st17_ok : TblOk Tryd.prog st17 := ⟨sf13_ok, st16_ok⟩

-- foolscap/csv.needs


def sf17I : Handler := inlH tab st17 (fun _ _ _ => .unroll 12) 2 Tryd.f17 3

set_option maxRecDepth 100000 in
theorem sf17_ok : HOk Tryd.prog 17 sf17I :=
  inl_ok (tbl := st17) tab_ok st17_ok mixed (fun _ _ _ => .unroll 12) 2 _ 3 Tryd.func17 rfl Tryd.ntmps17 (by decide) (by kernel_rfl) (Nat.le_of_ble_eq_true rfl)


def st18 : Tbl := (17, .gen sf17I) :: st17

theorem st18_ok : TblOk Tryd.prog st18 := ⟨sf17_ok, st17_ok⟩

-- foolscap/csv.Write


def sf8I : Handler := inlH tab st18 (fun _ _ _ => .unroll 12) 2 Tryd.f8 2

set_option maxRecDepth 100000 in
theorem sf8_ok : HOk Tryd.prog 8 sf8I :=
  inl_ok (tbl := st18) tab_ok st18_ok mixed (fun _ _ _ => .unroll 12) 2 _ 2 Tryd.func8 rfl Tryd.ntmps8 (by decide) (by kernel_rfl) (Nat.le_of_ble_eq_true rfl)


def st19 : Tbl := (8, .gen sf8I) :: st18

theorem st19_ok : TblOk Tryd.prog st19 := ⟨sf8_ok, st18_ok⟩

-- foolscap/foolscapref29.Same


def sf14I : Handler := inlH tab st19 (fun _ _ _ => .unroll 12) 2 Tryd.f14 2

set_option maxRecDepth 100000 in
theorem sf14_ok : HOk Tryd.prog 14 sf14I :=
  inl_ok (tbl := st19) tab_ok st19_ok mixed (fun _ _ _ => .unroll 12) 2 _ 2 Tryd.func14 rfl Tryd.ntmps14 (by decide) (by kernel_rfl) (Nat.le_of_ble_eq_true rfl)


def st20 : Tbl := (14, .gen sf14I) :: st19

theorem st20_ok : TblOk Tryd.prog st20 := ⟨sf14_ok, st19_ok⟩

-- foolscap/foolscaplaw29.is


def sf24I : Handler := inlH tab st20 (fun _ _ _ => .unroll 12) 2 Tryd.f24 2

set_option maxRecDepth 100000 in
theorem sf24_ok : HOk Tryd.prog 24 sf24I :=
  inl_ok (tbl := st20) tab_ok st20_ok mixed (fun _ _ _ => .unroll 12) 2 _ 2 Tryd.func24 rfl Tryd.ntmps24 (by decide) (by kernel_rfl) (Nat.le_of_ble_eq_true rfl)


def st21 : Tbl := (24, .gen sf24I) :: st20

theorem st21_ok : TblOk Tryd.prog st21 := ⟨sf24_ok, st20_ok⟩

-- last table: st21


set_option maxRecDepth 100000 in
theorem lives_vc (m : Int) {R : AV → Prop} (h : (∀ (n1 : Nat), n1 = n1 ∧ ∀ (n2 n3 n4 : Nat), n3 = n3 ∧ n1 = n1 ∧ n3 = n3 ∧ n1 = n1 ∧ ((0 : Int) ≤ (0 : Int) ∧ (0 : Int) ≤ (13 : Int)) ∧ (13 : Nat) ≤ (13 : Nat) ∧ n3 = n3 ∧ n1 = n1 ∧ n1 = n1 ∧ ((0 : Int) ≤ (0 : Int) ∧ (0 : Int) ≤ (13 : Int)) ∧ (13 : Nat) ≤ (13 : Nat) ∧ n1 = n1 ∧ ((0 : Int) ≤ (1 : Int) ∧ (1 : Int) ≤ (13 : Int)) ∧ ∀ (n5 : Nat), n5 = n5 ∧ n5 = n5 ∧ n1 = n1 ∧ n1 = n1 ∧ n1 = n1 ∧ n1 = n1 ∧ ((0 : Int) ≤ (1 : Int) ∧ (1 : Int) ≤ (13 : Int)) ∧ (13 : Nat) ≤ (13 : Nat) ∧ n3 = n3 ∧ n1 = n1 ∧ n4 = n4 ∧ n4 = n4 ∧ n2 = n2 ∧ ∀ (n6 : Nat), n6 = n6 ∧ ((1 : Nat) ≤ (9223372036854775807 : Nat) ∧ (3088 : Nat) ≤ (281474976710656 : Nat)) ∧ ∀ (n7 n8 : Nat), (1 : Nat) ≤ n8 → n2 = n2 ∧ n4 = n4 ∧ some (Blk.mk n1 (Cont.cells [AV.v (Value.string (ByteArray.mk #[(97 : UInt8), (44 : UInt8), (34 : UInt8), (98 : UInt8), (32 : UInt8), (34 : UInt8), (34 : UInt8), (99 : UInt8), (34 : UInt8), (34 : UInt8), (34 : UInt8), (10 : UInt8), (100 : UInt8)])), AV.v (Value.int IntKind.i64 (1 : Int)), AV.v (Value.int IntKind.u8 (44 : Int)), AV.v (Value.int IntKind.i64 (-1 : Int))] (54 : Nat)) true) = some (Blk.mk n1 (Cont.cells [AV.v (Value.string (ByteArray.mk #[(97 : UInt8), (44 : UInt8), (34 : UInt8), (98 : UInt8), (32 : UInt8), (34 : UInt8), (34 : UInt8), (99 : UInt8), (34 : UInt8), (34 : UInt8), (34 : UInt8), (10 : UInt8), (100 : UInt8)])), AV.v (Value.int IntKind.i64 (1 : Int)), AV.v (Value.int IntKind.u8 (44 : Int)), AV.v (Value.int IntKind.i64 (-1 : Int))] (54 : Nat)) true) ∧ some (Blk.mk n3 (Cont.cells [AV.ptr (1 : Nat) n1 (0 : Nat)] (52 : Nat)) true) = some (Blk.mk n3 (Cont.cells [AV.ptr (1 : Nat) n1 (0 : Nat)] (52 : Nat)) true) ∧ n3 = n3 ∧ n1 = n1 ∧ n3 = n3 ∧ n1 = n1 ∧ n3 = n3 ∧ n1 = n1 ∧ n3 = n3 ∧ n1 = n1 ∧ ((0 : Int) ≤ (1 : Int) ∧ (1 : Int) < (13 : Int)) ∧ n3 = n3 ∧ n1 = n1 ∧ n3 = n3 ∧ n1 = n1 ∧ n1 = n1 ∧ n3 = n3 ∧ n1 = n1 ∧ n3 = n3 ∧ n1 = n1 ∧ ((0 : Int) ≤ (2 : Int) ∧ (2 : Int) ≤ (13 : Int)) ∧ (13 : Nat) ≤ (13 : Nat) ∧ n3 = n3 ∧ ∀ (n10 : Nat), n1 = n1 ∧ n1 = n1 ∧ ((0 : Int) ≤ (3 : Int) ∧ (3 : Int) ≤ (13 : Int)) ∧ (13 : Nat) ≤ (13 : Nat) ∧ (10 : Nat) < (4294967281 : Nat) ∧ n10 = n10 ∧ n10 = n10 ∧ n10 = n10 ∧ n10 = n10 ∧ n10 = n10 ∧ ((2 : Nat) ≤ (9223372036854775807 : Nat) ∧ (194 : Nat) ≤ (281474976710656 : Nat)) ∧ ∀ (n11 n12 : Nat), (2 : Nat) ≤ n12 → n10 = n10 ∧ n10 = n10 ∧ n10 = n10 ∧ n10 = n10 ∧ n10 = n10 ∧ ∀ (n14 : Nat), n14 = n14 ∧ (∀ (v : Int), v ∈ [(34 : Int)] → (0 : Int) ≤ v ∧ v ≤ (255 : Int)) ∧ n11 = n11 ∧ (2 : Nat) = (2 : Nat) ∧ n12 = n12 ∧ ((3 : Nat) ≤ (9223372036854775807 : Nat) ∧ (195 : Nat) ≤ (281474976710656 : Nat)) ∧ ∀ (n15 n16 : Nat), (3 : Nat) ≤ n16 → n10 = n10 ∧ ((0 : Int) ≤ (1 : Int) ∧ (1 : Int) ≤ (7 : Int)) ∧ (7 : Nat) ≤ (7 : Nat) ∧ (6 : Nat) < (4294967281 : Nat) ∧ n10 = n10 ∧ n10 = n10 ∧ n10 = n10 ∧ n10 = n10 ∧ n15 = n15 ∧ (3 : Nat) = (3 : Nat) ∧ n16 = n16 ∧ ((4 : Nat) ≤ (9223372036854775807 : Nat) ∧ (197 : Nat) ≤ (281474976710656 : Nat)) ∧ ∀ (n18 n19 : Nat), (4 : Nat) ≤ n19 → n10 = n10 ∧ n10 = n10 ∧ n10 = n10 ∧ n10 = n10 ∧ n10 = n10 ∧ ∀ (n21 : Nat), n21 = n21 ∧ (∀ (v : Int), v ∈ [(34 : Int)] → (0 : Int) ≤ v ∧ v ≤ (255 : Int)) ∧ n18 = n18 ∧ (4 : Nat) = (4 : Nat) ∧ n19 = n19 ∧ ((5 : Nat) ≤ (9223372036854775807 : Nat) ∧ (198 : Nat) ≤ (281474976710656 : Nat)) ∧ ∀ (n22 n23 : Nat), (5 : Nat) ≤ n23 → n10 = n10 ∧ ((0 : Int) ≤ (1 : Int) ∧ (1 : Int) ≤ (4 : Int)) ∧ (4 : Nat) ≤ (4 : Nat) ∧ (3 : Nat) < (4294967281 : Nat) ∧ n10 = n10 ∧ n10 = n10 ∧ n10 = n10 ∧ n10 = n10 ∧ n22 = n22 ∧ (5 : Nat) = (5 : Nat) ∧ n23 = n23 ∧ ((5 : Nat) ≤ (9223372036854775807 : Nat) ∧ (198 : Nat) ≤ (281474976710656 : Nat)) ∧ ∀ (n25 n26 : Nat), (5 : Nat) ≤ n26 → n10 = n10 ∧ n1 = n1 ∧ n1 = n1 ∧ n10 = n10 ∧ n10 = n10 ∧ n25 = n25 ∧ n26 = n26 ∧ some (Blk.mk n10 (Cont.cells [AV.ptr (8 : Nat) n10 (0 : Nat), AV.sl (9 : Nat) n25 (0 : Nat) (1 : Nat) (5 : Nat) n26] (41 : Nat)) true) = some (Blk.mk n10 (Cont.cells [AV.ptr (8 : Nat) n10 (0 : Nat), AV.sl (9 : Nat) n25 (0 : Nat) (1 : Nat) (5 : Nat) n26] (41 : Nat)) true) ∧ n25 = n25 ∧ (5 : Int) = (5 : Int) ∧ some (Blk.mk n10 (Cont.cells [AV.ptr (8 : Nat) n10 (0 : Nat), AV.sl (9 : Nat) n25 (0 : Nat) (1 : Nat) (5 : Nat) n26] (41 : Nat)) true) = some (Blk.mk n10 (Cont.cells [AV.ptr (8 : Nat) n10 (0 : Nat), AV.sl (9 : Nat) n25 (0 : Nat) (1 : Nat) (5 : Nat) n26] (41 : Nat)) true) ∧ some (Blk.mk n10 (Cont.cells [AV.ptr (8 : Nat) n10 (0 : Nat), AV.sl (9 : Nat) n25 (0 : Nat) (1 : Nat) (5 : Nat) n26] (41 : Nat)) true) = some (Blk.mk n10 (Cont.cells [AV.ptr (8 : Nat) n10 (0 : Nat), AV.sl (9 : Nat) n25 (0 : Nat) (1 : Nat) (5 : Nat) n26] (41 : Nat)) true) ∧ n3 = n3 ∧ n1 = n1 ∧ n4 = n4 ∧ n4 = n4 ∧ n2 = n2 ∧ ∀ (n28 : Nat), n28 = n28 ∧ n7 = n7 ∧ n8 = n8 ∧ (1 : Nat) ≤ n8 ∧ ((2 : Nat) ≤ (9223372036854775807 : Nat) ∧ (3104 : Nat) ≤ (281474976710656 : Nat)) ∧ ∀ (b29 : Bool) (n30 n31 : Nat), (2 : Nat) ≤ n31 → n2 = n2 ∧ n4 = n4 ∧ some (Blk.mk n1 (Cont.cells [AV.v (Value.string (ByteArray.mk #[(97 : UInt8), (44 : UInt8), (34 : UInt8), (98 : UInt8), (32 : UInt8), (34 : UInt8), (34 : UInt8), (99 : UInt8), (34 : UInt8), (34 : UInt8), (34 : UInt8), (10 : UInt8), (100 : UInt8)])), AV.v (Value.int IntKind.i64 (11 : Int)), AV.v (Value.int IntKind.u8 (44 : Int)), AV.v (Value.int IntKind.i64 (-1 : Int))] (54 : Nat)) true) = some (Blk.mk n1 (Cont.cells [AV.v (Value.string (ByteArray.mk #[(97 : UInt8), (44 : UInt8), (34 : UInt8), (98 : UInt8), (32 : UInt8), (34 : UInt8), (34 : UInt8), (99 : UInt8), (34 : UInt8), (34 : UInt8), (34 : UInt8), (10 : UInt8), (100 : UInt8)])), AV.v (Value.int IntKind.i64 (11 : Int)), AV.v (Value.int IntKind.u8 (44 : Int)), AV.v (Value.int IntKind.i64 (-1 : Int))] (54 : Nat)) true) ∧ some (Blk.mk n3 (Cont.cells [AV.ptr (1 : Nat) n1 (0 : Nat)] (52 : Nat)) true) = some (Blk.mk n3 (Cont.cells [AV.ptr (1 : Nat) n1 (0 : Nat)] (52 : Nat)) true) ∧ n3 = n3 ∧ n1 = n1 ∧ n3 = n3 ∧ n1 = n1 ∧ n3 = n3 ∧ n1 = n1 ∧ n3 = n3 ∧ n1 = n1 ∧ ((0 : Int) ≤ (11 : Int) ∧ (11 : Int) < (13 : Int)) ∧ n3 = n3 ∧ n1 = n1 ∧ n4 = n4 ∧ n1 = n1 ∧ n1 = n1 ∧ n1 = n1 ∧ ((0 : Int) ≤ (11 : Int) ∧ (11 : Int) ≤ (13 : Int)) ∧ (13 : Nat) ≤ (13 : Nat) ∧ n1 = n1 ∧ n1 = n1 ∧ n1 = n1 ∧ n2 = n2 ∧ ∀ (n33 : Nat), n33 = n33 ∧ ((1 : Nat) ≤ (9223372036854775807 : Nat) ∧ (4632 : Nat) ≤ (281474976710656 : Nat)) ∧ ∀ (n34 n35 : Nat), (1 : Nat) ≤ n35 → n1 = n1 ∧ ∀ (n37 n38 n39 : Nat), n38 = n38 ∧ n1 = n1 ∧ n38 = n38 ∧ n1 = n1 ∧ ((0 : Int) ≤ (12 : Int) ∧ (12 : Int) ≤ (13 : Int)) ∧ (13 : Nat) ≤ (13 : Nat) ∧ n38 = n38 ∧ n1 = n1 ∧ n1 = n1 ∧ ((0 : Int) ≤ (12 : Int) ∧ (12 : Int) ≤ (13 : Int)) ∧ (13 : Nat) ≤ (13 : Nat) ∧ n1 = n1 ∧ ∀ (n40 : Nat), n40 = n40 ∧ n40 = n40 ∧ n1 = n1 ∧ n1 = n1 ∧ n1 = n1 ∧ n1 = n1 ∧ ((0 : Int) ≤ (13 : Int) ∧ (13 : Int) ≤ (13 : Int)) ∧ (13 : Nat) ≤ (13 : Nat) ∧ n38 = n38 ∧ n1 = n1 ∧ n39 = n39 ∧ n39 = n39 ∧ n37 = n37 ∧ ∀ (n41 : Nat), n41 = n41 ∧ ((1 : Nat) ≤ (9223372036854775807 : Nat) ∧ (3088 : Nat) ≤ (281474976710656 : Nat)) ∧ ∀ (n42 n43 : Nat), (1 : Nat) ≤ n43 → n37 = n37 ∧ n39 = n39 ∧ some (Blk.mk n1 (Cont.cells [AV.v (Value.string (ByteArray.mk #[(97 : UInt8), (44 : UInt8), (34 : UInt8), (98 : UInt8), (32 : UInt8), (34 : UInt8), (34 : UInt8), (99 : UInt8), (34 : UInt8), (34 : UInt8), (34 : UInt8), (10 : UInt8), (100 : UInt8)])), AV.v (Value.int IntKind.i64 (13 : Int)), AV.v (Value.int IntKind.u8 (44 : Int)), AV.v (Value.int IntKind.i64 (-1 : Int))] (54 : Nat)) true) = some (Blk.mk n1 (Cont.cells [AV.v (Value.string (ByteArray.mk #[(97 : UInt8), (44 : UInt8), (34 : UInt8), (98 : UInt8), (32 : UInt8), (34 : UInt8), (34 : UInt8), (99 : UInt8), (34 : UInt8), (34 : UInt8), (34 : UInt8), (10 : UInt8), (100 : UInt8)])), AV.v (Value.int IntKind.i64 (13 : Int)), AV.v (Value.int IntKind.u8 (44 : Int)), AV.v (Value.int IntKind.i64 (-1 : Int))] (54 : Nat)) true) ∧ some (Blk.mk n38 (Cont.cells [AV.ptr (1 : Nat) n1 (0 : Nat)] (52 : Nat)) true) = some (Blk.mk n38 (Cont.cells [AV.ptr (1 : Nat) n1 (0 : Nat)] (52 : Nat)) true) ∧ n38 = n38 ∧ n1 = n1 ∧ n38 = n38 ∧ n1 = n1 ∧ n39 = n39 ∧ n1 = n1 ∧ n1 = n1 ∧ n1 = n1 ∧ ((0 : Int) ≤ (13 : Int) ∧ (13 : Int) ≤ (13 : Int)) ∧ (13 : Nat) ≤ (13 : Nat) ∧ n1 = n1 ∧ n37 = n37 ∧ ∀ (n45 : Nat), n45 = n45 ∧ n34 = n34 ∧ n35 = n35 ∧ (1 : Nat) ≤ n35 ∧ ((2 : Nat) ≤ (9223372036854775807 : Nat) ∧ (4656 : Nat) ≤ (281474976710656 : Nat)) ∧ ∀ (b46 : Bool) (n47 n48 : Nat), (2 : Nat) ≤ n48 → n1 = n1 ∧ ∀ (n50 : Nat), n50 = n50 ∧ ((0 : Int) ≤ (0 : Int) ∧ (0 : Int) < (2 : Int)) ∧ n47 = n47 ∧ (0 : Nat) < n48 ∧ n50 = n50 ∧ n50 = n50 ∧ ((0 : Int) ≤ (1 : Int) ∧ (1 : Int) < (2 : Int)) ∧ n47 = n47 ∧ (1 : Nat) < n48 ∧ n50 = n50 ∧ n50 = n50 ∧ n50 = n50 ∧ ∀ (n51 : Nat), n51 = n51 ∧ ∀ (n52 n53 n54 : Nat), n53 = n53 ∧ n51 = n51 ∧ n53 = n53 ∧ n51 = n51 ∧ ((0 : Int) ≤ (0 : Int) ∧ (0 : Int) ≤ (3 : Int)) ∧ (3 : Nat) ≤ (3 : Nat) ∧ n53 = n53 ∧ n51 = n51 ∧ n51 = n51 ∧ ((0 : Int) ≤ (0 : Int) ∧ (0 : Int) ≤ (3 : Int)) ∧ (3 : Nat) ≤ (3 : Nat) ∧ n51 = n51 ∧ ∀ (n55 : Nat), n55 = n55 ∧ n55 = n55 ∧ ((0 : Int) ≤ (1 : Int) ∧ (1 : Int) ≤ (3 : Int)) ∧ n51 = n51 ∧ n51 = n51 ∧ n51 = n51 ∧ n51 = n51 ∧ ((0 : Int) ≤ (1 : Int) ∧ (1 : Int) ≤ (3 : Int)) ∧ (3 : Nat) ≤ (3 : Nat) ∧ n53 = n53 ∧ n51 = n51 ∧ n54 = n54 ∧ n54 = n54 ∧ n52 = n52 ∧ ∀ (n56 : Nat), n56 = n56 ∧ ((1 : Nat) ≤ (9223372036854775807 : Nat) ∧ (3088 : Nat) ≤ (281474976710656 : Nat)) ∧ ∀ (n57 n58 : Nat), (1 : Nat) ≤ n58 → n52 = n52 ∧ n54 = n54 ∧ some (Blk.mk n51 (Cont.cells [AV.v (Value.string (ByteArray.mk #[(97 : UInt8), (13 : UInt8), (10 : UInt8)])), AV.v (Value.int IntKind.i64 (1 : Int)), AV.v (Value.int IntKind.u8 (44 : Int)), AV.v (Value.int IntKind.i64 (-1 : Int))] (54 : Nat)) true) = some (Blk.mk n51 (Cont.cells [AV.v (Value.string (ByteArray.mk #[(97 : UInt8), (13 : UInt8), (10 : UInt8)])), AV.v (Value.int IntKind.i64 (1 : Int)), AV.v (Value.int IntKind.u8 (44 : Int)), AV.v (Value.int IntKind.i64 (-1 : Int))] (54 : Nat)) true) ∧ some (Blk.mk n53 (Cont.cells [AV.ptr (23 : Nat) n51 (0 : Nat)] (52 : Nat)) true) = some (Blk.mk n53 (Cont.cells [AV.ptr (23 : Nat) n51 (0 : Nat)] (52 : Nat)) true) ∧ n53 = n53 ∧ n51 = n51 ∧ n53 = n53 ∧ n51 = n51 ∧ n53 = n53 ∧ n51 = n51 ∧ n53 = n53 ∧ n51 = n51 ∧ ((0 : Int) ≤ (1 : Int) ∧ (1 : Int) < (3 : Int)) ∧ n53 = n53 ∧ n51 = n51 ∧ n54 = n54 ∧ n51 = n51 ∧ n51 = n51 ∧ n51 = n51 ∧ ((0 : Int) ≤ (1 : Int) ∧ (1 : Int) ≤ (3 : Int)) ∧ (3 : Nat) ≤ (3 : Nat) ∧ n51 = n51 ∧ n51 = n51 ∧ n51 = n51 ∧ n52 = n52 ∧ ∀ (n60 : Nat), n60 = n60 ∧ ((1 : Nat) ≤ (9223372036854775807 : Nat) ∧ (4632 : Nat) ≤ (281474976710656 : Nat)) ∧ ∀ (n61 n62 : Nat), (1 : Nat) ≤ n62 → n51 = n51 ∧ ∀ (n64 : Nat), n64 = n64 ∧ ((0 : Int) ≤ (0 : Int) ∧ (0 : Int) < (1 : Int)) ∧ n61 = n61 ∧ (0 : Nat) < n62 ∧ n64 = n64 ∧ n64 = n64 ∧ n64 = n64 ∧ ∀ (n65 n66 : Nat), ((0 : Int) ≤ (0 : Int) ∧ (0 : Int) < (1 : Int)) ∧ n66 = n66 ∧ ∀ (n67 : Nat), n67 = n67 ∧ ((0 : Int) ≤ (0 : Int) ∧ (0 : Int) < (1 : Int)) ∧ n66 = n66 ∧ n67 = n67 ∧ n67 = n67 ∧ n67 = n67 ∧ ∀ (n68 : Nat), ((0 : Int) ≤ (0 : Int) ∧ (0 : Int) < (1 : Int)) ∧ n66 = n66 ∧ ((0 : Int) ≤ (0 : Int) ∧ (0 : Int) < (1 : Int)) ∧ n65 = n65 ∧ ((0 : Nat) < (4294967281 : Nat) ∧ (1 : Nat) ≤ (1 : Nat) ∧ (0 : Nat) ≤ (140737488355328 : Nat)) ∧ (1 : Nat) ≤ (9223372036854775807 : Nat) ∧ (2 : Nat) ≤ (9223372036854775807 : Nat) ∧ n68 = n68 ∧ n68 = n68 ∧ n68 = n68 ∧ n68 = n68 ∧ n68 = n68 ∧ ((2 : Nat) ≤ (9223372036854775807 : Nat) ∧ (194 : Nat) ≤ (281474976710656 : Nat)) ∧ ∀ (n69 n70 : Nat), (2 : Nat) ≤ n70 → n68 = n68 ∧ n68 = n68 ∧ n68 = n68 ∧ n68 = n68 ∧ n68 = n68 ∧ ∀ (n72 : Nat), n72 = n72 ∧ (∀ (v : Int), v ∈ [(10 : Int)] → (0 : Int) ≤ v ∧ v ≤ (255 : Int)) ∧ n69 = n69 ∧ (2 : Nat) = (2 : Nat) ∧ n70 = n70 ∧ ((3 : Nat) ≤ (9223372036854775807 : Nat) ∧ (195 : Nat) ≤ (281474976710656 : Nat)) ∧ ∀ (n73 n74 : Nat), (3 : Nat) ≤ n74 → n68 = n68 ∧ n68 = n68 ∧ n68 = n68 ∧ n73 = n73 ∧ n74 = n74 ∧ some (Blk.mk n68 (Cont.cells [AV.ptr (36 : Nat) n68 (0 : Nat), AV.sl (37 : Nat) n73 (0 : Nat) (1 : Nat) (3 : Nat) n74] (41 : Nat)) true) = some (Blk.mk n68 (Cont.cells [AV.ptr (36 : Nat) n68 (0 : Nat), AV.sl (37 : Nat) n73 (0 : Nat) (1 : Nat) (3 : Nat) n74] (41 : Nat)) true) ∧ n73 = n73 ∧ (3 : Int) = (3 : Int) ∧ some (Blk.mk n68 (Cont.cells [AV.ptr (36 : Nat) n68 (0 : Nat), AV.sl (37 : Nat) n73 (0 : Nat) (1 : Nat) (3 : Nat) n74] (41 : Nat)) true) = some (Blk.mk n68 (Cont.cells [AV.ptr (36 : Nat) n68 (0 : Nat), AV.sl (37 : Nat) n73 (0 : Nat) (1 : Nat) (3 : Nat) n74] (41 : Nat)) true) ∧ some (Blk.mk n68 (Cont.cells [AV.ptr (36 : Nat) n68 (0 : Nat), AV.sl (37 : Nat) n73 (0 : Nat) (1 : Nat) (3 : Nat) n74] (41 : Nat)) true) = some (Blk.mk n68 (Cont.cells [AV.ptr (36 : Nat) n68 (0 : Nat), AV.sl (37 : Nat) n73 (0 : Nat) (1 : Nat) (3 : Nat) n74] (41 : Nat)) true) ∧ ∀ (n76 n77 n78 : Nat), ((0 : Int) ≤ (0 : Int) ∧ (0 : Int) < (2 : Int)) ∧ n47 = n47 ∧ (0 : Nat) < n48 ∧ ((0 : Int) ≤ (0 : Int) ∧ (0 : Int) < (2 : Int)) ∧ n78 = n78 ∧ ((0 : Int) ≤ (0 : Int) ∧ (0 : Int) < (2 : Int)) ∧ n47 = n47 ∧ (0 : Nat) < n48 ∧ ((0 : Int) ≤ (0 : Int) ∧ (0 : Int) < (2 : Int)) ∧ n47 = n47 ∧ (0 : Nat) < n48 ∧ ((0 : Int) ≤ (0 : Int) ∧ (0 : Int) < (2 : Int)) ∧ n30 = n30 ∧ (0 : Nat) < n31 ∧ ((0 : Int) ≤ (0 : Int) ∧ (0 : Int) < (2 : Int)) ∧ n78 = n78 ∧ ((0 : Int) ≤ (0 : Int) ∧ (0 : Int) < (2 : Int)) ∧ n76 = n76 ∧ ((0 : Int) ≤ (0 : Int) ∧ (0 : Int) < (2 : Int)) ∧ n47 = n47 ∧ (0 : Nat) < n48 ∧ ((0 : Int) ≤ (0 : Int) ∧ (0 : Int) < (2 : Int)) ∧ n47 = n47 ∧ (0 : Nat) < n48 ∧ ((0 : Int) ≤ (1 : Int) ∧ (1 : Int) < (2 : Int)) ∧ n30 = n30 ∧ (1 : Nat) < n31 ∧ ((0 : Int) ≤ (0 : Int) ∧ (0 : Int) < (2 : Int)) ∧ n78 = n78 ∧ ((0 : Int) ≤ (1 : Int) ∧ (1 : Int) < (2 : Int)) ∧ n76 = n76 ∧ ((0 : Int) ≤ (0 : Int) ∧ (0 : Int) < (2 : Int)) ∧ n47 = n47 ∧ (0 : Nat) < n48 ∧ ((0 : Int) ≤ (1 : Int) ∧ (1 : Int) < (2 : Int)) ∧ n47 = n47 ∧ (1 : Nat) < n48 ∧ ((0 : Int) ≤ (1 : Int) ∧ (1 : Int) < (2 : Int)) ∧ n78 = n78 ∧ ((0 : Int) ≤ (1 : Int) ∧ (1 : Int) < (2 : Int)) ∧ n47 = n47 ∧ (1 : Nat) < n48 ∧ ((0 : Int) ≤ (1 : Int) ∧ (1 : Int) < (2 : Int)) ∧ n47 = n47 ∧ (1 : Nat) < n48 ∧ ((0 : Int) ≤ (0 : Int) ∧ (0 : Int) < (1 : Int)) ∧ n42 = n42 ∧ (0 : Nat) < n43 ∧ ((0 : Int) ≤ (1 : Int) ∧ (1 : Int) < (2 : Int)) ∧ n78 = n78 ∧ ((0 : Int) ≤ (0 : Int) ∧ (0 : Int) < (1 : Int)) ∧ n77 = n77 ∧ ((0 : Int) ≤ (1 : Int) ∧ (1 : Int) < (2 : Int)) ∧ n47 = n47 ∧ (1 : Nat) < n48 ∧ ∀ (n79 n80 : Nat), ((0 : Int) ≤ (0 : Int) ∧ (0 : Int) < (1 : Int)) ∧ n61 = n61 ∧ (0 : Nat) < n62 ∧ ((0 : Int) ≤ (0 : Int) ∧ (0 : Int) < (1 : Int)) ∧ n80 = n80 ∧ ((0 : Int) ≤ (0 : Int) ∧ (0 : Int) < (1 : Int)) ∧ n61 = n61 ∧ (0 : Nat) < n62 ∧ ((0 : Int) ≤ (0 : Int) ∧ (0 : Int) < (1 : Int)) ∧ n61 = n61 ∧ (0 : Nat) < n62 ∧ ((0 : Int) ≤ (0 : Int) ∧ (0 : Int) < (1 : Int)) ∧ n57 = n57 ∧ (0 : Nat) < n58 ∧ ((0 : Int) ≤ (0 : Int) ∧ (0 : Int) < (1 : Int)) ∧ n80 = n80 ∧ ((0 : Int) ≤ (0 : Int) ∧ (0 : Int) < (1 : Int)) ∧ n79 = n79 ∧ ((0 : Int) ≤ (0 : Int) ∧ (0 : Int) < (1 : Int)) ∧ n61 = n61 ∧ (0 : Nat) < n62 ∧ ∀ (n81 : Nat), n81 = n81 ∧ ∀ (n82 n83 n84 : Nat), n83 = n83 ∧ n81 = n81 ∧ n83 = n83 ∧ n81 = n81 ∧ ((0 : Int) ≤ (0 : Int) ∧ (0 : Int) ≤ (2 : Int)) ∧ (2 : Nat) ≤ (2 : Nat) ∧ n83 = n83 ∧ ∀ (n85 : Nat), n81 = n81 ∧ n81 = n81 ∧ ((0 : Int) ≤ (1 : Int) ∧ (1 : Int) ≤ (2 : Int)) ∧ (2 : Nat) ≤ (2 : Nat) ∧ (1 : Nat) < (4294967281 : Nat) ∧ n81 = n81 ∧ n81 = n81 ∧ n83 = n83 ∧ n81 = n81 ∧ n84 = n84 ∧ n81 = n81 ∧ n81 = n81 ∧ n81 = n81 ∧ ∀ (n86 : Nat), n86 = n86 ∧ ∀ (n87 n88 n89 : Nat), n88 = n88 ∧ n86 = n86 ∧ n88 = n88 ∧ n86 = n86 ∧ ((0 : Int) ≤ (0 : Int) ∧ (0 : Int) ≤ (3 : Int)) ∧ (3 : Nat) ≤ (3 : Nat) ∧ n88 = n88 ∧ n86 = n86 ∧ n86 = n86 ∧ ((0 : Int) ≤ (0 : Int) ∧ (0 : Int) ≤ (3 : Int)) ∧ (3 : Nat) ≤ (3 : Nat) ∧ n86 = n86 ∧ ∀ (n90 : Nat), n90 = n90 ∧ n90 = n90 ∧ ((0 : Int) ≤ (1 : Int) ∧ (1 : Int) ≤ (3 : Int)) ∧ n86 = n86 ∧ n86 = n86 ∧ n86 = n86 ∧ n86 = n86 ∧ ((0 : Int) ≤ (1 : Int) ∧ (1 : Int) ≤ (3 : Int)) ∧ (3 : Nat) ≤ (3 : Nat) ∧ n86 = n86 ∧ n86 = n86 ∧ n88 = n88 ∧ n86 = n86 ∧ n89 = n89 ∧ n86 = n86 ∧ n86 = n86 ∧ n86 = n86 ∧ ∀ (n91 : Nat), n91 = n91 ∧ ∀ (n92 n93 n94 : Nat), n93 = n93 ∧ n91 = n91 ∧ n93 = n93 ∧ n91 = n91 ∧ ((0 : Int) ≤ (0 : Int) ∧ (0 : Int) ≤ (4 : Int)) ∧ (4 : Nat) ≤ (4 : Nat) ∧ n93 = n93 ∧ ∀ (n95 : Nat), n91 = n91 ∧ n91 = n91 ∧ ((0 : Int) ≤ (1 : Int) ∧ (1 : Int) ≤ (4 : Int)) ∧ (4 : Nat) ≤ (4 : Nat) ∧ (3 : Nat) < (4294967281 : Nat) ∧ n95 = n95 ∧ n95 = n95 ∧ n95 = n95 ∧ n95 = n95 ∧ n95 = n95 ∧ ((1 : Nat) ≤ (9223372036854775807 : Nat) ∧ (193 : Nat) ≤ (281474976710656 : Nat)) ∧ ∀ (n96 n97 : Nat), (1 : Nat) ≤ n97 → n95 = n95 ∧ n91 = n91 ∧ n91 = n91 ∧ n95 = n95 ∧ n95 = n95 ∧ n96 = n96 ∧ n97 = n97 ∧ some (Blk.mk n95 (Cont.cells [AV.ptr (58 : Nat) n95 (0 : Nat), AV.sl (59 : Nat) n96 (0 : Nat) (1 : Nat) (1 : Nat) n97] (41 : Nat)) true) = some (Blk.mk n95 (Cont.cells [AV.ptr (58 : Nat) n95 (0 : Nat), AV.sl (59 : Nat) n96 (0 : Nat) (1 : Nat) (1 : Nat) n97] (41 : Nat)) true) ∧ n96 = n96 ∧ (1 : Int) = (1 : Int) ∧ some (Blk.mk n95 (Cont.cells [AV.ptr (58 : Nat) n95 (0 : Nat), AV.sl (59 : Nat) n96 (0 : Nat) (1 : Nat) (1 : Nat) n97] (41 : Nat)) true) = some (Blk.mk n95 (Cont.cells [AV.ptr (58 : Nat) n95 (0 : Nat), AV.sl (59 : Nat) n96 (0 : Nat) (1 : Nat) (1 : Nat) n97] (41 : Nat)) true) ∧ some (Blk.mk n95 (Cont.cells [AV.ptr (58 : Nat) n95 (0 : Nat), AV.sl (59 : Nat) n96 (0 : Nat) (1 : Nat) (1 : Nat) n97] (41 : Nat)) true) = some (Blk.mk n95 (Cont.cells [AV.ptr (58 : Nat) n95 (0 : Nat), AV.sl (59 : Nat) n96 (0 : Nat) (1 : Nat) (1 : Nat) n97] (41 : Nat)) true) ∧ n93 = n93 ∧ n91 = n91 ∧ n94 = n94 ∧ n94 = n94 ∧ n92 = n92 ∧ ∀ (n99 : Nat), n99 = n99 ∧ ((1 : Nat) ≤ (9223372036854775807 : Nat) ∧ (3088 : Nat) ≤ (281474976710656 : Nat)) ∧ ∀ (n100 n101 : Nat), (1 : Nat) ≤ n101 → n92 = n92 ∧ n94 = n94 ∧ some (Blk.mk n91 (Cont.cells [AV.v (Value.string (ByteArray.mk #[(34 : UInt8), (97 : UInt8), (34 : UInt8), (98 : UInt8)])), AV.v (Value.int IntKind.i64 (3 : Int)), AV.v (Value.int IntKind.u8 (44 : Int)), AV.v (Value.int IntKind.i64 (-1 : Int))] (54 : Nat)) true) = some (Blk.mk n91 (Cont.cells [AV.v (Value.string (ByteArray.mk #[(34 : UInt8), (97 : UInt8), (34 : UInt8), (98 : UInt8)])), AV.v (Value.int IntKind.i64 (3 : Int)), AV.v (Value.int IntKind.u8 (44 : Int)), AV.v (Value.int IntKind.i64 (-1 : Int))] (54 : Nat)) true) ∧ some (Blk.mk n93 (Cont.cells [AV.ptr (54 : Nat) n91 (0 : Nat)] (52 : Nat)) true) = some (Blk.mk n93 (Cont.cells [AV.ptr (54 : Nat) n91 (0 : Nat)] (52 : Nat)) true) ∧ n93 = n93 ∧ n91 = n91 ∧ n93 = n93 ∧ n91 = n91 ∧ n93 = n93 ∧ n91 = n91 ∧ n93 = n93 ∧ n91 = n91 ∧ ((0 : Int) ≤ (3 : Int) ∧ (3 : Int) < (4 : Int)) ∧ n93 = n93 ∧ n91 = n91 ∧ n94 = n94 ∧ n91 = n91 ∧ n91 = n91 ∧ n91 = n91 ∧ ((0 : Int) ≤ (3 : Int) ∧ (3 : Int) ≤ (4 : Int)) ∧ (4 : Nat) ≤ (4 : Nat) ∧ n91 = n91 ∧ n91 = n91 ∧ n91 = n91 ∧ n91 = n91 ∧ ∀ (n103 : Nat), n103 = n103 ∧ ∀ (n104 n105 n106 : Nat), n105 = n105 ∧ n103 = n103 ∧ n105 = n105 ∧ n103 = n103 ∧ ((0 : Int) ≤ (0 : Int) ∧ (0 : Int) ≤ (3 : Int)) ∧ (3 : Nat) ≤ (3 : Nat) ∧ n105 = n105 ∧ n103 = n103 ∧ n103 = n103 ∧ ((0 : Int) ≤ (0 : Int) ∧ (0 : Int) ≤ (3 : Int)) ∧ (3 : Nat) ≤ (3 : Nat) ∧ n103 = n103 ∧ ∀ (n107 : Nat), n107 = n107 ∧ n107 = n107 ∧ ((0 : Int) ≤ (1 : Int) ∧ (1 : Int) ≤ (3 : Int)) ∧ n103 = n103 ∧ n103 = n103 ∧ n103 = n103 ∧ n103 = n103 ∧ ((0 : Int) ≤ (1 : Int) ∧ (1 : Int) ≤ (3 : Int)) ∧ (3 : Nat) ≤ (3 : Nat) ∧ n105 = n105 ∧ n103 = n103 ∧ n106 = n106 ∧ n106 = n106 ∧ n104 = n104 ∧ ∀ (n108 : Nat), n108 = n108 ∧ ((1 : Nat) ≤ (9223372036854775807 : Nat) ∧ (3088 : Nat) ≤ (281474976710656 : Nat)) ∧ ∀ (n109 n110 : Nat), (1 : Nat) ≤ n110 → n104 = n104 ∧ n106 = n106 ∧ some (Blk.mk n103 (Cont.cells [AV.v (Value.string (ByteArray.mk #[(97 : UInt8), (13 : UInt8), (98 : UInt8)])), AV.v (Value.int IntKind.i64 (1 : Int)), AV.v (Value.int IntKind.u8 (44 : Int)), AV.v (Value.int IntKind.i64 (-1 : Int))] (54 : Nat)) true) = some (Blk.mk n103 (Cont.cells [AV.v (Value.string (ByteArray.mk #[(97 : UInt8), (13 : UInt8), (98 : UInt8)])), AV.v (Value.int IntKind.i64 (1 : Int)), AV.v (Value.int IntKind.u8 (44 : Int)), AV.v (Value.int IntKind.i64 (-1 : Int))] (54 : Nat)) true) ∧ some (Blk.mk n105 (Cont.cells [AV.ptr (62 : Nat) n103 (0 : Nat)] (52 : Nat)) true) = some (Blk.mk n105 (Cont.cells [AV.ptr (62 : Nat) n103 (0 : Nat)] (52 : Nat)) true) ∧ n105 = n105 ∧ n103 = n103 ∧ n105 = n105 ∧ n103 = n103 ∧ n105 = n105 ∧ n103 = n103 ∧ n105 = n105 ∧ n103 = n103 ∧ ((0 : Int) ≤ (1 : Int) ∧ (1 : Int) < (3 : Int)) ∧ n105 = n105 ∧ n103 = n103 ∧ n106 = n106 ∧ n103 = n103 ∧ n103 = n103 ∧ n103 = n103 ∧ ((0 : Int) ≤ (1 : Int) ∧ (1 : Int) ≤ (3 : Int)) ∧ (3 : Nat) ≤ (3 : Nat) ∧ n103 = n103 ∧ n103 = n103 ∧ n103 = n103 ∧ n103 = n103 ∧ R (AV.v (Value.bool true)))) : LC Tryd.prog 12 [] [gB m] (fun z_ _ => R z_) :=
  lc_of_exec (tbl := st21) tab_ok st21_ok mixed noinv 2 _ Tryd.func12 rfl Tryd.ntmps12 (by decide) (by kernel_rfl) (Nat.le_of_ble_eq_true rfl) (@Eq.mpr (execN tab st21 noinv 2 Tryd.f12.ntmps [] none 0 (body Tryd.f12) (argsT [] 0) [gB m] (post Tryd.f12 tab (retK (fun z_ _ => R z_)))) _ (by kernel_rfl) h)

set_option maxRecDepth 100000 in
theorem lives_lc (m : Int) : LC Tryd.prog 12 [] [gB m] (fun z_ _ => z_ = .v (.bool true)) :=
  lives_vc m (by
    intros
    simp (config := {decide := true}) [offB, offN, br_iff]
    all_goals (repeat' (first | (refine ⟨?_, ?_⟩) | intro _))
    all_goals (first | omega | (split <;> omega)))

def livesH : List AV → Option (Prop × AV)
  | [] => some (True, .v (.bool true))
  | _ => none

theorem lives_ok : HOk Tryd.prog 12 (glH livesH) := glH_ok (enters_of (c := body Tryd.f12) Tryd.func12 rfl (by kernel_rfl)) (by
  intro args p m h hp
  unfold livesH at h
  split at h
  · cases h; exact lives_lc m 
  · cases h)

end Go.Proofs.YtdokphikobfakaaDoor

