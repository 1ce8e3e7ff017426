/- View: the examples. -/
import Derived.Test.YthkegefjmcipmaaDoorTab
import Derived.Test.YthkegefjmcipmaaDoorEngN
import Derived.IntWalk
namespace Go.Proofs.YthkegefjmcipmaaDoor
open Go Go.Eng
set_option linter.unusedVariables false
set_option linter.unusedSimpArgs false

theorem mixed : Tryd.prog.follows .mixedOrders = true := by kernel_rfl

theorem w64 {x : Int} (h : -9223372036854775808 ≤ x ∧ x ≤ 9223372036854775807) : IntKind.i64.wrap x = x := IntWalk.i64_in _ h

def tx : Tbl := (4294967295, .ext mergeFlag) :: (62, .ext idH) :: (63, .ext (makeH 5)) :: []

theorem tx_ok : TblOk Tryd.prog tx := ⟨flag_ok, idH_ok Tryd.func62 (by kernel_rfl) (by kernel_rfl) (by kernel_rfl) (by kernel_rfl), makeH_ok (ps := #[3]) Tryd.underlying69 Tryd.func63 (by kernel_rfl) (by kernel_rfl) (by kernel_rfl) (by kernel_rfl), trivial⟩

-- foolscap/view.Clean


def sf16I : Handler := inlH tab tx (fun _ _ _ => .unroll 12) 2 Tryd.f16 1

set_option maxRecDepth 100000 in
theorem sf16_ok : HOk Tryd.prog 16 sf16I :=
  inl_ok (tbl := tx) tab_ok tx_ok mixed (fun _ _ _ => .unroll 12) 2 _ 1 Tryd.func16 rfl Tryd.ntmps16 (by decide) (by kernel_rfl) (Nat.le_of_ble_eq_true rfl)


def st1 : Tbl := (16, .gen sf16I) :: tx

theorem st1_ok : TblOk Tryd.prog st1 := ⟨sf16_ok, tx_ok⟩

-- (*strings.Builder).copyCheck


def sf52I : Handler := inlH tab st1 (fun _ _ _ => .unroll 12) 2 Tryd.f52 1

set_option maxRecDepth 100000 in
theorem sf52_ok : HOk Tryd.prog 52 sf52I :=
  inl_ok (tbl := st1) tab_ok st1_ok mixed (fun _ _ _ => .unroll 12) 2 _ 1 Tryd.func52 rfl Tryd.ntmps52 (by decide) (by kernel_rfl) (Nat.le_of_ble_eq_true rfl)


def st2 : Tbl := (52, .gen sf52I) :: st1

theorem st2_ok : TblOk Tryd.prog st2 := ⟨sf52_ok, st1_ok⟩

-- (*strings.Builder).WriteString


def sf41I : Handler := inlH tab st2 (fun _ _ _ => .unroll 12) 2 Tryd.f41 2

set_option maxRecDepth 100000 in
theorem sf41_ok : HOk Tryd.prog 41 sf41I :=
  inl_ok (tbl := st2) tab_ok st2_ok mixed (fun _ _ _ => .unroll 12) 2 _ 2 Tryd.func41 rfl Tryd.ntmps41 (by decide) (by kernel_rfl) (Nat.le_of_ble_eq_true rfl)


def st3 : Tbl := (41, .gen sf41I) :: st2

theorem st3_ok : TblOk Tryd.prog st3 := ⟨sf41_ok, st2_ok⟩

-- (*strings.Builder).String


def sf43I : Handler := inlH tab st3 (fun _ _ _ => .unroll 12) 2 Tryd.f43 1

set_option maxRecDepth 100000 in
theorem sf43_ok : HOk Tryd.prog 43 sf43I :=
  inl_ok (tbl := st3) tab_ok st3_ok mixed (fun _ _ _ => .unroll 12) 2 _ 1 Tryd.func43 rfl Tryd.ntmps43 (by decide) (by kernel_rfl) (Nat.le_of_ble_eq_true rfl)


def st4 : Tbl := (43, .gen sf43I) :: st3

theorem st4_ok : TblOk Tryd.prog st4 := ⟨sf43_ok, st3_ok⟩

-- math/bits.Mul32


def sf53I : Handler := inlH tab st4 (fun _ _ _ => .unroll 12) 2 Tryd.f53 2

set_option maxRecDepth 100000 in
theorem sf53_ok : HOk Tryd.prog 53 sf53I :=
  inl_ok (tbl := st4) tab_ok st4_ok mixed (fun _ _ _ => .unroll 12) 2 _ 2 Tryd.func53 rfl Tryd.ntmps53 (by decide) (by kernel_rfl) (Nat.le_of_ble_eq_true rfl)


def st5 : Tbl := (53, .gen sf53I) :: st4

theorem st5_ok : TblOk Tryd.prog st5 := ⟨sf53_ok, st4_ok⟩

-- math/bits.Mul64


def sf54I : Handler := inlH tab st5 (fun _ _ _ => .unroll 12) 2 Tryd.f54 2

set_option maxRecDepth 100000 in
theorem sf54_ok : HOk Tryd.prog 54 sf54I :=
  inl_ok (tbl := st5) tab_ok st5_ok mixed (fun _ _ _ => .unroll 12) 2 _ 2 Tryd.func54 rfl Tryd.ntmps54 (by decide) (by kernel_rfl) (Nat.le_of_ble_eq_true rfl)


def st6 : Tbl := (54, .gen sf54I) :: st5

theorem st6_ok : TblOk Tryd.prog st6 := ⟨sf54_ok, st5_ok⟩

-- math/bits.Mul


def sf44I : Handler := inlH tab st6 (fun _ _ _ => .unroll 12) 2 Tryd.f44 2

set_option maxRecDepth 100000 in
theorem sf44_ok : HOk Tryd.prog 44 sf44I :=
  inl_ok (tbl := st6) tab_ok st6_ok mixed (fun _ _ _ => .unroll 12) 2 _ 2 Tryd.func44 rfl Tryd.ntmps44 (by decide) (by kernel_rfl) (Nat.le_of_ble_eq_true rfl)


def st7 : Tbl := (44, .gen sf44I) :: st6

theorem st7_ok : TblOk Tryd.prog st7 := ⟨sf44_ok, st6_ok⟩

-- internal/stringslite.HasPrefix


def sf55I : Handler := inlH tab st7 (fun _ _ _ => .unroll 12) 2 Tryd.f55 2

set_option maxRecDepth 100000 in
theorem sf55_ok : HOk Tryd.prog 55 sf55I :=
  inl_ok (tbl := st7) tab_ok st7_ok mixed (fun _ _ _ => .unroll 12) 2 _ 2 Tryd.func55 rfl Tryd.ntmps55 (by decide) (by kernel_rfl) (Nat.le_of_ble_eq_true rfl)


def st8 : Tbl := (55, .gen sf55I) :: st7

theorem st8_ok : TblOk Tryd.prog st8 := ⟨sf55_ok, st7_ok⟩

-- strings.HasPrefix


def sf45I : Handler := inlH tab st8 (fun _ _ _ => .unroll 12) 2 Tryd.f45 2

set_option maxRecDepth 100000 in
theorem sf45_ok : HOk Tryd.prog 45 sf45I :=
  inl_ok (tbl := st8) tab_ok st8_ok mixed (fun _ _ _ => .unroll 12) 2 _ 2 Tryd.func45 rfl Tryd.ntmps45 (by decide) (by kernel_rfl) (Nat.le_of_ble_eq_true rfl)


def st9 : Tbl := (45, .gen sf45I) :: st8

theorem st9_ok : TblOk Tryd.prog st9 := ⟨sf45_ok, st8_ok⟩

-- (*strings.Builder).grow


def sf56I : Handler := inlH tab st9 (fun _ _ _ => .unroll 12) 2 Tryd.f56 2

set_option maxRecDepth 100000 in
theorem sf56_ok : HOk Tryd.prog 56 sf56I :=
  inl_ok (tbl := st9) tab_ok st9_ok mixed (fun _ _ _ => .unroll 12) 2 _ 2 Tryd.func56 rfl Tryd.ntmps56 (by decide) (by kernel_rfl) (Nat.le_of_ble_eq_true rfl)


def st10 : Tbl := (56, .gen sf56I) :: st9

theorem st10_ok : TblOk Tryd.prog st10 := ⟨sf56_ok, st9_ok⟩

-- (*strings.Builder).Grow


def sf46I : Handler := inlH tab st10 (fun _ _ _ => .unroll 12) 2 Tryd.f46 2

set_option maxRecDepth 100000 in
theorem sf46_ok : HOk Tryd.prog 46 sf46I :=
  inl_ok (tbl := st10) tab_ok st10_ok mixed (fun _ _ _ => .unroll 12) 2 _ 2 Tryd.func46 rfl Tryd.ntmps46 (by decide) (by kernel_rfl) (Nat.le_of_ble_eq_true rfl)


def st11 : Tbl := (46, .gen sf46I) :: st10

theorem st11_ok : TblOk Tryd.prog st11 := ⟨sf46_ok, st10_ok⟩

-- (*strings.Builder).Len


def sf47I : Handler := inlH tab st11 (fun _ _ _ => .unroll 12) 2 Tryd.f47 1

set_option maxRecDepth 100000 in
theorem sf47_ok : HOk Tryd.prog 47 sf47I :=
  inl_ok (tbl := st11) tab_ok st11_ok mixed (fun _ _ _ => .unroll 12) 2 _ 1 Tryd.func47 rfl Tryd.ntmps47 (by decide) (by kernel_rfl) (Nat.le_of_ble_eq_true rfl)


def st12 : Tbl := (47, .gen sf47I) :: st11

theorem st12_ok : TblOk Tryd.prog st12 := ⟨sf47_ok, st11_ok⟩

-- strings.Repeat


def sf27I : Handler := inlH tab st12 (fun _ _ _ => .unroll 12) 2 Tryd.f27 2

set_option maxRecDepth 100000 in
theorem sf27_ok : HOk Tryd.prog 27 sf27I :=
  inl_ok (tbl := st12) tab_ok st12_ok mixed (fun _ _ _ => .unroll 12) 2 _ 2 Tryd.func27 rfl Tryd.ntmps27 (by decide) (by kernel_rfl) (Nat.le_of_ble_eq_true rfl)


def st13 : Tbl := (27, .gen sf27I) :: st12

theorem st13_ok : TblOk Tryd.prog st13 := ⟨sf27_ok, st12_ok⟩

-- foolscap/view.Fit


def sf14I : Handler := inlH tab st13 (fun _ _ _ => .unroll 12) 2 Tryd.f14 3

set_option maxRecDepth 100000 in
theorem sf14_ok : HOk Tryd.prog 14 sf14I :=
  inl_ok (tbl := st13) tab_ok st13_ok mixed (fun _ _ _ => .unroll 12) 2 _ 3 Tryd.func14 rfl Tryd.ntmps14 (by decide) (by kernel_rfl) (Nat.le_of_ble_eq_true rfl)


def st14 : Tbl := (14, .gen sf14I) :: st13

theorem st14_ok : TblOk Tryd.prog st14 := ⟨sf14_ok, st13_ok⟩

-- foolscap/view.DrawS1


def sf29I : Handler := inlH tab st14 (fun _ _ _ => .unroll 12) 2 Tryd.f29 1

set_option maxRecDepth 100000 in
theorem sf29_ok : HOk Tryd.prog 29 sf29I :=
  inl_ok (tbl := st14) tab_ok st14_ok mixed (fun _ _ _ => .unroll 12) 2 _ 1 Tryd.func29 rfl Tryd.ntmps29 (by decide) (by kernel_rfl) (Nat.le_of_ble_eq_true rfl)


def st15 : Tbl := (29, .gen sf29I) :: st14

theorem st15_ok : TblOk Tryd.prog st15 := ⟨sf29_ok, st14_ok⟩

-- foolscap/view.DrawS2


def sf30I : Handler := inlH tab st15 (fun _ _ _ => .unroll 12) 2 Tryd.f30 1

set_option maxRecDepth 100000 in
theorem sf30_ok : HOk Tryd.prog 30 sf30I :=
  inl_ok (tbl := st15) tab_ok st15_ok mixed (fun _ _ _ => .unroll 12) 2 _ 1 Tryd.func30 rfl Tryd.ntmps30 (by decide) (by kernel_rfl) (Nat.le_of_ble_eq_true rfl)


def st16 : Tbl := (30, .gen sf30I) :: st15

theorem st16_ok : TblOk Tryd.prog st16 := ⟨sf30_ok, st15_ok⟩

-- foolscap/view.DrawS3


def sf31I : Handler := inlH tab st16 (fun _ _ _ => .unroll 12) 2 Tryd.f31 2

set_option maxRecDepth 100000 in
theorem sf31_ok : HOk Tryd.prog 31 sf31I :=
  inl_ok (tbl := st16) tab_ok st16_ok mixed (fun _ _ _ => .unroll 12) 2 _ 2 Tryd.func31 rfl Tryd.ntmps31 (by decide) (by kernel_rfl) (Nat.le_of_ble_eq_true rfl)


def st17 : Tbl := (31, .gen sf31I) :: st16

theorem st17_ok : TblOk Tryd.prog st17 := ⟨sf31_ok, st16_ok⟩

-- foolscap/view.eachS1


def sf48I : Handler := inlH tab st17 (fun _ _ _ => .unroll 12) 2 Tryd.f48 3

set_option maxRecDepth 100000 in
theorem sf48_ok : HOk Tryd.prog 48 sf48I :=
  inl_ok (tbl := st17) tab_ok st17_ok mixed (fun _ _ _ => .unroll 12) 2 _ 3 Tryd.func48 rfl Tryd.ntmps48 (by decide) (by kernel_rfl) (Nat.le_of_ble_eq_true rfl)


def st18 : Tbl := (48, .gen sf48I) :: st17

theorem st18_ok : TblOk Tryd.prog st18 := ⟨sf48_ok, st17_ok⟩

-- foolscap/place.is


def sf57I : Handler := inlH tab st18 (fun _ _ _ => .unroll 12) 2 Tryd.f57 1

set_option maxRecDepth 100000 in
theorem sf57_ok : HOk Tryd.prog 57 sf57I :=
  inl_ok (tbl := st18) tab_ok st18_ok mixed (fun _ _ _ => .unroll 12) 2 _ 1 Tryd.func57 rfl Tryd.ntmps57 (by decide) (by kernel_rfl) (Nat.le_of_ble_eq_true rfl)


def st19 : Tbl := (57, .gen sf57I) :: st18

theorem st19_ok : TblOk Tryd.prog st19 := ⟨sf57_ok, st18_ok⟩

-- foolscap/place.Of


def sf49I : Handler := inlH tab st19 (fun _ _ _ => .unroll 12) 2 Tryd.f49 2

set_option maxRecDepth 100000 in
theorem sf49_ok : HOk Tryd.prog 49 sf49I :=
  inl_ok (tbl := st19) tab_ok st19_ok mixed (fun _ _ _ => .unroll 12) 2 _ 2 Tryd.func49 rfl Tryd.ntmps49 (by decide) (by kernel_rfl) (Nat.le_of_ble_eq_true rfl)


def st20 : Tbl := (49, .gen sf49I) :: st19

theorem st20_ok : TblOk Tryd.prog st20 := ⟨sf49_ok, st19_ok⟩

-- foolscap/place.Check


def sf36I : Handler := inlH tab st20 (fun _ _ _ => .unroll 12) 2 Tryd.f36 1

set_option maxRecDepth 100000 in
theorem sf36_ok : HOk Tryd.prog 36 sf36I :=
  inl_ok (tbl := st20) tab_ok st20_ok mixed (fun _ _ _ => .unroll 12) 2 _ 1 Tryd.func36 rfl Tryd.ntmps36 (by decide) (by kernel_rfl) (Nat.le_of_ble_eq_true rfl)


def st21 : Tbl := (36, .gen sf36I) :: st20

theorem st21_ok : TblOk Tryd.prog st21 := ⟨sf36_ok, st20_ok⟩

-- foolscap/place.Area


def sf38I : Handler := inlH tab st21 (fun _ _ _ => .unroll 12) 2 Tryd.f38 1

set_option maxRecDepth 100000 in
theorem sf38_ok : HOk Tryd.prog 38 sf38I :=
  inl_ok (tbl := st21) tab_ok st21_ok mixed (fun _ _ _ => .unroll 12) 2 _ 1 Tryd.func38 rfl Tryd.ntmps38 (by decide) (by kernel_rfl) (Nat.le_of_ble_eq_true rfl)


def st22 : Tbl := (38, .gen sf38I) :: st21

theorem st22_ok : TblOk Tryd.prog st22 := ⟨sf38_ok, st21_ok⟩

-- foolscap/view.check


def sf23I : Handler := inlH tab st22 (fun _ _ _ => .unroll 12) 2 Tryd.f23 2

set_option maxRecDepth 100000 in
theorem sf23_ok : HOk Tryd.prog 23 sf23I :=
  inl_ok (tbl := st22) tab_ok st22_ok mixed (fun _ _ _ => .unroll 12) 2 _ 2 Tryd.func23 rfl Tryd.ntmps23 (by decide) (by kernel_rfl) (Nat.le_of_ble_eq_true rfl)


def st23 : Tbl := (23, .gen sf23I) :: st22

theorem st23_ok : TblOk Tryd.prog st23 := ⟨sf23_ok, st22_ok⟩

-- foolscap/place.In


def sf18I : Handler := inlH tab st23 (fun _ _ _ => .unroll 12) 2 Tryd.f18 2

set_option maxRecDepth 100000 in
theorem sf18_ok : HOk Tryd.prog 18 sf18I :=
  inl_ok (tbl := st23) tab_ok st23_ok mixed (fun _ _ _ => .unroll 12) 2 _ 2 Tryd.func18 rfl Tryd.ntmps18 (by decide) (by kernel_rfl) (Nat.le_of_ble_eq_true rfl)


def st24 : Tbl := (18, .gen sf18I) :: st23

theorem st24_ok : TblOk Tryd.prog st24 := ⟨sf18_ok, st23_ok⟩

-- foolscap/place.Letters


def sf39I : Handler := inlH tab st24 (fun _ _ _ => .unroll 12) 2 Tryd.f39 1

set_option maxRecDepth 100000 in
theorem sf39_ok : HOk Tryd.prog 39 sf39I :=
  inl_ok (tbl := st24) tab_ok st24_ok mixed (fun _ _ _ => .unroll 12) 2 _ 1 Tryd.func39 rfl Tryd.ntmps39 (by decide) (by kernel_rfl) (Nat.le_of_ble_eq_true rfl)


def st25 : Tbl := (39, .gen sf39I) :: st24

theorem st25_ok : TblOk Tryd.prog st25 := ⟨sf39_ok, st24_ok⟩

-- foolscap/view.columns


def sf24I : Handler := inlH tab st25 (fun _ _ _ => .unroll 12) 2 Tryd.f24 3

set_option maxRecDepth 100000 in
theorem sf24_ok : HOk Tryd.prog 24 sf24I :=
  inl_ok (tbl := st25) tab_ok st25_ok mixed (fun _ _ _ => .unroll 12) 2 _ 3 Tryd.func24 rfl Tryd.ntmps24 (by decide) (by kernel_rfl) (Nat.le_of_ble_eq_true rfl)


def st26 : Tbl := (24, .gen sf24I) :: st25

theorem st26_ok : TblOk Tryd.prog st26 := ⟨sf24_ok, st25_ok⟩

-- internal/strconv.small


def sf58I : Handler := inlH tab st26 (fun _ _ _ => .unroll 12) 2 Tryd.f58 1

set_option maxRecDepth 100000 in
theorem sf58_ok : HOk Tryd.prog 58 sf58I :=
  inl_ok (tbl := st26) tab_ok st26_ok mixed (fun _ _ _ => .unroll 12) 2 _ 1 Tryd.func58 rfl Tryd.ntmps58 (by decide) (by kernel_rfl) (Nat.le_of_ble_eq_true rfl)


def st27 : Tbl := (58, .gen sf58I) :: st26

theorem st27_ok : TblOk Tryd.prog st27 := ⟨sf58_ok, st26_ok⟩

-- internal/strconv.log10Pow2


def sf64I : Handler := inlH tab st27 (fun _ _ _ => .unroll 12) 2 Tryd.f64 1

set_option maxRecDepth 100000 in
theorem sf64_ok : HOk Tryd.prog 64 sf64I :=
  inl_ok (tbl := st27) tab_ok st27_ok mixed (fun _ _ _ => .unroll 12) 2 _ 1 Tryd.func64 rfl Tryd.ntmps64 (by decide) (by kernel_rfl) (Nat.le_of_ble_eq_true rfl)


def st28 : Tbl := (64, .gen sf64I) :: st27

theorem st28_ok : TblOk Tryd.prog st28 := ⟨sf64_ok, st27_ok⟩

-- math/bits.Len64


def sf65I : Handler := inlH tab st28 (fun _ _ _ => .unroll 12) 2 Tryd.f65 1

set_option maxRecDepth 100000 in
theorem sf65_ok : HOk Tryd.prog 65 sf65I :=
  inl_ok (tbl := st28) tab_ok st28_ok mixed (fun _ _ _ => .unroll 12) 2 _ 1 Tryd.func65 rfl Tryd.ntmps65 (by decide) (by kernel_rfl) (Nat.le_of_ble_eq_true rfl)


def st29 : Tbl := (65, .gen sf65I) :: st28

theorem st29_ok : TblOk Tryd.prog st29 := ⟨sf65_ok, st28_ok⟩

-- internal/strconv.bool2[int]


def sf66I : Handler := inlH tab st29 (fun _ _ _ => .unroll 12) 2 Tryd.f66 1

set_option maxRecDepth 100000 in
theorem sf66_ok : HOk Tryd.prog 66 sf66I :=
  inl_ok (tbl := st29) tab_ok st29_ok mixed (fun _ _ _ => .unroll 12) 2 _ 1 Tryd.func66 rfl Tryd.ntmps66 (by decide) (by kernel_rfl) (Nat.le_of_ble_eq_true rfl)


def st30 : Tbl := (66, .gen sf66I) :: st29

theorem st30_ok : TblOk Tryd.prog st30 := ⟨sf66_ok, st29_ok⟩

-- internal/strconv.numDigits


def sf59I : Handler := inlH tab st30 (fun _ _ _ => .unroll 12) 2 Tryd.f59 1

set_option maxRecDepth 100000 in
theorem sf59_ok : HOk Tryd.prog 59 sf59I :=
  inl_ok (tbl := st30) tab_ok st30_ok mixed (fun _ _ _ => .unroll 12) 2 _ 1 Tryd.func59 rfl Tryd.ntmps59 (by decide) (by kernel_rfl) (Nat.le_of_ble_eq_true rfl)


def st31 : Tbl := (59, .gen sf59I) :: st30

theorem st31_ok : TblOk Tryd.prog st31 := ⟨sf59_ok, st30_ok⟩

-- internal/strconv.formatBase10


def sf60I : Handler := inlH tab st31 (fun _ _ _ => .unroll 12) 2 Tryd.f60 2

set_option maxRecDepth 100000 in
theorem sf60_ok : HOk Tryd.prog 60 sf60I :=
  inl_ok (tbl := st31) tab_ok st31_ok mixed (fun _ _ _ => .unroll 12) 2 _ 2 Tryd.func60 rfl Tryd.ntmps60 (by decide) (by kernel_rfl) (Nat.le_of_ble_eq_true rfl)


def st32 : Tbl := (60, .gen sf60I) :: st31

theorem st32_ok : TblOk Tryd.prog st32 := ⟨sf60_ok, st31_ok⟩

-- internal/strconv.isPowerOfTwo


def sf67I : Handler := inlH tab st32 (fun _ _ _ => .unroll 12) 2 Tryd.f67 1

set_option maxRecDepth 100000 in
theorem sf67_ok : HOk Tryd.prog 67 sf67I :=
  inl_ok (tbl := st32) tab_ok st32_ok mixed (fun _ _ _ => .unroll 12) 2 _ 1 Tryd.func67 rfl Tryd.ntmps67 (by decide) (by kernel_rfl) (Nat.le_of_ble_eq_true rfl)


def st33 : Tbl := (67, .gen sf67I) :: st32

theorem st33_ok : TblOk Tryd.prog st33 := ⟨sf67_ok, st32_ok⟩

-- math/bits.TrailingZeros32


def sf69I : Handler := inlH tab st33 (fun _ _ _ => .unroll 12) 2 Tryd.f69 1

set_option maxRecDepth 100000 in
theorem sf69_ok : HOk Tryd.prog 69 sf69I :=
  inl_ok (tbl := st33) tab_ok st33_ok mixed (fun _ _ _ => .unroll 12) 2 _ 1 Tryd.func69 rfl Tryd.ntmps69 (by decide) (by kernel_rfl) (Nat.le_of_ble_eq_true rfl)


def st34 : Tbl := (69, .gen sf69I) :: st33

theorem st34_ok : TblOk Tryd.prog st34 := ⟨sf69_ok, st33_ok⟩

-- math/bits.TrailingZeros64


def sf70I : Handler := inlH tab st34 (fun _ _ _ => .unroll 12) 2 Tryd.f70 1

set_option maxRecDepth 100000 in
theorem sf70_ok : HOk Tryd.prog 70 sf70I :=
  inl_ok (tbl := st34) tab_ok st34_ok mixed (fun _ _ _ => .unroll 12) 2 _ 1 Tryd.func70 rfl Tryd.ntmps70 (by decide) (by kernel_rfl) (Nat.le_of_ble_eq_true rfl)


def st35 : Tbl := (70, .gen sf70I) :: st34

theorem st35_ok : TblOk Tryd.prog st35 := ⟨sf70_ok, st34_ok⟩

-- math/bits.TrailingZeros


def sf68I : Handler := inlH tab st35 (fun _ _ _ => .unroll 12) 2 Tryd.f68 1

set_option maxRecDepth 100000 in
theorem sf68_ok : HOk Tryd.prog 68 sf68I :=
  inl_ok (tbl := st35) tab_ok st35_ok mixed (fun _ _ _ => .unroll 12) 2 _ 1 Tryd.func68 rfl Tryd.ntmps68 (by decide) (by kernel_rfl) (Nat.le_of_ble_eq_true rfl)


def st36 : Tbl := (68, .gen sf68I) :: st35

theorem st36_ok : TblOk Tryd.prog st36 := ⟨sf68_ok, st35_ok⟩

-- internal/strconv.formatBits


def sf61I : Handler := inlH tab st36 (fun _ _ _ => .unroll 12) 2 Tryd.f61 5

set_option maxRecDepth 100000 in
theorem sf61_ok : HOk Tryd.prog 61 sf61I :=
  inl_ok (tbl := st36) tab_ok st36_ok mixed (fun _ _ _ => .unroll 12) 2 _ 5 Tryd.func61 rfl Tryd.ntmps61 (by decide) (by kernel_rfl) (Nat.le_of_ble_eq_true rfl)


def st37 : Tbl := (61, .gen sf61I) :: st36

theorem st37_ok : TblOk Tryd.prog st37 := ⟨sf61_ok, st36_ok⟩

-- internal/strconv.FormatInt


def sf51I : Handler := inlH tab st37 (fun _ _ _ => .unroll 12) 2 Tryd.f51 2

set_option maxRecDepth 100000 in
theorem sf51_ok : HOk Tryd.prog 51 sf51I :=
  inl_ok (tbl := st37) tab_ok st37_ok mixed (fun _ _ _ => .unroll 12) 2 _ 2 Tryd.func51 rfl Tryd.ntmps51 (by decide) (by kernel_rfl) (Nat.le_of_ble_eq_true rfl)


def st38 : Tbl := (51, .gen sf51I) :: st37

theorem st38_ok : TblOk Tryd.prog st38 := ⟨sf51_ok, st37_ok⟩

-- internal/strconv.Itoa


def sf40I : Handler := inlH tab st38 (fun _ _ _ => .unroll 12) 2 Tryd.f40 1

set_option maxRecDepth 100000 in
theorem sf40_ok : HOk Tryd.prog 40 sf40I :=
  inl_ok (tbl := st38) tab_ok st38_ok mixed (fun _ _ _ => .unroll 12) 2 _ 1 Tryd.func40 rfl Tryd.ntmps40 (by decide) (by kernel_rfl) (Nat.le_of_ble_eq_true rfl)


def st39 : Tbl := (40, .gen sf40I) :: st38

theorem st39_ok : TblOk Tryd.prog st39 := ⟨sf40_ok, st38_ok⟩

-- strconv.Itoa


def sf25I : Handler := inlH tab st39 (fun _ _ _ => .unroll 12) 2 Tryd.f25 1

set_option maxRecDepth 100000 in
theorem sf25_ok : HOk Tryd.prog 25 sf25I :=
  inl_ok (tbl := st39) tab_ok st39_ok mixed (fun _ _ _ => .unroll 12) 2 _ 1 Tryd.func25 rfl Tryd.ntmps25 (by decide) (by kernel_rfl) (Nat.le_of_ble_eq_true rfl)


def st40 : Tbl := (25, .gen sf25I) :: st39

theorem st40_ok : TblOk Tryd.prog st40 := ⟨sf25_ok, st39_ok⟩

-- foolscap/view.write


def sf42I : Handler := inlH tab st40 (fun _ _ _ => .unroll 12) 2 Tryd.f42 2

set_option maxRecDepth 100000 in
theorem sf42_ok : HOk Tryd.prog 42 sf42I :=
  inl_ok (tbl := st40) tab_ok st40_ok mixed (fun _ _ _ => .unroll 12) 2 _ 2 Tryd.func42 rfl Tryd.ntmps42 (by decide) (by kernel_rfl) (Nat.le_of_ble_eq_true rfl)


def st41 : Tbl := (42, .gen sf42I) :: st40

theorem st41_ok : TblOk Tryd.prog st41 := ⟨sf42_ok, st40_ok⟩

-- foolscap/view.joined


def sf26I : Handler := inlH tab st41 (fun _ _ _ => .unroll 12) 2 Tryd.f26 3

set_option maxRecDepth 100000 in
theorem sf26_ok : HOk Tryd.prog 26 sf26I :=
  inl_ok (tbl := st41) tab_ok st41_ok mixed (fun _ _ _ => .unroll 12) 2 _ 3 Tryd.func26 rfl Tryd.ntmps26 (by decide) (by kernel_rfl) (Nat.le_of_ble_eq_true rfl)


def st42 : Tbl := (26, .gen sf26I) :: st41

theorem st42_ok : TblOk Tryd.prog st42 := ⟨sf26_ok, st41_ok⟩

-- foolscap/view.each


def sf28I : Handler := inlH tab st42 (fun _ _ _ => .unroll 12) 2 Tryd.f28 2

set_option maxRecDepth 100000 in
theorem sf28_ok : HOk Tryd.prog 28 sf28I :=
  inl_ok (tbl := st42) tab_ok st42_ok mixed (fun _ _ _ => .unroll 12) 2 _ 2 Tryd.func28 rfl Tryd.ntmps28 (by decide) (by kernel_rfl) (Nat.le_of_ble_eq_true rfl)


def st43 : Tbl := (28, .gen sf28I) :: st42

theorem st43_ok : TblOk Tryd.prog st43 := ⟨sf28_ok, st42_ok⟩

-- foolscap/view.Draw


def sf11I : Handler := inlH tab st43 (fun _ _ _ => .unroll 12) 2 Tryd.f11 3

set_option maxRecDepth 100000 in
theorem sf11_ok : HOk Tryd.prog 11 sf11I :=
  inl_ok (tbl := st43) tab_ok st43_ok mixed (fun _ _ _ => .unroll 12) 2 _ 3 Tryd.func11 rfl Tryd.ntmps11 (by decide) (by kernel_rfl) (Nat.le_of_ble_eq_true rfl)


def st44 : Tbl := (11, .gen sf11I) :: st43

theorem st44_ok : TblOk Tryd.prog st44 := ⟨sf11_ok, st43_ok⟩

-- foolscap/foolscapref30.Same


def sf13I : Handler := inlH tab st44 (fun _ _ _ => .unroll 12) 2 Tryd.f13 2

set_option maxRecDepth 100000 in
theorem sf13_ok : HOk Tryd.prog 13 sf13I :=
  inl_ok (tbl := st44) tab_ok st44_ok mixed (fun _ _ _ => .unroll 12) 2 _ 2 Tryd.func13 rfl Tryd.ntmps13 (by decide) (by kernel_rfl) (Nat.le_of_ble_eq_true rfl)


def st45 : Tbl := (13, .gen sf13I) :: st44

theorem st45_ok : TblOk Tryd.prog st45 := ⟨sf13_ok, st44_ok⟩

-- foolscap/foolscaplaw30.example


def sf22I : Handler := inlH tab st45 (fun _ _ _ => .unroll 12) 2 Tryd.f22 0

set_option maxRecDepth 100000 in
theorem sf22_ok : HOk Tryd.prog 22 sf22I :=
  inl_ok (tbl := st45) tab_ok st45_ok mixed (fun _ _ _ => .unroll 12) 2 _ 0 Tryd.func22 rfl Tryd.ntmps22 (by decide) (by kernel_rfl) (Nat.le_of_ble_eq_true rfl)


def st46 : Tbl := (22, .gen sf22I) :: st45

theorem st46_ok : TblOk Tryd.prog st46 := ⟨sf22_ok, st45_ok⟩

-- last table: st46



set_option maxRecDepth 100000 in
theorem lives_vc  {R : AV → Prop} (h : (∀ (n1 n2 : Nat), n2 = n2 ∧ ∀ (n3 : Nat), n3 = n3 ∧ ∀ (n4 : Nat), n4 = n4 ∧ ∀ (n5 : Nat), n5 = n5 ∧ n5 = n5 ∧ n5 = n5 ∧ n5 = n5 ∧ ∀ (n6 n7 n8 : Nat), n6 = n6 ∧ ∀ (n9 : Nat), n9 = n9 ∧ n9 = n9 ∧ n9 = n9 ∧ n9 = n9 ∧ n7 = n7 ∧ ∀ (n10 : Nat), n10 = n10 ∧ n10 = n10 ∧ n10 = n10 ∧ n10 = n10 ∧ n6 = n6 ∧ n7 = n7 ∧ n6 = n6 ∧ n7 = n7 ∧ n6 = n6 ∧ n7 = n7 ∧ n6 = n6 ∧ n7 = n7 ∧ n8 = n8 ∧ n8 = n8 ∧ ∀ (n11 : Nat), n11 = n11 ∧ n11 = n11 ∧ n5 = n5 ∧ n4 = n4 ∧ n4 = n4 ∧ n4 = n4 ∧ n4 = n4 ∧ n2 = n2 ∧ ∀ (n12 : Nat), n12 = n12 ∧ n12 = n12 ∧ ∀ (n13 : Nat), (26 : Int) ≠ (0 : Int) ∧ ((0 : Int) ≤ (2 : Int) ∧ (2 : Int) < (3 : Int)) ∧ n13 = n13 ∧ (26 : Int) ≠ (0 : Int) ∧ ((0 : Int) ≤ (2 : Int) ∧ (2 : Int) ≤ (3 : Int)) ∧ (3 : Nat) ≤ (3 : Nat) ∧ n13 = n13 ∧ ∀ (n14 n15 n16 : Nat), n16 = n16 ∧ ((1 : Nat) ≤ (9223372036854775807 : Nat) ∧ (1544 : Nat) ≤ (281474976710656 : Nat)) ∧ ∀ (n17 n18 : Nat), (1 : Nat) ≤ n18 → n12 = n12 ∧ ∀ (n20 : Nat), (26 : Int) ≠ (0 : Int) ∧ ((0 : Int) ≤ (2 : Int) ∧ (2 : Int) < (3 : Int)) ∧ n20 = n20 ∧ (26 : Int) ≠ (0 : Int) ∧ ((0 : Int) ≤ (2 : Int) ∧ (2 : Int) ≤ (3 : Int)) ∧ (3 : Nat) ≤ (3 : Nat) ∧ n20 = n20 ∧ ∀ (n21 n22 n23 : Nat), n23 = n23 ∧ n17 = n17 ∧ n18 = n18 ∧ (1 : Nat) ≤ n18 ∧ ((2 : Nat) ≤ (9223372036854775807 : Nat) ∧ (1552 : Nat) ≤ (281474976710656 : Nat)) ∧ ∀ (b24 : Bool) (n25 n26 : Nat), (2 : Nat) ≤ n26 → n12 = n12 ∧ ((0 : Int) ≤ (0 : Int) ∧ (0 : Int) < (3 : Int)) ∧ n1 = n1 ∧ ∀ (n28 : Nat), n28 = n28 ∧ n12 = n12 ∧ n28 = n28 ∧ ∀ (n29 n30 : Nat), n29 = n29 ∧ ∀ (n31 : Nat), n31 = n31 ∧ n31 = n31 ∧ n31 = n31 ∧ n31 = n31 ∧ ∀ (n32 n33 n34 : Nat), n32 = n32 ∧ ∀ (n35 : Nat), n35 = n35 ∧ n35 = n35 ∧ n35 = n35 ∧ n35 = n35 ∧ n33 = n33 ∧ ∀ (n36 : Nat), n36 = n36 ∧ n36 = n36 ∧ n36 = n36 ∧ n36 = n36 ∧ n32 = n32 ∧ n33 = n33 ∧ n32 = n32 ∧ n33 = n33 ∧ n32 = n32 ∧ n33 = n33 ∧ n32 = n32 ∧ n33 = n33 ∧ n34 = n34 ∧ n34 = n34 ∧ ∀ (n37 : Nat), n37 = n37 ∧ n37 = n37 ∧ n31 = n31 ∧ n30 = n30 ∧ n29 = n29 ∧ n30 = n30 ∧ n29 = n29 ∧ n30 = n30 ∧ n29 = n29 ∧ n30 = n30 ∧ n29 = n29 ∧ n28 = n28 ∧ n12 = n12 ∧ ((0 : Int) ≤ (0 : Int) ∧ (0 : Int) < (2 : Int)) ∧ n25 = n25 ∧ (0 : Nat) < n26 ∧ n15 = n15 ∧ n28 = n28 ∧ n28 = n28 ∧ n14 = n14 ∧ ((0 : Int) ≤ (1 : Int) ∧ (1 : Int) < (3 : Int)) ∧ n1 = n1 ∧ ∀ (n38 : Nat), n38 = n38 ∧ n12 = n12 ∧ n38 = n38 ∧ ∀ (n39 n40 : Nat), n39 = n39 ∧ ∀ (n41 : Nat), n41 = n41 ∧ n41 = n41 ∧ n41 = n41 ∧ n41 = n41 ∧ ∀ (n42 n43 n44 : Nat), n42 = n42 ∧ ∀ (n45 : Nat), n45 = n45 ∧ n45 = n45 ∧ n45 = n45 ∧ n45 = n45 ∧ n43 = n43 ∧ ∀ (n46 : Nat), n46 = n46 ∧ n46 = n46 ∧ n46 = n46 ∧ n46 = n46 ∧ n42 = n42 ∧ n43 = n43 ∧ n42 = n42 ∧ n43 = n43 ∧ n42 = n42 ∧ n43 = n43 ∧ n42 = n42 ∧ n43 = n43 ∧ n44 = n44 ∧ n44 = n44 ∧ ∀ (n47 : Nat), n47 = n47 ∧ n47 = n47 ∧ n41 = n41 ∧ n40 = n40 ∧ n39 = n39 ∧ n40 = n40 ∧ n39 = n39 ∧ n40 = n40 ∧ n39 = n39 ∧ n40 = n40 ∧ n39 = n39 ∧ n38 = n38 ∧ n12 = n12 ∧ ((0 : Int) ≤ (1 : Int) ∧ (1 : Int) < (2 : Int)) ∧ n25 = n25 ∧ (1 : Nat) < n26 ∧ n22 = n22 ∧ n38 = n38 ∧ n38 = n38 ∧ n21 = n21 ∧ ((0 : Int) ≤ (2 : Int) ∧ (2 : Int) < (3 : Int)) ∧ n1 = n1 ∧ ∀ (n48 : Nat), n48 = n48 ∧ n12 = n12 ∧ n48 = n48 ∧ ∀ (n49 n50 : Nat), n49 = n49 ∧ ∀ (n51 : Nat), n51 = n51 ∧ n51 = n51 ∧ n51 = n51 ∧ n51 = n51 ∧ ∀ (n52 n53 n54 : Nat), n52 = n52 ∧ ∀ (n55 : Nat), n55 = n55 ∧ n55 = n55 ∧ n55 = n55 ∧ n55 = n55 ∧ n53 = n53 ∧ ∀ (n56 : Nat), n56 = n56 ∧ n56 = n56 ∧ n56 = n56 ∧ n56 = n56 ∧ n52 = n52 ∧ n53 = n53 ∧ n52 = n52 ∧ n53 = n53 ∧ n52 = n52 ∧ n53 = n53 ∧ n52 = n52 ∧ n53 = n53 ∧ n54 = n54 ∧ n54 = n54 ∧ ∀ (n57 : Nat), n57 = n57 ∧ n57 = n57 ∧ n51 = n51 ∧ n50 = n50 ∧ n49 = n49 ∧ n50 = n50 ∧ n49 = n49 ∧ n50 = n50 ∧ n49 = n49 ∧ n50 = n50 ∧ n49 = n49 ∧ n48 = n48 ∧ n12 = n12 ∧ ((0 : Int) ≤ (1 : Int) ∧ (1 : Int) < (2 : Int)) ∧ n25 = n25 ∧ (1 : Nat) < n26 ∧ n22 = n22 ∧ n48 = n48 ∧ n48 = n48 ∧ n21 = n21 ∧ ((0 : Int) ≤ (0 : Int) ∧ (0 : Int) < (2 : Int)) ∧ n25 = n25 ∧ (0 : Nat) < n26 ∧ n15 = n15 ∧ n15 = n15 ∧ n15 = n15 ∧ n14 = n14 ∧ ∀ (n58 : Nat), n58 = n58 ∧ n14 = n14 ∧ n58 = n58 ∧ n14 = n14 ∧ ∀ (n59 : Nat), n59 = n59 ∧ n15 = n15 ∧ n59 = n59 ∧ n15 = n15 ∧ n58 = n58 ∧ n14 = n14 ∧ ((0 : Int) ≤ (1 : Int) ∧ (1 : Int) < (2 : Int)) ∧ n25 = n25 ∧ (1 : Nat) < n26 ∧ n22 = n22 ∧ n22 = n22 ∧ n22 = n22 ∧ n21 = n21 ∧ ∀ (n60 : Nat), n60 = n60 ∧ n21 = n21 ∧ (n60 = n60 ∧ n21 = n21 ∧ ∀ (n61 : Nat), n61 = n61 ∧ n22 = n22 ∧ n61 = n61 ∧ n22 = n22 ∧ n60 = n60 ∧ n21 = n21 ∧ n60 = n60 ∧ n21 = n21 ∧ ∀ (n62 : Nat), n62 = n62 ∧ n22 = n22 ∧ n62 = n62 ∧ n22 = n22 ∧ n60 = n60 ∧ n21 = n21 ∧ n2 = n2 ∧ ((0 : Int) ≤ (3 : Int) ∧ (3 : Int) ≤ (36 : Int)) ∧ ((0 : Int) ≤ (2 : Int) ∧ (2 : Int) ≤ (3 : Int)) ∧ ∀ (n63 n64 n65 n66 : Nat), n66 = n66 ∧ n66 = n66 ∧ n66 = n66 ∧ n66 = n66 ∧ n66 = n66 ∧ ((1 : Nat) ≤ (9223372036854775807 : Nat) ∧ (193 : Nat) ≤ (281474976710656 : Nat)) ∧ ∀ (n67 n68 : Nat), (1 : Nat) ≤ n68 → n66 = n66 ∧ ∀ (n70 : Nat), n63 = n63 ∧ ((0 : Int) ≤ (0 : Int) ∧ (0 : Int) < (2 : Int)) ∧ n25 = n25 ∧ (0 : Nat) < n26 ∧ n64 = n64 ∧ n15 = n15 ∧ n15 = n15 ∧ ∀ (n71 n72 : Nat), (1 : Nat) ≤ n72 → ((0 : Int) ≤ (0 : Int) ∧ (0 : Int) < (1 : Int)) ∧ n71 = n71 ∧ (0 : Nat) < n72 ∧ n71 = n71 ∧ (1 : Nat) ≤ n72 ∧ (2 : Int) ≠ (0 : Int) ∧ (1 : Nat) ≤ (9223372036854775807 : Nat) ∧ (2 : Int) ≠ (0 : Int) ∧ (2 : Nat) ≤ (9223372036854775807 : Nat) ∧ n70 = n70 ∧ n70 = n70 ∧ n65 = n65 ∧ ∀ (n74 : Nat), ((0 : Int) ≤ (0 : Int) ∧ (0 : Int) < (2 : Int)) ∧ n74 = n74 ∧ n66 = n66 ∧ n66 = n66 ∧ n66 = n66 ∧ n66 = n66 ∧ n67 = n67 ∧ (1 : Nat) = (1 : Nat) ∧ n68 = n68 ∧ ((2 : Nat) ≤ (9223372036854775807 : Nat) ∧ (194 : Nat) ≤ (281474976710656 : Nat)) ∧ ∀ (n75 n76 : Nat), (2 : Nat) ≤ n76 → n66 = n66 ∧ ((0 : Int) ≤ (1 : Int) ∧ (1 : Int) < (2 : Int)) ∧ n74 = n74 ∧ n66 = n66 ∧ n66 = n66 ∧ n66 = n66 ∧ n66 = n66 ∧ n75 = n75 ∧ (2 : Nat) = (2 : Nat) ∧ n76 = n76 ∧ ((4 : Nat) ≤ (9223372036854775807 : Nat) ∧ (197 : Nat) ≤ (281474976710656 : Nat)) ∧ ∀ (n78 n79 : Nat), (4 : Nat) ≤ n79 → n66 = n66 ∧ n70 = n70 ∧ ((0 : Int) ≤ (1 : Int) ∧ (1 : Int) < (2 : Int)) ∧ n25 = n25 ∧ (1 : Nat) < n26 ∧ n64 = n64 ∧ n22 = n22 ∧ n22 = n22 ∧ ∀ (n81 n82 : Nat), (1 : Nat) ≤ n82 → ((0 : Int) ≤ (0 : Int) ∧ (0 : Int) < (1 : Int)) ∧ n81 = n81 ∧ (0 : Nat) < n82 ∧ n81 = n81 ∧ (1 : Nat) ≤ n82 ∧ (2 : Int) ≠ (0 : Int) ∧ (2 : Nat) ≤ (9223372036854775807 : Nat) ∧ (2 : Int) ≠ (0 : Int) ∧ (3 : Nat) ≤ (9223372036854775807 : Nat) ∧ n70 = n70 ∧ n70 = n70 ∧ n65 = n65 ∧ ∀ (n84 : Nat), ((0 : Int) ≤ (0 : Int) ∧ (0 : Int) < (2 : Int)) ∧ n84 = n84 ∧ n66 = n66 ∧ n66 = n66 ∧ n66 = n66 ∧ n66 = n66 ∧ n78 = n78 ∧ (4 : Nat) = (4 : Nat) ∧ n79 = n79 ∧ ((5 : Nat) ≤ (9223372036854775807 : Nat) ∧ (198 : Nat) ≤ (281474976710656 : Nat)) ∧ ∀ (n85 n86 : Nat), (5 : Nat) ≤ n86 → n66 = n66 ∧ ((0 : Int) ≤ (1 : Int) ∧ (1 : Int) < (2 : Int)) ∧ n84 = n84 ∧ n66 = n66 ∧ n66 = n66 ∧ n66 = n66 ∧ n66 = n66 ∧ n85 = n85 ∧ (5 : Nat) = (5 : Nat) ∧ n86 = n86 ∧ ((8 : Nat) ≤ (9223372036854775807 : Nat) ∧ (202 : Nat) ≤ (281474976710656 : Nat)) ∧ ∀ (n88 n89 : Nat), (8 : Nat) ≤ n89 → n66 = n66 ∧ n70 = n70 ∧ n70 = n70 ∧ n66 = n66 ∧ n66 = n66 ∧ n88 = n88 ∧ n89 = n89 ∧ some (Blk.mk n66 (Cont.cells [AV.ptr (59 : Nat) n66 (0 : Nat), AV.sl (60 : Nat) n88 (0 : Nat) (1 : Nat) (8 : Nat) n89] (78 : Nat)) true) = some (Blk.mk n66 (Cont.cells [AV.ptr (59 : Nat) n66 (0 : Nat), AV.sl (60 : Nat) n88 (0 : Nat) (1 : Nat) (8 : Nat) n89] (78 : Nat)) true) ∧ n88 = n88 ∧ (8 : Int) = (8 : Int) ∧ some (Blk.mk n66 (Cont.cells [AV.ptr (59 : Nat) n66 (0 : Nat), AV.sl (60 : Nat) n88 (0 : Nat) (1 : Nat) (8 : Nat) n89] (78 : Nat)) true) = some (Blk.mk n66 (Cont.cells [AV.ptr (59 : Nat) n66 (0 : Nat), AV.sl (60 : Nat) n88 (0 : Nat) (1 : Nat) (8 : Nat) n89] (78 : Nat)) true) ∧ some (Blk.mk n66 (Cont.cells [AV.ptr (59 : Nat) n66 (0 : Nat), AV.sl (60 : Nat) n88 (0 : Nat) (1 : Nat) (8 : Nat) n89] (78 : Nat)) true) = some (Blk.mk n66 (Cont.cells [AV.ptr (59 : Nat) n66 (0 : Nat), AV.sl (60 : Nat) n88 (0 : Nat) (1 : Nat) (8 : Nat) n89] (78 : Nat)) true) ∧ ∀ (n91 n92 n93 n94 : Nat), n94 = n94 ∧ n94 = n94 ∧ n94 = n94 ∧ n94 = n94 ∧ n94 = n94 ∧ ((1 : Nat) ≤ (9223372036854775807 : Nat) ∧ (193 : Nat) ≤ (281474976710656 : Nat)) ∧ ∀ (n95 n96 : Nat), (1 : Nat) ≤ n96 → n94 = n94 ∧ ∀ (n98 : Nat), n91 = n91 ∧ ((0 : Int) ≤ (0 : Int) ∧ (0 : Int) < (2 : Int)) ∧ n25 = n25 ∧ (0 : Nat) < n26 ∧ n92 = n92 ∧ n15 = n15 ∧ (0 : Int) ≤ (32 : Int) ∧ (0 : Int) ≤ (32 : Int) ∧ (0 : Int) ≤ (32 : Int) ∧ (0 : Int) ≤ (32 : Int) ∧ (0 : Int) ≤ (32 : Int) ∧ ((0 : Int) ≤ (0 : Int) ∧ (0 : Int) < (1 : Int)) ∧ ((0 : Int) ≤ (1 : Int) ∧ (1 : Int) ≤ (128 : Int)) ∧ ((0 : Int) ≤ (1 : Int) ∧ (1 : Int) ≤ (128 : Int)) ∧ ((0 : Int) ≤ (2 : Int) ∧ (2 : Int) ≤ (128 : Int)) ∧ n98 = n98 ∧ n98 = n98 ∧ n93 = n93 ∧ ∀ (n99 : Nat), ((0 : Int) ≤ (0 : Int) ∧ (0 : Int) < (2 : Int)) ∧ n99 = n99 ∧ n94 = n94 ∧ n94 = n94 ∧ n94 = n94 ∧ n94 = n94 ∧ n95 = n95 ∧ (1 : Nat) = (1 : Nat) ∧ n96 = n96 ∧ ((2 : Nat) ≤ (9223372036854775807 : Nat) ∧ (194 : Nat) ≤ (281474976710656 : Nat)) ∧ ∀ (n100 n101 : Nat), (2 : Nat) ≤ n101 → n94 = n94 ∧ ((0 : Int) ≤ (1 : Int) ∧ (1 : Int) < (2 : Int)) ∧ n99 = n99 ∧ n94 = n94 ∧ n94 = n94 ∧ n94 = n94 ∧ n94 = n94 ∧ n100 = n100 ∧ (2 : Nat) = (2 : Nat) ∧ n101 = n101 ∧ ((4 : Nat) ≤ (9223372036854775807 : Nat) ∧ (197 : Nat) ≤ (281474976710656 : Nat)) ∧ ∀ (n103 n104 : Nat), (4 : Nat) ≤ n104 → n94 = n94 ∧ n98 = n98 ∧ ((0 : Int) ≤ (1 : Int) ∧ (1 : Int) < (2 : Int)) ∧ n25 = n25 ∧ (1 : Nat) < n26 ∧ n92 = n92 ∧ n22 = n22 ∧ (0 : Int) ≤ (32 : Int) ∧ (0 : Int) ≤ (32 : Int) ∧ (0 : Int) ≤ (32 : Int) ∧ (0 : Int) ≤ (32 : Int) ∧ (0 : Int) ≤ (32 : Int) ∧ ((0 : Int) ≤ (0 : Int) ∧ (0 : Int) < (1 : Int)) ∧ ((0 : Int) ≤ (1 : Int) ∧ (1 : Int) ≤ (128 : Int)) ∧ ((0 : Int) ≤ (1 : Int) ∧ (1 : Int) ≤ (128 : Int)) ∧ ((0 : Int) ≤ (3 : Int) ∧ (3 : Int) ≤ (128 : Int)) ∧ n98 = n98 ∧ n98 = n98 ∧ n93 = n93 ∧ ∀ (n106 : Nat), ((0 : Int) ≤ (0 : Int) ∧ (0 : Int) < (2 : Int)) ∧ n106 = n106 ∧ n94 = n94 ∧ n94 = n94 ∧ n94 = n94 ∧ n94 = n94 ∧ n103 = n103 ∧ (4 : Nat) = (4 : Nat) ∧ n104 = n104 ∧ ((5 : Nat) ≤ (9223372036854775807 : Nat) ∧ (198 : Nat) ≤ (281474976710656 : Nat)) ∧ ∀ (n107 n108 : Nat), (5 : Nat) ≤ n108 → n94 = n94 ∧ ((0 : Int) ≤ (1 : Int) ∧ (1 : Int) < (2 : Int)) ∧ n106 = n106 ∧ n94 = n94 ∧ n94 = n94 ∧ n94 = n94 ∧ n94 = n94 ∧ n107 = n107 ∧ (5 : Nat) = (5 : Nat) ∧ n108 = n108 ∧ ((8 : Nat) ≤ (9223372036854775807 : Nat) ∧ (202 : Nat) ≤ (281474976710656 : Nat)) ∧ ∀ (n110 n111 : Nat), (8 : Nat) ≤ n111 → n94 = n94 ∧ n98 = n98 ∧ n98 = n98 ∧ n94 = n94 ∧ n94 = n94 ∧ n110 = n110 ∧ n111 = n111 ∧ some (Blk.mk n94 (Cont.cells [AV.ptr (69 : Nat) n94 (0 : Nat), AV.sl (70 : Nat) n110 (0 : Nat) (1 : Nat) (8 : Nat) n111] (78 : Nat)) true) = some (Blk.mk n94 (Cont.cells [AV.ptr (69 : Nat) n94 (0 : Nat), AV.sl (70 : Nat) n110 (0 : Nat) (1 : Nat) (8 : Nat) n111] (78 : Nat)) true) ∧ n110 = n110 ∧ (8 : Int) = (8 : Int) ∧ some (Blk.mk n94 (Cont.cells [AV.ptr (69 : Nat) n94 (0 : Nat), AV.sl (70 : Nat) n110 (0 : Nat) (1 : Nat) (8 : Nat) n111] (78 : Nat)) true) = some (Blk.mk n94 (Cont.cells [AV.ptr (69 : Nat) n94 (0 : Nat), AV.sl (70 : Nat) n110 (0 : Nat) (1 : Nat) (8 : Nat) n111] (78 : Nat)) true) ∧ some (Blk.mk n94 (Cont.cells [AV.ptr (69 : Nat) n94 (0 : Nat), AV.sl (70 : Nat) n110 (0 : Nat) (1 : Nat) (8 : Nat) n111] (78 : Nat)) true) = some (Blk.mk n94 (Cont.cells [AV.ptr (69 : Nat) n94 (0 : Nat), AV.sl (70 : Nat) n110 (0 : Nat) (1 : Nat) (8 : Nat) n111] (78 : Nat)) true) ∧ ∀ (n113 : Nat), n2 = n2 ∧ ∀ (n114 : Nat), n114 = n114 ∧ n114 = n114 ∧ n2 = n2 ∧ n114 = n114 ∧ ((0 : Int) ≤ (2 : Int) ∧ (2 : Int) ≤ (36 : Int)) ∧ ((0 : Int) ≤ (1 : Int) ∧ (1 : Int) ≤ (2 : Int)) ∧ ∀ (n115 n116 : Nat), (1 : Nat) ≤ n116 → ((0 : Int) ≤ (0 : Int) ∧ (0 : Int) < (1 : Int)) ∧ n115 = n115 ∧ (0 : Nat) < n116 ∧ n115 = n115 ∧ (1 : Nat) ≤ n116 ∧ (1 : Nat) ≤ (9223372036854775807 : Nat) ∧ ∀ (n118 n119 n120 n121 : Nat), n121 = n121 ∧ n121 = n121 ∧ n121 = n121 ∧ n121 = n121 ∧ n121 = n121 ∧ ((1 : Nat) ≤ (9223372036854775807 : Nat) ∧ (193 : Nat) ≤ (281474976710656 : Nat)) ∧ ∀ (n122 n123 : Nat), (1 : Nat) ≤ n123 → n121 = n121 ∧ ∀ (n125 : Nat), n118 = n118 ∧ ((0 : Int) ≤ (0 : Int) ∧ (0 : Int) < (2 : Int)) ∧ n25 = n25 ∧ (0 : Nat) < n26 ∧ n119 = n119 ∧ n15 = n15 ∧ n114 = n114 ∧ n14 = n14 ∧ ∀ (n126 : Nat), n126 = n126 ∧ n126 = n126 ∧ n15 = n15 ∧ n126 = n126 ∧ ∀ (n127 n128 : Nat), (2 : Nat) ≤ n128 → ((0 : Int) ≤ (0 : Int) ∧ (0 : Int) < (2 : Int)) ∧ n127 = n127 ∧ (0 : Nat) < n128 ∧ ((0 : Int) ≤ (1 : Int) ∧ (1 : Int) < (2 : Int)) ∧ n127 = n127 ∧ (1 : Nat) < n128 ∧ n127 = n127 ∧ (2 : Nat) ≤ n128 ∧ (2 : Nat) ≤ (9223372036854775807 : Nat) ∧ n125 = n125 ∧ n125 = n125 ∧ n120 = n120 ∧ ∀ (n130 : Nat), ((0 : Int) ≤ (0 : Int) ∧ (0 : Int) < (2 : Int)) ∧ n130 = n130 ∧ n121 = n121 ∧ n121 = n121 ∧ n121 = n121 ∧ n121 = n121 ∧ n122 = n122 ∧ (1 : Nat) = (1 : Nat) ∧ n123 = n123 ∧ ((2 : Nat) ≤ (9223372036854775807 : Nat) ∧ (194 : Nat) ≤ (281474976710656 : Nat)) ∧ ∀ (n131 n132 : Nat), (2 : Nat) ≤ n132 → n121 = n121 ∧ ((0 : Int) ≤ (1 : Int) ∧ (1 : Int) < (2 : Int)) ∧ n130 = n130 ∧ n121 = n121 ∧ n121 = n121 ∧ n121 = n121 ∧ n121 = n121 ∧ n131 = n131 ∧ (2 : Nat) = (2 : Nat) ∧ n132 = n132 ∧ ((4 : Nat) ≤ (9223372036854775807 : Nat) ∧ (197 : Nat) ≤ (281474976710656 : Nat)) ∧ ∀ (n134 n135 : Nat), (4 : Nat) ≤ n135 → n121 = n121 ∧ n125 = n125 ∧ ((0 : Int) ≤ (1 : Int) ∧ (1 : Int) < (2 : Int)) ∧ n25 = n25 ∧ (1 : Nat) < n26 ∧ n119 = n119 ∧ n22 = n22 ∧ n114 = n114 ∧ n21 = n21 ∧ ∀ (n137 : Nat), n137 = n137 ∧ n137 = n137 ∧ n22 = n22 ∧ n137 = n137 ∧ ∀ (n138 n139 : Nat), (2 : Nat) ≤ n139 → ((0 : Int) ≤ (0 : Int) ∧ (0 : Int) < (2 : Int)) ∧ n138 = n138 ∧ (0 : Nat) < n139 ∧ ((0 : Int) ≤ (1 : Int) ∧ (1 : Int) < (2 : Int)) ∧ n138 = n138 ∧ (1 : Nat) < n139 ∧ n138 = n138 ∧ (2 : Nat) ≤ n139 ∧ (3 : Nat) ≤ (9223372036854775807 : Nat) ∧ n125 = n125 ∧ n125 = n125 ∧ n120 = n120 ∧ ∀ (n141 : Nat), ((0 : Int) ≤ (0 : Int) ∧ (0 : Int) < (2 : Int)) ∧ n141 = n141 ∧ n121 = n121 ∧ n121 = n121 ∧ n121 = n121 ∧ n121 = n121 ∧ n134 = n134 ∧ (4 : Nat) = (4 : Nat) ∧ n135 = n135 ∧ ((5 : Nat) ≤ (9223372036854775807 : Nat) ∧ (198 : Nat) ≤ (281474976710656 : Nat)) ∧ ∀ (n142 n143 : Nat), (5 : Nat) ≤ n143 → n121 = n121 ∧ ((0 : Int) ≤ (1 : Int) ∧ (1 : Int) < (2 : Int)) ∧ n141 = n141 ∧ n121 = n121 ∧ n121 = n121 ∧ n121 = n121 ∧ n121 = n121 ∧ n142 = n142 ∧ (5 : Nat) = (5 : Nat) ∧ n143 = n143 ∧ ((8 : Nat) ≤ (9223372036854775807 : Nat) ∧ (202 : Nat) ≤ (281474976710656 : Nat)) ∧ ∀ (n145 n146 : Nat), (8 : Nat) ≤ n146 → n121 = n121 ∧ n125 = n125 ∧ n125 = n125 ∧ n121 = n121 ∧ n121 = n121 ∧ n145 = n145 ∧ n146 = n146 ∧ some (Blk.mk n121 (Cont.cells [AV.ptr (80 : Nat) n121 (0 : Nat), AV.sl (81 : Nat) n145 (0 : Nat) (1 : Nat) (8 : Nat) n146] (78 : Nat)) true) = some (Blk.mk n121 (Cont.cells [AV.ptr (80 : Nat) n121 (0 : Nat), AV.sl (81 : Nat) n145 (0 : Nat) (1 : Nat) (8 : Nat) n146] (78 : Nat)) true) ∧ n145 = n145 ∧ (8 : Int) = (8 : Int) ∧ some (Blk.mk n121 (Cont.cells [AV.ptr (80 : Nat) n121 (0 : Nat), AV.sl (81 : Nat) n145 (0 : Nat) (1 : Nat) (8 : Nat) n146] (78 : Nat)) true) = some (Blk.mk n121 (Cont.cells [AV.ptr (80 : Nat) n121 (0 : Nat), AV.sl (81 : Nat) n145 (0 : Nat) (1 : Nat) (8 : Nat) n146] (78 : Nat)) true) ∧ some (Blk.mk n121 (Cont.cells [AV.ptr (80 : Nat) n121 (0 : Nat), AV.sl (81 : Nat) n145 (0 : Nat) (1 : Nat) (8 : Nat) n146] (78 : Nat)) true) = some (Blk.mk n121 (Cont.cells [AV.ptr (80 : Nat) n121 (0 : Nat), AV.sl (81 : Nat) n145 (0 : Nat) (1 : Nat) (8 : Nat) n146] (78 : Nat)) true) ∧ ∀ (n148 : Nat), n148 = n148 ∧ n113 = n113 ∧ ((3 : Nat) ≤ (9223372036854775807 : Nat) ∧ (3120 : Nat) ≤ (281474976710656 : Nat)) ∧ ∀ (n149 n150 : Nat), (3 : Nat) ≤ n150 → n114 = n114 ∧ ∀ (n152 : Nat), n152 = n152 ∧ n152 = n152 ∧ n152 = n152 ∧ n152 = n152 ∧ n2 = n2 ∧ n152 = n152 ∧ ((0 : Int) ≤ (3 : Int) ∧ (3 : Int) ≤ (36 : Int)) ∧ ((0 : Int) ≤ (2 : Int) ∧ (2 : Int) ≤ (3 : Int)) ∧ ∀ (n153 n154 : Nat), (1 : Nat) ≤ n154 → ((0 : Int) ≤ (0 : Int) ∧ (0 : Int) < (1 : Int)) ∧ n153 = n153 ∧ (0 : Nat) < n154 ∧ n153 = n153 ∧ (1 : Nat) ≤ n154 ∧ (1 : Nat) ≤ (9223372036854775807 : Nat) ∧ ∀ (n156 n157 n158 n159 : Nat), n159 = n159 ∧ n159 = n159 ∧ n159 = n159 ∧ n159 = n159 ∧ n159 = n159 ∧ ((1 : Nat) ≤ (9223372036854775807 : Nat) ∧ (193 : Nat) ≤ (281474976710656 : Nat)) ∧ ∀ (n160 n161 : Nat), (1 : Nat) ≤ n161 → n159 = n159 ∧ ∀ (n163 : Nat), n156 = n156 ∧ ((0 : Int) ≤ (0 : Int) ∧ (0 : Int) < (2 : Int)) ∧ n25 = n25 ∧ (0 : Nat) < n26 ∧ n157 = n157 ∧ n15 = n15 ∧ n152 = n152 ∧ n14 = n14 ∧ ∀ (n164 : Nat), n164 = n164 ∧ n164 = n164 ∧ n15 = n15 ∧ n164 = n164 ∧ ∀ (n165 n166 : Nat), (0 : Nat) ≤ n166 → n165 = n165 ∧ (0 : Nat) ≤ n166 ∧ (0 : Int) ≤ (32 : Int) ∧ (0 : Int) ≤ (32 : Int) ∧ (0 : Int) ≤ (32 : Int) ∧ (0 : Int) ≤ (32 : Int) ∧ (0 : Int) ≤ (32 : Int) ∧ ((0 : Int) ≤ (0 : Int) ∧ (0 : Int) < (1 : Int)) ∧ ((0 : Int) ≤ (1 : Int) ∧ (1 : Int) ≤ (128 : Int)) ∧ ((0 : Int) ≤ (2 : Int) ∧ (2 : Int) ≤ (128 : Int)) ∧ (2 : Nat) ≤ (9223372036854775807 : Nat) ∧ n163 = n163 ∧ n163 = n163 ∧ n158 = n158 ∧ ∀ (n168 : Nat), ((0 : Int) ≤ (0 : Int) ∧ (0 : Int) < (2 : Int)) ∧ n168 = n168 ∧ n159 = n159 ∧ n159 = n159 ∧ n159 = n159 ∧ n159 = n159 ∧ n160 = n160 ∧ (1 : Nat) = (1 : Nat) ∧ n161 = n161 ∧ ((2 : Nat) ≤ (9223372036854775807 : Nat) ∧ (194 : Nat) ≤ (281474976710656 : Nat)) ∧ ∀ (n169 n170 : Nat), (2 : Nat) ≤ n170 → n159 = n159 ∧ ((0 : Int) ≤ (1 : Int) ∧ (1 : Int) < (2 : Int)) ∧ n168 = n168 ∧ n159 = n159 ∧ n159 = n159 ∧ n159 = n159 ∧ n159 = n159 ∧ n169 = n169 ∧ (2 : Nat) = (2 : Nat) ∧ n170 = n170 ∧ ((4 : Nat) ≤ (9223372036854775807 : Nat) ∧ (197 : Nat) ≤ (281474976710656 : Nat)) ∧ ∀ (n172 n173 : Nat), (4 : Nat) ≤ n173 → n159 = n159 ∧ n163 = n163 ∧ ((0 : Int) ≤ (1 : Int) ∧ (1 : Int) < (2 : Int)) ∧ n25 = n25 ∧ (1 : Nat) < n26 ∧ n157 = n157 ∧ n22 = n22 ∧ n152 = n152 ∧ n21 = n21 ∧ ∀ (n175 : Nat), n175 = n175 ∧ n175 = n175 ∧ n22 = n22 ∧ n175 = n175 ∧ ∀ (n176 n177 : Nat), (4 : Nat) ≤ n177 → ((0 : Int) ≤ (0 : Int) ∧ (0 : Int) < (4 : Int)) ∧ n176 = n176 ∧ (0 : Nat) < n177 ∧ ((0 : Int) ≤ (1 : Int) ∧ (1 : Int) < (4 : Int)) ∧ n176 = n176 ∧ (1 : Nat) < n177 ∧ ((0 : Int) ≤ (2 : Int) ∧ (2 : Int) < (4 : Int)) ∧ n176 = n176 ∧ (2 : Nat) < n177 ∧ ((0 : Int) ≤ (3 : Int) ∧ (3 : Int) < (4 : Int)) ∧ n176 = n176 ∧ (3 : Nat) < n177 ∧ n176 = n176 ∧ (4 : Nat) ≤ n177 ∧ ((0 : Int) ≤ (3 : Int) ∧ (3 : Int) ≤ (4 : Int)) ∧ n163 = n163 ∧ n163 = n163 ∧ n158 = n158 ∧ ∀ (n179 : Nat), ((0 : Int) ≤ (0 : Int) ∧ (0 : Int) < (2 : Int)) ∧ n179 = n179 ∧ n159 = n159 ∧ n159 = n159 ∧ n159 = n159 ∧ n159 = n159 ∧ n172 = n172 ∧ (4 : Nat) = (4 : Nat) ∧ n173 = n173 ∧ ((5 : Nat) ≤ (9223372036854775807 : Nat) ∧ (198 : Nat) ≤ (281474976710656 : Nat)) ∧ ∀ (n180 n181 : Nat), (5 : Nat) ≤ n181 → n159 = n159 ∧ ((0 : Int) ≤ (1 : Int) ∧ (1 : Int) < (2 : Int)) ∧ n179 = n179 ∧ n159 = n159 ∧ n159 = n159 ∧ n159 = n159 ∧ n159 = n159 ∧ n180 = n180 ∧ (5 : Nat) = (5 : Nat) ∧ n181 = n181 ∧ ((8 : Nat) ≤ (9223372036854775807 : Nat) ∧ (202 : Nat) ≤ (281474976710656 : Nat)) ∧ ∀ (n183 n184 : Nat), (8 : Nat) ≤ n184 → n159 = n159 ∧ n163 = n163 ∧ n163 = n163 ∧ n159 = n159 ∧ n159 = n159 ∧ n183 = n183 ∧ n184 = n184 ∧ some (Blk.mk n159 (Cont.cells [AV.ptr (96 : Nat) n159 (0 : Nat), AV.sl (97 : Nat) n183 (0 : Nat) (1 : Nat) (8 : Nat) n184] (78 : Nat)) true) = some (Blk.mk n159 (Cont.cells [AV.ptr (96 : Nat) n159 (0 : Nat), AV.sl (97 : Nat) n183 (0 : Nat) (1 : Nat) (8 : Nat) n184] (78 : Nat)) true) ∧ n183 = n183 ∧ (8 : Int) = (8 : Int) ∧ some (Blk.mk n159 (Cont.cells [AV.ptr (96 : Nat) n159 (0 : Nat), AV.sl (97 : Nat) n183 (0 : Nat) (1 : Nat) (8 : Nat) n184] (78 : Nat)) true) = some (Blk.mk n159 (Cont.cells [AV.ptr (96 : Nat) n159 (0 : Nat), AV.sl (97 : Nat) n183 (0 : Nat) (1 : Nat) (8 : Nat) n184] (78 : Nat)) true) ∧ some (Blk.mk n159 (Cont.cells [AV.ptr (96 : Nat) n159 (0 : Nat), AV.sl (97 : Nat) n183 (0 : Nat) (1 : Nat) (8 : Nat) n184] (78 : Nat)) true) = some (Blk.mk n159 (Cont.cells [AV.ptr (96 : Nat) n159 (0 : Nat), AV.sl (97 : Nat) n183 (0 : Nat) (1 : Nat) (8 : Nat) n184] (78 : Nat)) true) ∧ ∀ (n186 : Nat), n186 = n186 ∧ n149 = n149 ∧ n150 = n150 ∧ (3 : Nat) ≤ n150 ∧ ((4 : Nat) ≤ (9223372036854775807 : Nat) ∧ (3152 : Nat) ≤ (281474976710656 : Nat)) ∧ ∀ (b187 : Bool) (n188 n189 : Nat), (4 : Nat) ≤ n189 → n152 = n152 ∧ ∀ (n191 : Nat), n191 = n191 ∧ n191 = n191 ∧ n191 = n191 ∧ n191 = n191 ∧ n2 = n2 ∧ ∀ (n192 : Nat), ((0 : Int) ≤ (0 : Int) ∧ (0 : Int) < (4 : Int)) ∧ n188 = n188 ∧ (0 : Nat) < n189 ∧ ((0 : Int) ≤ (0 : Int) ∧ (0 : Int) < (4 : Int)) ∧ n192 = n192 ∧ ((0 : Int) ≤ (1 : Int) ∧ (1 : Int) < (4 : Int)) ∧ n188 = n188 ∧ (1 : Nat) < n189 ∧ ((0 : Int) ≤ (1 : Int) ∧ (1 : Int) < (4 : Int)) ∧ n192 = n192 ∧ ((0 : Int) ≤ (2 : Int) ∧ (2 : Int) < (4 : Int)) ∧ n188 = n188 ∧ (2 : Nat) < n189 ∧ ((0 : Int) ≤ (2 : Int) ∧ (2 : Int) < (4 : Int)) ∧ n192 = n192 ∧ ((0 : Int) ≤ (3 : Int) ∧ (3 : Int) < (4 : Int)) ∧ n188 = n188 ∧ (3 : Nat) < n189 ∧ ((0 : Int) ≤ (3 : Int) ∧ (3 : Int) < (4 : Int)) ∧ n192 = n192 ∧ ∀ (n193 n194 : Nat), (4 : Nat) ≤ n194 → ((0 : Int) ≤ (0 : Int) ∧ (0 : Int) < (4 : Int)) ∧ n193 = n193 ∧ (0 : Nat) < n194 ∧ ((0 : Int) ≤ (1 : Int) ∧ (1 : Int) < (4 : Int)) ∧ n193 = n193 ∧ (1 : Nat) < n194 ∧ ((0 : Int) ≤ (2 : Int) ∧ (2 : Int) < (4 : Int)) ∧ n193 = n193 ∧ (2 : Nat) < n194 ∧ ((0 : Int) ≤ (3 : Int) ∧ (3 : Int) < (4 : Int)) ∧ n193 = n193 ∧ (3 : Nat) < n194 ∧ n193 = n193 ∧ (4 : Nat) ≤ n194 ∧ (0 : Int) ≤ (32 : Int) ∧ (0 : Int) ≤ (32 : Int) ∧ (0 : Int) ≤ (32 : Int) ∧ (0 : Int) ≤ (32 : Int) ∧ (0 : Int) ≤ (32 : Int) ∧ ((0 : Int) ≤ (0 : Int) ∧ (0 : Int) < (1 : Int)) ∧ ∀ (n196 : Nat), n196 = n196 ∧ n196 = n196 ∧ n196 = n196 ∧ n196 = n196 ∧ n196 = n196 ∧ n196 = n196 ∧ n196 = n196 ∧ n196 = n196 ∧ ((1 : Int) ≤ (3 : Int) ∧ (3 : Int) ≤ (281474976710656 : Int)) ∧ ∀ (n197 n198 : Nat), (3 : Nat) ≤ n198 → some (Blk.mk n196 (Cont.cells [AV.ptr (109 : Nat) n196 (0 : Nat), AV.v (Value.slice none (0 : Nat) (0 : Nat))] (78 : Nat)) true) = some (Blk.mk n196 (Cont.cells [AV.ptr (109 : Nat) n196 (0 : Nat), AV.v (Value.slice none (0 : Nat) (0 : Nat))] (78 : Nat)) true) ∧ some (Blk.mk n196 (Cont.cells [AV.ptr (109 : Nat) n196 (0 : Nat), AV.v (Value.slice none (0 : Nat) (0 : Nat))] (78 : Nat)) true) = some (Blk.mk n196 (Cont.cells [AV.ptr (109 : Nat) n196 (0 : Nat), AV.v (Value.slice none (0 : Nat) (0 : Nat))] (78 : Nat)) true) ∧ ((0 : Int) ≤ (0 : Int) ∧ (0 : Int) ≤ (↑n198 : Int)) ∧ n196 = n196 ∧ n196 = n196 ∧ n196 = n196 ∧ n196 = n196 ∧ n196 = n196 ∧ n196 = n196 ∧ n197 = n197 ∧ (0 : Nat) = (0 : Nat) ∧ n198 - (0 : Nat) = n198 ∧ ((1 : Nat) ≤ (9223372036854775807 : Nat) ∧ (193 : Nat) ≤ (281474976710656 : Nat)) ∧ ∀ (n200 n201 : Nat), (1 : Nat) ≤ n201 → n196 = n196 ∧ n196 = n196 ∧ n196 = n196 ∧ n196 = n196 ∧ n196 = n196 ∧ n196 = n196 ∧ n200 = n200 ∧ n201 = n201 ∧ some (Blk.mk n196 (Cont.cells [AV.ptr (109 : Nat) n196 (0 : Nat), AV.sl (110 : Nat) n200 (0 : Nat) (1 : Nat) (1 : Nat) n201] (78 : Nat)) true) = some (Blk.mk n196 (Cont.cells [AV.ptr (109 : Nat) n196 (0 : Nat), AV.sl (110 : Nat) n200 (0 : Nat) (1 : Nat) (1 : Nat) n201] (78 : Nat)) true) ∧ n200 = n200 ∧ (1 : Int) = (1 : Int) ∧ some (Blk.mk n196 (Cont.cells [AV.ptr (109 : Nat) n196 (0 : Nat), AV.sl (110 : Nat) n200 (0 : Nat) (1 : Nat) (1 : Nat) n201] (78 : Nat)) true) = some (Blk.mk n196 (Cont.cells [AV.ptr (109 : Nat) n196 (0 : Nat), AV.sl (110 : Nat) n200 (0 : Nat) (1 : Nat) (1 : Nat) n201] (78 : Nat)) true) ∧ some (Blk.mk n196 (Cont.cells [AV.ptr (109 : Nat) n196 (0 : Nat), AV.sl (110 : Nat) n200 (0 : Nat) (1 : Nat) (1 : Nat) n201] (78 : Nat)) true) = some (Blk.mk n196 (Cont.cells [AV.ptr (109 : Nat) n196 (0 : Nat), AV.sl (110 : Nat) n200 (0 : Nat) (1 : Nat) (1 : Nat) n201] (78 : Nat)) true) ∧ ((0 : Int) ≤ (1 : Int) ∧ (1 : Int) ≤ (1 : Int)) ∧ n196 = n196 ∧ n196 = n196 ∧ n196 = n196 ∧ n196 = n196 ∧ n200 = n200 ∧ (1 : Nat) = (1 : Nat) ∧ n201 = n201 ∧ ((2 : Nat) ≤ (9223372036854775807 : Nat) ∧ (194 : Nat) ≤ (281474976710656 : Nat)) ∧ ∀ (n203 n204 : Nat), (2 : Nat) ≤ n204 → n196 = n196 ∧ n196 = n196 ∧ n196 = n196 ∧ n196 = n196 ∧ n196 = n196 ∧ n196 = n196 ∧ n203 = n203 ∧ n204 = n204 ∧ some (Blk.mk n196 (Cont.cells [AV.ptr (109 : Nat) n196 (0 : Nat), AV.sl (110 : Nat) n203 (0 : Nat) (1 : Nat) (2 : Nat) n204] (78 : Nat)) true) = some (Blk.mk n196 (Cont.cells [AV.ptr (109 : Nat) n196 (0 : Nat), AV.sl (110 : Nat) n203 (0 : Nat) (1 : Nat) (2 : Nat) n204] (78 : Nat)) true) ∧ n203 = n203 ∧ (2 : Int) = (2 : Int) ∧ some (Blk.mk n196 (Cont.cells [AV.ptr (109 : Nat) n196 (0 : Nat), AV.sl (110 : Nat) n203 (0 : Nat) (1 : Nat) (2 : Nat) n204] (78 : Nat)) true) = some (Blk.mk n196 (Cont.cells [AV.ptr (109 : Nat) n196 (0 : Nat), AV.sl (110 : Nat) n203 (0 : Nat) (1 : Nat) (2 : Nat) n204] (78 : Nat)) true) ∧ some (Blk.mk n196 (Cont.cells [AV.ptr (109 : Nat) n196 (0 : Nat), AV.sl (110 : Nat) n203 (0 : Nat) (1 : Nat) (2 : Nat) n204] (78 : Nat)) true) = some (Blk.mk n196 (Cont.cells [AV.ptr (109 : Nat) n196 (0 : Nat), AV.sl (110 : Nat) n203 (0 : Nat) (1 : Nat) (2 : Nat) n204] (78 : Nat)) true) ∧ ((0 : Int) ≤ (1 : Int) ∧ (1 : Int) ≤ (2 : Int)) ∧ n196 = n196 ∧ n196 = n196 ∧ n196 = n196 ∧ n196 = n196 ∧ n203 = n203 ∧ (2 : Nat) = (2 : Nat) ∧ n204 = n204 ∧ ((3 : Nat) ≤ (9223372036854775807 : Nat) ∧ (195 : Nat) ≤ (281474976710656 : Nat)) ∧ ∀ (n206 n207 : Nat), (3 : Nat) ≤ n207 → n196 = n196 ∧ n196 = n196 ∧ n196 = n196 ∧ n196 = n196 ∧ n206 = n206 ∧ n207 = n207 ∧ some (Blk.mk n196 (Cont.cells [AV.ptr (109 : Nat) n196 (0 : Nat), AV.sl (110 : Nat) n206 (0 : Nat) (1 : Nat) (3 : Nat) n207] (78 : Nat)) true) = some (Blk.mk n196 (Cont.cells [AV.ptr (109 : Nat) n196 (0 : Nat), AV.sl (110 : Nat) n206 (0 : Nat) (1 : Nat) (3 : Nat) n207] (78 : Nat)) true) ∧ n206 = n206 ∧ (3 : Int) = (3 : Int) ∧ some (Blk.mk n196 (Cont.cells [AV.ptr (109 : Nat) n196 (0 : Nat), AV.sl (110 : Nat) n206 (0 : Nat) (1 : Nat) (3 : Nat) n207] (78 : Nat)) true) = some (Blk.mk n196 (Cont.cells [AV.ptr (109 : Nat) n196 (0 : Nat), AV.sl (110 : Nat) n206 (0 : Nat) (1 : Nat) (3 : Nat) n207] (78 : Nat)) true) ∧ some (Blk.mk n196 (Cont.cells [AV.ptr (109 : Nat) n196 (0 : Nat), AV.sl (110 : Nat) n206 (0 : Nat) (1 : Nat) (3 : Nat) n207] (78 : Nat)) true) = some (Blk.mk n196 (Cont.cells [AV.ptr (109 : Nat) n196 (0 : Nat), AV.sl (110 : Nat) n206 (0 : Nat) (1 : Nat) (3 : Nat) n207] (78 : Nat)) true) ∧ ∀ (n209 n210 : Nat), (2 : Nat) ≤ n210 → ((0 : Int) ≤ (0 : Int) ∧ (0 : Int) < (2 : Int)) ∧ n209 = n209 ∧ (0 : Nat) < n210 ∧ ((0 : Int) ≤ (1 : Int) ∧ (1 : Int) < (2 : Int)) ∧ n209 = n209 ∧ (1 : Nat) < n210 ∧ ((0 : Int) ≤ (1 : Int) ∧ (1 : Int) < (2 : Int)) ∧ n209 = n209 ∧ (1 : Nat) < n210 ∧ n209 = n209 ∧ (2 : Nat) ≤ n210 ∧ R (AV.v (Value.bool true))) ∧ n60 = n60 ∧ n21 = n21 ∧ ∀ (n61 : Nat), n61 = n61 ∧ n22 = n22 ∧ n61 = n61 ∧ n22 = n22 ∧ n60 = n60 ∧ n21 = n21 ∧ n60 = n60 ∧ n21 = n21 ∧ ∀ (n62 : Nat), n62 = n62 ∧ n22 = n22 ∧ n62 = n62 ∧ n22 = n22 ∧ n60 = n60 ∧ n21 = n21 ∧ n2 = n2 ∧ ((0 : Int) ≤ (3 : Int) ∧ (3 : Int) ≤ (36 : Int)) ∧ ((0 : Int) ≤ (2 : Int) ∧ (2 : Int) ≤ (3 : Int)) ∧ ∀ (n63 n64 n65 n66 : Nat), n66 = n66 ∧ n66 = n66 ∧ n66 = n66 ∧ n66 = n66 ∧ n66 = n66 ∧ ((1 : Nat) ≤ (9223372036854775807 : Nat) ∧ (193 : Nat) ≤ (281474976710656 : Nat)) ∧ ∀ (n67 n68 : Nat), (1 : Nat) ≤ n68 → n66 = n66 ∧ ∀ (n70 : Nat), n63 = n63 ∧ ((0 : Int) ≤ (0 : Int) ∧ (0 : Int) < (2 : Int)) ∧ n25 = n25 ∧ (0 : Nat) < n26 ∧ n64 = n64 ∧ n15 = n15 ∧ n15 = n15 ∧ ∀ (n71 n72 : Nat), (1 : Nat) ≤ n72 → ((0 : Int) ≤ (0 : Int) ∧ (0 : Int) < (1 : Int)) ∧ n71 = n71 ∧ (0 : Nat) < n72 ∧ n71 = n71 ∧ (1 : Nat) ≤ n72 ∧ (2 : Int) ≠ (0 : Int) ∧ (1 : Nat) ≤ (9223372036854775807 : Nat) ∧ (2 : Int) ≠ (0 : Int) ∧ (2 : Nat) ≤ (9223372036854775807 : Nat) ∧ n70 = n70 ∧ n70 = n70 ∧ n65 = n65 ∧ ∀ (n74 : Nat), ((0 : Int) ≤ (0 : Int) ∧ (0 : Int) < (2 : Int)) ∧ n74 = n74 ∧ n66 = n66 ∧ n66 = n66 ∧ n66 = n66 ∧ n66 = n66 ∧ n67 = n67 ∧ (1 : Nat) = (1 : Nat) ∧ n68 = n68 ∧ ((2 : Nat) ≤ (9223372036854775807 : Nat) ∧ (194 : Nat) ≤ (281474976710656 : Nat)) ∧ ∀ (n75 n76 : Nat), (2 : Nat) ≤ n76 → n66 = n66 ∧ ((0 : Int) ≤ (1 : Int) ∧ (1 : Int) < (2 : Int)) ∧ n74 = n74 ∧ n66 = n66 ∧ n66 = n66 ∧ n66 = n66 ∧ n66 = n66 ∧ n75 = n75 ∧ (2 : Nat) = (2 : Nat) ∧ n76 = n76 ∧ ((4 : Nat) ≤ (9223372036854775807 : Nat) ∧ (197 : Nat) ≤ (281474976710656 : Nat)) ∧ ∀ (n78 n79 : Nat), (4 : Nat) ≤ n79 → n66 = n66 ∧ n70 = n70 ∧ ((0 : Int) ≤ (1 : Int) ∧ (1 : Int) < (2 : Int)) ∧ n25 = n25 ∧ (1 : Nat) < n26 ∧ n64 = n64 ∧ n22 = n22 ∧ n22 = n22 ∧ ∀ (n81 n82 : Nat), (1 : Nat) ≤ n82 → ((0 : Int) ≤ (0 : Int) ∧ (0 : Int) < (1 : Int)) ∧ n81 = n81 ∧ (0 : Nat) < n82 ∧ n81 = n81 ∧ (1 : Nat) ≤ n82 ∧ (2 : Int) ≠ (0 : Int) ∧ (2 : Nat) ≤ (9223372036854775807 : Nat) ∧ (2 : Int) ≠ (0 : Int) ∧ (3 : Nat) ≤ (9223372036854775807 : Nat) ∧ n70 = n70 ∧ n70 = n70 ∧ n65 = n65 ∧ ∀ (n84 : Nat), ((0 : Int) ≤ (0 : Int) ∧ (0 : Int) < (2 : Int)) ∧ n84 = n84 ∧ n66 = n66 ∧ n66 = n66 ∧ n66 = n66 ∧ n66 = n66 ∧ n78 = n78 ∧ (4 : Nat) = (4 : Nat) ∧ n79 = n79 ∧ ((5 : Nat) ≤ (9223372036854775807 : Nat) ∧ (198 : Nat) ≤ (281474976710656 : Nat)) ∧ ∀ (n85 n86 : Nat), (5 : Nat) ≤ n86 → n66 = n66 ∧ ((0 : Int) ≤ (1 : Int) ∧ (1 : Int) < (2 : Int)) ∧ n84 = n84 ∧ n66 = n66 ∧ n66 = n66 ∧ n66 = n66 ∧ n66 = n66 ∧ n85 = n85 ∧ (5 : Nat) = (5 : Nat) ∧ n86 = n86 ∧ ((8 : Nat) ≤ (9223372036854775807 : Nat) ∧ (202 : Nat) ≤ (281474976710656 : Nat)) ∧ ∀ (n88 n89 : Nat), (8 : Nat) ≤ n89 → n66 = n66 ∧ n70 = n70 ∧ n70 = n70 ∧ n66 = n66 ∧ n66 = n66 ∧ n88 = n88 ∧ n89 = n89 ∧ some (Blk.mk n66 (Cont.cells [AV.ptr (59 : Nat) n66 (0 : Nat), AV.sl (60 : Nat) n88 (0 : Nat) (1 : Nat) (8 : Nat) n89] (78 : Nat)) true) = some (Blk.mk n66 (Cont.cells [AV.ptr (59 : Nat) n66 (0 : Nat), AV.sl (60 : Nat) n88 (0 : Nat) (1 : Nat) (8 : Nat) n89] (78 : Nat)) true) ∧ n88 = n88 ∧ (8 : Int) = (8 : Int) ∧ some (Blk.mk n66 (Cont.cells [AV.ptr (59 : Nat) n66 (0 : Nat), AV.sl (60 : Nat) n88 (0 : Nat) (1 : Nat) (8 : Nat) n89] (78 : Nat)) true) = some (Blk.mk n66 (Cont.cells [AV.ptr (59 : Nat) n66 (0 : Nat), AV.sl (60 : Nat) n88 (0 : Nat) (1 : Nat) (8 : Nat) n89] (78 : Nat)) true) ∧ some (Blk.mk n66 (Cont.cells [AV.ptr (59 : Nat) n66 (0 : Nat), AV.sl (60 : Nat) n88 (0 : Nat) (1 : Nat) (8 : Nat) n89] (78 : Nat)) true) = some (Blk.mk n66 (Cont.cells [AV.ptr (59 : Nat) n66 (0 : Nat), AV.sl (60 : Nat) n88 (0 : Nat) (1 : Nat) (8 : Nat) n89] (78 : Nat)) true) ∧ ∀ (n91 n92 n93 n94 : Nat), n94 = n94 ∧ n94 = n94 ∧ n94 = n94 ∧ n94 = n94 ∧ n94 = n94 ∧ ((1 : Nat) ≤ (9223372036854775807 : Nat) ∧ (193 : Nat) ≤ (281474976710656 : Nat)) ∧ ∀ (n95 n96 : Nat), (1 : Nat) ≤ n96 → n94 = n94 ∧ ∀ (n98 : Nat), n91 = n91 ∧ ((0 : Int) ≤ (0 : Int) ∧ (0 : Int) < (2 : Int)) ∧ n25 = n25 ∧ (0 : Nat) < n26 ∧ n92 = n92 ∧ n15 = n15 ∧ (0 : Int) ≤ (32 : Int) ∧ (0 : Int) ≤ (32 : Int) ∧ (0 : Int) ≤ (32 : Int) ∧ (0 : Int) ≤ (32 : Int) ∧ (0 : Int) ≤ (32 : Int) ∧ ((0 : Int) ≤ (0 : Int) ∧ (0 : Int) < (1 : Int)) ∧ ((0 : Int) ≤ (1 : Int) ∧ (1 : Int) ≤ (128 : Int)) ∧ ((0 : Int) ≤ (1 : Int) ∧ (1 : Int) ≤ (128 : Int)) ∧ ((0 : Int) ≤ (2 : Int) ∧ (2 : Int) ≤ (128 : Int)) ∧ n98 = n98 ∧ n98 = n98 ∧ n93 = n93 ∧ ∀ (n99 : Nat), ((0 : Int) ≤ (0 : Int) ∧ (0 : Int) < (2 : Int)) ∧ n99 = n99 ∧ n94 = n94 ∧ n94 = n94 ∧ n94 = n94 ∧ n94 = n94 ∧ n95 = n95 ∧ (1 : Nat) = (1 : Nat) ∧ n96 = n96 ∧ ((2 : Nat) ≤ (9223372036854775807 : Nat) ∧ (194 : Nat) ≤ (281474976710656 : Nat)) ∧ ∀ (n100 n101 : Nat), (2 : Nat) ≤ n101 → n94 = n94 ∧ ((0 : Int) ≤ (1 : Int) ∧ (1 : Int) < (2 : Int)) ∧ n99 = n99 ∧ n94 = n94 ∧ n94 = n94 ∧ n94 = n94 ∧ n94 = n94 ∧ n100 = n100 ∧ (2 : Nat) = (2 : Nat) ∧ n101 = n101 ∧ ((4 : Nat) ≤ (9223372036854775807 : Nat) ∧ (197 : Nat) ≤ (281474976710656 : Nat)) ∧ ∀ (n103 n104 : Nat), (4 : Nat) ≤ n104 → n94 = n94 ∧ n98 = n98 ∧ ((0 : Int) ≤ (1 : Int) ∧ (1 : Int) < (2 : Int)) ∧ n25 = n25 ∧ (1 : Nat) < n26 ∧ n92 = n92 ∧ n22 = n22 ∧ (0 : Int) ≤ (32 : Int) ∧ (0 : Int) ≤ (32 : Int) ∧ (0 : Int) ≤ (32 : Int) ∧ (0 : Int) ≤ (32 : Int) ∧ (0 : Int) ≤ (32 : Int) ∧ ((0 : Int) ≤ (0 : Int) ∧ (0 : Int) < (1 : Int)) ∧ ((0 : Int) ≤ (1 : Int) ∧ (1 : Int) ≤ (128 : Int)) ∧ ((0 : Int) ≤ (1 : Int) ∧ (1 : Int) ≤ (128 : Int)) ∧ ((0 : Int) ≤ (3 : Int) ∧ (3 : Int) ≤ (128 : Int)) ∧ n98 = n98 ∧ n98 = n98 ∧ n93 = n93 ∧ ∀ (n106 : Nat), ((0 : Int) ≤ (0 : Int) ∧ (0 : Int) < (2 : Int)) ∧ n106 = n106 ∧ n94 = n94 ∧ n94 = n94 ∧ n94 = n94 ∧ n94 = n94 ∧ n103 = n103 ∧ (4 : Nat) = (4 : Nat) ∧ n104 = n104 ∧ ((5 : Nat) ≤ (9223372036854775807 : Nat) ∧ (198 : Nat) ≤ (281474976710656 : Nat)) ∧ ∀ (n107 n108 : Nat), (5 : Nat) ≤ n108 → n94 = n94 ∧ ((0 : Int) ≤ (1 : Int) ∧ (1 : Int) < (2 : Int)) ∧ n106 = n106 ∧ n94 = n94 ∧ n94 = n94 ∧ n94 = n94 ∧ n94 = n94 ∧ n107 = n107 ∧ (5 : Nat) = (5 : Nat) ∧ n108 = n108 ∧ ((8 : Nat) ≤ (9223372036854775807 : Nat) ∧ (202 : Nat) ≤ (281474976710656 : Nat)) ∧ ∀ (n110 n111 : Nat), (8 : Nat) ≤ n111 → n94 = n94 ∧ n98 = n98 ∧ n98 = n98 ∧ n94 = n94 ∧ n94 = n94 ∧ n110 = n110 ∧ n111 = n111 ∧ some (Blk.mk n94 (Cont.cells [AV.ptr (69 : Nat) n94 (0 : Nat), AV.sl (70 : Nat) n110 (0 : Nat) (1 : Nat) (8 : Nat) n111] (78 : Nat)) true) = some (Blk.mk n94 (Cont.cells [AV.ptr (69 : Nat) n94 (0 : Nat), AV.sl (70 : Nat) n110 (0 : Nat) (1 : Nat) (8 : Nat) n111] (78 : Nat)) true) ∧ n110 = n110 ∧ (8 : Int) = (8 : Int) ∧ some (Blk.mk n94 (Cont.cells [AV.ptr (69 : Nat) n94 (0 : Nat), AV.sl (70 : Nat) n110 (0 : Nat) (1 : Nat) (8 : Nat) n111] (78 : Nat)) true) = some (Blk.mk n94 (Cont.cells [AV.ptr (69 : Nat) n94 (0 : Nat), AV.sl (70 : Nat) n110 (0 : Nat) (1 : Nat) (8 : Nat) n111] (78 : Nat)) true) ∧ some (Blk.mk n94 (Cont.cells [AV.ptr (69 : Nat) n94 (0 : Nat), AV.sl (70 : Nat) n110 (0 : Nat) (1 : Nat) (8 : Nat) n111] (78 : Nat)) true) = some (Blk.mk n94 (Cont.cells [AV.ptr (69 : Nat) n94 (0 : Nat), AV.sl (70 : Nat) n110 (0 : Nat) (1 : Nat) (8 : Nat) n111] (78 : Nat)) true) ∧ ∀ (n113 : Nat), n2 = n2 ∧ ∀ (n114 : Nat), n114 = n114 ∧ n114 = n114 ∧ n2 = n2 ∧ n114 = n114 ∧ ((0 : Int) ≤ (2 : Int) ∧ (2 : Int) ≤ (36 : Int)) ∧ ((0 : Int) ≤ (1 : Int) ∧ (1 : Int) ≤ (2 : Int)) ∧ ∀ (n115 n116 : Nat), (1 : Nat) ≤ n116 → ((0 : Int) ≤ (0 : Int) ∧ (0 : Int) < (1 : Int)) ∧ n115 = n115 ∧ (0 : Nat) < n116 ∧ n115 = n115 ∧ (1 : Nat) ≤ n116 ∧ (1 : Nat) ≤ (9223372036854775807 : Nat) ∧ ∀ (n118 n119 n120 n121 : Nat), n121 = n121 ∧ n121 = n121 ∧ n121 = n121 ∧ n121 = n121 ∧ n121 = n121 ∧ ((1 : Nat) ≤ (9223372036854775807 : Nat) ∧ (193 : Nat) ≤ (281474976710656 : Nat)) ∧ ∀ (n122 n123 : Nat), (1 : Nat) ≤ n123 → n121 = n121 ∧ ∀ (n125 : Nat), n118 = n118 ∧ ((0 : Int) ≤ (0 : Int) ∧ (0 : Int) < (2 : Int)) ∧ n25 = n25 ∧ (0 : Nat) < n26 ∧ n119 = n119 ∧ n15 = n15 ∧ n114 = n114 ∧ n14 = n14 ∧ ∀ (n126 : Nat), n126 = n126 ∧ n126 = n126 ∧ n15 = n15 ∧ n126 = n126 ∧ ∀ (n127 n128 : Nat), (2 : Nat) ≤ n128 → ((0 : Int) ≤ (0 : Int) ∧ (0 : Int) < (2 : Int)) ∧ n127 = n127 ∧ (0 : Nat) < n128 ∧ ((0 : Int) ≤ (1 : Int) ∧ (1 : Int) < (2 : Int)) ∧ n127 = n127 ∧ (1 : Nat) < n128 ∧ n127 = n127 ∧ (2 : Nat) ≤ n128 ∧ (2 : Nat) ≤ (9223372036854775807 : Nat) ∧ n125 = n125 ∧ n125 = n125 ∧ n120 = n120 ∧ ∀ (n130 : Nat), ((0 : Int) ≤ (0 : Int) ∧ (0 : Int) < (2 : Int)) ∧ n130 = n130 ∧ n121 = n121 ∧ n121 = n121 ∧ n121 = n121 ∧ n121 = n121 ∧ n122 = n122 ∧ (1 : Nat) = (1 : Nat) ∧ n123 = n123 ∧ ((2 : Nat) ≤ (9223372036854775807 : Nat) ∧ (194 : Nat) ≤ (281474976710656 : Nat)) ∧ ∀ (n131 n132 : Nat), (2 : Nat) ≤ n132 → n121 = n121 ∧ ((0 : Int) ≤ (1 : Int) ∧ (1 : Int) < (2 : Int)) ∧ n130 = n130 ∧ n121 = n121 ∧ n121 = n121 ∧ n121 = n121 ∧ n121 = n121 ∧ n131 = n131 ∧ (2 : Nat) = (2 : Nat) ∧ n132 = n132 ∧ ((4 : Nat) ≤ (9223372036854775807 : Nat) ∧ (197 : Nat) ≤ (281474976710656 : Nat)) ∧ ∀ (n134 n135 : Nat), (4 : Nat) ≤ n135 → n121 = n121 ∧ n125 = n125 ∧ ((0 : Int) ≤ (1 : Int) ∧ (1 : Int) < (2 : Int)) ∧ n25 = n25 ∧ (1 : Nat) < n26 ∧ n119 = n119 ∧ n22 = n22 ∧ n114 = n114 ∧ n21 = n21 ∧ ∀ (n137 : Nat), n137 = n137 ∧ n137 = n137 ∧ n22 = n22 ∧ n137 = n137 ∧ ∀ (n138 n139 : Nat), (2 : Nat) ≤ n139 → ((0 : Int) ≤ (0 : Int) ∧ (0 : Int) < (2 : Int)) ∧ n138 = n138 ∧ (0 : Nat) < n139 ∧ ((0 : Int) ≤ (1 : Int) ∧ (1 : Int) < (2 : Int)) ∧ n138 = n138 ∧ (1 : Nat) < n139 ∧ n138 = n138 ∧ (2 : Nat) ≤ n139 ∧ (3 : Nat) ≤ (9223372036854775807 : Nat) ∧ n125 = n125 ∧ n125 = n125 ∧ n120 = n120 ∧ ∀ (n141 : Nat), ((0 : Int) ≤ (0 : Int) ∧ (0 : Int) < (2 : Int)) ∧ n141 = n141 ∧ n121 = n121 ∧ n121 = n121 ∧ n121 = n121 ∧ n121 = n121 ∧ n134 = n134 ∧ (4 : Nat) = (4 : Nat) ∧ n135 = n135 ∧ ((5 : Nat) ≤ (9223372036854775807 : Nat) ∧ (198 : Nat) ≤ (281474976710656 : Nat)) ∧ ∀ (n142 n143 : Nat), (5 : Nat) ≤ n143 → n121 = n121 ∧ ((0 : Int) ≤ (1 : Int) ∧ (1 : Int) < (2 : Int)) ∧ n141 = n141 ∧ n121 = n121 ∧ n121 = n121 ∧ n121 = n121 ∧ n121 = n121 ∧ n142 = n142 ∧ (5 : Nat) = (5 : Nat) ∧ n143 = n143 ∧ ((8 : Nat) ≤ (9223372036854775807 : Nat) ∧ (202 : Nat) ≤ (281474976710656 : Nat)) ∧ ∀ (n145 n146 : Nat), (8 : Nat) ≤ n146 → n121 = n121 ∧ n125 = n125 ∧ n125 = n125 ∧ n121 = n121 ∧ n121 = n121 ∧ n145 = n145 ∧ n146 = n146 ∧ some (Blk.mk n121 (Cont.cells [AV.ptr (80 : Nat) n121 (0 : Nat), AV.sl (81 : Nat) n145 (0 : Nat) (1 : Nat) (8 : Nat) n146] (78 : Nat)) true) = some (Blk.mk n121 (Cont.cells [AV.ptr (80 : Nat) n121 (0 : Nat), AV.sl (81 : Nat) n145 (0 : Nat) (1 : Nat) (8 : Nat) n146] (78 : Nat)) true) ∧ n145 = n145 ∧ (8 : Int) = (8 : Int) ∧ some (Blk.mk n121 (Cont.cells [AV.ptr (80 : Nat) n121 (0 : Nat), AV.sl (81 : Nat) n145 (0 : Nat) (1 : Nat) (8 : Nat) n146] (78 : Nat)) true) = some (Blk.mk n121 (Cont.cells [AV.ptr (80 : Nat) n121 (0 : Nat), AV.sl (81 : Nat) n145 (0 : Nat) (1 : Nat) (8 : Nat) n146] (78 : Nat)) true) ∧ some (Blk.mk n121 (Cont.cells [AV.ptr (80 : Nat) n121 (0 : Nat), AV.sl (81 : Nat) n145 (0 : Nat) (1 : Nat) (8 : Nat) n146] (78 : Nat)) true) = some (Blk.mk n121 (Cont.cells [AV.ptr (80 : Nat) n121 (0 : Nat), AV.sl (81 : Nat) n145 (0 : Nat) (1 : Nat) (8 : Nat) n146] (78 : Nat)) true) ∧ ∀ (n148 : Nat), n148 = n148 ∧ n113 = n113 ∧ ((3 : Nat) ≤ (9223372036854775807 : Nat) ∧ (3120 : Nat) ≤ (281474976710656 : Nat)) ∧ ∀ (n149 n150 : Nat), (3 : Nat) ≤ n150 → n114 = n114 ∧ ∀ (n152 : Nat), n152 = n152 ∧ n152 = n152 ∧ n152 = n152 ∧ n152 = n152 ∧ n2 = n2 ∧ n152 = n152 ∧ ((0 : Int) ≤ (3 : Int) ∧ (3 : Int) ≤ (36 : Int)) ∧ ((0 : Int) ≤ (2 : Int) ∧ (2 : Int) ≤ (3 : Int)) ∧ ∀ (n153 n154 : Nat), (1 : Nat) ≤ n154 → ((0 : Int) ≤ (0 : Int) ∧ (0 : Int) < (1 : Int)) ∧ n153 = n153 ∧ (0 : Nat) < n154 ∧ n153 = n153 ∧ (1 : Nat) ≤ n154 ∧ (1 : Nat) ≤ (9223372036854775807 : Nat) ∧ ∀ (n156 n157 n158 n159 : Nat), n159 = n159 ∧ n159 = n159 ∧ n159 = n159 ∧ n159 = n159 ∧ n159 = n159 ∧ ((1 : Nat) ≤ (9223372036854775807 : Nat) ∧ (193 : Nat) ≤ (281474976710656 : Nat)) ∧ ∀ (n160 n161 : Nat), (1 : Nat) ≤ n161 → n159 = n159 ∧ ∀ (n163 : Nat), n156 = n156 ∧ ((0 : Int) ≤ (0 : Int) ∧ (0 : Int) < (2 : Int)) ∧ n25 = n25 ∧ (0 : Nat) < n26 ∧ n157 = n157 ∧ n15 = n15 ∧ n152 = n152 ∧ n14 = n14 ∧ ∀ (n164 : Nat), n164 = n164 ∧ n164 = n164 ∧ n15 = n15 ∧ n164 = n164 ∧ ∀ (n165 n166 : Nat), (0 : Nat) ≤ n166 → n165 = n165 ∧ (0 : Nat) ≤ n166 ∧ (0 : Int) ≤ (32 : Int) ∧ (0 : Int) ≤ (32 : Int) ∧ (0 : Int) ≤ (32 : Int) ∧ (0 : Int) ≤ (32 : Int) ∧ (0 : Int) ≤ (32 : Int) ∧ ((0 : Int) ≤ (0 : Int) ∧ (0 : Int) < (1 : Int)) ∧ ((0 : Int) ≤ (1 : Int) ∧ (1 : Int) ≤ (128 : Int)) ∧ ((0 : Int) ≤ (2 : Int) ∧ (2 : Int) ≤ (128 : Int)) ∧ (2 : Nat) ≤ (9223372036854775807 : Nat) ∧ n163 = n163 ∧ n163 = n163 ∧ n158 = n158 ∧ ∀ (n168 : Nat), ((0 : Int) ≤ (0 : Int) ∧ (0 : Int) < (2 : Int)) ∧ n168 = n168 ∧ n159 = n159 ∧ n159 = n159 ∧ n159 = n159 ∧ n159 = n159 ∧ n160 = n160 ∧ (1 : Nat) = (1 : Nat) ∧ n161 = n161 ∧ ((2 : Nat) ≤ (9223372036854775807 : Nat) ∧ (194 : Nat) ≤ (281474976710656 : Nat)) ∧ ∀ (n169 n170 : Nat), (2 : Nat) ≤ n170 → n159 = n159 ∧ ((0 : Int) ≤ (1 : Int) ∧ (1 : Int) < (2 : Int)) ∧ n168 = n168 ∧ n159 = n159 ∧ n159 = n159 ∧ n159 = n159 ∧ n159 = n159 ∧ n169 = n169 ∧ (2 : Nat) = (2 : Nat) ∧ n170 = n170 ∧ ((4 : Nat) ≤ (9223372036854775807 : Nat) ∧ (197 : Nat) ≤ (281474976710656 : Nat)) ∧ ∀ (n172 n173 : Nat), (4 : Nat) ≤ n173 → n159 = n159 ∧ n163 = n163 ∧ ((0 : Int) ≤ (1 : Int) ∧ (1 : Int) < (2 : Int)) ∧ n25 = n25 ∧ (1 : Nat) < n26 ∧ n157 = n157 ∧ n22 = n22 ∧ n152 = n152 ∧ n21 = n21 ∧ ∀ (n175 : Nat), n175 = n175 ∧ n175 = n175 ∧ n22 = n22 ∧ n175 = n175 ∧ ∀ (n176 n177 : Nat), (4 : Nat) ≤ n177 → ((0 : Int) ≤ (0 : Int) ∧ (0 : Int) < (4 : Int)) ∧ n176 = n176 ∧ (0 : Nat) < n177 ∧ ((0 : Int) ≤ (1 : Int) ∧ (1 : Int) < (4 : Int)) ∧ n176 = n176 ∧ (1 : Nat) < n177 ∧ ((0 : Int) ≤ (2 : Int) ∧ (2 : Int) < (4 : Int)) ∧ n176 = n176 ∧ (2 : Nat) < n177 ∧ ((0 : Int) ≤ (3 : Int) ∧ (3 : Int) < (4 : Int)) ∧ n176 = n176 ∧ (3 : Nat) < n177 ∧ n176 = n176 ∧ (4 : Nat) ≤ n177 ∧ ((0 : Int) ≤ (3 : Int) ∧ (3 : Int) ≤ (4 : Int)) ∧ n163 = n163 ∧ n163 = n163 ∧ n158 = n158 ∧ ∀ (n179 : Nat), ((0 : Int) ≤ (0 : Int) ∧ (0 : Int) < (2 : Int)) ∧ n179 = n179 ∧ n159 = n159 ∧ n159 = n159 ∧ n159 = n159 ∧ n159 = n159 ∧ n172 = n172 ∧ (4 : Nat) = (4 : Nat) ∧ n173 = n173 ∧ ((5 : Nat) ≤ (9223372036854775807 : Nat) ∧ (198 : Nat) ≤ (281474976710656 : Nat)) ∧ ∀ (n180 n181 : Nat), (5 : Nat) ≤ n181 → n159 = n159 ∧ ((0 : Int) ≤ (1 : Int) ∧ (1 : Int) < (2 : Int)) ∧ n179 = n179 ∧ n159 = n159 ∧ n159 = n159 ∧ n159 = n159 ∧ n159 = n159 ∧ n180 = n180 ∧ (5 : Nat) = (5 : Nat) ∧ n181 = n181 ∧ ((8 : Nat) ≤ (9223372036854775807 : Nat) ∧ (202 : Nat) ≤ (281474976710656 : Nat)) ∧ ∀ (n183 n184 : Nat), (8 : Nat) ≤ n184 → n159 = n159 ∧ n163 = n163 ∧ n163 = n163 ∧ n159 = n159 ∧ n159 = n159 ∧ n183 = n183 ∧ n184 = n184 ∧ some (Blk.mk n159 (Cont.cells [AV.ptr (96 : Nat) n159 (0 : Nat), AV.sl (97 : Nat) n183 (0 : Nat) (1 : Nat) (8 : Nat) n184] (78 : Nat)) true) = some (Blk.mk n159 (Cont.cells [AV.ptr (96 : Nat) n159 (0 : Nat), AV.sl (97 : Nat) n183 (0 : Nat) (1 : Nat) (8 : Nat) n184] (78 : Nat)) true) ∧ n183 = n183 ∧ (8 : Int) = (8 : Int) ∧ some (Blk.mk n159 (Cont.cells [AV.ptr (96 : Nat) n159 (0 : Nat), AV.sl (97 : Nat) n183 (0 : Nat) (1 : Nat) (8 : Nat) n184] (78 : Nat)) true) = some (Blk.mk n159 (Cont.cells [AV.ptr (96 : Nat) n159 (0 : Nat), AV.sl (97 : Nat) n183 (0 : Nat) (1 : Nat) (8 : Nat) n184] (78 : Nat)) true) ∧ some (Blk.mk n159 (Cont.cells [AV.ptr (96 : Nat) n159 (0 : Nat), AV.sl (97 : Nat) n183 (0 : Nat) (1 : Nat) (8 : Nat) n184] (78 : Nat)) true) = some (Blk.mk n159 (Cont.cells [AV.ptr (96 : Nat) n159 (0 : Nat), AV.sl (97 : Nat) n183 (0 : Nat) (1 : Nat) (8 : Nat) n184] (78 : Nat)) true) ∧ ∀ (n186 : Nat), n186 = n186 ∧ n149 = n149 ∧ n150 = n150 ∧ (3 : Nat) ≤ n150 ∧ ((4 : Nat) ≤ (9223372036854775807 : Nat) ∧ (3152 : Nat) ≤ (281474976710656 : Nat)) ∧ ∀ (b187 : Bool) (n188 n189 : Nat), (4 : Nat) ≤ n189 → n152 = n152 ∧ ∀ (n191 : Nat), n191 = n191 ∧ n191 = n191 ∧ n191 = n191 ∧ n191 = n191 ∧ n2 = n2 ∧ ∀ (n192 : Nat), ((0 : Int) ≤ (0 : Int) ∧ (0 : Int) < (4 : Int)) ∧ n188 = n188 ∧ (0 : Nat) < n189 ∧ ((0 : Int) ≤ (0 : Int) ∧ (0 : Int) < (4 : Int)) ∧ n192 = n192 ∧ ((0 : Int) ≤ (1 : Int) ∧ (1 : Int) < (4 : Int)) ∧ n188 = n188 ∧ (1 : Nat) < n189 ∧ ((0 : Int) ≤ (1 : Int) ∧ (1 : Int) < (4 : Int)) ∧ n192 = n192 ∧ ((0 : Int) ≤ (2 : Int) ∧ (2 : Int) < (4 : Int)) ∧ n188 = n188 ∧ (2 : Nat) < n189 ∧ ((0 : Int) ≤ (2 : Int) ∧ (2 : Int) < (4 : Int)) ∧ n192 = n192 ∧ ((0 : Int) ≤ (3 : Int) ∧ (3 : Int) < (4 : Int)) ∧ n188 = n188 ∧ (3 : Nat) < n189 ∧ ((0 : Int) ≤ (3 : Int) ∧ (3 : Int) < (4 : Int)) ∧ n192 = n192 ∧ ∀ (n193 n194 : Nat), (4 : Nat) ≤ n194 → ((0 : Int) ≤ (0 : Int) ∧ (0 : Int) < (4 : Int)) ∧ n193 = n193 ∧ (0 : Nat) < n194 ∧ ((0 : Int) ≤ (1 : Int) ∧ (1 : Int) < (4 : Int)) ∧ n193 = n193 ∧ (1 : Nat) < n194 ∧ ((0 : Int) ≤ (2 : Int) ∧ (2 : Int) < (4 : Int)) ∧ n193 = n193 ∧ (2 : Nat) < n194 ∧ ((0 : Int) ≤ (3 : Int) ∧ (3 : Int) < (4 : Int)) ∧ n193 = n193 ∧ (3 : Nat) < n194 ∧ n193 = n193 ∧ (4 : Nat) ≤ n194 ∧ (0 : Int) ≤ (32 : Int) ∧ (0 : Int) ≤ (32 : Int) ∧ (0 : Int) ≤ (32 : Int) ∧ (0 : Int) ≤ (32 : Int) ∧ (0 : Int) ≤ (32 : Int) ∧ ((0 : Int) ≤ (0 : Int) ∧ (0 : Int) < (1 : Int)) ∧ ∀ (n196 : Nat), n196 = n196 ∧ n196 = n196 ∧ n196 = n196 ∧ n196 = n196 ∧ n196 = n196 ∧ n196 = n196 ∧ n196 = n196 ∧ n196 = n196 ∧ ((1 : Int) ≤ (3 : Int) ∧ (3 : Int) ≤ (281474976710656 : Int)) ∧ ∀ (n197 n198 : Nat), (3 : Nat) ≤ n198 → some (Blk.mk n196 (Cont.cells [AV.ptr (109 : Nat) n196 (0 : Nat), AV.v (Value.slice none (0 : Nat) (0 : Nat))] (78 : Nat)) true) = some (Blk.mk n196 (Cont.cells [AV.ptr (109 : Nat) n196 (0 : Nat), AV.v (Value.slice none (0 : Nat) (0 : Nat))] (78 : Nat)) true) ∧ some (Blk.mk n196 (Cont.cells [AV.ptr (109 : Nat) n196 (0 : Nat), AV.v (Value.slice none (0 : Nat) (0 : Nat))] (78 : Nat)) true) = some (Blk.mk n196 (Cont.cells [AV.ptr (109 : Nat) n196 (0 : Nat), AV.v (Value.slice none (0 : Nat) (0 : Nat))] (78 : Nat)) true) ∧ ((0 : Int) ≤ (0 : Int) ∧ (0 : Int) ≤ (↑n198 : Int)) ∧ n196 = n196 ∧ n196 = n196 ∧ n196 = n196 ∧ n196 = n196 ∧ n196 = n196 ∧ n196 = n196 ∧ n197 = n197 ∧ (0 : Nat) = (0 : Nat) ∧ n198 - (0 : Nat) = n198 ∧ ((1 : Nat) ≤ (9223372036854775807 : Nat) ∧ (193 : Nat) ≤ (281474976710656 : Nat)) ∧ ∀ (n200 n201 : Nat), (1 : Nat) ≤ n201 → n196 = n196 ∧ n196 = n196 ∧ n196 = n196 ∧ n196 = n196 ∧ n196 = n196 ∧ n196 = n196 ∧ n200 = n200 ∧ n201 = n201 ∧ some (Blk.mk n196 (Cont.cells [AV.ptr (109 : Nat) n196 (0 : Nat), AV.sl (110 : Nat) n200 (0 : Nat) (1 : Nat) (1 : Nat) n201] (78 : Nat)) true) = some (Blk.mk n196 (Cont.cells [AV.ptr (109 : Nat) n196 (0 : Nat), AV.sl (110 : Nat) n200 (0 : Nat) (1 : Nat) (1 : Nat) n201] (78 : Nat)) true) ∧ n200 = n200 ∧ (1 : Int) = (1 : Int) ∧ some (Blk.mk n196 (Cont.cells [AV.ptr (109 : Nat) n196 (0 : Nat), AV.sl (110 : Nat) n200 (0 : Nat) (1 : Nat) (1 : Nat) n201] (78 : Nat)) true) = some (Blk.mk n196 (Cont.cells [AV.ptr (109 : Nat) n196 (0 : Nat), AV.sl (110 : Nat) n200 (0 : Nat) (1 : Nat) (1 : Nat) n201] (78 : Nat)) true) ∧ some (Blk.mk n196 (Cont.cells [AV.ptr (109 : Nat) n196 (0 : Nat), AV.sl (110 : Nat) n200 (0 : Nat) (1 : Nat) (1 : Nat) n201] (78 : Nat)) true) = some (Blk.mk n196 (Cont.cells [AV.ptr (109 : Nat) n196 (0 : Nat), AV.sl (110 : Nat) n200 (0 : Nat) (1 : Nat) (1 : Nat) n201] (78 : Nat)) true) ∧ ((0 : Int) ≤ (1 : Int) ∧ (1 : Int) ≤ (1 : Int)) ∧ n196 = n196 ∧ n196 = n196 ∧ n196 = n196 ∧ n196 = n196 ∧ n200 = n200 ∧ (1 : Nat) = (1 : Nat) ∧ n201 = n201 ∧ ((2 : Nat) ≤ (9223372036854775807 : Nat) ∧ (194 : Nat) ≤ (281474976710656 : Nat)) ∧ ∀ (n203 n204 : Nat), (2 : Nat) ≤ n204 → n196 = n196 ∧ n196 = n196 ∧ n196 = n196 ∧ n196 = n196 ∧ n196 = n196 ∧ n196 = n196 ∧ n203 = n203 ∧ n204 = n204 ∧ some (Blk.mk n196 (Cont.cells [AV.ptr (109 : Nat) n196 (0 : Nat), AV.sl (110 : Nat) n203 (0 : Nat) (1 : Nat) (2 : Nat) n204] (78 : Nat)) true) = some (Blk.mk n196 (Cont.cells [AV.ptr (109 : Nat) n196 (0 : Nat), AV.sl (110 : Nat) n203 (0 : Nat) (1 : Nat) (2 : Nat) n204] (78 : Nat)) true) ∧ n203 = n203 ∧ (2 : Int) = (2 : Int) ∧ some (Blk.mk n196 (Cont.cells [AV.ptr (109 : Nat) n196 (0 : Nat), AV.sl (110 : Nat) n203 (0 : Nat) (1 : Nat) (2 : Nat) n204] (78 : Nat)) true) = some (Blk.mk n196 (Cont.cells [AV.ptr (109 : Nat) n196 (0 : Nat), AV.sl (110 : Nat) n203 (0 : Nat) (1 : Nat) (2 : Nat) n204] (78 : Nat)) true) ∧ some (Blk.mk n196 (Cont.cells [AV.ptr (109 : Nat) n196 (0 : Nat), AV.sl (110 : Nat) n203 (0 : Nat) (1 : Nat) (2 : Nat) n204] (78 : Nat)) true) = some (Blk.mk n196 (Cont.cells [AV.ptr (109 : Nat) n196 (0 : Nat), AV.sl (110 : Nat) n203 (0 : Nat) (1 : Nat) (2 : Nat) n204] (78 : Nat)) true) ∧ ((0 : Int) ≤ (1 : Int) ∧ (1 : Int) ≤ (2 : Int)) ∧ n196 = n196 ∧ n196 = n196 ∧ n196 = n196 ∧ n196 = n196 ∧ n203 = n203 ∧ (2 : Nat) = (2 : Nat) ∧ n204 = n204 ∧ ((3 : Nat) ≤ (9223372036854775807 : Nat) ∧ (195 : Nat) ≤ (281474976710656 : Nat)) ∧ ∀ (n206 n207 : Nat), (3 : Nat) ≤ n207 → n196 = n196 ∧ n196 = n196 ∧ n196 = n196 ∧ n196 = n196 ∧ n206 = n206 ∧ n207 = n207 ∧ some (Blk.mk n196 (Cont.cells [AV.ptr (109 : Nat) n196 (0 : Nat), AV.sl (110 : Nat) n206 (0 : Nat) (1 : Nat) (3 : Nat) n207] (78 : Nat)) true) = some (Blk.mk n196 (Cont.cells [AV.ptr (109 : Nat) n196 (0 : Nat), AV.sl (110 : Nat) n206 (0 : Nat) (1 : Nat) (3 : Nat) n207] (78 : Nat)) true) ∧ n206 = n206 ∧ (3 : Int) = (3 : Int) ∧ some (Blk.mk n196 (Cont.cells [AV.ptr (109 : Nat) n196 (0 : Nat), AV.sl (110 : Nat) n206 (0 : Nat) (1 : Nat) (3 : Nat) n207] (78 : Nat)) true) = some (Blk.mk n196 (Cont.cells [AV.ptr (109 : Nat) n196 (0 : Nat), AV.sl (110 : Nat) n206 (0 : Nat) (1 : Nat) (3 : Nat) n207] (78 : Nat)) true) ∧ some (Blk.mk n196 (Cont.cells [AV.ptr (109 : Nat) n196 (0 : Nat), AV.sl (110 : Nat) n206 (0 : Nat) (1 : Nat) (3 : Nat) n207] (78 : Nat)) true) = some (Blk.mk n196 (Cont.cells [AV.ptr (109 : Nat) n196 (0 : Nat), AV.sl (110 : Nat) n206 (0 : Nat) (1 : Nat) (3 : Nat) n207] (78 : Nat)) true) ∧ ∀ (n209 n210 : Nat), (2 : Nat) ≤ n210 → ((0 : Int) ≤ (0 : Int) ∧ (0 : Int) < (2 : Int)) ∧ n209 = n209 ∧ (0 : Nat) < n210 ∧ ((0 : Int) ≤ (1 : Int) ∧ (1 : Int) < (2 : Int)) ∧ n209 = n209 ∧ (1 : Nat) < n210 ∧ ((0 : Int) ≤ (1 : Int) ∧ (1 : Int) < (2 : Int)) ∧ n209 = n209 ∧ (1 : Nat) < n210 ∧ n209 = n209 ∧ (2 : Nat) ≤ n210 ∧ R (AV.v (Value.bool true)))) : LC Tryd.prog 10 [] [] (fun z_ _ => R z_) :=
  lc_of_exec (tbl := st46) tab_ok st46_ok mixed noinv 2 _ Tryd.func10 rfl Tryd.ntmps10 (by decide) (by kernel_rfl) (Nat.le_of_ble_eq_true rfl) (@Eq.mpr (execN tab st46 noinv 2 Tryd.f10.ntmps [] none 0 (body Tryd.f10) (argsT [] 0) [] (post Tryd.f10 tab (retK (fun z_ _ => R z_)))) _ (by kernel_rfl) h)

set_option maxRecDepth 100000 in
theorem lives_lc  : LC Tryd.prog 10 [] [] (fun z_ _ => z_ = .v (.bool true)) :=
  lives_vc  (by
    intros
    simp (config := {decide := true}) [offB, offN, br_iff]
    all_goals (repeat' (first | (refine ⟨?_, ?_⟩) | intro _))
    all_goals (first | omega | (split <;> omega)))

def livesH : List AV → Option AV
  | [] => some (.v (.bool true))
  | _ => none

theorem lives_ok : POk Tryd.prog 10 livesH := POk.of_lc (enters_of (c := body Tryd.f10) Tryd.func10 rfl (by kernel_rfl)) (by
  intro args v h
  unfold livesH at h
  split at h
  · cases h; exact lives_lc 
  · cases h)

end Go.Proofs.YthkegefjmcipmaaDoor

