import Derived.Test.YtjnehpljhnlbfaaTab
import Derived.Test.YtjnehpljhnlbfaaEngN
import Derived.IntWalk
namespace Go.Proofs.Ytjnehpljhnlbfaa
open Go Go.Eng
set_option linter.unusedVariables false
set_option linter.unusedSimpArgs false
theorem mixed : Try.prog.follows .mixedOrders = true := by kernel_rfl
theorem w64 {x : Int} (h : -9223372036854775808 ≤ x ∧ x ≤ 9223372036854775807) : IntKind.i64.wrap x = x := IntWalk.i64_in _ h
def tm : Tbl := (4294967295, .ext mergeFlag) :: []
theorem tm_ok : TblOk Try.prog tm := ⟨flag_ok, trivial⟩
def sf53I : Handler := inlH tab tm (fun _ _ _ => .unroll 12) 2 Try.f53 3
set_option maxRecDepth 100000 in
theorem sf53_ok : HOk Try.prog 53 sf53I :=
  inl_ok (tbl := tm) tab_ok tm_ok mixed (fun _ _ _ => .unroll 12) 2 _ 3 Try.func53 rfl Try.ntmps53 (by decide) (by kernel_rfl) (Nat.le_of_ble_eq_true rfl)
def st1 : Tbl := (53, .gen sf53I) :: tm
theorem st1_ok : TblOk Try.prog st1 := ⟨sf53_ok, tm_ok⟩
def sf57I : Handler := inlH tab st1 (fun _ _ _ => .unroll 12) 2 Try.f57 2
set_option maxRecDepth 100000 in
theorem sf57_ok : HOk Try.prog 57 sf57I :=
  inl_ok (tbl := st1) tab_ok st1_ok mixed (fun _ _ _ => .unroll 12) 2 _ 2 Try.func57 rfl Try.ntmps57 (by decide) (by kernel_rfl) (Nat.le_of_ble_eq_true rfl)
def st2 : Tbl := (57, .gen sf57I) :: st1
theorem st2_ok : TblOk Try.prog st2 := ⟨sf57_ok, st1_ok⟩
def sf14I : Handler := inlH tab st2 (fun _ _ _ => .unroll 12) 2 Try.f14 2
set_option maxRecDepth 100000 in
theorem sf14_ok : HOk Try.prog 14 sf14I :=
  inl_ok (tbl := st2) tab_ok st2_ok mixed (fun _ _ _ => .unroll 12) 2 _ 2 Try.func14 rfl Try.ntmps14 (by decide) (by kernel_rfl) (Nat.le_of_ble_eq_true rfl)
def st3 : Tbl := (14, .gen sf14I) :: st2
theorem st3_ok : TblOk Try.prog st3 := ⟨sf14_ok, st2_ok⟩
def sf31I : Handler := inlH tab st3 (fun _ _ _ => .unroll 12) 2 Try.f31 1
set_option maxRecDepth 100000 in
theorem sf31_ok : HOk Try.prog 31 sf31I :=
  inl_ok (tbl := st3) tab_ok st3_ok mixed (fun _ _ _ => .unroll 12) 2 _ 1 Try.func31 rfl Try.ntmps31 (by decide) (by kernel_rfl) (Nat.le_of_ble_eq_true rfl)
def st4 : Tbl := (31, .gen sf31I) :: st3
theorem st4_ok : TblOk Try.prog st4 := ⟨sf31_ok, st3_ok⟩
def sf13I : Handler := inlH tab st4 (fun _ _ _ => .unroll 12) 2 Try.f13 2
set_option maxRecDepth 100000 in
theorem sf13_ok : HOk Try.prog 13 sf13I :=
  inl_ok (tbl := st4) tab_ok st4_ok mixed (fun _ _ _ => .unroll 12) 2 _ 2 Try.func13 rfl Try.ntmps13 (by decide) (by kernel_rfl) (Nat.le_of_ble_eq_true rfl)
def st5 : Tbl := (13, .gen sf13I) :: st4
theorem st5_ok : TblOk Try.prog st5 := ⟨sf13_ok, st4_ok⟩
def sf23I : Handler := inlH tab st5 (fun _ _ _ => .unroll 12) 2 Try.f23 1
set_option maxRecDepth 100000 in
theorem sf23_ok : HOk Try.prog 23 sf23I :=
  inl_ok (tbl := st5) tab_ok st5_ok mixed (fun _ _ _ => .unroll 12) 2 _ 1 Try.func23 rfl Try.ntmps23 (by decide) (by kernel_rfl) (Nat.le_of_ble_eq_true rfl)
def st6 : Tbl := (23, .gen sf23I) :: st5
theorem st6_ok : TblOk Try.prog st6 := ⟨sf23_ok, st5_ok⟩
def sf32I : Handler := inlH tab st6 (fun _ _ _ => .unroll 12) 2 Try.f32 1
set_option maxRecDepth 100000 in
theorem sf32_ok : HOk Try.prog 32 sf32I :=
  inl_ok (tbl := st6) tab_ok st6_ok mixed (fun _ _ _ => .unroll 12) 2 _ 1 Try.func32 rfl Try.ntmps32 (by decide) (by kernel_rfl) (Nat.le_of_ble_eq_true rfl)
def st7 : Tbl := (32, .gen sf32I) :: st6
theorem st7_ok : TblOk Try.prog st7 := ⟨sf32_ok, st6_ok⟩
def sf68I : Handler := inlH tab st7 (fun _ _ _ => .unroll 12) 2 Try.f68 1
set_option maxRecDepth 100000 in
theorem sf68_ok : HOk Try.prog 68 sf68I :=
  inl_ok (tbl := st7) tab_ok st7_ok mixed (fun _ _ _ => .unroll 12) 2 _ 1 Try.func68 rfl Try.ntmps68 (by decide) (by kernel_rfl) (Nat.le_of_ble_eq_true rfl)
def st8 : Tbl := (68, .gen sf68I) :: st7
theorem st8_ok : TblOk Try.prog st8 := ⟨sf68_ok, st7_ok⟩
def sf52_0I : Handler := inlH tab st8 (fun _ _ _ => .unroll 12) 2 Try.f52 4
set_option maxRecDepth 100000 in
theorem sf52_0_ok : HOk Try.prog 52 sf52_0I :=
  inl_ok (tbl := st8) tab_ok st8_ok mixed (fun _ _ _ => .unroll 12) 2 _ 4 Try.func52 rfl Try.ntmps52 (by decide) (by kernel_rfl) (Nat.le_of_ble_eq_true rfl)
def st9 : Tbl := (52, .gen sf52_0I) :: st8
theorem st9_ok : TblOk Try.prog st9 := ⟨sf52_0_ok, st8_ok⟩
def sf52_1I : Handler := inlH tab st9 (fun _ _ _ => .unroll 12) 2 Try.f52 4
set_option maxRecDepth 100000 in
theorem sf52_1_ok : HOk Try.prog 52 sf52_1I :=
  inl_ok (tbl := st9) tab_ok st9_ok mixed (fun _ _ _ => .unroll 12) 2 _ 4 Try.func52 rfl Try.ntmps52 (by decide) (by kernel_rfl) (Nat.le_of_ble_eq_true rfl)
def st10 : Tbl := (52, .gen sf52_1I) :: st8
theorem st10_ok : TblOk Try.prog st10 := ⟨sf52_1_ok, st8_ok⟩
def sf52_2I : Handler := inlH tab st10 (fun _ _ _ => .unroll 12) 2 Try.f52 4
set_option maxRecDepth 100000 in
theorem sf52_2_ok : HOk Try.prog 52 sf52_2I :=
  inl_ok (tbl := st10) tab_ok st10_ok mixed (fun _ _ _ => .unroll 12) 2 _ 4 Try.func52 rfl Try.ntmps52 (by decide) (by kernel_rfl) (Nat.le_of_ble_eq_true rfl)
def st11 : Tbl := (52, .gen sf52_2I) :: st8
theorem st11_ok : TblOk Try.prog st11 := ⟨sf52_2_ok, st8_ok⟩
def sf52I : Handler := inlH tab st11 (fun _ _ _ => .unroll 12) 2 Try.f52 4
set_option maxRecDepth 100000 in
theorem sf52_ok : HOk Try.prog 52 sf52I :=
  inl_ok (tbl := st11) tab_ok st11_ok mixed (fun _ _ _ => .unroll 12) 2 _ 4 Try.func52 rfl Try.ntmps52 (by decide) (by kernel_rfl) (Nat.le_of_ble_eq_true rfl)
def st12 : Tbl := (52, .gen sf52I) :: st8
theorem st12_ok : TblOk Try.prog st12 := ⟨sf52_ok, st8_ok⟩
def sf51I : Handler := inlH tab st12 (fun _ _ _ => .unroll 12) 2 Try.f51 3
set_option maxRecDepth 100000 in
theorem sf51_ok : HOk Try.prog 51 sf51I :=
  inl_ok (tbl := st12) tab_ok st12_ok mixed (fun _ _ _ => .unroll 12) 2 _ 3 Try.func51 rfl Try.ntmps51 (by decide) (by kernel_rfl) (Nat.le_of_ble_eq_true rfl)
def st13 : Tbl := (51, .gen sf51I) :: st12
theorem st13_ok : TblOk Try.prog st13 := ⟨sf51_ok, st12_ok⟩
def sf22I : Handler := inlH tab st13 (fun _ _ _ => .unroll 12) 2 Try.f22 2
set_option maxRecDepth 100000 in
theorem sf22_ok : HOk Try.prog 22 sf22I :=
  inl_ok (tbl := st13) tab_ok st13_ok mixed (fun _ _ _ => .unroll 12) 2 _ 2 Try.func22 rfl Try.ntmps22 (by decide) (by kernel_rfl) (Nat.le_of_ble_eq_true rfl)
def st14 : Tbl := (22, .gen sf22I) :: st13
theorem st14_ok : TblOk Try.prog st14 := ⟨sf22_ok, st13_ok⟩
def sf36I : Handler := inlH tab st14 (fun _ _ _ => .unroll 12) 2 Try.f36 1
set_option maxRecDepth 100000 in
theorem sf36_ok : HOk Try.prog 36 sf36I :=
  inl_ok (tbl := st14) tab_ok st14_ok mixed (fun _ _ _ => .unroll 12) 2 _ 1 Try.func36 rfl Try.ntmps36 (by decide) (by kernel_rfl) (Nat.le_of_ble_eq_true rfl)
def st15 : Tbl := (36, .gen sf36I) :: st14
theorem st15_ok : TblOk Try.prog st15 := ⟨sf36_ok, st14_ok⟩
def sf35I : Handler := inlH tab st15 (fun _ _ _ => .unroll 12) 2 Try.f35 1
set_option maxRecDepth 100000 in
theorem sf35_ok : HOk Try.prog 35 sf35I :=
  inl_ok (tbl := st15) tab_ok st15_ok mixed (fun _ _ _ => .unroll 12) 2 _ 1 Try.func35 rfl Try.ntmps35 (by decide) (by kernel_rfl) (Nat.le_of_ble_eq_true rfl)
def st16 : Tbl := (35, .gen sf35I) :: st15
theorem st16_ok : TblOk Try.prog st16 := ⟨sf35_ok, st15_ok⟩
def sf18I : Handler := inlH tab st16 (fun _ _ _ => .unroll 12) 2 Try.f18 1
set_option maxRecDepth 100000 in
theorem sf18_ok : HOk Try.prog 18 sf18I :=
  inl_ok (tbl := st16) tab_ok st16_ok mixed (fun _ _ _ => .unroll 12) 2 _ 1 Try.func18 rfl Try.ntmps18 (by decide) (by kernel_rfl) (Nat.le_of_ble_eq_true rfl)
def st17 : Tbl := (18, .gen sf18I) :: st16
theorem st17_ok : TblOk Try.prog st17 := ⟨sf18_ok, st16_ok⟩
def sf24I : Handler := inlH tab st17 (fun _ _ _ => .unroll 12) 2 Try.f24 0
set_option maxRecDepth 100000 in
theorem sf24_ok : HOk Try.prog 24 sf24I :=
  inl_ok (tbl := st17) tab_ok st17_ok mixed (fun _ _ _ => .unroll 12) 2 _ 0 Try.func24 rfl Try.ntmps24 (by decide) (by kernel_rfl) (Nat.le_of_ble_eq_true rfl)
def st18 : Tbl := (24, .gen sf24I) :: st17
theorem st18_ok : TblOk Try.prog st18 := ⟨sf24_ok, st17_ok⟩
def sf59I : Handler := inlH tab st18 (fun _ _ _ => .unroll 12) 2 Try.f59 2
set_option maxRecDepth 100000 in
theorem sf59_ok : HOk Try.prog 59 sf59I :=
  inl_ok (tbl := st18) tab_ok st18_ok mixed (fun _ _ _ => .unroll 12) 2 _ 2 Try.func59 rfl Try.ntmps59 (by decide) (by kernel_rfl) (Nat.le_of_ble_eq_true rfl)
def st19 : Tbl := (59, .gen sf59I) :: st18
theorem st19_ok : TblOk Try.prog st19 := ⟨sf59_ok, st18_ok⟩
def sf82I : Handler := inlH tab st19 (fun _ _ _ => .unroll 12) 2 Try.f82 1
set_option maxRecDepth 100000 in
theorem sf82_ok : HOk Try.prog 82 sf82I :=
  inl_ok (tbl := st19) tab_ok st19_ok mixed (fun _ _ _ => .unroll 12) 2 _ 1 Try.func82 rfl Try.ntmps82 (by decide) (by kernel_rfl) (Nat.le_of_ble_eq_true rfl)
def st20 : Tbl := (82, .gen sf82I) :: st19
theorem st20_ok : TblOk Try.prog st20 := ⟨sf82_ok, st19_ok⟩
def sf95I : Handler := inlH tab st20 (fun _ _ _ => .unroll 12) 2 Try.f95 1
set_option maxRecDepth 100000 in
theorem sf95_ok : HOk Try.prog 95 sf95I :=
  inl_ok (tbl := st20) tab_ok st20_ok mixed (fun _ _ _ => .unroll 12) 2 _ 1 Try.func95 rfl Try.ntmps95 (by decide) (by kernel_rfl) (Nat.le_of_ble_eq_true rfl)
def st21 : Tbl := (95, .gen sf95I) :: st20
theorem st21_ok : TblOk Try.prog st21 := ⟨sf95_ok, st20_ok⟩
def sf83I : Handler := inlH tab st21 (fun _ _ _ => .unroll 12) 2 Try.f83 2
set_option maxRecDepth 100000 in
theorem sf83_ok : HOk Try.prog 83 sf83I :=
  inl_ok (tbl := st21) tab_ok st21_ok mixed (fun _ _ _ => .unroll 12) 2 _ 2 Try.func83 rfl Try.ntmps83 (by decide) (by kernel_rfl) (Nat.le_of_ble_eq_true rfl)
def st22 : Tbl := (83, .gen sf83I) :: st21
theorem st22_ok : TblOk Try.prog st22 := ⟨sf83_ok, st21_ok⟩
def sf60I : Handler := inlH tab st22 (fun _ _ _ => .unroll 12) 2 Try.f60 3
set_option maxRecDepth 100000 in
theorem sf60_ok : HOk Try.prog 60 sf60I :=
  inl_ok (tbl := st22) tab_ok st22_ok mixed (fun _ _ _ => .unroll 12) 2 _ 3 Try.func60 rfl Try.ntmps60 (by decide) (by kernel_rfl) (Nat.le_of_ble_eq_true rfl)
def st23 : Tbl := (60, .gen sf60I) :: st22
theorem st23_ok : TblOk Try.prog st23 := ⟨sf60_ok, st22_ok⟩
def sf50I : Handler := inlH tab st23 (fun _ _ _ => .unroll 12) 2 Try.f50 1
set_option maxRecDepth 100000 in
theorem sf50_ok : HOk Try.prog 50 sf50I :=
  inl_ok (tbl := st23) tab_ok st23_ok mixed (fun _ _ _ => .unroll 12) 2 _ 1 Try.func50 rfl Try.ntmps50 (by decide) (by kernel_rfl) (Nat.le_of_ble_eq_true rfl)
def st24 : Tbl := (50, .gen sf50I) :: st23
theorem st24_ok : TblOk Try.prog st24 := ⟨sf50_ok, st23_ok⟩
def sf84I : Handler := inlH tab st24 (fun _ _ _ => .unroll 12) 2 Try.f84 1
set_option maxRecDepth 100000 in
theorem sf84_ok : HOk Try.prog 84 sf84I :=
  inl_ok (tbl := st24) tab_ok st24_ok mixed (fun _ _ _ => .unroll 12) 2 _ 1 Try.func84 rfl Try.ntmps84 (by decide) (by kernel_rfl) (Nat.le_of_ble_eq_true rfl)
def st25 : Tbl := (84, .gen sf84I) :: st24
theorem st25_ok : TblOk Try.prog st25 := ⟨sf84_ok, st24_ok⟩
def sf85I : Handler := inlH tab st25 (fun _ _ _ => .unroll 12) 2 Try.f85 2
set_option maxRecDepth 100000 in
theorem sf85_ok : HOk Try.prog 85 sf85I :=
  inl_ok (tbl := st25) tab_ok st25_ok mixed (fun _ _ _ => .unroll 12) 2 _ 2 Try.func85 rfl Try.ntmps85 (by decide) (by kernel_rfl) (Nat.le_of_ble_eq_true rfl)
def st26 : Tbl := (85, .gen sf85I) :: st25
theorem st26_ok : TblOk Try.prog st26 := ⟨sf85_ok, st25_ok⟩
def sf61I : Handler := inlH tab st26 (fun _ _ _ => .unroll 12) 2 Try.f61 1
set_option maxRecDepth 100000 in
theorem sf61_ok : HOk Try.prog 61 sf61I :=
  inl_ok (tbl := st26) tab_ok st26_ok mixed (fun _ _ _ => .unroll 12) 2 _ 1 Try.func61 rfl Try.ntmps61 (by decide) (by kernel_rfl) (Nat.le_of_ble_eq_true rfl)
def st27 : Tbl := (61, .gen sf61I) :: st26
theorem st27_ok : TblOk Try.prog st27 := ⟨sf61_ok, st26_ok⟩
def sf42_0I : Handler := inlH tab st27 (fun _ _ _ => .unroll 12) 2 Try.f42 3
set_option maxRecDepth 100000 in
theorem sf42_0_ok : HOk Try.prog 42 sf42_0I :=
  inl_ok (tbl := st27) tab_ok st27_ok mixed (fun _ _ _ => .unroll 12) 2 _ 3 Try.func42 rfl Try.ntmps42 (by decide) (by kernel_rfl) (Nat.le_of_ble_eq_true rfl)
def st28 : Tbl := (42, .gen sf42_0I) :: st27
theorem st28_ok : TblOk Try.prog st28 := ⟨sf42_0_ok, st27_ok⟩
def sf42_1I : Handler := inlH tab st28 (fun _ _ _ => .unroll 12) 2 Try.f42 3
set_option maxRecDepth 100000 in
theorem sf42_1_ok : HOk Try.prog 42 sf42_1I :=
  inl_ok (tbl := st28) tab_ok st28_ok mixed (fun _ _ _ => .unroll 12) 2 _ 3 Try.func42 rfl Try.ntmps42 (by decide) (by kernel_rfl) (Nat.le_of_ble_eq_true rfl)
def st29 : Tbl := (42, .gen sf42_1I) :: st27
theorem st29_ok : TblOk Try.prog st29 := ⟨sf42_1_ok, st27_ok⟩
def sf42_2I : Handler := inlH tab st29 (fun _ _ _ => .unroll 12) 2 Try.f42 3
set_option maxRecDepth 100000 in
theorem sf42_2_ok : HOk Try.prog 42 sf42_2I :=
  inl_ok (tbl := st29) tab_ok st29_ok mixed (fun _ _ _ => .unroll 12) 2 _ 3 Try.func42 rfl Try.ntmps42 (by decide) (by kernel_rfl) (Nat.le_of_ble_eq_true rfl)
def st30 : Tbl := (42, .gen sf42_2I) :: st27
theorem st30_ok : TblOk Try.prog st30 := ⟨sf42_2_ok, st27_ok⟩
def sf42I : Handler := inlH tab st30 (fun _ _ _ => .unroll 12) 2 Try.f42 3
set_option maxRecDepth 100000 in
theorem sf42_ok : HOk Try.prog 42 sf42I :=
  inl_ok (tbl := st30) tab_ok st30_ok mixed (fun _ _ _ => .unroll 12) 2 _ 3 Try.func42 rfl Try.ntmps42 (by decide) (by kernel_rfl) (Nat.le_of_ble_eq_true rfl)
def st31 : Tbl := (42, .gen sf42I) :: st27
theorem st31_ok : TblOk Try.prog st31 := ⟨sf42_ok, st27_ok⟩
def sf25I : Handler := inlH tab st31 (fun _ _ _ => .unroll 12) 2 Try.f25 3
set_option maxRecDepth 100000 in
theorem sf25_ok : HOk Try.prog 25 sf25I :=
  inl_ok (tbl := st31) tab_ok st31_ok mixed (fun _ _ _ => .unroll 12) 2 _ 3 Try.func25 rfl Try.ntmps25 (by decide) (by kernel_rfl) (Nat.le_of_ble_eq_true rfl)
def st32 : Tbl := (25, .gen sf25I) :: st31
theorem st32_ok : TblOk Try.prog st32 := ⟨sf25_ok, st31_ok⟩
def sf75I : Handler := inlH tab st32 (fun _ _ _ => .unroll 12) 2 Try.f75 2
set_option maxRecDepth 100000 in
theorem sf75_ok : HOk Try.prog 75 sf75I :=
  inl_ok (tbl := st32) tab_ok st32_ok mixed (fun _ _ _ => .unroll 12) 2 _ 2 Try.func75 rfl Try.ntmps75 (by decide) (by kernel_rfl) (Nat.le_of_ble_eq_true rfl)
def st33 : Tbl := (75, .gen sf75I) :: st32
theorem st33_ok : TblOk Try.prog st33 := ⟨sf75_ok, st32_ok⟩
def sf69I : Handler := inlH tab st33 (fun _ _ _ => .unroll 12) 2 Try.f69 3
set_option maxRecDepth 100000 in
theorem sf69_ok : HOk Try.prog 69 sf69I :=
  inl_ok (tbl := st33) tab_ok st33_ok mixed (fun _ _ _ => .unroll 12) 2 _ 3 Try.func69 rfl Try.ntmps69 (by decide) (by kernel_rfl) (Nat.le_of_ble_eq_true rfl)
def st34 : Tbl := (69, .gen sf69I) :: st33
theorem st34_ok : TblOk Try.prog st34 := ⟨sf69_ok, st33_ok⟩
def sf54I : Handler := inlH tab st34 (fun _ _ _ => .unroll 12) 2 Try.f54 4
set_option maxRecDepth 100000 in
theorem sf54_ok : HOk Try.prog 54 sf54I :=
  inl_ok (tbl := st34) tab_ok st34_ok mixed (fun _ _ _ => .unroll 12) 2 _ 4 Try.func54 rfl Try.ntmps54 (by decide) (by kernel_rfl) (Nat.le_of_ble_eq_true rfl)
def st35 : Tbl := (54, .gen sf54I) :: st34
theorem st35_ok : TblOk Try.prog st35 := ⟨sf54_ok, st34_ok⟩
def sf78I : Handler := inlH tab st35 (fun _ _ _ => .unroll 12) 2 Try.f78 1
set_option maxRecDepth 100000 in
theorem sf78_ok : HOk Try.prog 78 sf78I :=
  inl_ok (tbl := st35) tab_ok st35_ok mixed (fun _ _ _ => .unroll 12) 2 _ 1 Try.func78 rfl Try.ntmps78 (by decide) (by kernel_rfl) (Nat.le_of_ble_eq_true rfl)
def st36 : Tbl := (78, .gen sf78I) :: st35
theorem st36_ok : TblOk Try.prog st36 := ⟨sf78_ok, st35_ok⟩
def sf79I : Handler := inlH tab st36 (fun _ _ _ => .unroll 12) 2 Try.f79 1
set_option maxRecDepth 100000 in
theorem sf79_ok : HOk Try.prog 79 sf79I :=
  inl_ok (tbl := st36) tab_ok st36_ok mixed (fun _ _ _ => .unroll 12) 2 _ 1 Try.func79 rfl Try.ntmps79 (by decide) (by kernel_rfl) (Nat.le_of_ble_eq_true rfl)
def st37 : Tbl := (79, .gen sf79I) :: st36
theorem st37_ok : TblOk Try.prog st37 := ⟨sf79_ok, st36_ok⟩
def sf55I : Handler := inlH tab st37 (fun _ _ _ => .unroll 12) 2 Try.f55 1
set_option maxRecDepth 100000 in
theorem sf55_ok : HOk Try.prog 55 sf55I :=
  inl_ok (tbl := st37) tab_ok st37_ok mixed (fun _ _ _ => .unroll 12) 2 _ 1 Try.func55 rfl Try.ntmps55 (by decide) (by kernel_rfl) (Nat.le_of_ble_eq_true rfl)
def st38 : Tbl := (55, .gen sf55I) :: st37
theorem st38_ok : TblOk Try.prog st38 := ⟨sf55_ok, st37_ok⟩
def sf34I : Handler := inlH tab st38 (fun _ _ _ => .unroll 12) 2 Try.f34 1
set_option maxRecDepth 100000 in
theorem sf34_ok : HOk Try.prog 34 sf34I :=
  inl_ok (tbl := st38) tab_ok st38_ok mixed (fun _ _ _ => .unroll 12) 2 _ 1 Try.func34 rfl Try.ntmps34 (by decide) (by kernel_rfl) (Nat.le_of_ble_eq_true rfl)
def st39 : Tbl := (34, .gen sf34I) :: st38
theorem st39_ok : TblOk Try.prog st39 := ⟨sf34_ok, st38_ok⟩
def sf80I : Handler := inlH tab st39 (fun _ _ _ => .unroll 12) 2 Try.f80 2
set_option maxRecDepth 100000 in
theorem sf80_ok : HOk Try.prog 80 sf80I :=
  inl_ok (tbl := st39) tab_ok st39_ok mixed (fun _ _ _ => .unroll 12) 2 _ 2 Try.func80 rfl Try.ntmps80 (by decide) (by kernel_rfl) (Nat.le_of_ble_eq_true rfl)
def st40 : Tbl := (80, .gen sf80I) :: st39
theorem st40_ok : TblOk Try.prog st40 := ⟨sf80_ok, st39_ok⟩
def sf56I : Handler := inlH tab st40 (fun _ _ _ => .unroll 12) 2 Try.f56 1
set_option maxRecDepth 100000 in
theorem sf56_ok : HOk Try.prog 56 sf56I :=
  inl_ok (tbl := st40) tab_ok st40_ok mixed (fun _ _ _ => .unroll 12) 2 _ 1 Try.func56 rfl Try.ntmps56 (by decide) (by kernel_rfl) (Nat.le_of_ble_eq_true rfl)
def st41 : Tbl := (56, .gen sf56I) :: st40
theorem st41_ok : TblOk Try.prog st41 := ⟨sf56_ok, st40_ok⟩
def sf39I : Handler := inlH tab st41 (fun _ _ _ => .unroll 12) 2 Try.f39 1
set_option maxRecDepth 100000 in
theorem sf39_ok : HOk Try.prog 39 sf39I :=
  inl_ok (tbl := st41) tab_ok st41_ok mixed (fun _ _ _ => .unroll 12) 2 _ 1 Try.func39 rfl Try.ntmps39 (by decide) (by kernel_rfl) (Nat.le_of_ble_eq_true rfl)
def st42 : Tbl := (39, .gen sf39I) :: st41
theorem st42_ok : TblOk Try.prog st42 := ⟨sf39_ok, st41_ok⟩
def sf40I : Handler := inlH tab st42 (fun _ _ _ => .unroll 12) 2 Try.f40 1
set_option maxRecDepth 100000 in
theorem sf40_ok : HOk Try.prog 40 sf40I :=
  inl_ok (tbl := st42) tab_ok st42_ok mixed (fun _ _ _ => .unroll 12) 2 _ 1 Try.func40 rfl Try.ntmps40 (by decide) (by kernel_rfl) (Nat.le_of_ble_eq_true rfl)
def st43 : Tbl := (40, .gen sf40I) :: st42
theorem st43_ok : TblOk Try.prog st43 := ⟨sf40_ok, st42_ok⟩
def sf37I : Handler := inlH tab st43 (fun _ _ _ => .unroll 12) 2 Try.f37 1
set_option maxRecDepth 100000 in
theorem sf37_ok : HOk Try.prog 37 sf37I :=
  inl_ok (tbl := st43) tab_ok st43_ok mixed (fun _ _ _ => .unroll 12) 2 _ 1 Try.func37 rfl Try.ntmps37 (by decide) (by kernel_rfl) (Nat.le_of_ble_eq_true rfl)
def st44 : Tbl := (37, .gen sf37I) :: st43
theorem st44_ok : TblOk Try.prog st44 := ⟨sf37_ok, st43_ok⟩
def sf38I : Handler := inlH tab st44 (fun _ _ _ => .unroll 12) 2 Try.f38 2
set_option maxRecDepth 100000 in
theorem sf38_ok : HOk Try.prog 38 sf38I :=
  inl_ok (tbl := st44) tab_ok st44_ok mixed (fun _ _ _ => .unroll 12) 2 _ 2 Try.func38 rfl Try.ntmps38 (by decide) (by kernel_rfl) (Nat.le_of_ble_eq_true rfl)
def st45 : Tbl := (38, .gen sf38I) :: st44
theorem st45_ok : TblOk Try.prog st45 := ⟨sf38_ok, st44_ok⟩
def sf81I : Handler := inlH tab st45 (fun _ _ _ => .unroll 12) 2 Try.f81 4
set_option maxRecDepth 100000 in
theorem sf81_ok : HOk Try.prog 81 sf81I :=
  inl_ok (tbl := st45) tab_ok st45_ok mixed (fun _ _ _ => .unroll 12) 2 _ 4 Try.func81 rfl Try.ntmps81 (by decide) (by kernel_rfl) (Nat.le_of_ble_eq_true rfl)
def st46 : Tbl := (81, .gen sf81I) :: st45
theorem st46_ok : TblOk Try.prog st46 := ⟨sf81_ok, st45_ok⟩
def sf58I : Handler := inlH tab st46 (fun _ _ _ => .unroll 12) 2 Try.f58 2
set_option maxRecDepth 100000 in
theorem sf58_ok : HOk Try.prog 58 sf58I :=
  inl_ok (tbl := st46) tab_ok st46_ok mixed (fun _ _ _ => .unroll 12) 2 _ 2 Try.func58 rfl Try.ntmps58 (by decide) (by kernel_rfl) (Nat.le_of_ble_eq_true rfl)
def st47 : Tbl := (58, .gen sf58I) :: st46
theorem st47_ok : TblOk Try.prog st47 := ⟨sf58_ok, st46_ok⟩
def sf41I : Handler := inlH tab st47 (fun _ _ _ => .unroll 12) 2 Try.f41 2
set_option maxRecDepth 100000 in
theorem sf41_ok : HOk Try.prog 41 sf41I :=
  inl_ok (tbl := st47) tab_ok st47_ok mixed (fun _ _ _ => .unroll 12) 2 _ 2 Try.func41 rfl Try.ntmps41 (by decide) (by kernel_rfl) (Nat.le_of_ble_eq_true rfl)
def st48 : Tbl := (41, .gen sf41I) :: st47
theorem st48_ok : TblOk Try.prog st48 := ⟨sf41_ok, st47_ok⟩
def sf21I : Handler := inlH tab st48 (fun _ _ _ => .unroll 12) 2 Try.f21 2
set_option maxRecDepth 100000 in
theorem sf21_ok : HOk Try.prog 21 sf21I :=
  inl_ok (tbl := st48) tab_ok st48_ok mixed (fun _ _ _ => .unroll 12) 2 _ 2 Try.func21 rfl Try.ntmps21 (by decide) (by kernel_rfl) (Nat.le_of_ble_eq_true rfl)
def st49 : Tbl := (21, .gen sf21I) :: st48
theorem st49_ok : TblOk Try.prog st49 := ⟨sf21_ok, st48_ok⟩
def sf26I : Handler := inlH tab st49 (fun _ _ _ => .unroll 12) 2 Try.f26 2
set_option maxRecDepth 100000 in
theorem sf26_ok : HOk Try.prog 26 sf26I :=
  inl_ok (tbl := st49) tab_ok st49_ok mixed (fun _ _ _ => .unroll 12) 2 _ 2 Try.func26 rfl Try.ntmps26 (by decide) (by kernel_rfl) (Nat.le_of_ble_eq_true rfl)
def st50 : Tbl := (26, .gen sf26I) :: st49
theorem st50_ok : TblOk Try.prog st50 := ⟨sf26_ok, st49_ok⟩
def sf27I : Handler := inlH tab st50 (fun _ _ _ => .unroll 12) 2 Try.f27 1
set_option maxRecDepth 100000 in
theorem sf27_ok : HOk Try.prog 27 sf27I :=
  inl_ok (tbl := st50) tab_ok st50_ok mixed (fun _ _ _ => .unroll 12) 2 _ 1 Try.func27 rfl Try.ntmps27 (by decide) (by kernel_rfl) (Nat.le_of_ble_eq_true rfl)
def st51 : Tbl := (27, .gen sf27I) :: st50
theorem st51_ok : TblOk Try.prog st51 := ⟨sf27_ok, st50_ok⟩
def sf33I : Handler := inlH tab st51 (fun _ _ _ => .unroll 12) 2 Try.f33 2
set_option maxRecDepth 100000 in
theorem sf33_ok : HOk Try.prog 33 sf33I :=
  inl_ok (tbl := st51) tab_ok st51_ok mixed (fun _ _ _ => .unroll 12) 2 _ 2 Try.func33 rfl Try.ntmps33 (by decide) (by kernel_rfl) (Nat.le_of_ble_eq_true rfl)
def st52 : Tbl := (33, .gen sf33I) :: st51
theorem st52_ok : TblOk Try.prog st52 := ⟨sf33_ok, st51_ok⟩
def sf16I : Handler := inlH tab st52 (fun _ _ _ => .unroll 12) 2 Try.f16 2
set_option maxRecDepth 100000 in
theorem sf16_ok : HOk Try.prog 16 sf16I :=
  inl_ok (tbl := st52) tab_ok st52_ok mixed (fun _ _ _ => .unroll 12) 2 _ 2 Try.func16 rfl Try.ntmps16 (by decide) (by kernel_rfl) (Nat.le_of_ble_eq_true rfl)
def st53 : Tbl := (16, .gen sf16I) :: st52
theorem st53_ok : TblOk Try.prog st53 := ⟨sf16_ok, st52_ok⟩
def sf15I : Handler := inlH tab st53 (fun _ _ _ => .unroll 12) 2 Try.f15 2
set_option maxRecDepth 100000 in
theorem sf15_ok : HOk Try.prog 15 sf15I :=
  inl_ok (tbl := st53) tab_ok st53_ok mixed (fun _ _ _ => .unroll 12) 2 _ 2 Try.func15 rfl Try.ntmps15 (by decide) (by kernel_rfl) (Nat.le_of_ble_eq_true rfl)
def st54 : Tbl := (15, .gen sf15I) :: st53
theorem st54_ok : TblOk Try.prog st54 := ⟨sf15_ok, st53_ok⟩
def sf29I : Handler := inlH tab st54 (fun _ _ _ => .unroll 12) 2 Try.f29 1
set_option maxRecDepth 100000 in
theorem sf29_ok : HOk Try.prog 29 sf29I :=
  inl_ok (tbl := st54) tab_ok st54_ok mixed (fun _ _ _ => .unroll 12) 2 _ 1 Try.func29 rfl Try.ntmps29 (by decide) (by kernel_rfl) (Nat.le_of_ble_eq_true rfl)
def st55 : Tbl := (29, .gen sf29I) :: st54
theorem st55_ok : TblOk Try.prog st55 := ⟨sf29_ok, st54_ok⟩
noncomputable abbrev lives_k1 (n_0 : Nat) : Blk := Blk.mk n_0 (Cont.cells [AV.v (Value.int IntKind.i64 (5 : Int)), AV.v (Value.int IntKind.i64 (1 : Int)), AV.v (Value.int IntKind.i64 (1 : Int)), AV.v (Value.int IntKind.i64 (9 : Int)), AV.v (Value.int IntKind.i64 (2 : Int)), AV.v (Value.pointer none), AV.v (Value.pointer none), AV.v (Value.int IntKind.i64 (1 : Int)), AV.v (Value.int IntKind.i64 (9 : Int))] (81 : Nat)) true
noncomputable abbrev lives_k2 (n_0 : Nat) : Blk := Blk.mk n_0 (Cont.cells [AV.v (Value.int IntKind.i64 (2 : Int)), AV.v (Value.int IntKind.i64 (2 : Int)), AV.v (Value.int IntKind.i64 (2 : Int)), AV.v (Value.int IntKind.i64 (2 : Int))] (31 : Nat)) true
noncomputable abbrev lives_k3 (n_0 : Nat) (n_1 : Nat) : Blk := Blk.mk n_0 (Cont.cells [AV.v (Value.int IntKind.i64 (5 : Int)), AV.v (Value.int IntKind.i64 (1 : Int)), AV.v (Value.int IntKind.i64 (1 : Int)), AV.v (Value.int IntKind.i64 (9 : Int)), AV.v (Value.int IntKind.i64 (2 : Int)), AV.v (Value.pointer none), AV.ptr (26 : Nat) n_1 (0 : Nat), AV.v (Value.int IntKind.i64 (1 : Int)), AV.v (Value.int IntKind.i64 (9 : Int))] (81 : Nat)) true
noncomputable abbrev lives_k4 (n_0 : Nat) (n_1 : Nat) : Blk := Blk.mk n_0 (Cont.cells [AV.v (Value.int IntKind.i64 (5 : Int)), AV.v (Value.int IntKind.i64 (1 : Int)), AV.v (Value.int IntKind.i64 (1 : Int)), AV.v (Value.int IntKind.i64 (9 : Int)), AV.v (Value.int IntKind.i64 (2 : Int)), AV.v (Value.pointer none), AV.ptr (26 : Nat) n_1 (0 : Nat), AV.v (Value.int IntKind.i64 (2 : Int)), AV.v (Value.int IntKind.i64 (9 : Int))] (81 : Nat)) true
noncomputable abbrev lives_k5 (n_0 : Nat) : Blk := Blk.mk n_0 (Cont.cells [AV.v (Value.int IntKind.i64 (3 : Int)), AV.v (Value.int IntKind.i64 (2 : Int)), AV.v (Value.int IntKind.i64 (2 : Int)), AV.v (Value.int IntKind.i64 (2 : Int)), AV.v (Value.int IntKind.i64 (2 : Int)), AV.v (Value.pointer none), AV.v (Value.pointer none), AV.v (Value.int IntKind.i64 (1 : Int)), AV.v (Value.int IntKind.i64 (2 : Int))] (81 : Nat)) true
noncomputable abbrev lives_k6 (n_0 : Nat) (n_1 : Nat) : Blk := Blk.mk n_0 (Cont.cells [AV.ptr (1 : Nat) n_1 (0 : Nat)] (25 : Nat)) true
noncomputable abbrev lives_k7 (n_0 : Nat) : Blk := Blk.mk n_0 (Cont.cells [AV.v (Value.int IntKind.i64 (9 : Int)), AV.v (Value.int IntKind.i64 (1 : Int)), AV.v (Value.int IntKind.i64 (9 : Int)), AV.v (Value.int IntKind.i64 (1 : Int))] (31 : Nat)) true
noncomputable abbrev lives_k8 (n_0 : Nat) : Blk := Blk.mk n_0 (Cont.cells [AV.v (Value.int IntKind.i64 (3 : Int)), AV.v (Value.int IntKind.i64 (1 : Int)), AV.v (Value.int IntKind.i64 (3 : Int)), AV.v (Value.int IntKind.i64 (3 : Int))] (31 : Nat)) true
noncomputable abbrev lives_k9 (n_0 : Nat) : Blk := Blk.mk n_0 (Cont.cells [AV.v (Value.int IntKind.i64 (2 : Int)), AV.v (Value.int IntKind.i64 (2 : Int)), AV.v (Value.int IntKind.i64 (1 : Int))] (44 : Nat)) true
noncomputable abbrev lives_k10 (n_0 : Nat) (n_1 : Nat) (n_2 : Nat) : Blk := Blk.mk n_0 (Cont.cells [AV.ptr (12 : Nat) n_1 (0 : Nat), AV.mp (0 : Nat) n_2] (75 : Nat)) true
noncomputable abbrev lives_k11 (n_0 : Nat) : Blk := Blk.mk n_0 (Cont.cells [AV.v (Value.int IntKind.i64 (1 : Int)), AV.v (Value.int IntKind.i64 (9 : Int))] (85 : Nat)) true
noncomputable abbrev lives_k12 (n_0 : Nat) : Blk := Blk.mk n_0 (Cont.cells [AV.v (Value.int IntKind.i64 (1 : Int)), AV.v (Value.int IntKind.i64 (8 : Int))] (85 : Nat)) true
set_option maxRecDepth 100000 in
theorem lives_vc  {R : AV → Prop} (h : (∀ (n1 n2 n3 : Nat), n2 = n2 ∧ n3 = n3 ∧ ∀ (n4 : Nat), n4 = n4 ∧ n4 = n4 ∧ n4 = n4 ∧ n4 = n4 ∧ ∀ (n5 n6 n7 : Nat), n5 = n5 ∧ ∀ (n8 : Nat), n8 = n8 ∧ n8 = n8 ∧ n8 = n8 ∧ n8 = n8 ∧ n6 = n6 ∧ ∀ (n9 : Nat), n9 = n9 ∧ n9 = n9 ∧ n9 = n9 ∧ n9 = n9 ∧ n5 = n5 ∧ n6 = n6 ∧ n5 = n5 ∧ n6 = n6 ∧ n5 = n5 ∧ n6 = n6 ∧ n5 = n5 ∧ n6 = n6 ∧ n7 = n7 ∧ n7 = n7 ∧ ∀ (n10 : Nat), n10 = n10 ∧ n10 = n10 ∧ n4 = n4 ∧ n2 = n2 ∧ n1 = n1 ∧ ∀ (n11 : Nat), n11 = n11 ∧ n2 = n2 ∧ n1 = n1 ∧ n2 = n2 ∧ n3 = n3 ∧ n1 = n1 ∧ n2 = n2 ∧ n3 = n3 ∧ ∀ (n12 : Nat), n12 = n12 ∧ n12 = n12 ∧ ∀ (n13 : Nat), n2 = n2 ∧ ∀ (n14 : Nat), n2 = n2 ∧ n14 = n14 ∧ ∀ (n15 : Nat), n15 = n15 ∧ n15 = n15 ∧ n15 = n15 ∧ n15 = n15 ∧ ∀ (n16 n17 n18 : Nat), n16 = n16 ∧ ∀ (n19 : Nat), n19 = n19 ∧ n19 = n19 ∧ n19 = n19 ∧ n19 = n19 ∧ n17 = n17 ∧ ∀ (n20 : Nat), n20 = n20 ∧ n20 = n20 ∧ n20 = n20 ∧ n20 = n20 ∧ n16 = n16 ∧ n17 = n17 ∧ n16 = n16 ∧ n17 = n17 ∧ n16 = n16 ∧ n17 = n17 ∧ n16 = n16 ∧ n17 = n17 ∧ n18 = n18 ∧ n18 = n18 ∧ ∀ (n21 : Nat), n21 = n21 ∧ n21 = n21 ∧ n15 = n15 ∧ n2 = n2 ∧ n1 = n1 ∧ ∀ (n22 : Nat), n22 = n22 ∧ n2 = n2 ∧ n1 = n1 ∧ n2 = n2 ∧ n14 = n14 ∧ n1 = n1 ∧ n2 = n2 ∧ n14 = n14 ∧ ∀ (n23 : Nat), n23 = n23 ∧ ∀ (n24 : Nat), n24 = n24 ∧ n13 = n13 ∧ n13 = n13 ∧ some ((lives_k1 n13)) = some ((lives_k1 n13)) ∧ some ((lives_k1 n13)) = some ((lives_k1 n13)) ∧ some ((lives_k2 n24)) = some ((lives_k2 n24)) ∧ ∀ (n25 : Nat), Bd 0 2 ∧ n25 = n25 ∧ some ((lives_k1 n13)) = some ((lives_k1 n13)) ∧ some ((lives_k1 n13)) = some ((lives_k1 n13)) ∧ some ((lives_k2
 n24)) = some ((lives_k2 n24)) ∧ n13 = n13 ∧ n23 = n23 ∧ ∀ (n26 : Nat), n26 = n26 ∧ n26 = n26 ∧ ∀ (n27 : Nat), n13 = n13 ∧ n13 = n13 ∧ n13 = n13 ∧ some ((lives_k3 n13 n27)) = some ((lives_k3 n13 n27)) ∧ n27 = n27 ∧ some ((lives_k3 n13 n27)) = some ((lives_k3 n13 n27)) ∧ n13 = n13 ∧ n13 = n13 ∧ n13 = n13 ∧ n13 = n13 ∧ some ((lives_k4 n13 n27)) = some ((lives_k4 n13 n27)) ∧ some ((lives_k4 n13 n27)) = some ((lives_k4 n13 n27)) ∧ n27 = n27 ∧ some ((lives_k4 n13 n27)) = some ((lives_k4 n13 n27)) ∧ some ((lives_k4 n13 n27)) = some ((lives_k4 n13 n27)) ∧ n13 = n13 ∧ Bd 0 2 ∧ n13 = n13 ∧ some ((lives_k4 n13 n27)) = some ((lives_k4 n13 n27)) ∧ n13 = n13 ∧ n27 = n27 ∧ Bd 1 2 ∧ n13 = n13 ∧ some ((lives_k4 n13 n27)) = some ((lives_k4 n13 n27)) ∧ n13 = n13 ∧ n27 = n27 ∧ n2 = n2 ∧ ∀ (n28 : Nat), n28 = n28 ∧ n28 = n28 ∧ ∀ (n29 n30 n31 : Nat), n29 = n29 ∧ ∀ (n32 : Nat), n32 = n32 ∧ n32 = n32 ∧ n32 = n32 ∧ n32 = n32 ∧ n30 = n30 ∧ ∀ (n33 : Nat), n33 = n33 ∧ n33 = n33 ∧ n33 = n33 ∧ n33 = n33 ∧ n29 = n29 ∧ n30 = n30 ∧ n29 = n29 ∧ n30 = n30 ∧ n29 = n29 ∧ n30 = n30 ∧ n29 = n29 ∧ n30 = n30 ∧ n31 = n31 ∧ n31 = n31 ∧ ∀ (n34 : Nat), n34 = n34 ∧ n34 = n34 ∧ ∀ (n35 : Nat), n2 = n2 ∧ n35 = n35 ∧ ∀ (n36 : Nat), n36 = n36 ∧ n36 = n36 ∧ n36 = n36 ∧ n36 = n36 ∧ ∀ (n37 n38 n39 : Nat), n37 = n37 ∧ ∀ (n40 : Nat), n40 = n40 ∧ n40 = n40 ∧ n40 = n40 ∧ n40 = n40 ∧ n38 = n38 ∧ ∀ (n41 : Nat), n41 = n41 ∧ n41 = n41 ∧ n41 = n41 ∧ n41 = n41 ∧ n37 = n37 ∧ n38 = n38 ∧ n37 = n37 ∧ n38 = n38 ∧ n37 = n37 ∧ n38 = n38 ∧ n37 =
 n37 ∧ n38 = n38 ∧ n39 = n39 ∧ n39 = n39 ∧ ∀ (n42 : Nat), n42 = n42 ∧ n42 = n42 ∧ n36 = n36 ∧ ∀ (n43 : Nat), n35 = n35 ∧ ∀ (n44 n45 n46 n47 : Nat), n44 = n44 ∧ n2 = n2 ∧ n45 = n45 ∧ n45 = n45 ∧ n13 = n13 ∧ n13 = n13 ∧ n13 = n13 ∧ n13 = n13 ∧ n13 = n13 ∧ n45 = n45 ∧ n13 = n13 ∧ n45 = n45 ∧ n47 = n47 ∧ n46 = n46 ∧ n46 = n46 ∧ n43 = n43 ∧ n13 = n13 ∧ ∀ (n48 : Nat), n48 = n48 ∧ ((1 : Nat) ≤ (9223372036854775807 : Nat) ∧ (1544 : Nat) ≤ (281474976710656 : Nat)) ∧ ∀ (n49 n50 : Nat), (1 : Nat) ≤ n50 → some ((lives_k4 n13 n27)) = some ((lives_k4 n13 n27)) ∧ n43 = n43 ∧ n46 = n46 ∧ some ((lives_k2 n45)) = some ((lives_k2 n45)) ∧ some ((lives_k4 n13 n27)) = some ((lives_k4 n13 n27)) ∧ some ((lives_k2 n45)) = some ((lives_k2 n45)) ∧ some ((lives_k4 n13 n27)) = some ((lives_k4 n13 n27)) ∧ n13 = n13 ∧ n27 = n27 ∧ n27 = n27 ∧ n27 = n27 ∧ n27 = n27 ∧ n27 = n27 ∧ n45 = n45 ∧ n27 = n27 ∧ n45 = n45 ∧ n47 = n47 ∧ n46 = n46 ∧ n46 = n46 ∧ n43 = n43 ∧ n27 = n27 ∧ ∀ (n52 : Nat), n52 = n52 ∧ n49 = n49 ∧ n50 = n50 ∧ (1 : Nat) ≤ n50 ∧ ((2 : Nat) ≤ (9223372036854775807 : Nat) ∧ (1552 : Nat) ≤ (281474976710656 : Nat)) ∧ ∀ (b53 : Bool) (n54 n55 : Nat), (2 : Nat) ≤ n55 → some ((lives_k5 n27)) = some ((lives_k5 n27)) ∧ n43 = n43 ∧ n46 = n46 ∧ some ((lives_k2 n45)) = some ((lives_k2 n45)) ∧ some ((lives_k5 n27)) = some ((lives_k5 n27)) ∧ some ((lives_k2 n45)) = some ((lives_k2 n45)) ∧ some ((lives_k5 n27)) = some ((lives_k5 n27)) ∧ n27 = n27 ∧ some ((lives_k6 n44 n2)) = some ((lives_k6 n44 n2)) ∧ n46 = n46 ∧
 n43 = n43 ∧ Bd 2 256 ∧ Bd 1 2 ∧ n54 = n54 ∧ (1 : Nat) < n55 ∧ Bd 0 2 ∧ n54 = n54 ∧ (0 : Nat) < n55 ∧ Bd 0 2 ∧ n54 = n54 ∧ (0 : Nat) < n55 ∧ Bd 1 2 ∧ n54 = n54 ∧ (1 : Nat) < n55 ∧ Bd 1 2 ∧ n54 = n54 ∧ (1 : Nat) < n55 ∧ Bd 0 2 ∧ n54 = n54 ∧ (0 : Nat) < n55 ∧ n43 = n43 ∧ ∀ (n57 : Nat), n57 = n57 ∧ n57 = n57 ∧ ∀ (n58 n59 n60 : Nat), n58 = n58 ∧ ∀ (n61 : Nat), n61 = n61 ∧ n61 = n61 ∧ n61 = n61 ∧ n61 = n61 ∧ n59 = n59 ∧ ∀ (n62 : Nat), n62 = n62 ∧ n62 = n62 ∧ n62 = n62 ∧ n62 = n62 ∧ n58 = n58 ∧ n59 = n59 ∧ n58 = n58 ∧ n59 = n59 ∧ n58 = n58 ∧ n59 = n59 ∧ n58 = n58 ∧ n59 = n59 ∧ n60 = n60 ∧ n60 = n60 ∧ ∀ (n63 : Nat), n63 = n63 ∧ n63 = n63 ∧ ∀ (n64 : Nat), n2 = n2 ∧ n64 = n64 ∧ ∀ (n65 : Nat), n65 = n65 ∧ n65 = n65 ∧ n65 = n65 ∧ n65 = n65 ∧ ∀ (n66 n67 n68 : Nat), n66 = n66 ∧ ∀ (n69 : Nat), n69 = n69 ∧ n69 = n69 ∧ n69 = n69 ∧ n69 = n69 ∧ n67 = n67 ∧ ∀ (n70 : Nat), n70 = n70 ∧ n70 = n70 ∧ n70 = n70 ∧ n70 = n70 ∧ n66 = n66 ∧ n67 = n67 ∧ n66 = n66 ∧ n67 = n67 ∧ n66 = n66 ∧ n67 = n67 ∧ n66 = n66 ∧ n67 = n67 ∧ n68 = n68 ∧ n68 = n68 ∧ ∀ (n71 : Nat), n71 = n71 ∧ n71 = n71 ∧ n65 = n65 ∧ ∀ (n72 : Nat), n64 = n64 ∧ ∀ (n73 n74 n75 n76 : Nat), n73 = n73 ∧ n2 = n2 ∧ n74 = n74 ∧ n74 = n74 ∧ n13 = n13 ∧ n13 = n13 ∧ n13 = n13 ∧ n13 = n13 ∧ n13 = n13 ∧ n74 = n74 ∧ n13 = n13 ∧ n74 = n74 ∧ n76 = n76 ∧ n75 = n75 ∧ n75 = n75 ∧ n72 = n72 ∧ n13 = n13 ∧ ∀ (n77 : Nat), n77 = n77 ∧ ((1 : Nat) ≤ (9223372036854775807 : Nat) ∧ (1544 : Nat) ≤ (281474976710656 : Nat)) ∧ ∀ (n78 n79 : Nat), (1 : Nat) ≤ n79 → some ((lives_k4
 n13 n27)) = some ((lives_k4 n13 n27)) ∧ n72 = n72 ∧ n75 = n75 ∧ some ((lives_k7 n74)) = some ((lives_k7 n74)) ∧ some ((lives_k4 n13 n27)) = some ((lives_k4 n13 n27)) ∧ some ((lives_k7 n74)) = some ((lives_k7 n74)) ∧ some ((lives_k4 n13 n27)) = some ((lives_k4 n13 n27)) ∧ n13 = n13 ∧ n27 = n27 ∧ some ((lives_k6 n73 n2)) = some ((lives_k6 n73 n2)) ∧ n75 = n75 ∧ n72 = n72 ∧ Bd 1 256 ∧ n72 = n72 ∧ ∀ (n81 : Nat), n2 = n2 ∧ n81 = n81 ∧ ∀ (n82 : Nat), n82 = n82 ∧ n82 = n82 ∧ n82 = n82 ∧ n82 = n82 ∧ ∀ (n83 n84 n85 : Nat), n83 = n83 ∧ ∀ (n86 : Nat), n86 = n86 ∧ n86 = n86 ∧ n86 = n86 ∧ n86 = n86 ∧ n84 = n84 ∧ ∀ (n87 : Nat), n87 = n87 ∧ n87 = n87 ∧ n87 = n87 ∧ n87 = n87 ∧ n83 = n83 ∧ n84 = n84 ∧ n83 = n83 ∧ n84 = n84 ∧ n83 = n83 ∧ n84 = n84 ∧ n83 = n83 ∧ n84 = n84 ∧ n85 = n85 ∧ n85 = n85 ∧ ∀ (n88 : Nat), n88 = n88 ∧ n88 = n88 ∧ n82 = n82 ∧ ∀ (n89 : Nat), n81 = n81 ∧ ∀ (n90 n91 n92 n93 : Nat), n90 = n90 ∧ n2 = n2 ∧ n91 = n91 ∧ n91 = n91 ∧ n13 = n13 ∧ n13 = n13 ∧ n13 = n13 ∧ n13 = n13 ∧ n13 = n13 ∧ n91 = n91 ∧ n13 = n13 ∧ n91 = n91 ∧ n93 = n93 ∧ n92 = n92 ∧ n92 = n92 ∧ n89 = n89 ∧ n13 = n13 ∧ ∀ (n94 : Nat), n94 = n94 ∧ ((1 : Nat) ≤ (9223372036854775807 : Nat) ∧ (1544 : Nat) ≤ (281474976710656 : Nat)) ∧ ∀ (n95 n96 : Nat), (1 : Nat) ≤ n96 → some ((lives_k4 n13 n27)) = some ((lives_k4 n13 n27)) ∧ n89 = n89 ∧ n92 = n92 ∧ some ((lives_k8 n91)) = some ((lives_k8 n91)) ∧ some ((lives_k4 n13 n27)) = some ((lives_k4 n13 n27)) ∧ some ((lives_k8 n91)) = some ((lives_k8 n91)) ∧ some ((lives_k4 n13 n27))
 = some ((lives_k4 n13 n27)) ∧ n13 = n13 ∧ n27 = n27 ∧ some ((lives_k6 n90 n2)) = some ((lives_k6 n90 n2)) ∧ n92 = n92 ∧ n89 = n89 ∧ Bd 1 256 ∧ n89 = n89 ∧ ∀ (n98 : Nat), n2 = n2 ∧ n98 = n98 ∧ ∀ (n99 : Nat), n99 = n99 ∧ n99 = n99 ∧ n99 = n99 ∧ n99 = n99 ∧ n99 = n99 ∧ ∀ (n100 : Nat), n100 = n100 ∧ ∀ (n101 : Nat), n101 = n101 ∧ n101 = n101 ∧ some ((lives_k9 n99)) = some ((lives_k9 n99)) ∧ some ((lives_k9 n99)) = some ((lives_k9 n99)) ∧ some ((lives_k9 n99)) = some ((lives_k9 n99)) ∧ some ((lives_k9 n99)) = some ((lives_k9 n99)) ∧ n99 = n99 ∧ n99 = n99 ∧ n99 = n99 ∧ n99 = n99 ∧ ∀ (n102 : Nat), n102 = n102 ∧ ∀ (n103 : Nat), n103 = n103 ∧ n103 = n103 ∧ some ((lives_k9 n99)) = some ((lives_k9 n99)) ∧ some ((lives_k9 n99)) = some ((lives_k9 n99)) ∧ some ((lives_k9 n99)) = some ((lives_k9 n99)) ∧ some ((lives_k9 n99)) = some ((lives_k9 n99)) ∧ some ((lives_k9 n99)) = some ((lives_k9 n99)) ∧ some ((lives_k9 n99)) = some ((lives_k9 n99)) ∧ some ((lives_k9 n99)) = some ((lives_k9 n99)) ∧ some ((lives_k9 n99)) = some ((lives_k9 n99)) ∧ ∀ (n104 n105 : Nat), n2 = n2 ∧ ∀ (n106 n107 n108 : Nat), n106 = n106 ∧ n1 = n1 ∧ ∀ (n109 : Nat), n109 = n109 ∧ n1 = n1 ∧ (n109 = n109 ∧ n1 = n1 ∧ n108 = n108 ∧ n108 = n108 ∧ n107 = n107 ∧ ∀ (n110 : Nat), n110 = n110 ∧ ((1 : Nat) ≤ (9223372036854775807 : Nat) ∧ (1544 : Nat) ≤ (281474976710656 : Nat)) ∧ ∀ (n111 n112 : Nat), (1 : Nat) ≤ n112 → n107 = n107 ∧ n108 = n108 ∧ n109 = n109 ∧ n1 = n1 ∧ n109 = n109 ∧ n1 = n1 ∧ n108 = n108 ∧ n108 = n108 ∧ n107 = n107 ∧
 ∀ (n114 : Nat), n114 = n114 ∧ n111 = n111 ∧ n112 = n112 ∧ (1 : Nat) ≤ n112 ∧ ((2 : Nat) ≤ (9223372036854775807 : Nat) ∧ (1552 : Nat) ≤ (281474976710656 : Nat)) ∧ ∀ (b115 : Bool) (n116 n117 : Nat), (2 : Nat) ≤ n117 → n107 = n107 ∧ n108 = n108 ∧ n109 = n109 ∧ n1 = n1 ∧ n108 = n108 ∧ n107 = n107 ∧ Bd 2 256 ∧ Bd 1 2 ∧ n116 = n116 ∧ (1 : Nat) < n117 ∧ Bd 0 2 ∧ n116 = n116 ∧ (0 : Nat) < n117 ∧ Bd 0 2 ∧ n116 = n116 ∧ (0 : Nat) < n117 ∧ Bd 1 2 ∧ n116 = n116 ∧ (1 : Nat) < n117 ∧ Bd 1 2 ∧ n116 = n116 ∧ (1 : Nat) < n117 ∧ Bd 0 2 ∧ n116 = n116 ∧ (0 : Nat) < n117 ∧ Bd 0 2 ∧ n116 = n116 ∧ (0 : Nat) < n117 ∧ n98 = n98 ∧ n2 = n2 ∧ n1 = n1 ∧ (∀ (n119 n120 n121 : Nat), n119 = n119 ∧ ∀ (n122 : Nat), n122 = n122 ∧ n122 = n122 ∧ n122 = n122 ∧ n122 = n122 ∧ n122 = n122 ∧ ∀ (n123 : Nat), n123 = n123 ∧ ∀ (n124 : Nat), n124 = n124 ∧ n124 = n124 ∧ some ((lives_k9 n122)) = some ((lives_k9 n122)) ∧ some ((lives_k9 n122)) = some ((lives_k9 n122)) ∧ some ((lives_k9 n122)) = some ((lives_k9 n122)) ∧ some ((lives_k9 n122)) = some ((lives_k9 n122)) ∧ n122 = n122 ∧ n122 = n122 ∧ n122 = n122 ∧ n122 = n122 ∧ ∀ (n125 : Nat), n125 = n125 ∧ ∀ (n126 : Nat), n126 = n126 ∧ n126 = n126 ∧ some ((lives_k9 n122)) = some ((lives_k9 n122)) ∧ some ((lives_k9 n122)) = some ((lives_k9 n122)) ∧ some ((lives_k9 n122)) = some ((lives_k9 n122)) ∧ some ((lives_k9 n122)) = some ((lives_k9 n122)) ∧ some ((lives_k9 n122)) = some ((lives_k9 n122)) ∧ some ((lives_k9 n122)) = some ((lives_k9 n122)) ∧ some ((lives_k9 n122)) = some ((lives_k9
 n122)) ∧ some ((lives_k9 n122)) = some ((lives_k9 n122)) ∧ n120 = n120 ∧ ∀ (n127 : Nat), n127 = n127 ∧ n127 = n127 ∧ n127 = n127 ∧ n127 = n127 ∧ ∀ (n128 n129 n130 : Nat), n128 = n128 ∧ ∀ (n131 : Nat), n131 = n131 ∧ n131 = n131 ∧ n131 = n131 ∧ n131 = n131 ∧ n129 = n129 ∧ ∀ (n132 : Nat), n132 = n132 ∧ n132 = n132 ∧ n132 = n132 ∧ n132 = n132 ∧ n128 = n128 ∧ n129 = n129 ∧ n128 = n128 ∧ n129 = n129 ∧ n128 = n128 ∧ n129 = n129 ∧ n128 = n128 ∧ n129 = n129 ∧ n130 = n130 ∧ n130 = n130 ∧ ∀ (n133 : Nat), n133 = n133 ∧ n133 = n133 ∧ n127 = n127 ∧ n120 = n120 ∧ n120 = n120 ∧ ∀ (n134 : Nat), n134 = n134 ∧ n119 = n119 ∧ ∀ (n135 : Nat), n135 = n135 ∧ n135 = n135 ∧ n120 = n120 ∧ n120 = n120 ∧ n134 = n134 ∧ n134 = n134 ∧ n119 = n119 ∧ ∀ (n136 n137 n138 : Nat), n137 = n137 ∧ ∀ (n139 : Nat), n139 = n139 ∧ n139 = n139 ∧ n137 = n137 ∧ n137 = n137 ∧ ∀ (n140 : Nat), n140 = n140 ∧ n136 = n136 ∧ n137 = n137 ∧ n136 = n136 ∧ n140 = n140 ∧ n138 = n138 ∧ n138 = n138 ∧ n134 = n134 ∧ n134 = n134 ∧ n121 = n121 ∧ n121 = n121 ∧ some ((lives_k10 n2 n13 n1)) = some ((lives_k10 n2 n13 n1)) ∧ ∀ (n141 : Nat), n141 = n141 ∧ ∀ (n142 : Nat), n142 = n142 ∧ ((1 : Nat) ≤ (9223372036854775807 : Nat) ∧ (1544 : Nat) ≤ (281474976710656 : Nat)) ∧ ∀ (n143 n144 : Nat), (1 : Nat) ≤ n144 → Bd 1 2 ∧ n116 = n116 ∧ (1 : Nat) < n117 ∧ n98 = n98 ∧ n2 = n2 ∧ n1 = n1 ∧ (∀ (n146 n147 n148 : Nat), n146 = n146 ∧ ∀ (n149 : Nat), n149 = n149 ∧ n149 = n149 ∧ n149 = n149 ∧ n149 = n149 ∧ n149 = n149 ∧ ∀ (n150 : Nat), n150 = n150 ∧ ∀ (n151 : Nat),
 n151 = n151 ∧ n151 = n151 ∧ some ((lives_k9 n149)) = some ((lives_k9 n149)) ∧ some ((lives_k9 n149)) = some ((lives_k9 n149)) ∧ some ((lives_k9 n149)) = some ((lives_k9 n149)) ∧ some ((lives_k9 n149)) = some ((lives_k9 n149)) ∧ n149 = n149 ∧ n149 = n149 ∧ n149 = n149 ∧ n149 = n149 ∧ ∀ (n152 : Nat), n152 = n152 ∧ ∀ (n153 : Nat), n153 = n153 ∧ n153 = n153 ∧ some ((lives_k9 n149)) = some ((lives_k9 n149)) ∧ some ((lives_k9 n149)) = some ((lives_k9 n149)) ∧ some ((lives_k9 n149)) = some ((lives_k9 n149)) ∧ some ((lives_k9 n149)) = some ((lives_k9 n149)) ∧ some ((lives_k9 n149)) = some ((lives_k9 n149)) ∧ some ((lives_k9 n149)) = some ((lives_k9 n149)) ∧ some ((lives_k9 n149)) = some ((lives_k9 n149)) ∧ some ((lives_k9 n149)) = some ((lives_k9 n149)) ∧ n147 = n147 ∧ ∀ (n154 : Nat), n154 = n154 ∧ n154 = n154 ∧ n154 = n154 ∧ n154 = n154 ∧ ∀ (n155 n156 n157 : Nat), n155 = n155 ∧ ∀ (n158 : Nat), n158 = n158 ∧ n158 = n158 ∧ n158 = n158 ∧ n158 = n158 ∧ n156 = n156 ∧ ∀ (n159 : Nat), n159 = n159 ∧ n159 = n159 ∧ n159 = n159 ∧ n159 = n159 ∧ n155 = n155 ∧ n156 = n156 ∧ n155 = n155 ∧ n156 = n156 ∧ n155 = n155 ∧ n156 = n156 ∧ n155 = n155 ∧ n156 = n156 ∧ n157 = n157 ∧ n157 = n157 ∧ ∀ (n160 : Nat), n160 = n160 ∧ n160 = n160 ∧ n154 = n154 ∧ n147 = n147 ∧ n147 = n147 ∧ ∀ (n161 : Nat), n161 = n161 ∧ n146 = n146 ∧ ∀ (n162 : Nat), n162 = n162 ∧ n162 = n162 ∧ n147 = n147 ∧ n147 = n147 ∧ n161 = n161 ∧ n161 = n161 ∧ n146 = n146 ∧ ∀ (n163 n164 n165 : Nat), n164 = n164 ∧ ∀ (n166 : Nat), n166 = n166 ∧ n166
 = n166 ∧ n164 = n164 ∧ n164 = n164 ∧ ∀ (n167 : Nat), n167 = n167 ∧ n163 = n163 ∧ n164 = n164 ∧ n163 = n163 ∧ n164 = n164 ∧ n163 = n163 ∧ n164 = n164 ∧ n164 = n164 ∧ some ((lives_k9 n164)) = some ((lives_k9 n164)) ∧ some ((lives_k11 n163)) = some ((lives_k11 n163)) ∧ n164 = n164 ∧ n167 = n167 ∧ n164 = n164 ∧ some ((lives_k9 n164)) = some ((lives_k9 n164)) ∧ some ((lives_k9 n164)) = some ((lives_k9 n164)) ∧ some ((lives_k11 n163)) = some ((lives_k11 n163)) ∧ n165 = n165 ∧ n165 = n165 ∧ n161 = n161 ∧ n161 = n161 ∧ n146 = n146 ∧ ∀ (n168 : Nat), n168 = n168 ∧ n168 = n168 ∧ n161 = n161 ∧ n161 = n161 ∧ n147 = n147 ∧ some ((lives_k12 n161)) = some ((lives_k12 n161)) ∧ n147 = n147 ∧ n147 = n147 ∧ n148 = n148 ∧ n148 = n148 ∧ some ((lives_k10 n2 n13 n1)) = some ((lives_k10 n2 n13 n1)) ∧ ∀ (n169 : Nat), n169 = n169 ∧ n169 = n169 ∧ ∀ (n170 : Nat), n105 = n105 ∧ n170 = n170 ∧ ∀ (n171 : Nat), n171 = n171 ∧ n171 = n171 ∧ n171 = n171 ∧ n171 = n171 ∧ ∀ (n172 n173 n174 : Nat), n172 = n172 ∧ ∀ (n175 : Nat), n175 = n175 ∧ n175 = n175 ∧ n175 = n175 ∧ n175 = n175 ∧ n173 = n173 ∧ ∀ (n176 : Nat), n176 = n176 ∧ n176 = n176 ∧ n176 = n176 ∧ n176 = n176 ∧ n172 = n172 ∧ n173 = n173 ∧ n172 = n172 ∧ n173 = n173 ∧ n172 = n172 ∧ n173 = n173 ∧ n172 = n172 ∧ n173 = n173 ∧ n174 = n174 ∧ n174 = n174 ∧ ∀ (n177 : Nat), n177 = n177 ∧ n177 = n177 ∧ n171 = n171 ∧ n105 = n105 ∧ n104 = n104 ∧ ∀ (n178 : Nat), n178 = n178 ∧ n105 = n105 ∧ n104 = n104 ∧ n105 = n105 ∧ n170 = n170 ∧ n104 = n104 ∧ n105 = n105 ∧ n170 = n170 ∧ ∀
 (n179 : Nat), n179 = n179 ∧ n179 = n179 ∧ ∀ (n180 : Nat), n105 = n105 ∧ n105 = n105 ∧ n2 = n2 ∧ ∀ (n181 : Nat), n2 = n2 ∧ n2 = n2 ∧ n104 = n104 ∧ ∀ (n182 : Nat), n182 = n182 ∧ n182 = n182 ∧ n181 = n181 ∧ n181 = n181 ∧ ∀ (n183 : Nat), n183 = n183 ∧ ∀ (n184 : Nat), Bd 0 2 ∧ n54 = n54 ∧ (0 : Nat) < n55 ∧ Bd 0 2 ∧ n184 = n184 ∧ Bd 1 2 ∧ n54 = n54 ∧ (1 : Nat) < n55 ∧ Bd 1 2 ∧ n184 = n184 ∧ ∀ (n185 : Nat), Bd 0 1 ∧ n78 = n78 ∧ (0 : Nat) < n79 ∧ Bd 0 1 ∧ n185 = n185 ∧ ∀ (n186 : Nat), Bd 0 1 ∧ n95 = n95 ∧ (0 : Nat) < n96 ∧ Bd 0 1 ∧ n186 = n186 ∧ ∀ (n187 : Nat), Bd 0 1 ∧ n143 = n143 ∧ (0 : Nat) < n144 ∧ Bd 0 1 ∧ n187 = n187 ∧ n183 = n183 ∧ n2 = n2 ∧ n2 = n2 ∧ n104 = n104 ∧ R (bT)) ∧ ∀ (n146 n147 n148 n149 : Nat), n147 = n147 ∧ ∀ (n150 : Nat), n150 = n150 ∧ n150 = n150 ∧ n150 = n150 ∧ n150 = n150 ∧ n150 = n150 ∧ ∀ (n151 : Nat), n151 = n151 ∧ ∀ (n152 : Nat), n152 = n152 ∧ n152 = n152 ∧ some ((lives_k9 n150)) = some ((lives_k9 n150)) ∧ some ((lives_k9 n150)) = some ((lives_k9 n150)) ∧ some ((lives_k9 n150)) = some ((lives_k9 n150)) ∧ some ((lives_k9 n150)) = some ((lives_k9 n150)) ∧ n150 = n150 ∧ n150 = n150 ∧ n150 = n150 ∧ n150 = n150 ∧ ∀ (n153 : Nat), n153 = n153 ∧ ∀ (n154 : Nat), n154 = n154 ∧ n154 = n154 ∧ some ((lives_k9 n150)) = some ((lives_k9 n150)) ∧ some ((lives_k9 n150)) = some ((lives_k9 n150)) ∧ some ((lives_k9 n150)) = some ((lives_k9 n150)) ∧ some ((lives_k9 n150)) = some ((lives_k9 n150)) ∧ some ((lives_k9 n150)) = some ((lives_k9 n150)) ∧ some ((lives_k9 n150)) = some ((lives_k9
 n150)) ∧ some ((lives_k9 n150)) = some ((lives_k9 n150)) ∧ some ((lives_k9 n150)) = some ((lives_k9 n150)) ∧ n148 = n148 ∧ ∀ (n155 : Nat), n155 = n155 ∧ n155 = n155 ∧ n155 = n155 ∧ n155 = n155 ∧ ∀ (n156 n157 n158 : Nat), n156 = n156 ∧ ∀ (n159 : Nat), n159 = n159 ∧ n159 = n159 ∧ n159 = n159 ∧ n159 = n159 ∧ n157 = n157 ∧ ∀ (n160 : Nat), n160 = n160 ∧ n160 = n160 ∧ n160 = n160 ∧ n160 = n160 ∧ n156 = n156 ∧ n157 = n157 ∧ n156 = n156 ∧ n157 = n157 ∧ n156 = n156 ∧ n157 = n157 ∧ n156 = n156 ∧ n157 = n157 ∧ n158 = n158 ∧ n158 = n158 ∧ ∀ (n161 : Nat), n161 = n161 ∧ n161 = n161 ∧ n155 = n155 ∧ n148 = n148 ∧ n148 = n148 ∧ ∀ (n162 : Nat), n162 = n162 ∧ n147 = n147 ∧ ∀ (n163 : Nat), n163 = n163 ∧ n163 = n163 ∧ n148 = n148 ∧ n148 = n148 ∧ n162 = n162 ∧ n162 = n162 ∧ n147 = n147 ∧ ∀ (n164 n165 n166 : Nat), n165 = n165 ∧ ∀ (n167 : Nat), n167 = n167 ∧ n167 = n167 ∧ n165 = n165 ∧ n165 = n165 ∧ ∀ (n168 : Nat), n168 = n168 ∧ n164 = n164 ∧ n165 = n165 ∧ n164 = n164 ∧ n165 = n165 ∧ n164 = n164 ∧ n165 = n165 ∧ n165 = n165 ∧ some ((lives_k9 n165)) = some ((lives_k9 n165)) ∧ some ((lives_k11 n164)) = some ((lives_k11 n164)) ∧ n165 = n165 ∧ n168 = n168 ∧ n165 = n165 ∧ some ((lives_k9 n165)) = some ((lives_k9 n165)) ∧ some ((lives_k9 n165)) = some ((lives_k9 n165)) ∧ some ((lives_k11 n164)) = some ((lives_k11 n164)) ∧ n166 = n166 ∧ n166 = n166 ∧ n162 = n162 ∧ n162 = n162 ∧ n147 = n147 ∧ ∀ (n169 : Nat), n169 = n169 ∧ n169 = n169 ∧ n162 = n162 ∧ n162 = n162 ∧ n148 = n148 ∧ some ((lives_k12 n162)) = some
 ((lives_k12 n162)) ∧ n148 = n148 ∧ n148 = n148 ∧ n149 = n149 ∧ n149 = n149 ∧ some ((lives_k10 n2 n13 n1)) = some ((lives_k10 n2 n13 n1)) ∧ n146 = n146 ∧ n146 = n146 ∧ ∀ (n170 : Nat), n105 = n105 ∧ n170 = n170 ∧ ∀ (n171 : Nat), n171 = n171 ∧ n171 = n171 ∧ n171 = n171 ∧ n171 = n171 ∧ ∀ (n172 n173 n174 : Nat), n172 = n172 ∧ ∀ (n175 : Nat), n175 = n175 ∧ n175 = n175 ∧ n175 = n175 ∧ n175 = n175 ∧ n173 = n173 ∧ ∀ (n176 : Nat), n176 = n176 ∧ n176 = n176 ∧ n176 = n176 ∧ n176 = n176 ∧ n172 = n172 ∧ n173 = n173 ∧ n172 = n172 ∧ n173 = n173 ∧ n172 = n172 ∧ n173 = n173 ∧ n172 = n172 ∧ n173 = n173 ∧ n174 = n174 ∧ n174 = n174 ∧ ∀ (n177 : Nat), n177 = n177 ∧ n177 = n177 ∧ n171 = n171 ∧ n105 = n105 ∧ n104 = n104 ∧ ∀ (n178 : Nat), n178 = n178 ∧ n105 = n105 ∧ n104 = n104 ∧ n105 = n105 ∧ n170 = n170 ∧ n104 = n104 ∧ n105 = n105 ∧ n170 = n170 ∧ ∀ (n179 : Nat), n179 = n179 ∧ n179 = n179 ∧ ∀ (n180 : Nat), n105 = n105 ∧ n105 = n105 ∧ n2 = n2 ∧ ∀ (n181 : Nat), n2 = n2 ∧ n2 = n2 ∧ n104 = n104 ∧ ∀ (n182 : Nat), n182 = n182 ∧ n182 = n182 ∧ n181 = n181 ∧ n181 = n181 ∧ ∀ (n183 : Nat), n183 = n183 ∧ ∀ (n184 : Nat), Bd 0 2 ∧ n54 = n54 ∧ (0 : Nat) < n55 ∧ Bd 0 2 ∧ n184 = n184 ∧ Bd 1 2 ∧ n54 = n54 ∧ (1 : Nat) < n55 ∧ Bd 1 2 ∧ n184 = n184 ∧ ∀ (n185 : Nat), Bd 0 1 ∧ n78 = n78 ∧ (0 : Nat) < n79 ∧ Bd 0 1 ∧ n185 = n185 ∧ ∀ (n186 : Nat), Bd 0 1 ∧ n95 = n95 ∧ (0 : Nat) < n96 ∧ Bd 0 1 ∧ n186 = n186 ∧ ∀ (n187 : Nat), Bd 0 1 ∧ n143 = n143 ∧ (0 : Nat) < n144 ∧ Bd 0 1 ∧ n187 = n187 ∧ n183 = n183 ∧ n2 = n2 ∧ n2 = n2 ∧ n104
 = n104 ∧ R (bT)) ∧ ∀ (n119 n120 n121 n122 : Nat), n120 = n120 ∧ ∀ (n123 : Nat), n123 = n123 ∧ n123 = n123 ∧ n123 = n123 ∧ n123 = n123 ∧ n123 = n123 ∧ ∀ (n124 : Nat), n124 = n124 ∧ ∀ (n125 : Nat), n125 = n125 ∧ n125 = n125 ∧ some ((lives_k9 n123)) = some ((lives_k9 n123)) ∧ some ((lives_k9 n123)) = some ((lives_k9 n123)) ∧ some ((lives_k9 n123)) = some ((lives_k9 n123)) ∧ some ((lives_k9 n123)) = some ((lives_k9 n123)) ∧ n123 = n123 ∧ n123 = n123 ∧ n123 = n123 ∧ n123 = n123 ∧ ∀ (n126 : Nat), n126 = n126 ∧ ∀ (n127 : Nat), n127 = n127 ∧ n127 = n127 ∧ some ((lives_k9 n123)) = some ((lives_k9 n123)) ∧ some ((lives_k9 n123)) = some ((lives_k9 n123)) ∧ some ((lives_k9 n123)) = some ((lives_k9 n123)) ∧ some ((lives_k9 n123)) = some ((lives_k9 n123)) ∧ some ((lives_k9 n123)) = some ((lives_k9 n123)) ∧ some ((lives_k9 n123)) = some ((lives_k9 n123)) ∧ some ((lives_k9 n123)) = some ((lives_k9 n123)) ∧ some ((lives_k9 n123)) = some ((lives_k9 n123)) ∧ n121 = n121 ∧ ∀ (n128 : Nat), n128 = n128 ∧ n128 = n128 ∧ n128 = n128 ∧ n128 = n128 ∧ ∀ (n129 n130 n131 : Nat), n129 = n129 ∧ ∀ (n132 : Nat), n132 = n132 ∧ n132 = n132 ∧ n132 = n132 ∧ n132 = n132 ∧ n130 = n130 ∧ ∀ (n133 : Nat), n133 = n133 ∧ n133 = n133 ∧ n133 = n133 ∧ n133 = n133 ∧ n129 = n129 ∧ n130 = n130 ∧ n129 = n129 ∧ n130 = n130 ∧ n129 = n129 ∧ n130 = n130 ∧ n129 = n129 ∧ n130 = n130 ∧ n131 = n131 ∧ n131 = n131 ∧ ∀ (n134 : Nat), n134 = n134 ∧ n134 = n134 ∧ n128 = n128 ∧ n121 = n121 ∧ n121 = n121 ∧ ∀ (n135 : Nat), n135 = n135 ∧ n120 =
 n120 ∧ ∀ (n136 : Nat), n136 = n136 ∧ n136 = n136 ∧ n121 = n121 ∧ n121 = n121 ∧ n135 = n135 ∧ n135 = n135 ∧ n120 = n120 ∧ ∀ (n137 n138 n139 : Nat), n138 = n138 ∧ ∀ (n140 : Nat), n140 = n140 ∧ n140 = n140 ∧ n138 = n138 ∧ n138 = n138 ∧ ∀ (n141 : Nat), n141 = n141 ∧ n137 = n137 ∧ n138 = n138 ∧ n137 = n137 ∧ n141 = n141 ∧ n139 = n139 ∧ n139 = n139 ∧ n135 = n135 ∧ n135 = n135 ∧ n122 = n122 ∧ n122 = n122 ∧ some ((lives_k10 n2 n13 n1)) = some ((lives_k10 n2 n13 n1)) ∧ n119 = n119 ∧ ∀ (n142 : Nat), n142 = n142 ∧ ((1 : Nat) ≤ (9223372036854775807 : Nat) ∧ (1544 : Nat) ≤ (281474976710656 : Nat)) ∧ ∀ (n143 n144 : Nat), (1 : Nat) ≤ n144 → Bd 1 2 ∧ n116 = n116 ∧ (1 : Nat) < n117 ∧ n98 = n98 ∧ n2 = n2 ∧ n1 = n1 ∧ (∀ (n146 n147 n148 : Nat), n146 = n146 ∧ ∀ (n149 : Nat), n149 = n149 ∧ n149 = n149 ∧ n149 = n149 ∧ n149 = n149 ∧ n149 = n149 ∧ ∀ (n150 : Nat), n150 = n150 ∧ ∀ (n151 : Nat), n151 = n151 ∧ n151 = n151 ∧ some ((lives_k9 n149)) = some ((lives_k9 n149)) ∧ some ((lives_k9 n149)) = some ((lives_k9 n149)) ∧ some ((lives_k9 n149)) = some ((lives_k9 n149)) ∧ some ((lives_k9 n149)) = some ((lives_k9 n149)) ∧ n149 = n149 ∧ n149 = n149 ∧ n149 = n149 ∧ n149 = n149 ∧ ∀ (n152 : Nat), n152 = n152 ∧ ∀ (n153 : Nat), n153 = n153 ∧ n153 = n153 ∧ some ((lives_k9 n149)) = some ((lives_k9 n149)) ∧ some ((lives_k9 n149)) = some ((lives_k9 n149)) ∧ some ((lives_k9 n149)) = some ((lives_k9 n149)) ∧ some ((lives_k9 n149)) = some ((lives_k9 n149)) ∧ some ((lives_k9 n149)) = some ((lives_k9 n149)) ∧ some ((lives_k9
 n149)) = some ((lives_k9 n149)) ∧ some ((lives_k9 n149)) = some ((lives_k9 n149)) ∧ some ((lives_k9 n149)) = some ((lives_k9 n149)) ∧ n147 = n147 ∧ ∀ (n154 : Nat), n154 = n154 ∧ n154 = n154 ∧ n154 = n154 ∧ n154 = n154 ∧ ∀ (n155 n156 n157 : Nat), n155 = n155 ∧ ∀ (n158 : Nat), n158 = n158 ∧ n158 = n158 ∧ n158 = n158 ∧ n158 = n158 ∧ n156 = n156 ∧ ∀ (n159 : Nat), n159 = n159 ∧ n159 = n159 ∧ n159 = n159 ∧ n159 = n159 ∧ n155 = n155 ∧ n156 = n156 ∧ n155 = n155 ∧ n156 = n156 ∧ n155 = n155 ∧ n156 = n156 ∧ n155 = n155 ∧ n156 = n156 ∧ n157 = n157 ∧ n157 = n157 ∧ ∀ (n160 : Nat), n160 = n160 ∧ n160 = n160 ∧ n154 = n154 ∧ n147 = n147 ∧ n147 = n147 ∧ ∀ (n161 : Nat), n161 = n161 ∧ n146 = n146 ∧ ∀ (n162 : Nat), n162 = n162 ∧ n162 = n162 ∧ n147 = n147 ∧ n147 = n147 ∧ n161 = n161 ∧ n161 = n161 ∧ n146 = n146 ∧ ∀ (n163 n164 n165 : Nat), n164 = n164 ∧ ∀ (n166 : Nat), n166 = n166 ∧ n166 = n166 ∧ n164 = n164 ∧ n164 = n164 ∧ ∀ (n167 : Nat), n167 = n167 ∧ n163 = n163 ∧ n164 = n164 ∧ n163 = n163 ∧ n164 = n164 ∧ n163 = n163 ∧ n164 = n164 ∧ n164 = n164 ∧ some ((lives_k9 n164)) = some ((lives_k9 n164)) ∧ some ((lives_k11 n163)) = some ((lives_k11 n163)) ∧ n164 = n164 ∧ n167 = n167 ∧ n164 = n164 ∧ some ((lives_k9 n164)) = some ((lives_k9 n164)) ∧ some ((lives_k9 n164)) = some ((lives_k9 n164)) ∧ some ((lives_k11 n163)) = some ((lives_k11 n163)) ∧ n165 = n165 ∧ n165 = n165 ∧ n161 = n161 ∧ n161 = n161 ∧ n146 = n146 ∧ ∀ (n168 : Nat), n168 = n168 ∧ n168 = n168 ∧ n161 = n161 ∧ n161 = n161 ∧ n147 = n147 ∧ some ((lives_k12
 n161)) = some ((lives_k12 n161)) ∧ n147 = n147 ∧ n147 = n147 ∧ n148 = n148 ∧ n148 = n148 ∧ some ((lives_k10 n2 n13 n1)) = some ((lives_k10 n2 n13 n1)) ∧ ∀ (n169 : Nat), n169 = n169 ∧ n169 = n169 ∧ ∀ (n170 : Nat), n105 = n105 ∧ n170 = n170 ∧ ∀ (n171 : Nat), n171 = n171 ∧ n171 = n171 ∧ n171 = n171 ∧ n171 = n171 ∧ ∀ (n172 n173 n174 : Nat), n172 = n172 ∧ ∀ (n175 : Nat), n175 = n175 ∧ n175 = n175 ∧ n175 = n175 ∧ n175 = n175 ∧ n173 = n173 ∧ ∀ (n176 : Nat), n176 = n176 ∧ n176 = n176 ∧ n176 = n176 ∧ n176 = n176 ∧ n172 = n172 ∧ n173 = n173 ∧ n172 = n172 ∧ n173 = n173 ∧ n172 = n172 ∧ n173 = n173 ∧ n172 = n172 ∧ n173 = n173 ∧ n174 = n174 ∧ n174 = n174 ∧ ∀ (n177 : Nat), n177 = n177 ∧ n177 = n177 ∧ n171 = n171 ∧ n105 = n105 ∧ n104 = n104 ∧ ∀ (n178 : Nat), n178 = n178 ∧ n105 = n105 ∧ n104 = n104 ∧ n105 = n105 ∧ n170 = n170 ∧ n104 = n104 ∧ n105 = n105 ∧ n170 = n170 ∧ ∀ (n179 : Nat), n179 = n179 ∧ n179 = n179 ∧ ∀ (n180 : Nat), n105 = n105 ∧ n105 = n105 ∧ n2 = n2 ∧ ∀ (n181 : Nat), n2 = n2 ∧ n2 = n2 ∧ n104 = n104 ∧ ∀ (n182 : Nat), n182 = n182 ∧ n182 = n182 ∧ n181 = n181 ∧ n181 = n181 ∧ ∀ (n183 : Nat), n183 = n183 ∧ ∀ (n184 : Nat), Bd 0 2 ∧ n54 = n54 ∧ (0 : Nat) < n55 ∧ Bd 0 2 ∧ n184 = n184 ∧ Bd 1 2 ∧ n54 = n54 ∧ (1 : Nat) < n55 ∧ Bd 1 2 ∧ n184 = n184 ∧ ∀ (n185 : Nat), Bd 0 1 ∧ n78 = n78 ∧ (0 : Nat) < n79 ∧ Bd 0 1 ∧ n185 = n185 ∧ ∀ (n186 : Nat), Bd 0 1 ∧ n95 = n95 ∧ (0 : Nat) < n96 ∧ Bd 0 1 ∧ n186 = n186 ∧ ∀ (n187 : Nat), Bd 0 1 ∧ n143 = n143 ∧ (0 : Nat) < n144 ∧ Bd 0 1 ∧ n187 = n187 ∧ n183 = n183
 ∧ n2 = n2 ∧ n2 = n2 ∧ n104 = n104 ∧ R (bT)) ∧ ∀ (n146 n147 n148 n149 : Nat), n147 = n147 ∧ ∀ (n150 : Nat), n150 = n150 ∧ n150 = n150 ∧ n150 = n150 ∧ n150 = n150 ∧ n150 = n150 ∧ ∀ (n151 : Nat), n151 = n151 ∧ ∀ (n152 : Nat), n152 = n152 ∧ n152 = n152 ∧ some ((lives_k9 n150)) = some ((lives_k9 n150)) ∧ some ((lives_k9 n150)) = some ((lives_k9 n150)) ∧ some ((lives_k9 n150)) = some ((lives_k9 n150)) ∧ some ((lives_k9 n150)) = some ((lives_k9 n150)) ∧ n150 = n150 ∧ n150 = n150 ∧ n150 = n150 ∧ n150 = n150 ∧ ∀ (n153 : Nat), n153 = n153 ∧ ∀ (n154 : Nat), n154 = n154 ∧ n154 = n154 ∧ some ((lives_k9 n150)) = some ((lives_k9 n150)) ∧ some ((lives_k9 n150)) = some ((lives_k9 n150)) ∧ some ((lives_k9 n150)) = some ((lives_k9 n150)) ∧ some ((lives_k9 n150)) = some ((lives_k9 n150)) ∧ some ((lives_k9 n150)) = some ((lives_k9 n150)) ∧ some ((lives_k9 n150)) = some ((lives_k9 n150)) ∧ some ((lives_k9 n150)) = some ((lives_k9 n150)) ∧ some ((lives_k9 n150)) = some ((lives_k9 n150)) ∧ n148 = n148 ∧ ∀ (n155 : Nat), n155 = n155 ∧ n155 = n155 ∧ n155 = n155 ∧ n155 = n155 ∧ ∀ (n156 n157 n158 : Nat), n156 = n156 ∧ ∀ (n159 : Nat), n159 = n159 ∧ n159 = n159 ∧ n159 = n159 ∧ n159 = n159 ∧ n157 = n157 ∧ ∀ (n160 : Nat), n160 = n160 ∧ n160 = n160 ∧ n160 = n160 ∧ n160 = n160 ∧ n156 = n156 ∧ n157 = n157 ∧ n156 = n156 ∧ n157 = n157 ∧ n156 = n156 ∧ n157 = n157 ∧ n156 = n156 ∧ n157 = n157 ∧ n158 = n158 ∧ n158 = n158 ∧ ∀ (n161 : Nat), n161 = n161 ∧ n161 = n161 ∧ n155 = n155 ∧ n148 = n148 ∧ n148 = n148 ∧ ∀ (n162 :
 Nat), n162 = n162 ∧ n147 = n147 ∧ ∀ (n163 : Nat), n163 = n163 ∧ n163 = n163 ∧ n148 = n148 ∧ n148 = n148 ∧ n162 = n162 ∧ n162 = n162 ∧ n147 = n147 ∧ ∀ (n164 n165 n166 : Nat), n165 = n165 ∧ ∀ (n167 : Nat), n167 = n167 ∧ n167 = n167 ∧ n165 = n165 ∧ n165 = n165 ∧ ∀ (n168 : Nat), n168 = n168 ∧ n164 = n164 ∧ n165 = n165 ∧ n164 = n164 ∧ n165 = n165 ∧ n164 = n164 ∧ n165 = n165 ∧ n165 = n165 ∧ some ((lives_k9 n165)) = some ((lives_k9 n165)) ∧ some ((lives_k11 n164)) = some ((lives_k11 n164)) ∧ n165 = n165 ∧ n168 = n168 ∧ n165 = n165 ∧ some ((lives_k9 n165)) = some ((lives_k9 n165)) ∧ some ((lives_k9 n165)) = some ((lives_k9 n165)) ∧ some ((lives_k11 n164)) = some ((lives_k11 n164)) ∧ n166 = n166 ∧ n166 = n166 ∧ n162 = n162 ∧ n162 = n162 ∧ n147 = n147 ∧ ∀ (n169 : Nat), n169 = n169 ∧ n169 = n169 ∧ n162 = n162 ∧ n162 = n162 ∧ n148 = n148 ∧ some ((lives_k12 n162)) = some ((lives_k12 n162)) ∧ n148 = n148 ∧ n148 = n148 ∧ n149 = n149 ∧ n149 = n149 ∧ some ((lives_k10 n2 n13 n1)) = some ((lives_k10 n2 n13 n1)) ∧ n146 = n146 ∧ n146 = n146 ∧ ∀ (n170 : Nat), n105 = n105 ∧ n170 = n170 ∧ ∀ (n171 : Nat), n171 = n171 ∧ n171 = n171 ∧ n171 = n171 ∧ n171 = n171 ∧ ∀ (n172 n173 n174 : Nat), n172 = n172 ∧ ∀ (n175 : Nat), n175 = n175 ∧ n175 = n175 ∧ n175 = n175 ∧ n175 = n175 ∧ n173 = n173 ∧ ∀ (n176 : Nat), n176 = n176 ∧ n176 = n176 ∧ n176 = n176 ∧ n176 = n176 ∧ n172 = n172 ∧ n173 = n173 ∧ n172 = n172 ∧ n173 = n173 ∧ n172 = n172 ∧ n173 = n173 ∧ n172 = n172 ∧ n173 = n173 ∧ n174 = n174 ∧ n174 = n174 ∧ ∀ (n177
 : Nat), n177 = n177 ∧ n177 = n177 ∧ n171 = n171 ∧ n105 = n105 ∧ n104 = n104 ∧ ∀ (n178 : Nat), n178 = n178 ∧ n105 = n105 ∧ n104 = n104 ∧ n105 = n105 ∧ n170 = n170 ∧ n104 = n104 ∧ n105 = n105 ∧ n170 = n170 ∧ ∀ (n179 : Nat), n179 = n179 ∧ n179 = n179 ∧ ∀ (n180 : Nat), n105 = n105 ∧ n105 = n105 ∧ n2 = n2 ∧ ∀ (n181 : Nat), n2 = n2 ∧ n2 = n2 ∧ n104 = n104 ∧ ∀ (n182 : Nat), n182 = n182 ∧ n182 = n182 ∧ n181 = n181 ∧ n181 = n181 ∧ ∀ (n183 : Nat), n183 = n183 ∧ ∀ (n184 : Nat), Bd 0 2 ∧ n54 = n54 ∧ (0 : Nat) < n55 ∧ Bd 0 2 ∧ n184 = n184 ∧ Bd 1 2 ∧ n54 = n54 ∧ (1 : Nat) < n55 ∧ Bd 1 2 ∧ n184 = n184 ∧ ∀ (n185 : Nat), Bd 0 1 ∧ n78 = n78 ∧ (0 : Nat) < n79 ∧ Bd 0 1 ∧ n185 = n185 ∧ ∀ (n186 : Nat), Bd 0 1 ∧ n95 = n95 ∧ (0 : Nat) < n96 ∧ Bd 0 1 ∧ n186 = n186 ∧ ∀ (n187 : Nat), Bd 0 1 ∧ n143 = n143 ∧ (0 : Nat) < n144 ∧ Bd 0 1 ∧ n187 = n187 ∧ n183 = n183 ∧ n2 = n2 ∧ n2 = n2 ∧ n104 = n104 ∧ R (bT)) ∧ n109 = n109 ∧ n1 = n1 ∧ n108 = n108 ∧ n108 = n108 ∧ n107 = n107 ∧ ∀ (n110 : Nat), n110 = n110 ∧ ((1 : Nat) ≤ (9223372036854775807 : Nat) ∧ (1544 : Nat) ≤ (281474976710656 : Nat)) ∧ ∀ (n111 n112 : Nat), (1 : Nat) ≤ n112 → n107 = n107 ∧ n108 = n108 ∧ n109 = n109 ∧ n1 = n1 ∧ n109 = n109 ∧ n1 = n1 ∧ n108 = n108 ∧ n108 = n108 ∧ n107 = n107 ∧ ∀ (n114 : Nat), n114 = n114 ∧ n111 = n111 ∧ n112 = n112 ∧ (1 : Nat) ≤ n112 ∧ ((2 : Nat) ≤ (9223372036854775807 : Nat) ∧ (1552 : Nat) ≤ (281474976710656 : Nat)) ∧ ∀ (b115 : Bool) (n116 n117 : Nat), (2 : Nat) ≤ n117 → n107 = n107 ∧ n108 = n108 ∧ n109 = n109 ∧ n1 = n1 ∧ n108
 = n108 ∧ n107 = n107 ∧ Bd 2 256 ∧ Bd 1 2 ∧ n116 = n116 ∧ (1 : Nat) < n117 ∧ Bd 0 2 ∧ n116 = n116 ∧ (0 : Nat) < n117 ∧ Bd 0 2 ∧ n116 = n116 ∧ (0 : Nat) < n117 ∧ n98 = n98 ∧ n2 = n2 ∧ n1 = n1 ∧ (∀ (n119 n120 n121 : Nat), n119 = n119 ∧ ∀ (n122 : Nat), n122 = n122 ∧ n122 = n122 ∧ n122 = n122 ∧ n122 = n122 ∧ n122 = n122 ∧ ∀ (n123 : Nat), n123 = n123 ∧ ∀ (n124 : Nat), n124 = n124 ∧ n124 = n124 ∧ some ((lives_k9 n122)) = some ((lives_k9 n122)) ∧ some ((lives_k9 n122)) = some ((lives_k9 n122)) ∧ some ((lives_k9 n122)) = some ((lives_k9 n122)) ∧ some ((lives_k9 n122)) = some ((lives_k9 n122)) ∧ n122 = n122 ∧ n122 = n122 ∧ n122 = n122 ∧ n122 = n122 ∧ ∀ (n125 : Nat), n125 = n125 ∧ ∀ (n126 : Nat), n126 = n126 ∧ n126 = n126 ∧ some ((lives_k9 n122)) = some ((lives_k9 n122)) ∧ some ((lives_k9 n122)) = some ((lives_k9 n122)) ∧ some ((lives_k9 n122)) = some ((lives_k9 n122)) ∧ some ((lives_k9 n122)) = some ((lives_k9 n122)) ∧ some ((lives_k9 n122)) = some ((lives_k9 n122)) ∧ some ((lives_k9 n122)) = some ((lives_k9 n122)) ∧ some ((lives_k9 n122)) = some ((lives_k9 n122)) ∧ some ((lives_k9 n122)) = some ((lives_k9 n122)) ∧ n120 = n120 ∧ ∀ (n127 : Nat), n127 = n127 ∧ n127 = n127 ∧ n127 = n127 ∧ n127 = n127 ∧ ∀ (n128 n129 n130 : Nat), n128 = n128 ∧ ∀ (n131 : Nat), n131 = n131 ∧ n131 = n131 ∧ n131 = n131 ∧ n131 = n131 ∧ n129 = n129 ∧ ∀ (n132 : Nat), n132 = n132 ∧ n132 = n132 ∧ n132 = n132 ∧ n132 = n132 ∧ n128 = n128 ∧ n129 = n129 ∧ n128 = n128 ∧ n129 = n129 ∧ n128 = n128 ∧ n129 = n129 ∧ n128 = n128
 ∧ n129 = n129 ∧ n130 = n130 ∧ n130 = n130 ∧ ∀ (n133 : Nat), n133 = n133 ∧ n133 = n133 ∧ n127 = n127 ∧ n120 = n120 ∧ n120 = n120 ∧ ∀ (n134 : Nat), n134 = n134 ∧ n119 = n119 ∧ ∀ (n135 : Nat), n135 = n135 ∧ n135 = n135 ∧ n120 = n120 ∧ n120 = n120 ∧ n134 = n134 ∧ n134 = n134 ∧ n119 = n119 ∧ ∀ (n136 n137 n138 : Nat), n137 = n137 ∧ ∀ (n139 : Nat), n139 = n139 ∧ n139 = n139 ∧ n137 = n137 ∧ n137 = n137 ∧ ∀ (n140 : Nat), n140 = n140 ∧ n136 = n136 ∧ n137 = n137 ∧ n136 = n136 ∧ n140 = n140 ∧ n138 = n138 ∧ n138 = n138 ∧ n134 = n134 ∧ n134 = n134 ∧ n121 = n121 ∧ n121 = n121 ∧ some ((lives_k10 n2 n13 n1)) = some ((lives_k10 n2 n13 n1)) ∧ ∀ (n141 : Nat), n141 = n141 ∧ ∀ (n142 : Nat), n142 = n142 ∧ ((1 : Nat) ≤ (9223372036854775807 : Nat) ∧ (1544 : Nat) ≤ (281474976710656 : Nat)) ∧ ∀ (n143 n144 : Nat), (1 : Nat) ≤ n144 → Bd 1 2 ∧ n116 = n116 ∧ (1 : Nat) < n117 ∧ n98 = n98 ∧ n2 = n2 ∧ n1 = n1 ∧ (∀ (n146 n147 n148 : Nat), n146 = n146 ∧ ∀ (n149 : Nat), n149 = n149 ∧ n149 = n149 ∧ n149 = n149 ∧ n149 = n149 ∧ n149 = n149 ∧ ∀ (n150 : Nat), n150 = n150 ∧ ∀ (n151 : Nat), n151 = n151 ∧ n151 = n151 ∧ some ((lives_k9 n149)) = some ((lives_k9 n149)) ∧ some ((lives_k9 n149)) = some ((lives_k9 n149)) ∧ some ((lives_k9 n149)) = some ((lives_k9 n149)) ∧ some ((lives_k9 n149)) = some ((lives_k9 n149)) ∧ n149 = n149 ∧ n149 = n149 ∧ n149 = n149 ∧ n149 = n149 ∧ ∀ (n152 : Nat), n152 = n152 ∧ ∀ (n153 : Nat), n153 = n153 ∧ n153 = n153 ∧ some ((lives_k9 n149)) = some ((lives_k9 n149)) ∧ some ((lives_k9 n149)) = some
 ((lives_k9 n149)) ∧ some ((lives_k9 n149)) = some ((lives_k9 n149)) ∧ some ((lives_k9 n149)) = some ((lives_k9 n149)) ∧ some ((lives_k9 n149)) = some ((lives_k9 n149)) ∧ some ((lives_k9 n149)) = some ((lives_k9 n149)) ∧ some ((lives_k9 n149)) = some ((lives_k9 n149)) ∧ some ((lives_k9 n149)) = some ((lives_k9 n149)) ∧ n147 = n147 ∧ ∀ (n154 : Nat), n154 = n154 ∧ n154 = n154 ∧ n154 = n154 ∧ n154 = n154 ∧ ∀ (n155 n156 n157 : Nat), n155 = n155 ∧ ∀ (n158 : Nat), n158 = n158 ∧ n158 = n158 ∧ n158 = n158 ∧ n158 = n158 ∧ n156 = n156 ∧ ∀ (n159 : Nat), n159 = n159 ∧ n159 = n159 ∧ n159 = n159 ∧ n159 = n159 ∧ n155 = n155 ∧ n156 = n156 ∧ n155 = n155 ∧ n156 = n156 ∧ n155 = n155 ∧ n156 = n156 ∧ n155 = n155 ∧ n156 = n156 ∧ n157 = n157 ∧ n157 = n157 ∧ ∀ (n160 : Nat), n160 = n160 ∧ n160 = n160 ∧ n154 = n154 ∧ n147 = n147 ∧ n147 = n147 ∧ ∀ (n161 : Nat), n161 = n161 ∧ n146 = n146 ∧ ∀ (n162 : Nat), n162 = n162 ∧ n162 = n162 ∧ n147 = n147 ∧ n147 = n147 ∧ n161 = n161 ∧ n161 = n161 ∧ n146 = n146 ∧ ∀ (n163 n164 n165 : Nat), n164 = n164 ∧ ∀ (n166 : Nat), n166 = n166 ∧ n166 = n166 ∧ n164 = n164 ∧ n164 = n164 ∧ ∀ (n167 : Nat), n167 = n167 ∧ n163 = n163 ∧ n164 = n164 ∧ n163 = n163 ∧ n164 = n164 ∧ n163 = n163 ∧ n164 = n164 ∧ n164 = n164 ∧ some ((lives_k9 n164)) = some ((lives_k9 n164)) ∧ some ((lives_k11 n163)) = some ((lives_k11 n163)) ∧ n164 = n164 ∧ n167 = n167 ∧ n164 = n164 ∧ some ((lives_k9 n164)) = some ((lives_k9 n164)) ∧ some ((lives_k9 n164)) = some ((lives_k9 n164)) ∧ some ((lives_k11 n163)) = some
 ((lives_k11 n163)) ∧ n165 = n165 ∧ n165 = n165 ∧ n161 = n161 ∧ n161 = n161 ∧ n146 = n146 ∧ ∀ (n168 : Nat), n168 = n168 ∧ n168 = n168 ∧ n161 = n161 ∧ n161 = n161 ∧ n147 = n147 ∧ some ((lives_k12 n161)) = some ((lives_k12 n161)) ∧ n147 = n147 ∧ n147 = n147 ∧ n148 = n148 ∧ n148 = n148 ∧ some ((lives_k10 n2 n13 n1)) = some ((lives_k10 n2 n13 n1)) ∧ ∀ (n169 : Nat), n169 = n169 ∧ n169 = n169 ∧ ∀ (n170 : Nat), n105 = n105 ∧ n170 = n170 ∧ ∀ (n171 : Nat), n171 = n171 ∧ n171 = n171 ∧ n171 = n171 ∧ n171 = n171 ∧ ∀ (n172 n173 n174 : Nat), n172 = n172 ∧ ∀ (n175 : Nat), n175 = n175 ∧ n175 = n175 ∧ n175 = n175 ∧ n175 = n175 ∧ n173 = n173 ∧ ∀ (n176 : Nat), n176 = n176 ∧ n176 = n176 ∧ n176 = n176 ∧ n176 = n176 ∧ n172 = n172 ∧ n173 = n173 ∧ n172 = n172 ∧ n173 = n173 ∧ n172 = n172 ∧ n173 = n173 ∧ n172 = n172 ∧ n173 = n173 ∧ n174 = n174 ∧ n174 = n174 ∧ ∀ (n177 : Nat), n177 = n177 ∧ n177 = n177 ∧ n171 = n171 ∧ n105 = n105 ∧ n104 = n104 ∧ ∀ (n178 : Nat), n178 = n178 ∧ n105 = n105 ∧ n104 = n104 ∧ n105 = n105 ∧ n170 = n170 ∧ n104 = n104 ∧ n105 = n105 ∧ n170 = n170 ∧ ∀ (n179 : Nat), n179 = n179 ∧ n179 = n179 ∧ ∀ (n180 : Nat), n105 = n105 ∧ n105 = n105 ∧ n2 = n2 ∧ ∀ (n181 : Nat), n2 = n2 ∧ n2 = n2 ∧ n104 = n104 ∧ ∀ (n182 : Nat), n182 = n182 ∧ n182 = n182 ∧ n181 = n181 ∧ n181 = n181 ∧ ∀ (n183 : Nat), n183 = n183 ∧ ∀ (n184 : Nat), Bd 0 2 ∧ n54 = n54 ∧ (0 : Nat) < n55 ∧ Bd 0 2 ∧ n184 = n184 ∧ Bd 1 2 ∧ n54 = n54 ∧ (1 : Nat) < n55 ∧ Bd 1 2 ∧ n184 = n184 ∧ ∀ (n185 : Nat), Bd 0 1 ∧ n78 = n78 ∧ (0 : Nat) < n79
 ∧ Bd 0 1 ∧ n185 = n185 ∧ ∀ (n186 : Nat), Bd 0 1 ∧ n95 = n95 ∧ (0 : Nat) < n96 ∧ Bd 0 1 ∧ n186 = n186 ∧ ∀ (n187 : Nat), Bd 0 1 ∧ n143 = n143 ∧ (0 : Nat) < n144 ∧ Bd 0 1 ∧ n187 = n187 ∧ n183 = n183 ∧ n2 = n2 ∧ n2 = n2 ∧ n104 = n104 ∧ R (bT)) ∧ ∀ (n146 n147 n148 n149 : Nat), n147 = n147 ∧ ∀ (n150 : Nat), n150 = n150 ∧ n150 = n150 ∧ n150 = n150 ∧ n150 = n150 ∧ n150 = n150 ∧ ∀ (n151 : Nat), n151 = n151 ∧ ∀ (n152 : Nat), n152 = n152 ∧ n152 = n152 ∧ some ((lives_k9 n150)) = some ((lives_k9 n150)) ∧ some ((lives_k9 n150)) = some ((lives_k9 n150)) ∧ some ((lives_k9 n150)) = some ((lives_k9 n150)) ∧ some ((lives_k9 n150)) = some ((lives_k9 n150)) ∧ n150 = n150 ∧ n150 = n150 ∧ n150 = n150 ∧ n150 = n150 ∧ ∀ (n153 : Nat), n153 = n153 ∧ ∀ (n154 : Nat), n154 = n154 ∧ n154 = n154 ∧ some ((lives_k9 n150)) = some ((lives_k9 n150)) ∧ some ((lives_k9 n150)) = some ((lives_k9 n150)) ∧ some ((lives_k9 n150)) = some ((lives_k9 n150)) ∧ some ((lives_k9 n150)) = some ((lives_k9 n150)) ∧ some ((lives_k9 n150)) = some ((lives_k9 n150)) ∧ some ((lives_k9 n150)) = some ((lives_k9 n150)) ∧ some ((lives_k9 n150)) = some ((lives_k9 n150)) ∧ some ((lives_k9 n150)) = some ((lives_k9 n150)) ∧ n148 = n148 ∧ ∀ (n155 : Nat), n155 = n155 ∧ n155 = n155 ∧ n155 = n155 ∧ n155 = n155 ∧ ∀ (n156 n157 n158 : Nat), n156 = n156 ∧ ∀ (n159 : Nat), n159 = n159 ∧ n159 = n159 ∧ n159 = n159 ∧ n159 = n159 ∧ n157 = n157 ∧ ∀ (n160 : Nat), n160 = n160 ∧ n160 = n160 ∧ n160 = n160 ∧ n160 = n160 ∧ n156 = n156 ∧ n157 = n157 ∧ n156 = n156
 ∧ n157 = n157 ∧ n156 = n156 ∧ n157 = n157 ∧ n156 = n156 ∧ n157 = n157 ∧ n158 = n158 ∧ n158 = n158 ∧ ∀ (n161 : Nat), n161 = n161 ∧ n161 = n161 ∧ n155 = n155 ∧ n148 = n148 ∧ n148 = n148 ∧ ∀ (n162 : Nat), n162 = n162 ∧ n147 = n147 ∧ ∀ (n163 : Nat), n163 = n163 ∧ n163 = n163 ∧ n148 = n148 ∧ n148 = n148 ∧ n162 = n162 ∧ n162 = n162 ∧ n147 = n147 ∧ ∀ (n164 n165 n166 : Nat), n165 = n165 ∧ ∀ (n167 : Nat), n167 = n167 ∧ n167 = n167 ∧ n165 = n165 ∧ n165 = n165 ∧ ∀ (n168 : Nat), n168 = n168 ∧ n164 = n164 ∧ n165 = n165 ∧ n164 = n164 ∧ n165 = n165 ∧ n164 = n164 ∧ n165 = n165 ∧ n165 = n165 ∧ some ((lives_k9 n165)) = some ((lives_k9 n165)) ∧ some ((lives_k11 n164)) = some ((lives_k11 n164)) ∧ n165 = n165 ∧ n168 = n168 ∧ n165 = n165 ∧ some ((lives_k9 n165)) = some ((lives_k9 n165)) ∧ some ((lives_k9 n165)) = some ((lives_k9 n165)) ∧ some ((lives_k11 n164)) = some ((lives_k11 n164)) ∧ n166 = n166 ∧ n166 = n166 ∧ n162 = n162 ∧ n162 = n162 ∧ n147 = n147 ∧ ∀ (n169 : Nat), n169 = n169 ∧ n169 = n169 ∧ n162 = n162 ∧ n162 = n162 ∧ n148 = n148 ∧ some ((lives_k12 n162)) = some ((lives_k12 n162)) ∧ n148 = n148 ∧ n148 = n148 ∧ n149 = n149 ∧ n149 = n149 ∧ some ((lives_k10 n2 n13 n1)) = some ((lives_k10 n2 n13 n1)) ∧ n146 = n146 ∧ n146 = n146 ∧ ∀ (n170 : Nat), n105 = n105 ∧ n170 = n170 ∧ ∀ (n171 : Nat), n171 = n171 ∧ n171 = n171 ∧ n171 = n171 ∧ n171 = n171 ∧ ∀ (n172 n173 n174 : Nat), n172 = n172 ∧ ∀ (n175 : Nat), n175 = n175 ∧ n175 = n175 ∧ n175 = n175 ∧ n175 = n175 ∧ n173 = n173 ∧ ∀ (n176 : Nat), n176 = n176
 ∧ n176 = n176 ∧ n176 = n176 ∧ n176 = n176 ∧ n172 = n172 ∧ n173 = n173 ∧ n172 = n172 ∧ n173 = n173 ∧ n172 = n172 ∧ n173 = n173 ∧ n172 = n172 ∧ n173 = n173 ∧ n174 = n174 ∧ n174 = n174 ∧ ∀ (n177 : Nat), n177 = n177 ∧ n177 = n177 ∧ n171 = n171 ∧ n105 = n105 ∧ n104 = n104 ∧ ∀ (n178 : Nat), n178 = n178 ∧ n105 = n105 ∧ n104 = n104 ∧ n105 = n105 ∧ n170 = n170 ∧ n104 = n104 ∧ n105 = n105 ∧ n170 = n170 ∧ ∀ (n179 : Nat), n179 = n179 ∧ n179 = n179 ∧ ∀ (n180 : Nat), n105 = n105 ∧ n105 = n105 ∧ n2 = n2 ∧ ∀ (n181 : Nat), n2 = n2 ∧ n2 = n2 ∧ n104 = n104 ∧ ∀ (n182 : Nat), n182 = n182 ∧ n182 = n182 ∧ n181 = n181 ∧ n181 = n181 ∧ ∀ (n183 : Nat), n183 = n183 ∧ ∀ (n184 : Nat), Bd 0 2 ∧ n54 = n54 ∧ (0 : Nat) < n55 ∧ Bd 0 2 ∧ n184 = n184 ∧ Bd 1 2 ∧ n54 = n54 ∧ (1 : Nat) < n55 ∧ Bd 1 2 ∧ n184 = n184 ∧ ∀ (n185 : Nat), Bd 0 1 ∧ n78 = n78 ∧ (0 : Nat) < n79 ∧ Bd 0 1 ∧ n185 = n185 ∧ ∀ (n186 : Nat), Bd 0 1 ∧ n95 = n95 ∧ (0 : Nat) < n96 ∧ Bd 0 1 ∧ n186 = n186 ∧ ∀ (n187 : Nat), Bd 0 1 ∧ n143 = n143 ∧ (0 : Nat) < n144 ∧ Bd 0 1 ∧ n187 = n187 ∧ n183 = n183 ∧ n2 = n2 ∧ n2 = n2 ∧ n104 = n104 ∧ R (bT)) ∧ ∀ (n119 n120 n121 n122 : Nat), n120 = n120 ∧ ∀ (n123 : Nat), n123 = n123 ∧ n123 = n123 ∧ n123 = n123 ∧ n123 = n123 ∧ n123 = n123 ∧ ∀ (n124 : Nat), n124 = n124 ∧ ∀ (n125 : Nat), n125 = n125 ∧ n125 = n125 ∧ some ((lives_k9 n123)) = some ((lives_k9 n123)) ∧ some ((lives_k9 n123)) = some ((lives_k9 n123)) ∧ some ((lives_k9 n123)) = some ((lives_k9 n123)) ∧ some ((lives_k9 n123)) = some ((lives_k9 n123)) ∧ n123 = n123
 ∧ n123 = n123 ∧ n123 = n123 ∧ n123 = n123 ∧ ∀ (n126 : Nat), n126 = n126 ∧ ∀ (n127 : Nat), n127 = n127 ∧ n127 = n127 ∧ some ((lives_k9 n123)) = some ((lives_k9 n123)) ∧ some ((lives_k9 n123)) = some ((lives_k9 n123)) ∧ some ((lives_k9 n123)) = some ((lives_k9 n123)) ∧ some ((lives_k9 n123)) = some ((lives_k9 n123)) ∧ some ((lives_k9 n123)) = some ((lives_k9 n123)) ∧ some ((lives_k9 n123)) = some ((lives_k9 n123)) ∧ some ((lives_k9 n123)) = some ((lives_k9 n123)) ∧ some ((lives_k9 n123)) = some ((lives_k9 n123)) ∧ n121 = n121 ∧ ∀ (n128 : Nat), n128 = n128 ∧ n128 = n128 ∧ n128 = n128 ∧ n128 = n128 ∧ ∀ (n129 n130 n131 : Nat), n129 = n129 ∧ ∀ (n132 : Nat), n132 = n132 ∧ n132 = n132 ∧ n132 = n132 ∧ n132 = n132 ∧ n130 = n130 ∧ ∀ (n133 : Nat), n133 = n133 ∧ n133 = n133 ∧ n133 = n133 ∧ n133 = n133 ∧ n129 = n129 ∧ n130 = n130 ∧ n129 = n129 ∧ n130 = n130 ∧ n129 = n129 ∧ n130 = n130 ∧ n129 = n129 ∧ n130 = n130 ∧ n131 = n131 ∧ n131 = n131 ∧ ∀ (n134 : Nat), n134 = n134 ∧ n134 = n134 ∧ n128 = n128 ∧ n121 = n121 ∧ n121 = n121 ∧ ∀ (n135 : Nat), n135 = n135 ∧ n120 = n120 ∧ ∀ (n136 : Nat), n136 = n136 ∧ n136 = n136 ∧ n121 = n121 ∧ n121 = n121 ∧ n135 = n135 ∧ n135 = n135 ∧ n120 = n120 ∧ ∀ (n137 n138 n139 : Nat), n138 = n138 ∧ ∀ (n140 : Nat), n140 = n140 ∧ n140 = n140 ∧ n138 = n138 ∧ n138 = n138 ∧ ∀ (n141 : Nat), n141 = n141 ∧ n137 = n137 ∧ n138 = n138 ∧ n137 = n137 ∧ n141 = n141 ∧ n139 = n139 ∧ n139 = n139 ∧ n135 = n135 ∧ n135 = n135 ∧ n122 = n122 ∧ n122 = n122 ∧ some ((lives_k10 n2 n13 n1)) = some
 ((lives_k10 n2 n13 n1)) ∧ n119 = n119 ∧ ∀ (n142 : Nat), n142 = n142 ∧ ((1 : Nat) ≤ (9223372036854775807 : Nat) ∧ (1544 : Nat) ≤ (281474976710656 : Nat)) ∧ ∀ (n143 n144 : Nat), (1 : Nat) ≤ n144 → Bd 1 2 ∧ n116 = n116 ∧ (1 : Nat) < n117 ∧ n98 = n98 ∧ n2 = n2 ∧ n1 = n1 ∧ (∀ (n146 n147 n148 : Nat), n146 = n146 ∧ ∀ (n149 : Nat), n149 = n149 ∧ n149 = n149 ∧ n149 = n149 ∧ n149 = n149 ∧ n149 = n149 ∧ ∀ (n150 : Nat), n150 = n150 ∧ ∀ (n151 : Nat), n151 = n151 ∧ n151 = n151 ∧ some ((lives_k9 n149)) = some ((lives_k9 n149)) ∧ some ((lives_k9 n149)) = some ((lives_k9 n149)) ∧ some ((lives_k9 n149)) = some ((lives_k9 n149)) ∧ some ((lives_k9 n149)) = some ((lives_k9 n149)) ∧ n149 = n149 ∧ n149 = n149 ∧ n149 = n149 ∧ n149 = n149 ∧ ∀ (n152 : Nat), n152 = n152 ∧ ∀ (n153 : Nat), n153 = n153 ∧ n153 = n153 ∧ some ((lives_k9 n149)) = some ((lives_k9 n149)) ∧ some ((lives_k9 n149)) = some ((lives_k9 n149)) ∧ some ((lives_k9 n149)) = some ((lives_k9 n149)) ∧ some ((lives_k9 n149)) = some ((lives_k9 n149)) ∧ some ((lives_k9 n149)) = some ((lives_k9 n149)) ∧ some ((lives_k9 n149)) = some ((lives_k9 n149)) ∧ some ((lives_k9 n149)) = some ((lives_k9 n149)) ∧ some ((lives_k9 n149)) = some ((lives_k9 n149)) ∧ n147 = n147 ∧ ∀ (n154 : Nat), n154 = n154 ∧ n154 = n154 ∧ n154 = n154 ∧ n154 = n154 ∧ ∀ (n155 n156 n157 : Nat), n155 = n155 ∧ ∀ (n158 : Nat), n158 = n158 ∧ n158 = n158 ∧ n158 = n158 ∧ n158 = n158 ∧ n156 = n156 ∧ ∀ (n159 : Nat), n159 = n159 ∧ n159 = n159 ∧ n159 = n159 ∧ n159 = n159 ∧ n155 = n155 ∧ n156
 = n156 ∧ n155 = n155 ∧ n156 = n156 ∧ n155 = n155 ∧ n156 = n156 ∧ n155 = n155 ∧ n156 = n156 ∧ n157 = n157 ∧ n157 = n157 ∧ ∀ (n160 : Nat), n160 = n160 ∧ n160 = n160 ∧ n154 = n154 ∧ n147 = n147 ∧ n147 = n147 ∧ ∀ (n161 : Nat), n161 = n161 ∧ n146 = n146 ∧ ∀ (n162 : Nat), n162 = n162 ∧ n162 = n162 ∧ n147 = n147 ∧ n147 = n147 ∧ n161 = n161 ∧ n161 = n161 ∧ n146 = n146 ∧ ∀ (n163 n164 n165 : Nat), n164 = n164 ∧ ∀ (n166 : Nat), n166 = n166 ∧ n166 = n166 ∧ n164 = n164 ∧ n164 = n164 ∧ ∀ (n167 : Nat), n167 = n167 ∧ n163 = n163 ∧ n164 = n164 ∧ n163 = n163 ∧ n164 = n164 ∧ n163 = n163 ∧ n164 = n164 ∧ n164 = n164 ∧ some ((lives_k9 n164)) = some ((lives_k9 n164)) ∧ some ((lives_k11 n163)) = some ((lives_k11 n163)) ∧ n164 = n164 ∧ n167 = n167 ∧ n164 = n164 ∧ some ((lives_k9 n164)) = some ((lives_k9 n164)) ∧ some ((lives_k9 n164)) = some ((lives_k9 n164)) ∧ some ((lives_k11 n163)) = some ((lives_k11 n163)) ∧ n165 = n165 ∧ n165 = n165 ∧ n161 = n161 ∧ n161 = n161 ∧ n146 = n146 ∧ ∀ (n168 : Nat), n168 = n168 ∧ n168 = n168 ∧ n161 = n161 ∧ n161 = n161 ∧ n147 = n147 ∧ some ((lives_k12 n161)) = some ((lives_k12 n161)) ∧ n147 = n147 ∧ n147 = n147 ∧ n148 = n148 ∧ n148 = n148 ∧ some ((lives_k10 n2 n13 n1)) = some ((lives_k10 n2 n13 n1)) ∧ ∀ (n169 : Nat), n169 = n169 ∧ n169 = n169 ∧ ∀ (n170 : Nat), n105 = n105 ∧ n170 = n170 ∧ ∀ (n171 : Nat), n171 = n171 ∧ n171 = n171 ∧ n171 = n171 ∧ n171 = n171 ∧ ∀ (n172 n173 n174 : Nat), n172 = n172 ∧ ∀ (n175 : Nat), n175 = n175 ∧ n175 = n175 ∧ n175 = n175 ∧ n175 = n175 ∧ n173
 = n173 ∧ ∀ (n176 : Nat), n176 = n176 ∧ n176 = n176 ∧ n176 = n176 ∧ n176 = n176 ∧ n172 = n172 ∧ n173 = n173 ∧ n172 = n172 ∧ n173 = n173 ∧ n172 = n172 ∧ n173 = n173 ∧ n172 = n172 ∧ n173 = n173 ∧ n174 = n174 ∧ n174 = n174 ∧ ∀ (n177 : Nat), n177 = n177 ∧ n177 = n177 ∧ n171 = n171 ∧ n105 = n105 ∧ n104 = n104 ∧ ∀ (n178 : Nat), n178 = n178 ∧ n105 = n105 ∧ n104 = n104 ∧ n105 = n105 ∧ n170 = n170 ∧ n104 = n104 ∧ n105 = n105 ∧ n170 = n170 ∧ ∀ (n179 : Nat), n179 = n179 ∧ n179 = n179 ∧ ∀ (n180 : Nat), n105 = n105 ∧ n105 = n105 ∧ n2 = n2 ∧ ∀ (n181 : Nat), n2 = n2 ∧ n2 = n2 ∧ n104 = n104 ∧ ∀ (n182 : Nat), n182 = n182 ∧ n182 = n182 ∧ n181 = n181 ∧ n181 = n181 ∧ ∀ (n183 : Nat), n183 = n183 ∧ ∀ (n184 : Nat), Bd 0 2 ∧ n54 = n54 ∧ (0 : Nat) < n55 ∧ Bd 0 2 ∧ n184 = n184 ∧ Bd 1 2 ∧ n54 = n54 ∧ (1 : Nat) < n55 ∧ Bd 1 2 ∧ n184 = n184 ∧ ∀ (n185 : Nat), Bd 0 1 ∧ n78 = n78 ∧ (0 : Nat) < n79 ∧ Bd 0 1 ∧ n185 = n185 ∧ ∀ (n186 : Nat), Bd 0 1 ∧ n95 = n95 ∧ (0 : Nat) < n96 ∧ Bd 0 1 ∧ n186 = n186 ∧ ∀ (n187 : Nat), Bd 0 1 ∧ n143 = n143 ∧ (0 : Nat) < n144 ∧ Bd 0 1 ∧ n187 = n187 ∧ n183 = n183 ∧ n2 = n2 ∧ n2 = n2 ∧ n104 = n104 ∧ R (bT)) ∧ ∀ (n146 n147 n148 n149 : Nat), n147 = n147 ∧ ∀ (n150 : Nat), n150 = n150 ∧ n150 = n150 ∧ n150 = n150 ∧ n150 = n150 ∧ n150 = n150 ∧ ∀ (n151 : Nat), n151 = n151 ∧ ∀ (n152 : Nat), n152 = n152 ∧ n152 = n152 ∧ some ((lives_k9 n150)) = some ((lives_k9 n150)) ∧ some ((lives_k9 n150)) = some ((lives_k9 n150)) ∧ some ((lives_k9 n150)) = some ((lives_k9 n150)) ∧ some ((lives_k9 n150)) =
 some ((lives_k9 n150)) ∧ n150 = n150 ∧ n150 = n150 ∧ n150 = n150 ∧ n150 = n150 ∧ ∀ (n153 : Nat), n153 = n153 ∧ ∀ (n154 : Nat), n154 = n154 ∧ n154 = n154 ∧ some ((lives_k9 n150)) = some ((lives_k9 n150)) ∧ some ((lives_k9 n150)) = some ((lives_k9 n150)) ∧ some ((lives_k9 n150)) = some ((lives_k9 n150)) ∧ some ((lives_k9 n150)) = some ((lives_k9 n150)) ∧ some ((lives_k9 n150)) = some ((lives_k9 n150)) ∧ some ((lives_k9 n150)) = some ((lives_k9 n150)) ∧ some ((lives_k9 n150)) = some ((lives_k9 n150)) ∧ some ((lives_k9 n150)) = some ((lives_k9 n150)) ∧ n148 = n148 ∧ ∀ (n155 : Nat), n155 = n155 ∧ n155 = n155 ∧ n155 = n155 ∧ n155 = n155 ∧ ∀ (n156 n157 n158 : Nat), n156 = n156 ∧ ∀ (n159 : Nat), n159 = n159 ∧ n159 = n159 ∧ n159 = n159 ∧ n159 = n159 ∧ n157 = n157 ∧ ∀ (n160 : Nat), n160 = n160 ∧ n160 = n160 ∧ n160 = n160 ∧ n160 = n160 ∧ n156 = n156 ∧ n157 = n157 ∧ n156 = n156 ∧ n157 = n157 ∧ n156 = n156 ∧ n157 = n157 ∧ n156 = n156 ∧ n157 = n157 ∧ n158 = n158 ∧ n158 = n158 ∧ ∀ (n161 : Nat), n161 = n161 ∧ n161 = n161 ∧ n155 = n155 ∧ n148 = n148 ∧ n148 = n148 ∧ ∀ (n162 : Nat), n162 = n162 ∧ n147 = n147 ∧ ∀ (n163 : Nat), n163 = n163 ∧ n163 = n163 ∧ n148 = n148 ∧ n148 = n148 ∧ n162 = n162 ∧ n162 = n162 ∧ n147 = n147 ∧ ∀ (n164 n165 n166 : Nat), n165 = n165 ∧ ∀ (n167 : Nat), n167 = n167 ∧ n167 = n167 ∧ n165 = n165 ∧ n165 = n165 ∧ ∀ (n168 : Nat), n168 = n168 ∧ n164 = n164 ∧ n165 = n165 ∧ n164 = n164 ∧ n165 = n165 ∧ n164 = n164 ∧ n165 = n165 ∧ n165 = n165 ∧ some ((lives_k9 n165)) = some ((lives_k9
 n165)) ∧ some ((lives_k11 n164)) = some ((lives_k11 n164)) ∧ n165 = n165 ∧ n168 = n168 ∧ n165 = n165 ∧ some ((lives_k9 n165)) = some ((lives_k9 n165)) ∧ some ((lives_k9 n165)) = some ((lives_k9 n165)) ∧ some ((lives_k11 n164)) = some ((lives_k11 n164)) ∧ n166 = n166 ∧ n166 = n166 ∧ n162 = n162 ∧ n162 = n162 ∧ n147 = n147 ∧ ∀ (n169 : Nat), n169 = n169 ∧ n169 = n169 ∧ n162 = n162 ∧ n162 = n162 ∧ n148 = n148 ∧ some ((lives_k12 n162)) = some ((lives_k12 n162)) ∧ n148 = n148 ∧ n148 = n148 ∧ n149 = n149 ∧ n149 = n149 ∧ some ((lives_k10 n2 n13 n1)) = some ((lives_k10 n2 n13 n1)) ∧ n146 = n146 ∧ n146 = n146 ∧ ∀ (n170 : Nat), n105 = n105 ∧ n170 = n170 ∧ ∀ (n171 : Nat), n171 = n171 ∧ n171 = n171 ∧ n171 = n171 ∧ n171 = n171 ∧ ∀ (n172 n173 n174 : Nat), n172 = n172 ∧ ∀ (n175 : Nat), n175 = n175 ∧ n175 = n175 ∧ n175 = n175 ∧ n175 = n175 ∧ n173 = n173 ∧ ∀ (n176 : Nat), n176 = n176 ∧ n176 = n176 ∧ n176 = n176 ∧ n176 = n176 ∧ n172 = n172 ∧ n173 = n173 ∧ n172 = n172 ∧ n173 = n173 ∧ n172 = n172 ∧ n173 = n173 ∧ n172 = n172 ∧ n173 = n173 ∧ n174 = n174 ∧ n174 = n174 ∧ ∀ (n177 : Nat), n177 = n177 ∧ n177 = n177 ∧ n171 = n171 ∧ n105 = n105 ∧ n104 = n104 ∧ ∀ (n178 : Nat), n178 = n178 ∧ n105 = n105 ∧ n104 = n104 ∧ n105 = n105 ∧ n170 = n170 ∧ n104 = n104 ∧ n105 = n105 ∧ n170 = n170 ∧ ∀ (n179 : Nat), n179 = n179 ∧ n179 = n179 ∧ ∀ (n180 : Nat), n105 = n105 ∧ n105 = n105 ∧ n2 = n2 ∧ ∀ (n181 : Nat), n2 = n2 ∧ n2 = n2 ∧ n104 = n104 ∧ ∀ (n182 : Nat), n182 = n182 ∧ n182 = n182 ∧ n181 = n181 ∧ n181 = n181 ∧ ∀ (n183
 : Nat), n183 = n183 ∧ ∀ (n184 : Nat), Bd 0 2 ∧ n54 = n54 ∧ (0 : Nat) < n55 ∧ Bd 0 2 ∧ n184 = n184 ∧ Bd 1 2 ∧ n54 = n54 ∧ (1 : Nat) < n55 ∧ Bd 1 2 ∧ n184 = n184 ∧ ∀ (n185 : Nat), Bd 0 1 ∧ n78 = n78 ∧ (0 : Nat) < n79 ∧ Bd 0 1 ∧ n185 = n185 ∧ ∀ (n186 : Nat), Bd 0 1 ∧ n95 = n95 ∧ (0 : Nat) < n96 ∧ Bd 0 1 ∧ n186 = n186 ∧ ∀ (n187 : Nat), Bd 0 1 ∧ n143 = n143 ∧ (0 : Nat) < n144 ∧ Bd 0 1 ∧ n187 = n187 ∧ n183 = n183 ∧ n2 = n2 ∧ n2 = n2 ∧ n104 = n104 ∧ R (bT))) : LC Try.prog 11 [] [] (fun z_ _ => R z_) :=
  lc_of_exec (tbl := st55) tab_ok st55_ok mixed noinv 2 _ Try.func11 rfl Try.ntmps11 (by decide) (by kernel_rfl) (Nat.le_of_ble_eq_true rfl) (@Eq.mpr (execN tab st55 noinv 2 Try.f11.ntmps [] none 0 (body Try.f11) (argsT [] 0) [] (post Try.f11 tab (retK (fun z_ _ => R z_)))) _ (by kernel_rfl) h)
set_option maxRecDepth 100000 in
theorem lives_lc  : LC Try.prog 11 [] [] (fun z_ _ => z_ = .v (.bool true)) :=
  lives_vc  (by
    intros
    simp (config := {decide := true}) [offB, offN, br_iff]
    all_goals (repeat' (first | (refine ⟨?_, ?_⟩) | intro _))
    all_goals (first | omega | (split <;> omega)))
def livesH : List AV → Option AV
  | [] => some (.v (.bool true))
  | _ => none
theorem lives_ok : POk Try.prog 11 livesH := POk.of_lc (enters_of (c := body Try.f11) Try.func11 rfl (by kernel_rfl)) (by
  intro args v h
  unfold livesH at h
  split at h
  · cases h; exact lives_lc 
  · cases h)
end Go.Proofs.Ytjnehpljhnlbfaa
