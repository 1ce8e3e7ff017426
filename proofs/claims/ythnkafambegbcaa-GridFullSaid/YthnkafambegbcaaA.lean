import Derived.Test.YthnkafambegbcaaA0
namespace Go.Proofs.Ythnkafambegbcaa
open Go Go.Eng
set_option linter.unusedVariables false
set_option linter.unusedSimpArgs false
def sff60I : Handler := inlH tab tm (fun _ _ _ => .unroll 40) 2 Try.f60 1
set_option maxRecDepth 100000 in
theorem sff60_ok : HOk Try.prog 60 sff60I :=
  inl_ok (tbl := tm) tab_ok tm_ok mixed (fun _ _ _ => .unroll 40) 2 _ 1 Try.func60 rfl Try.ntmps60 (by decide) (by kernel_rfl) (Nat.le_of_ble_eq_true rfl)
def sft1 : Tbl := (60, .gen sff60I) :: tm
theorem sft1_ok : TblOk Try.prog sft1 := ⟨sff60_ok, tm_ok⟩
def sff70I : Handler := inlH tab sft1 (fun _ _ _ => .unroll 40) 2 Try.f70 1
set_option maxRecDepth 100000 in
theorem sff70_ok : HOk Try.prog 70 sff70I :=
  inl_ok (tbl := sft1) tab_ok sft1_ok mixed (fun _ _ _ => .unroll 40) 2 _ 1 Try.func70 rfl Try.ntmps70 (by decide) (by kernel_rfl) (Nat.le_of_ble_eq_true rfl)
def sft2 : Tbl := (70, .gen sff70I) :: sft1
theorem sft2_ok : TblOk Try.prog sft2 := ⟨sff70_ok, sft1_ok⟩
def sff61I : Handler := inlH tab sft2 (fun _ _ _ => .unroll 40) 2 Try.f61 2
set_option maxRecDepth 100000 in
theorem sff61_ok : HOk Try.prog 61 sff61I :=
  inl_ok (tbl := sft2) tab_ok sft2_ok mixed (fun _ _ _ => .unroll 40) 2 _ 2 Try.func61 rfl Try.ntmps61 (by decide) (by kernel_rfl) (Nat.le_of_ble_eq_true rfl)
def sft3 : Tbl := (61, .gen sff61I) :: sft2
theorem sft3_ok : TblOk Try.prog sft3 := ⟨sff61_ok, sft2_ok⟩
def sff59I : Handler := inlH tab sft3 (fun _ _ _ => .unroll 40) 2 Try.f59 2
set_option maxRecDepth 100000 in
theorem sff59_ok : HOk Try.prog 59 sff59I :=
  inl_ok (tbl := sft3) tab_ok sft3_ok mixed (fun _ _ _ => .unroll 40) 2 _ 2 Try.func59 rfl Try.ntmps59 (by decide) (by kernel_rfl) (Nat.le_of_ble_eq_true rfl)
def sft4 : Tbl := (59, .gen sff59I) :: sft3
theorem sft4_ok : TblOk Try.prog sft4 := ⟨sff59_ok, sft3_ok⟩
def sff69I : Handler := inlH tab sft4 (fun _ _ _ => .unroll 40) 2 Try.f69 2
set_option maxRecDepth 100000 in
theorem sff69_ok : HOk Try.prog 69 sff69I :=
  inl_ok (tbl := sft4) tab_ok sft4_ok mixed (fun _ _ _ => .unroll 40) 2 _ 2 Try.func69 rfl Try.ntmps69 (by decide) (by kernel_rfl) (Nat.le_of_ble_eq_true rfl)
def sft5 : Tbl := (69, .gen sff69I) :: sft4
theorem sft5_ok : TblOk Try.prog sft5 := ⟨sff69_ok, sft4_ok⟩
def sff71I : Handler := inlH tab sft5 (fun _ _ _ => .unroll 40) 2 Try.f71 2
set_option maxRecDepth 100000 in
theorem sff71_ok : HOk Try.prog 71 sff71I :=
  inl_ok (tbl := sft5) tab_ok sft5_ok mixed (fun _ _ _ => .unroll 40) 2 _ 2 Try.func71 rfl Try.ntmps71 (by decide) (by kernel_rfl) (Nat.le_of_ble_eq_true rfl)
def sft6 : Tbl := (71, .gen sff71I) :: sft5
theorem sft6_ok : TblOk Try.prog sft6 := ⟨sff71_ok, sft5_ok⟩
def sff67I : Handler := inlH tab sft6 (fun _ _ _ => .unroll 40) 2 Try.f67 1
set_option maxRecDepth 100000 in
theorem sff67_ok : HOk Try.prog 67 sff67I :=
  inl_ok (tbl := sft6) tab_ok sft6_ok mixed (fun _ _ _ => .unroll 40) 2 _ 1 Try.func67 rfl Try.ntmps67 (by decide) (by kernel_rfl) (Nat.le_of_ble_eq_true rfl)
def sft7 : Tbl := (67, .gen sff67I) :: sft6
theorem sft7_ok : TblOk Try.prog sft7 := ⟨sff67_ok, sft6_ok⟩
def sff74I : Handler := inlH tab sft7 (fun _ _ _ => .unroll 40) 2 Try.f74 4
set_option maxRecDepth 100000 in
theorem sff74_ok : HOk Try.prog 74 sff74I :=
  inl_ok (tbl := sft7) tab_ok sft7_ok mixed (fun _ _ _ => .unroll 40) 2 _ 4 Try.func74 rfl Try.ntmps74 (by decide) (by kernel_rfl) (Nat.le_of_ble_eq_true rfl)
def sft8 : Tbl := (74, .gen sff74I) :: sft7
theorem sft8_ok : TblOk Try.prog sft8 := ⟨sff74_ok, sft7_ok⟩
def sff84I : Handler := inlH tab sft8 (fun _ _ _ => .unroll 40) 2 Try.f84 5
set_option maxRecDepth 100000 in
theorem sff84_ok : HOk Try.prog 84 sff84I :=
  inl_ok (tbl := sft8) tab_ok sft8_ok mixed (fun _ _ _ => .unroll 40) 2 _ 5 Try.func84 rfl Try.ntmps84 (by decide) (by kernel_rfl) (Nat.le_of_ble_eq_true rfl)
def sft9 : Tbl := (84, .gen sff84I) :: sft8
theorem sft9_ok : TblOk Try.prog sft9 := ⟨sff84_ok, sft8_ok⟩
def sff75I : Handler := inlH tab sft9 (fun _ _ _ => .unroll 40) 2 Try.f75 4
set_option maxRecDepth 100000 in
theorem sff75_ok : HOk Try.prog 75 sff75I :=
  inl_ok (tbl := sft9) tab_ok sft9_ok mixed (fun _ _ _ => .unroll 40) 2 _ 4 Try.func75 rfl Try.ntmps75 (by decide) (by kernel_rfl) (Nat.le_of_ble_eq_true rfl)
def sft10 : Tbl := (75, .gen sff75I) :: sft9
theorem sft10_ok : TblOk Try.prog sft10 := ⟨sff75_ok, sft9_ok⟩
def sff82I : Handler := inlH tab sft10 (fun _ _ _ => .unroll 40) 2 Try.f82 1
set_option maxRecDepth 100000 in
theorem sff82_ok : HOk Try.prog 82 sff82I :=
  inl_ok (tbl := sft10) tab_ok sft10_ok mixed (fun _ _ _ => .unroll 40) 2 _ 1 Try.func82 rfl Try.ntmps82 (by decide) (by kernel_rfl) (Nat.le_of_ble_eq_true rfl)
def sft11 : Tbl := (82, .gen sff82I) :: sft10
theorem sft11_ok : TblOk Try.prog sft11 := ⟨sff82_ok, sft10_ok⟩
def sff83I : Handler := inlH tab sft11 (fun _ _ _ => .unroll 40) 2 Try.f83 1
set_option maxRecDepth 100000 in
theorem sff83_ok : HOk Try.prog 83 sff83I :=
  inl_ok (tbl := sft11) tab_ok sft11_ok mixed (fun _ _ _ => .unroll 40) 2 _ 1 Try.func83 rfl Try.ntmps83 (by decide) (by kernel_rfl) (Nat.le_of_ble_eq_true rfl)
def sft12 : Tbl := (83, .gen sff83I) :: sft11
theorem sft12_ok : TblOk Try.prog sft12 := ⟨sff83_ok, sft11_ok⟩
def sff73I : Handler := inlH tab sft12 (fun _ _ _ => .unroll 40) 2 Try.f73 1
set_option maxRecDepth 100000 in
theorem sff73_ok : HOk Try.prog 73 sff73I :=
  inl_ok (tbl := sft12) tab_ok sft12_ok mixed (fun _ _ _ => .unroll 40) 2 _ 1 Try.func73 rfl Try.ntmps73 (by decide) (by kernel_rfl) (Nat.le_of_ble_eq_true rfl)
def sft13 : Tbl := (73, .gen sff73I) :: sft12
theorem sft13_ok : TblOk Try.prog sft13 := ⟨sff73_ok, sft12_ok⟩
def sff85I : Handler := inlH tab sft13 (fun _ _ _ => .unroll 40) 2 Try.f85 1
set_option maxRecDepth 100000 in
theorem sff85_ok : HOk Try.prog 85 sff85I :=
  inl_ok (tbl := sft13) tab_ok sft13_ok mixed (fun _ _ _ => .unroll 40) 2 _ 1 Try.func85 rfl Try.ntmps85 (by decide) (by kernel_rfl) (Nat.le_of_ble_eq_true rfl)
def sft14 : Tbl := (85, .gen sff85I) :: sft13
theorem sft14_ok : TblOk Try.prog sft14 := ⟨sff85_ok, sft13_ok⟩
def sff86I : Handler := inlH tab sft14 (fun _ _ _ => .unroll 40) 2 Try.f86 1
set_option maxRecDepth 100000 in
theorem sff86_ok : HOk Try.prog 86 sff86I :=
  inl_ok (tbl := sft14) tab_ok sft14_ok mixed (fun _ _ _ => .unroll 40) 2 _ 1 Try.func86 rfl Try.ntmps86 (by decide) (by kernel_rfl) (Nat.le_of_ble_eq_true rfl)
def sft15 : Tbl := (86, .gen sff86I) :: sft14
theorem sft15_ok : TblOk Try.prog sft15 := ⟨sff86_ok, sft14_ok⟩
def sff76I : Handler := inlH tab sft15 (fun _ _ _ => .unroll 40) 2 Try.f76 4
set_option maxRecDepth 100000 in
theorem sff76_ok : HOk Try.prog 76 sff76I :=
  inl_ok (tbl := sft15) tab_ok sft15_ok mixed (fun _ _ _ => .unroll 40) 2 _ 4 Try.func76 rfl Try.ntmps76 (by decide) (by kernel_rfl) (Nat.le_of_ble_eq_true rfl)
def sft16 : Tbl := (76, .gen sff76I) :: sft15
theorem sft16_ok : TblOk Try.prog sft16 := ⟨sff76_ok, sft15_ok⟩
def sff89I : Handler := inlH tab sft16 (fun _ _ _ => .unroll 40) 2 Try.f89 5
set_option maxRecDepth 100000 in
theorem sff89_ok : HOk Try.prog 89 sff89I :=
  inl_ok (tbl := sft16) tab_ok sft16_ok mixed (fun _ _ _ => .unroll 40) 2 _ 5 Try.func89 rfl Try.ntmps89 (by decide) (by kernel_rfl) (Nat.le_of_ble_eq_true rfl)
def sft17 : Tbl := (89, .gen sff89I) :: sft16
theorem sft17_ok : TblOk Try.prog sft17 := ⟨sff89_ok, sft16_ok⟩
def sff88I : Handler := inlH tab sft17 (fun _ _ _ => .unroll 40) 2 Try.f88 6
set_option maxRecDepth 100000 in
theorem sff88_ok : HOk Try.prog 88 sff88I :=
  inl_ok (tbl := sft17) tab_ok sft17_ok mixed (fun _ _ _ => .unroll 40) 2 _ 6 Try.func88 rfl Try.ntmps88 (by decide) (by kernel_rfl) (Nat.le_of_ble_eq_true rfl)
def sft18 : Tbl := (88, .gen sff88I) :: sft17
theorem sft18_ok : TblOk Try.prog sft18 := ⟨sff88_ok, sft17_ok⟩
def sff87I : Handler := inlH tab sft18 (fun _ _ _ => .unroll 40) 2 Try.f87 4
set_option maxRecDepth 100000 in
theorem sff87_ok : HOk Try.prog 87 sff87I :=
  inl_ok (tbl := sft18) tab_ok sft18_ok mixed (fun _ _ _ => .unroll 40) 2 _ 4 Try.func87 rfl Try.ntmps87 (by decide) (by kernel_rfl) (Nat.le_of_ble_eq_true rfl)
def sft19 : Tbl := (87, .gen sff87I) :: sft18
theorem sft19_ok : TblOk Try.prog sft19 := ⟨sff87_ok, sft18_ok⟩
def sff77I : Handler := inlH tab sft19 (fun _ _ _ => .unroll 40) 2 Try.f77 4
set_option maxRecDepth 100000 in
theorem sff77_ok : HOk Try.prog 77 sff77I :=
  inl_ok (tbl := sft19) tab_ok sft19_ok mixed (fun _ _ _ => .unroll 40) 2 _ 4 Try.func77 rfl Try.ntmps77 (by decide) (by kernel_rfl) (Nat.le_of_ble_eq_true rfl)
def sft20 : Tbl := (77, .gen sff77I) :: sft19
theorem sft20_ok : TblOk Try.prog sft20 := ⟨sff77_ok, sft19_ok⟩
def sff78I : Handler := inlH tab sft20 (fun _ _ _ => .unroll 40) 2 Try.f78 4
set_option maxRecDepth 100000 in
theorem sff78_ok : HOk Try.prog 78 sff78I :=
  inl_ok (tbl := sft20) tab_ok sft20_ok mixed (fun _ _ _ => .unroll 40) 2 _ 4 Try.func78 rfl Try.ntmps78 (by decide) (by kernel_rfl) (Nat.le_of_ble_eq_true rfl)
def sft21 : Tbl := (78, .gen sff78I) :: sft20
theorem sft21_ok : TblOk Try.prog sft21 := ⟨sff78_ok, sft20_ok⟩
def sff79I : Handler := inlH tab sft21 (fun _ _ _ => .unroll 40) 2 Try.f79 4
set_option maxRecDepth 100000 in
theorem sff79_ok : HOk Try.prog 79 sff79I :=
  inl_ok (tbl := sft21) tab_ok sft21_ok mixed (fun _ _ _ => .unroll 40) 2 _ 4 Try.func79 rfl Try.ntmps79 (by decide) (by kernel_rfl) (Nat.le_of_ble_eq_true rfl)
def sft22 : Tbl := (79, .gen sff79I) :: sft21
theorem sft22_ok : TblOk Try.prog sft22 := ⟨sff79_ok, sft21_ok⟩
def sff80I : Handler := inlH tab sft22 (fun _ _ _ => .unroll 40) 2 Try.f80 5
set_option maxRecDepth 100000 in
theorem sff80_ok : HOk Try.prog 80 sff80I :=
  inl_ok (tbl := sft22) tab_ok sft22_ok mixed (fun _ _ _ => .unroll 40) 2 _ 5 Try.func80 rfl Try.ntmps80 (by decide) (by kernel_rfl) (Nat.le_of_ble_eq_true rfl)
def sft23 : Tbl := (80, .gen sff80I) :: sft22
theorem sft23_ok : TblOk Try.prog sft23 := ⟨sff80_ok, sft22_ok⟩
def sff81I : Handler := inlH tab sft23 (fun _ _ _ => .unroll 40) 2 Try.f81 5
set_option maxRecDepth 100000 in
theorem sff81_ok : HOk Try.prog 81 sff81I :=
  inl_ok (tbl := sft23) tab_ok sft23_ok mixed (fun _ _ _ => .unroll 40) 2 _ 5 Try.func81 rfl Try.ntmps81 (by decide) (by kernel_rfl) (Nat.le_of_ble_eq_true rfl)
def sft24 : Tbl := (81, .gen sff81I) :: sft23
theorem sft24_ok : TblOk Try.prog sft24 := ⟨sff81_ok, sft23_ok⟩
def sff72I : Handler := inlH tab sft24 (fun _ _ _ => .unroll 40) 2 Try.f72 5
set_option maxRecDepth 100000 in
theorem sff72_ok : HOk Try.prog 72 sff72I :=
  inl_ok (tbl := sft24) tab_ok sft24_ok mixed (fun _ _ _ => .unroll 40) 2 _ 5 Try.func72 rfl Try.ntmps72 (by decide) (by kernel_rfl) (Nat.le_of_ble_eq_true rfl)
def sft25 : Tbl := (72, .gen sff72I) :: sft24
theorem sft25_ok : TblOk Try.prog sft25 := ⟨sff72_ok, sft24_ok⟩
def sff68I : Handler := inlH tab sft25 (fun _ _ _ => .unroll 40) 2 Try.f68 2
set_option maxRecDepth 100000 in
theorem sff68_ok : HOk Try.prog 68 sff68I :=
  inl_ok (tbl := sft25) tab_ok sft25_ok mixed (fun _ _ _ => .unroll 40) 2 _ 2 Try.func68 rfl Try.ntmps68 (by decide) (by kernel_rfl) (Nat.le_of_ble_eq_true rfl)
def sft26 : Tbl := (68, .gen sff68I) :: sft25
theorem sft26_ok : TblOk Try.prog sft26 := ⟨sff68_ok, sft25_ok⟩
def sff57I : Handler := inlH tab sft26 (fun _ _ _ => .unroll 40) 2 Try.f57 2
set_option maxRecDepth 100000 in
theorem sff57_ok : HOk Try.prog 57 sff57I :=
  inl_ok (tbl := sft26) tab_ok sft26_ok mixed (fun _ _ _ => .unroll 40) 2 _ 2 Try.func57 rfl Try.ntmps57 (by decide) (by kernel_rfl) (Nat.le_of_ble_eq_true rfl)
def sft27 : Tbl := (57, .gen sff57I) :: sft26
theorem sft27_ok : TblOk Try.prog sft27 := ⟨sff57_ok, sft26_ok⟩
def sff58I : Handler := inlH tab sft27 (fun _ _ _ => .unroll 40) 2 Try.f58 1
set_option maxRecDepth 100000 in
theorem sff58_ok : HOk Try.prog 58 sff58I :=
  inl_ok (tbl := sft27) tab_ok sft27_ok mixed (fun _ _ _ => .unroll 40) 2 _ 1 Try.func58 rfl Try.ntmps58 (by decide) (by kernel_rfl) (Nat.le_of_ble_eq_true rfl)
def sft28 : Tbl := (58, .gen sff58I) :: sft27
theorem sft28_ok : TblOk Try.prog sft28 := ⟨sff58_ok, sft27_ok⟩
def sff56I : Handler := inlH tab sft28 (fun _ _ _ => .unroll 40) 2 Try.f56 2
set_option maxRecDepth 100000 in
theorem sff56_ok : HOk Try.prog 56 sff56I :=
  inl_ok (tbl := sft28) tab_ok sft28_ok mixed (fun _ _ _ => .unroll 40) 2 _ 2 Try.func56 rfl Try.ntmps56 (by decide) (by kernel_rfl) (Nat.le_of_ble_eq_true rfl)
def sft29 : Tbl := (56, .gen sff56I) :: sft28
theorem sft29_ok : TblOk Try.prog sft29 := ⟨sff56_ok, sft28_ok⟩
def sff45I : Handler := inlH tab sft29 (fun _ _ _ => .unroll 40) 2 Try.f45 1
set_option maxRecDepth 100000 in
theorem sff45_ok : HOk Try.prog 45 sff45I :=
  inl_ok (tbl := sft29) tab_ok sft29_ok mixed (fun _ _ _ => .unroll 40) 2 _ 1 Try.func45 rfl Try.ntmps45 (by decide) (by kernel_rfl) (Nat.le_of_ble_eq_true rfl)
def sft30 : Tbl := (45, .gen sff45I) :: sft29
theorem sft30_ok : TblOk Try.prog sft30 := ⟨sff45_ok, sft29_ok⟩
def sff46I : Handler := inlH tab sft30 (fun _ _ _ => .unroll 40) 2 Try.f46 4
set_option maxRecDepth 100000 in
theorem sff46_ok : HOk Try.prog 46 sff46I :=
  inl_ok (tbl := sft30) tab_ok sft30_ok mixed (fun _ _ _ => .unroll 40) 2 _ 4 Try.func46 rfl Try.ntmps46 (by decide) (by kernel_rfl) (Nat.le_of_ble_eq_true rfl)
def sft31 : Tbl := (46, .gen sff46I) :: sft30
theorem sft31_ok : TblOk Try.prog sft31 := ⟨sff46_ok, sft30_ok⟩
def sff44I : Handler := inlH tab sft31 (fun _ _ _ => .unroll 40) 2 Try.f44 2
set_option maxRecDepth 100000 in
theorem sff44_ok : HOk Try.prog 44 sff44I :=
  inl_ok (tbl := sft31) tab_ok sft31_ok mixed (fun _ _ _ => .unroll 40) 2 _ 2 Try.func44 rfl Try.ntmps44 (by decide) (by kernel_rfl) (Nat.le_of_ble_eq_true rfl)
def sft32 : Tbl := (44, .gen sff44I) :: sft31
theorem sft32_ok : TblOk Try.prog sft32 := ⟨sff44_ok, sft31_ok⟩
def sff12I : Handler := inlH tab sft32 (fun _ _ _ => .unroll 40) 2 Try.f12 2
set_option maxRecDepth 100000 in
theorem sff12_ok : HOk Try.prog 12 sff12I :=
  inl_ok (tbl := sft32) tab_ok sft32_ok mixed (fun _ _ _ => .unroll 40) 2 _ 2 Try.func12 rfl Try.ntmps12 (by decide) (by kernel_rfl) (Nat.le_of_ble_eq_true rfl)
def sft33 : Tbl := (12, .gen sff12I) :: sft32
theorem sft33_ok : TblOk Try.prog sft33 := ⟨sff12_ok, sft32_ok⟩
def sff29I : Handler := inlH tab sft33 (fun _ _ _ => .unroll 40) 2 Try.f29 1
set_option maxRecDepth 100000 in
theorem sff29_ok : HOk Try.prog 29 sff29I :=
  inl_ok (tbl := sft33) tab_ok sft33_ok mixed (fun _ _ _ => .unroll 40) 2 _ 1 Try.func29 rfl Try.ntmps29 (by decide) (by kernel_rfl) (Nat.le_of_ble_eq_true rfl)
def sft34 : Tbl := (29, .gen sff29I) :: sft33
theorem sft34_ok : TblOk Try.prog sft34 := ⟨sff29_ok, sft33_ok⟩
def sff55I : Handler := inlH tab sft34 (fun _ _ _ => .unroll 40) 2 Try.f55 1
set_option maxRecDepth 100000 in
theorem sff55_ok : HOk Try.prog 55 sff55I :=
  inl_ok (tbl := sft34) tab_ok sft34_ok mixed (fun _ _ _ => .unroll 40) 2 _ 1 Try.func55 rfl Try.ntmps55 (by decide) (by kernel_rfl) (Nat.le_of_ble_eq_true rfl)
def sft35 : Tbl := (55, .gen sff55I) :: sft34
theorem sft35_ok : TblOk Try.prog sft35 := ⟨sff55_ok, sft34_ok⟩
def sff43I : Handler := inlH tab sft35 (fun _ _ _ => .unroll 40) 2 Try.f43 2
set_option maxRecDepth 100000 in
theorem sff43_ok : HOk Try.prog 43 sff43I :=
  inl_ok (tbl := sft35) tab_ok sft35_ok mixed (fun _ _ _ => .unroll 40) 2 _ 2 Try.func43 rfl Try.ntmps43 (by decide) (by kernel_rfl) (Nat.le_of_ble_eq_true rfl)
def sft36 : Tbl := (43, .gen sff43I) :: sft35
theorem sft36_ok : TblOk Try.prog sft36 := ⟨sff43_ok, sft35_ok⟩
def sff30I : Handler := inlH tab sft36 (fun _ _ _ => .unroll 40) 2 Try.f30 1
set_option maxRecDepth 100000 in
theorem sff30_ok : HOk Try.prog 30 sff30I :=
  inl_ok (tbl := sft36) tab_ok sft36_ok mixed (fun _ _ _ => .unroll 40) 2 _ 1 Try.func30 rfl Try.ntmps30 (by decide) (by kernel_rfl) (Nat.le_of_ble_eq_true rfl)
def sft37 : Tbl := (30, .gen sff30I) :: sft36
theorem sft37_ok : TblOk Try.prog sft37 := ⟨sff30_ok, sft36_ok⟩
def sff32I : Handler := inlH tab sft37 (fun _ _ _ => .unroll 40) 2 Try.f32 1
set_option maxRecDepth 100000 in
theorem sff32_ok : HOk Try.prog 32 sff32I :=
  inl_ok (tbl := sft37) tab_ok sft37_ok mixed (fun _ _ _ => .unroll 40) 2 _ 1 Try.func32 rfl Try.ntmps32 (by decide) (by kernel_rfl) (Nat.le_of_ble_eq_true rfl)
def sft38 : Tbl := (32, .gen sff32I) :: sft37
theorem sft38_ok : TblOk Try.prog sft38 := ⟨sff32_ok, sft37_ok⟩
def sff20I : Handler := inlH tab sft38 (fun _ _ _ => .unroll 40) 2 Try.f20 2
set_option maxRecDepth 100000 in
theorem sff20_ok : HOk Try.prog 20 sff20I :=
  inl_ok (tbl := sft38) tab_ok sft38_ok mixed (fun _ _ _ => .unroll 40) 2 _ 2 Try.func20 rfl Try.ntmps20 (by decide) (by kernel_rfl) (Nat.le_of_ble_eq_true rfl)
def sft39 : Tbl := (20, .gen sff20I) :: sft38
theorem sft39_ok : TblOk Try.prog sft39 := ⟨sff20_ok, sft38_ok⟩
def sff33I : Handler := inlH tab sft39 (fun _ _ _ => .unroll 40) 2 Try.f33 1
set_option maxRecDepth 100000 in
theorem sff33_ok : HOk Try.prog 33 sff33I :=
  inl_ok (tbl := sft39) tab_ok sft39_ok mixed (fun _ _ _ => .unroll 40) 2 _ 1 Try.func33 rfl Try.ntmps33 (by decide) (by kernel_rfl) (Nat.le_of_ble_eq_true rfl)
def sft40 : Tbl := (33, .gen sff33I) :: sft39
theorem sft40_ok : TblOk Try.prog sft40 := ⟨sff33_ok, sft39_ok⟩
def sff19I : Handler := inlH tab sft40 (fun _ _ _ => .unroll 40) 2 Try.f19 1
set_option maxRecDepth 100000 in
theorem sff19_ok : HOk Try.prog 19 sff19I :=
  inl_ok (tbl := sft40) tab_ok sft40_ok mixed (fun _ _ _ => .unroll 40) 2 _ 1 Try.func19 rfl Try.ntmps19 (by decide) (by kernel_rfl) (Nat.le_of_ble_eq_true rfl)
def sft41 : Tbl := (19, .gen sff19I) :: sft40
theorem sft41_ok : TblOk Try.prog sft41 := ⟨sff19_ok, sft40_ok⟩
def sff10I : Handler := inlH tab sft41 (fun _ _ _ => .unroll 40) 2 Try.f10 1
set_option maxRecDepth 100000 in
theorem sff10_ok : HOk Try.prog 10 sff10I :=
  inl_ok (tbl := sft41) tab_ok sft41_ok mixed (fun _ _ _ => .unroll 40) 2 _ 1 Try.func10 rfl Try.ntmps10 (by decide) (by kernel_rfl) (Nat.le_of_ble_eq_true rfl)
def sft42 : Tbl := (10, .gen sff10I) :: sft41
theorem sft42_ok : TblOk Try.prog sft42 := ⟨sff10_ok, sft41_ok⟩
def sff31I : Handler := inlH tab sft42 (fun _ _ _ => .unroll 40) 2 Try.f31 3
set_option maxRecDepth 100000 in
theorem sff31_ok : HOk Try.prog 31 sff31I :=
  inl_ok (tbl := sft42) tab_ok sft42_ok mixed (fun _ _ _ => .unroll 40) 2 _ 3 Try.func31 rfl Try.ntmps31 (by decide) (by kernel_rfl) (Nat.le_of_ble_eq_true rfl)
def sft43 : Tbl := (31, .gen sff31I) :: sft42
theorem sft43_ok : TblOk Try.prog sft43 := ⟨sff31_ok, sft42_ok⟩
def sff48I : Handler := inlH tab sft43 (fun _ _ _ => .unroll 40) 2 Try.f48 1
set_option maxRecDepth 100000 in
theorem sff48_ok : HOk Try.prog 48 sff48I :=
  inl_ok (tbl := sft43) tab_ok sft43_ok mixed (fun _ _ _ => .unroll 40) 2 _ 1 Try.func48 rfl Try.ntmps48 (by decide) (by kernel_rfl) (Nat.le_of_ble_eq_true rfl)
def sft44 : Tbl := (48, .gen sff48I) :: sft43
theorem sft44_ok : TblOk Try.prog sft44 := ⟨sff48_ok, sft43_ok⟩
def sff47I : Handler := inlH tab sft44 (fun _ _ _ => .unroll 40) 2 Try.f47 1
set_option maxRecDepth 100000 in
theorem sff47_ok : HOk Try.prog 47 sff47I :=
  inl_ok (tbl := sft44) tab_ok sft44_ok mixed (fun _ _ _ => .unroll 40) 2 _ 1 Try.func47 rfl Try.ntmps47 (by decide) (by kernel_rfl) (Nat.le_of_ble_eq_true rfl)
def sft45 : Tbl := (47, .gen sff47I) :: sft44
theorem sft45_ok : TblOk Try.prog sft45 := ⟨sff47_ok, sft44_ok⟩
def sff34I : Handler := inlH tab sft45 (fun _ _ _ => .unroll 40) 2 Try.f34 1
set_option maxRecDepth 100000 in
theorem sff34_ok : HOk Try.prog 34 sff34I :=
  inl_ok (tbl := sft45) tab_ok sft45_ok mixed (fun _ _ _ => .unroll 40) 2 _ 1 Try.func34 rfl Try.ntmps34 (by decide) (by kernel_rfl) (Nat.le_of_ble_eq_true rfl)
def sft46 : Tbl := (34, .gen sff34I) :: sft45
theorem sft46_ok : TblOk Try.prog sft46 := ⟨sff34_ok, sft45_ok⟩
def sff62I : Handler := inlH tab sft46 (fun _ _ _ => .unroll 40) 2 Try.f62 1
set_option maxRecDepth 100000 in
theorem sff62_ok : HOk Try.prog 62 sff62I :=
  inl_ok (tbl := sft46) tab_ok sft46_ok mixed (fun _ _ _ => .unroll 40) 2 _ 1 Try.func62 rfl Try.ntmps62 (by decide) (by kernel_rfl) (Nat.le_of_ble_eq_true rfl)
def sft47 : Tbl := (62, .gen sff62I) :: sft46
theorem sft47_ok : TblOk Try.prog sft47 := ⟨sff62_ok, sft46_ok⟩
def sff49I : Handler := inlH tab sft47 (fun _ _ _ => .unroll 40) 2 Try.f49 2
set_option maxRecDepth 100000 in
theorem sff49_ok : HOk Try.prog 49 sff49I :=
  inl_ok (tbl := sft47) tab_ok sft47_ok mixed (fun _ _ _ => .unroll 40) 2 _ 2 Try.func49 rfl Try.ntmps49 (by decide) (by kernel_rfl) (Nat.le_of_ble_eq_true rfl)
def sft48 : Tbl := (49, .gen sff49I) :: sft47
theorem sft48_ok : TblOk Try.prog sft48 := ⟨sff49_ok, sft47_ok⟩
def sff35I : Handler := inlH tab sft48 (fun _ _ _ => .unroll 40) 2 Try.f35 2
set_option maxRecDepth 100000 in
theorem sff35_ok : HOk Try.prog 35 sff35I :=
  inl_ok (tbl := sft48) tab_ok sft48_ok mixed (fun _ _ _ => .unroll 40) 2 _ 2 Try.func35 rfl Try.ntmps35 (by decide) (by kernel_rfl) (Nat.le_of_ble_eq_true rfl)
def sft49 : Tbl := (35, .gen sff35I) :: sft48
theorem sft49_ok : TblOk Try.prog sft49 := ⟨sff35_ok, sft48_ok⟩
def sff17I : Handler := inlH tab sft49 (fun _ _ _ => .unroll 40) 2 Try.f17 2
set_option maxRecDepth 100000 in
theorem sff17_ok : HOk Try.prog 17 sff17I :=
  inl_ok (tbl := sft49) tab_ok sft49_ok mixed (fun _ _ _ => .unroll 40) 2 _ 2 Try.func17 rfl Try.ntmps17 (by decide) (by kernel_rfl) (Nat.le_of_ble_eq_true rfl)
def sft50 : Tbl := (17, .gen sff17I) :: sft49
theorem sft50_ok : TblOk Try.prog sft50 := ⟨sff17_ok, sft49_ok⟩
def sff11I : Handler := inlH tab sft50 (fun _ _ _ => .unroll 40) 2 Try.f11 3
set_option maxRecDepth 100000 in
theorem sff11_ok : HOk Try.prog 11 sff11I :=
  inl_ok (tbl := sft50) tab_ok sft50_ok mixed (fun _ _ _ => .unroll 40) 2 _ 3 Try.func11 rfl Try.ntmps11 (by decide) (by kernel_rfl) (Nat.le_of_ble_eq_true rfl)
def sft51 : Tbl := (11, .gen sff11I) :: sft50
theorem sft51_ok : TblOk Try.prog sft51 := ⟨sff11_ok, sft50_ok⟩
def sff13I : Handler := inlH tab sft51 (fun _ _ _ => .unroll 40) 2 Try.f13 2
set_option maxRecDepth 100000 in
theorem sff13_ok : HOk Try.prog 13 sff13I :=
  inl_ok (tbl := sft51) tab_ok sft51_ok mixed (fun _ _ _ => .unroll 40) 2 _ 2 Try.func13 rfl Try.ntmps13 (by decide) (by kernel_rfl) (Nat.le_of_ble_eq_true rfl)
def sft52 : Tbl := (13, .gen sff13I) :: sft51
theorem sft52_ok : TblOk Try.prog sft52 := ⟨sff13_ok, sft51_ok⟩
def sff14I : Handler := inlH tab sft52 (fun _ _ _ => .unroll 40) 2 Try.f14 1
set_option maxRecDepth 100000 in
theorem sff14_ok : HOk Try.prog 14 sff14I :=
  inl_ok (tbl := sft52) tab_ok sft52_ok mixed (fun _ _ _ => .unroll 40) 2 _ 1 Try.func14 rfl Try.ntmps14 (by decide) (by kernel_rfl) (Nat.le_of_ble_eq_true rfl)
def sft53 : Tbl := (14, .gen sff14I) :: sft52
theorem sft53_ok : TblOk Try.prog sft53 := ⟨sff14_ok, sft52_ok⟩
def sff16I : Handler := inlH tab sft53 (fun _ _ _ => .unroll 40) 2 Try.f16 1
set_option maxRecDepth 100000 in
theorem sff16_ok : HOk Try.prog 16 sff16I :=
  inl_ok (tbl := sft53) tab_ok sft53_ok mixed (fun _ _ _ => .unroll 40) 2 _ 1 Try.func16 rfl Try.ntmps16 (by decide) (by kernel_rfl) (Nat.le_of_ble_eq_true rfl)
def sft54 : Tbl := (16, .gen sff16I) :: sft53
theorem sft54_ok : TblOk Try.prog sft54 := ⟨sff16_ok, sft53_ok⟩
def sff22I : Handler := inlH tab sft54 (fun _ _ _ => .unroll 40) 2 Try.f22 1
set_option maxRecDepth 100000 in
theorem sff22_ok : HOk Try.prog 22 sff22I :=
  inl_ok (tbl := sft54) tab_ok sft54_ok mixed (fun _ _ _ => .unroll 40) 2 _ 1 Try.func22 rfl Try.ntmps22 (by decide) (by kernel_rfl) (Nat.le_of_ble_eq_true rfl)
def sft55 : Tbl := (22, .gen sff22I) :: sft54
theorem sft55_ok : TblOk Try.prog sft55 := ⟨sff22_ok, sft54_ok⟩
end Go.Proofs.Ythnkafambegbcaa
