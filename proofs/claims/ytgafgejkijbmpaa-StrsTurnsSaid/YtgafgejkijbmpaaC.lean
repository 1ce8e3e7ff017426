/- Strs: the examples. -/
import Derived.Test.YtgafgejkijbmpaaB
namespace Go.Proofs.Ytgafgejkijbmpaa
open Go Go.Eng Go.Sp
set_option linter.unusedVariables false
set_option linter.unusedSimpArgs false

theorem idx2_ok : HOk Try.prog 72 (glH idxF) := glH_ok (enters_of (c := body Try.f72) Try.func72 rfl (by kernel_rfl)) fun args p m h hp => by
  unfold idxF at h
  split at h
  · rename_i s t
    cases h
    refine ⟨enters_of (c := body Try.f72) Try.func72 rfl (by kernel_rfl), fun w hw => (Go.Proofs.Try.stringslite_Index s t m w hp (gB_cell hw)).mono fun e w' hq => ?_⟩
    obtain ⟨rfl, rfl⟩ := hq
    exact ⟨_, [gB m], rfl, rfl, (HeapOk.enter hw).toExt⟩
  · cases h

def u3 : Tbl := (72, .gen (glH idxF)) :: t3

theorem u3_ok : TblOk Try.prog u3 := ⟨idx2_ok, t3_ok⟩

-- internal/stringslite.HasSuffix


def sff88I : Handler := inlH tab u3 (fun _ _ _ => .unroll 14) 2 Try.f88 2

set_option maxRecDepth 100000 in
theorem sff88_ok : HOk Try.prog 88 sff88I :=
  inl_ok (tbl := u3) tab_ok u3_ok mixed (fun _ _ _ => .unroll 14) 2 _ 2 Try.func88 rfl Try.ntmps88 (by decide) (by kernel_rfl) (Nat.le_of_ble_eq_true rfl)


def sft1 : Tbl := (88, .gen sff88I) :: u3

theorem sft1_ok : TblOk Try.prog sft1 := ⟨sff88_ok, u3_ok⟩

-- strings.HasSuffix


def sff73I : Handler := inlH tab sft1 (fun _ _ _ => .unroll 14) 2 Try.f73 2

set_option maxRecDepth 100000 in
theorem sff73_ok : HOk Try.prog 73 sff73I :=
  inl_ok (tbl := sft1) tab_ok sft1_ok mixed (fun _ _ _ => .unroll 14) 2 _ 2 Try.func73 rfl Try.ntmps73 (by decide) (by kernel_rfl) (Nat.le_of_ble_eq_true rfl)


def sft2 : Tbl := (73, .gen sff73I) :: sft1

theorem sft2_ok : TblOk Try.prog sft2 := ⟨sff73_ok, sft1_ok⟩

-- foolscap/value.Fold


def sff29I : Handler := inlH tab sft2 (fun _ _ _ => .unroll 14) 2 Try.f29 1

set_option maxRecDepth 100000 in
theorem sff29_ok : HOk Try.prog 29 sff29I :=
  inl_ok (tbl := sft2) tab_ok sft2_ok mixed (fun _ _ _ => .unroll 14) 2 _ 1 Try.func29 rfl Try.ntmps29 (by decide) (by kernel_rfl) (Nat.le_of_ble_eq_true rfl)


def sft3 : Tbl := (29, .gen sff29I) :: sft2

theorem sft3_ok : TblOk Try.prog sft3 := ⟨sff29_ok, sft2_ok⟩

-- foolscap/crit.steps


def sff89I : Handler := inlH tab sft3 (fun _ _ _ => .unroll 14) 2 Try.f89 1

set_option maxRecDepth 100000 in
theorem sff89_ok : HOk Try.prog 89 sff89I :=
  inl_ok (tbl := sft3) tab_ok sft3_ok mixed (fun _ _ _ => .unroll 14) 2 _ 1 Try.func89 rfl Try.ntmps89 (by decide) (by kernel_rfl) (Nat.le_of_ble_eq_true rfl)


def sft4 : Tbl := (89, .gen sff89I) :: sft3

theorem sft4_ok : TblOk Try.prog sft4 := ⟨sff89_ok, sft3_ok⟩

-- (foolscap/crit.step).fits


def sff90I : Handler := inlH tab sft4 (fun _ _ _ => .unroll 14) 2 Try.f90 2

set_option maxRecDepth 100000 in
theorem sff90_ok : HOk Try.prog 90 sff90I :=
  inl_ok (tbl := sft4) tab_ok sft4_ok mixed (fun _ _ _ => .unroll 14) 2 _ 2 Try.func90 rfl Try.ntmps90 (by decide) (by kernel_rfl) (Nat.le_of_ble_eq_true rfl)


def sft5 : Tbl := (90, .gen sff90I) :: sft4

theorem sft5_ok : TblOk Try.prog sft5 := ⟨sff90_ok, sft4_ok⟩

-- foolscap/crit.Like


def sff74I : Handler := inlH tab sft5 (fun _ _ _ => .unroll 14) 2 Try.f74 2

set_option maxRecDepth 100000 in
theorem sff74_ok : HOk Try.prog 74 sff74I :=
  inl_ok (tbl := sft5) tab_ok sft5_ok mixed (fun _ _ _ => .unroll 14) 2 _ 2 Try.func74 rfl Try.ntmps74 (by decide) (by kernel_rfl) (Nat.le_of_ble_eq_true rfl)


def sft6 : Tbl := (74, .gen sff74I) :: sft5

theorem sft6_ok : TblOk Try.prog sft6 := ⟨sff74_ok, sft5_ok⟩

-- foolscap/strs.begins


def sff48I : Handler := inlH tab sft6 (fun _ _ _ => .unroll 14) 2 Try.f48 2

set_option maxRecDepth 100000 in
theorem sff48_ok : HOk Try.prog 48 sff48I :=
  inl_ok (tbl := sft6) tab_ok sft6_ok mixed (fun _ _ _ => .unroll 14) 2 _ 2 Try.func48 rfl Try.ntmps48 (by decide) (by kernel_rfl) (Nat.le_of_ble_eq_true rfl)


def sft7 : Tbl := (48, .gen sff48I) :: sft6

theorem sft7_ok : TblOk Try.prog sft7 := ⟨sff48_ok, sft6_ok⟩

-- foolscap/strs.SearchS1


def sff47I : Handler := inlH tab sft7 (fun _ _ _ => .unroll 14) 2 Try.f47 3

set_option maxRecDepth 100000 in
theorem sff47_ok : HOk Try.prog 47 sff47I :=
  inl_ok (tbl := sft7) tab_ok sft7_ok mixed (fun _ _ _ => .unroll 14) 2 _ 3 Try.func47 rfl Try.ntmps47 (by decide) (by kernel_rfl) (Nat.le_of_ble_eq_true rfl)


def sft8 : Tbl := (47, .gen sff47I) :: sft7

theorem sft8_ok : TblOk Try.prog sft8 := ⟨sff47_ok, sft7_ok⟩

-- internal/stringslite.Cut


def sff92I : Handler := inlH tab sft8 (fun _ _ _ => .unroll 14) 2 Try.f92 2

set_option maxRecDepth 100000 in
theorem sff92_ok : HOk Try.prog 92 sff92I :=
  inl_ok (tbl := sft8) tab_ok sft8_ok mixed (fun _ _ _ => .unroll 14) 2 _ 2 Try.func92 rfl Try.ntmps92 (by decide) (by kernel_rfl) (Nat.le_of_ble_eq_true rfl)


def sft9 : Tbl := (92, .gen sff92I) :: sft8

theorem sft9_ok : TblOk Try.prog sft9 := ⟨sff92_ok, sft8_ok⟩

-- strings.Cut


def sff79I : Handler := inlH tab sft9 (fun _ _ _ => .unroll 14) 2 Try.f79 2

set_option maxRecDepth 100000 in
theorem sff79_ok : HOk Try.prog 79 sff79I :=
  inl_ok (tbl := sft9) tab_ok sft9_ok mixed (fun _ _ _ => .unroll 14) 2 _ 2 Try.func79 rfl Try.ntmps79 (by decide) (by kernel_rfl) (Nat.le_of_ble_eq_true rfl)


def sft10 : Tbl := (79, .gen sff79I) :: sft9

theorem sft10_ok : TblOk Try.prog sft10 := ⟨sff79_ok, sft9_ok⟩

-- foolscap/strs.placesS1


def sff78I : Handler := inlH tab sft10 (fun _ _ _ => .unroll 14) 2 Try.f78 3

set_option maxRecDepth 100000 in
theorem sff78_ok : HOk Try.prog 78 sff78I :=
  inl_ok (tbl := sft10) tab_ok sft10_ok mixed (fun _ _ _ => .unroll 14) 2 _ 3 Try.func78 rfl Try.ntmps78 (by decide) (by kernel_rfl) (Nat.le_of_ble_eq_true rfl)


def sft11 : Tbl := (78, .gen sff78I) :: sft10

theorem sft11_ok : TblOk Try.prog sft11 := ⟨sff78_ok, sft10_ok⟩

-- foolscap/strs.places


def sff55I : Handler := inlH tab sft11 (fun _ _ _ => .unroll 14) 2 Try.f55 2

set_option maxRecDepth 100000 in
theorem sff55_ok : HOk Try.prog 55 sff55I :=
  inl_ok (tbl := sft11) tab_ok sft11_ok mixed (fun _ _ _ => .unroll 14) 2 _ 2 Try.func55 rfl Try.ntmps55 (by decide) (by kernel_rfl) (Nat.le_of_ble_eq_true rfl)


def sft12 : Tbl := (55, .gen sff55I) :: sft11

theorem sft12_ok : TblOk Try.prog sft12 := ⟨sff55_ok, sft11_ok⟩

-- (*strings.Builder).copyCheck


def sff80I : Handler := inlH tab sft12 (fun _ _ _ => .unroll 14) 2 Try.f80 1

set_option maxRecDepth 100000 in
theorem sff80_ok : HOk Try.prog 80 sff80I :=
  inl_ok (tbl := sft12) tab_ok sft12_ok mixed (fun _ _ _ => .unroll 14) 2 _ 1 Try.func80 rfl Try.ntmps80 (by decide) (by kernel_rfl) (Nat.le_of_ble_eq_true rfl)


def sft13 : Tbl := (80, .gen sff80I) :: sft12

theorem sft13_ok : TblOk Try.prog sft13 := ⟨sff80_ok, sft12_ok⟩

-- (*strings.Builder).WriteString


def sff56I : Handler := inlH tab sft13 (fun _ _ _ => .unroll 14) 2 Try.f56 2

set_option maxRecDepth 100000 in
theorem sff56_ok : HOk Try.prog 56 sff56I :=
  inl_ok (tbl := sft13) tab_ok sft13_ok mixed (fun _ _ _ => .unroll 14) 2 _ 2 Try.func56 rfl Try.ntmps56 (by decide) (by kernel_rfl) (Nat.le_of_ble_eq_true rfl)


def sft14 : Tbl := (56, .gen sff56I) :: sft13

theorem sft14_ok : TblOk Try.prog sft14 := ⟨sff56_ok, sft13_ok⟩

-- (*strings.Builder).String


def sff57I : Handler := inlH tab sft14 (fun _ _ _ => .unroll 14) 2 Try.f57 1

set_option maxRecDepth 100000 in
theorem sff57_ok : HOk Try.prog 57 sff57I :=
  inl_ok (tbl := sft14) tab_ok sft14_ok mixed (fun _ _ _ => .unroll 14) 2 _ 1 Try.func57 rfl Try.ntmps57 (by decide) (by kernel_rfl) (Nat.le_of_ble_eq_true rfl)


def sft15 : Tbl := (57, .gen sff57I) :: sft14

theorem sft15_ok : TblOk Try.prog sft15 := ⟨sff57_ok, sft14_ok⟩

-- foolscap/strs.SubstituteS1


def sff54I : Handler := inlH tab sft15 (fun _ _ _ => .unroll 14) 2 Try.f54 4

set_option maxRecDepth 100000 in
theorem sff54_ok : HOk Try.prog 54 sff54I :=
  inl_ok (tbl := sft15) tab_ok sft15_ok mixed (fun _ _ _ => .unroll 14) 2 _ 4 Try.func54 rfl Try.ntmps54 (by decide) (by kernel_rfl) (Nat.le_of_ble_eq_true rfl)


def sft16 : Tbl := (54, .gen sff54I) :: sft15

theorem sft16_ok : TblOk Try.prog sft16 := ⟨sff54_ok, sft15_ok⟩

-- (*strings.Builder).grow


def sff94I : Handler := inlH tab sft16 (fun _ _ _ => .unroll 14) 2 Try.f94 2

set_option maxRecDepth 100000 in
theorem sff94_ok : HOk Try.prog 94 sff94I :=
  inl_ok (tbl := sft16) tab_ok sft16_ok mixed (fun _ _ _ => .unroll 14) 2 _ 2 Try.func94 rfl Try.ntmps94 (by decide) (by kernel_rfl) (Nat.le_of_ble_eq_true rfl)


def sft17 : Tbl := (94, .gen sff94I) :: sft16

theorem sft17_ok : TblOk Try.prog sft17 := ⟨sff94_ok, sft16_ok⟩

-- (*strings.Builder).Grow


def sff81I : Handler := inlH tab sft17 (fun _ _ _ => .unroll 14) 2 Try.f81 2

set_option maxRecDepth 100000 in
theorem sff81_ok : HOk Try.prog 81 sff81I :=
  inl_ok (tbl := sft17) tab_ok sft17_ok mixed (fun _ _ _ => .unroll 14) 2 _ 2 Try.func81 rfl Try.ntmps81 (by decide) (by kernel_rfl) (Nat.le_of_ble_eq_true rfl)


def sft18 : Tbl := (81, .gen sff81I) :: sft17

theorem sft18_ok : TblOk Try.prog sft18 := ⟨sff81_ok, sft17_ok⟩

-- strings.Join


def sff62I : Handler := inlH tab sft18 (fun _ _ _ => .unroll 14) 2 Try.f62 2

set_option maxRecDepth 100000 in
theorem sff62_ok : HOk Try.prog 62 sff62I :=
  inl_ok (tbl := sft18) tab_ok sft18_ok mixed (fun _ _ _ => .unroll 14) 2 _ 2 Try.func62 rfl Try.ntmps62 (by decide) (by kernel_rfl) (Nat.le_of_ble_eq_true rfl)


def sft19 : Tbl := (62, .gen sff62I) :: sft18

theorem sft19_ok : TblOk Try.prog sft19 := ⟨sff62_ok, sft18_ok⟩

-- foolscap/strs.TrimS1


def sff61I : Handler := inlH tab sft19 (fun _ _ _ => .unroll 14) 2 Try.f61 1

set_option maxRecDepth 100000 in
theorem sff61_ok : HOk Try.prog 61 sff61I :=
  inl_ok (tbl := sft19) tab_ok sft19_ok mixed (fun _ _ _ => .unroll 14) 2 _ 1 Try.func61 rfl Try.ntmps61 (by decide) (by kernel_rfl) (Nat.le_of_ble_eq_true rfl)


def sft20 : Tbl := (61, .gen sff61I) :: sft19

theorem sft20_ok : TblOk Try.prog sft20 := ⟨sff61_ok, sft19_ok⟩

-- last table: sft20

def textsL : Handler := guardH tab sft20 noinv Try.f50 Try.f77 77

theorem textsL_ok : HOk Try.prog 50 textsL := guard_ok tab_ok sft20_ok mixed noinv Try.func50 rfl (by kernel_rfl) Try.func77 rfl (by kernel_rfl)

def numbersL : Handler := guardH tab sft20 noinv Try.f40 Try.f70 70

theorem numbersL_ok : HOk Try.prog 40 numbersL := guard_ok tab_ok sft20_ok mixed noinv Try.func40 rfl (by kernel_rfl) Try.func70 rfl (by kernel_rfl)

def l1 : Tbl := (50, .gen textsL) :: (40, .gen numbersL) :: []

theorem l1_ok : TblOk Try.prog l1 := ⟨textsL_ok, numbersL_ok, trivial⟩


def searchLI : Handler := inlH tab l1 noinv 2 Try.f15 3

set_option maxRecDepth 100000 in
theorem searchL_ok : HOk Try.prog 15 searchLI :=
  inl_ok (tbl := l1) tab_ok l1_ok mixed noinv 2 _ 3 Try.func15 rfl Try.ntmps15 (by decide) (by kernel_rfl) (Nat.le_of_ble_eq_true rfl)



def substLI : Handler := inlH tab l1 noinv 2 Try.f19 4

set_option maxRecDepth 100000 in
theorem substL_ok : HOk Try.prog 19 substLI :=
  inl_ok (tbl := l1) tab_ok l1_ok mixed noinv 2 _ 4 Try.func19 rfl Try.ntmps19 (by decide) (by kernel_rfl) (Nat.le_of_ble_eq_true rfl)



def trimLI : Handler := inlH tab l1 noinv 2 Try.f27 1

set_option maxRecDepth 100000 in
theorem trimL_ok : HOk Try.prog 27 trimLI :=
  inl_ok (tbl := l1) tab_ok l1_ok mixed noinv 2 _ 1 Try.func27 rfl Try.ntmps27 (by decide) (by kernel_rfl) (Nat.le_of_ble_eq_true rfl)


def l2 : Tbl := (15, .gen searchLI) :: (19, .gen substLI) :: (27, .gen trimLI) :: (21, .pre midH) :: (12, .gen (glH findH)) :: (17, .pre replH) :: []

theorem l2_ok : TblOk Try.prog l2 := ⟨searchL_ok, substL_ok, trimL_ok, mid_ok, find_ok, repl_ok, trivial⟩


set_option maxRecDepth 100000 in
theorem lives_vc (m : Int) {R : AV → Prop} (h : ((2 : Int) ≤ (9223372036854775807 : Int) ∧ (3 : Int) ≤ (9223372036854775807 : Int) ∧ ∀ (n1 n2 n3 n4 n5 : Nat), n1 = n1 ∧ n2 = n2 ∧ ∀ (n6 : Nat), ((0 : Int) ≤ (0 : Int) ∧ (0 : Int) < (2 : Int)) ∧ n6 = n6 ∧ ((0 : Int) ≤ (1 : Int) ∧ (1 : Int) < (2 : Int)) ∧ n6 = n6 ∧ n3 = n3 ∧ n3 = n3 ∧ n2 = n2 ∧ n3 = n3 ∧ n2 = n2 ∧ n1 = n1 ∧ n2 = n2 ∧ ((0 : Int) ≤ (0 : Int) ∧ (0 : Int) ≤ (3 : Int)) ∧ (3 : Nat) ≤ (3 : Nat) ∧ ((0 : Int) ≤ (2 : Int) ∧ (2 : Int) ≤ (3 : Int)) ∧ (3 : Nat) ≤ (3 : Nat) ∧ (4 : Nat) ≤ (9223372036854775807 : Nat) ∧ ∀ (n7 n8 : Nat), (4 : Nat) ≤ n8 → ∀ (n10 : Nat), n10 = n10 ∧ n10 = n10 ∧ ((0 : Int) ≤ (1 : Int) ∧ (1 : Int) < (4 : Int)) ∧ n7 = n7 ∧ (1 : Nat) < n8 ∧ ((0 : Int) ≤ (1 : Int) ∧ (1 : Int) < (4 : Int)) ∧ n7 = n7 ∧ (1 : Nat) < n8 ∧ n10 = n10 ∧ n10 = n10 ∧ n10 = n10 ∧ n7 = n7 ∧ (4 : Nat) ≤ n8 ∧ ∀ (n11 n12 : Nat), (4 : Nat) ≤ n12 → ((0 : Int) ≤ (0 : Int) ∧ (0 : Int) < (4 : Int)) ∧ n11 = n11 ∧ (0 : Nat) < n12 ∧ ∀ (n14 : Nat), n14 = n14 ∧ ((1 : Nat) ≤ (9223372036854775807 : Nat) ∧ (579 : Nat) ≤ (281474976710656 : Nat)) ∧ ∀ (n15 n16 : Nat), (1 : Nat) ≤ n16 → ((0 : Int) ≤ (1 : Int) ∧ (1 : Int) < (4 : Int)) ∧ n11 = n11 ∧ (1 : Nat) < n12 ∧ ∀ (n18 : Nat), n18 = n18 ∧ n15 = n15 ∧ n16 = n16 ∧ (1 : Nat) ≤ n16 ∧ ((2 : Nat) ≤ (9223372036854775807 : Nat) ∧ (582 : Nat) ≤ (281474976710656 : Nat)) ∧ ∀ (b19 : Bool) (n20 n21 : Nat), (2 : Nat) ≤ n21 → ((0 : Int) ≤ (2 : Int) ∧ (2 : Int) < (4 : Int)) ∧ n11 = n11 ∧ (2 : Nat) < n12 ∧ ∀ (n23 : Nat), n23 = n23 ∧ n20 = n20 ∧ n21 = n21 ∧ (2 : Nat) ≤ n21 ∧ ((3 : Nat) ≤ (9223372036854775807 : Nat) ∧ (585 : Nat) ≤ (281474976710656 : Nat)) ∧ ∀ (b24 : Bool) (n25 n26 : Nat), (3 : Nat) ≤ n26 → ((0 : Int) ≤ (3 : Int) ∧ (3 : Int) < (4 : Int)) ∧ n11 = n11 ∧ (3 : Nat) < n12 ∧ ∀ (n28 : Nat), n28 = n28 ∧ n25 = n25 ∧ n26 = n26 ∧ (3 : Nat) ≤ n26 ∧ ((4 : Nat) ≤ (9223372036854775807 : Nat) ∧ (591 : Nat) ≤ (281474976710656 : Nat)) ∧ ∀ (b29 : Bool) (n30 n31 : Nat), (4 : Nat) ≤ n31 → ∀ (n33 n34 : Nat), (3 : Nat) ≤ n34 → ∀ (n36 : Nat), n36 = n36 ∧ ((0 : Int) ≤ (0 : Int) ∧ (0 : Int) < (3 : Int)) ∧ n33 = n33 ∧ (0 : Nat) < n34 ∧ ((0 : Int) ≤ (0 : Int) ∧ (0 : Int) < (3 : Int)) ∧ n33 = n33 ∧ (0 : Nat) < n34 ∧ n36 = n36 ∧ ((0 : Int) ≤ (1 : Int) ∧ (1 : Int) < (3 : Int)) ∧ n33 = n33 ∧ (1 : Nat) < n34 ∧ ((0 : Int) ≤ (1 : Int) ∧ (1 : Int) < (3 : Int)) ∧ n33 = n33 ∧ (1 : Nat) < n34 ∧ n36 = n36 ∧ ((0 : Int) ≤ (2 : Int) ∧ (2 : Int) < (3 : Int)) ∧ n33 = n33 ∧ (2 : Nat) < n34 ∧ ((0 : Int) ≤ (2 : Int) ∧ (2 : Int) < (3 : Int)) ∧ n33 = n33 ∧ (2 : Nat) < n34 ∧ n36 = n36 ∧ n33 = n33 ∧ (3 : Nat) ≤ n34 ∧ ((0 : Int) ≤ (0 : Int) ∧ (0 : Int) < (4 : Int)) ∧ n30 = n30 ∧ (0 : Nat) < n31 ∧ ((0 : Int) ≤ (0 : Int) ∧ (0 : Int) < (4 : Int)) ∧ n30 = n30 ∧ (0 : Nat) < n31 ∧ ((0 : Int) ≤ (0 : Int) ∧ (0 : Int) < (3 : Int)) ∧ ∀ (n37 : Nat), n37 = n37 ∧ ((0 : Int) ≤ (1 : Int) ∧ (1 : Int) < (4 : Int)) ∧ n30 = n30 ∧ (1 : Nat) < n31 ∧ ((0 : Int) ≤ (1 : Int) ∧ (1 : Int) < (4 : Int)) ∧ n30 = n30 ∧ (1 : Nat) < n31 ∧ ((0 : Int) ≤ (1 : Int) ∧ (1 : Int) < (3 : Int)) ∧ ∀ (n38 : Nat), n38 = n38 ∧ n38 = n38 ∧ n38 = n38 ∧ some (Blk.mk n2 (Cont.cells [AV.v (Value.string (ByteArray.mk #[(97 : UInt8), (98 : UInt8), (99 : UInt8)]))] (9 : Nat)) true) = some (Blk.mk n2 (Cont.cells [AV.v (Value.string (ByteArray.mk #[(97 : UInt8), (98 : UInt8), (99 : UInt8)]))] (9 : Nat)) true) ∧ n2 = n2 ∧ n1 = n1 ∧ n2 = n2 ∧ ((0 : Int) ≤ (1 : Int) ∧ (1 : Int) ≤ (3 : Int)) ∧ (3 : Nat) ≤ (3 : Nat) ∧ ((0 : Int) ≤ (2 : Int) ∧ (2 : Int) ≤ (3 : Int)) ∧ (3 : Nat) ≤ (3 : Nat) ∧ (4 : Nat) ≤ (9223372036854775807 : Nat) ∧ ∀ (n39 n40 : Nat), (4 : Nat) ≤ n40 → ∀ (n42 : Nat), n42 = n42 ∧ n42 = n42 ∧ ((0 : Int) ≤ (1 : Int) ∧ (1 : Int) < (4 : Int)) ∧ n39 = n39 ∧ (1 : Nat) < n40 ∧ ((0 : Int) ≤ (1 : Int) ∧ (1 : Int) < (4 : Int)) ∧ n39 = n39 ∧ (1 : Nat) < n40 ∧ n42 = n42 ∧ n42 = n42 ∧ n42 = n42 ∧ n39 = n39 ∧ (4 : Nat) ≤ n40 ∧ ∀ (n43 n44 : Nat), (4 : Nat) ≤ n44 → ((0 : Int) ≤ (0 : Int) ∧ (0 : Int) < (4 : Int)) ∧ n43 = n43 ∧ (0 : Nat) < n44 ∧ ∀ (n46 : Nat), n46 = n46 ∧ ((1 : Nat) ≤ (9223372036854775807 : Nat) ∧ (579 : Nat) ≤ (281474976710656 : Nat)) ∧ ∀ (n47 n48 : Nat), (1 : Nat) ≤ n48 → ((0 : Int) ≤ (1 : Int) ∧ (1 : Int) < (4 : Int)) ∧ n43 = n43 ∧ (1 : Nat) < n44 ∧ ∀ (n50 : Nat), n50 = n50 ∧ n47 = n47 ∧ n48 = n48 ∧ (1 : Nat) ≤ n48 ∧ ((2 : Nat) ≤ (9223372036854775807 : Nat) ∧ (582 : Nat) ≤ (281474976710656 : Nat)) ∧ ∀ (b51 : Bool) (n52 n53 : Nat), (2 : Nat) ≤ n53 → ((0 : Int) ≤ (2 : Int) ∧ (2 : Int) < (4 : Int)) ∧ n43 = n43 ∧ (2 : Nat) < n44 ∧ ∀ (n55 : Nat), n55 = n55 ∧ n52 = n52 ∧ n53 = n53 ∧ (2 : Nat) ≤ n53 ∧ ((3 : Nat) ≤ (9223372036854775807 : Nat) ∧ (585 : Nat) ≤ (281474976710656 : Nat)) ∧ ∀ (b56 : Bool) (n57 n58 : Nat), (3 : Nat) ≤ n58 → ((0 : Int) ≤ (3 : Int) ∧ (3 : Int) < (4 : Int)) ∧ n43 = n43 ∧ (3 : Nat) < n44 ∧ ∀ (n60 : Nat), n60 = n60 ∧ n57 = n57 ∧ n58 = n58 ∧ (3 : Nat) ≤ n58 ∧ ((4 : Nat) ≤ (9223372036854775807 : Nat) ∧ (591 : Nat) ≤ (281474976710656 : Nat)) ∧ ∀ (b61 : Bool) (n62 n63 : Nat), (4 : Nat) ≤ n63 → ∀ (n65 n66 : Nat), (2 : Nat) ≤ n66 → ∀ (n68 : Nat), n68 = n68 ∧ ((0 : Int) ≤ (0 : Int) ∧ (0 : Int) < (2 : Int)) ∧ n65 = n65 ∧ (0 : Nat) < n66 ∧ ((0 : Int) ≤ (0 : Int) ∧ (0 : Int) < (2 : Int)) ∧ n65 = n65 ∧ (0 : Nat) < n66 ∧ n68 = n68 ∧ ((0 : Int) ≤ (1 : Int) ∧ (1 : Int) < (2 : Int)) ∧ n65 = n65 ∧ (1 : Nat) < n66 ∧ ((0 : Int) ≤ (1 : Int) ∧ (1 : Int) < (2 : Int)) ∧ n65 = n65 ∧ (1 : Nat) < n66 ∧ n68 = n68 ∧ n65 = n65 ∧ (2 : Nat) ≤ n66 ∧ ((0 : Int) ≤ (0 : Int) ∧ (0 : Int) < (4 : Int)) ∧ n62 = n62 ∧ (0 : Nat) < n63 ∧ ((0 : Int) ≤ (0 : Int) ∧ (0 : Int) < (4 : Int)) ∧ n62 = n62 ∧ (0 : Nat) < n63 ∧ ((0 : Int) ≤ (0 : Int) ∧ (0 : Int) < (2 : Int)) ∧ ∀ (n69 : Nat), n69 = n69 ∧ ((0 : Int) ≤ (1 : Int) ∧ (1 : Int) < (4 : Int)) ∧ n62 = n62 ∧ (1 : Nat) < n63 ∧ ((0 : Int) ≤ (1 : Int) ∧ (1 : Int) < (4 : Int)) ∧ n62 = n62 ∧ (1 : Nat) < n63 ∧ ((0 : Int) ≤ (1 : Int) ∧ (1 : Int) < (2 : Int)) ∧ ∀ (n70 : Nat), n70 = n70 ∧ n70 = n70 ∧ n70 = n70 ∧ ((0 : Int) ≤ (2 : Int) ∧ (2 : Int) < (4 : Int)) ∧ n62 = n62 ∧ (2 : Nat) < n63 ∧ ((0 : Int) ≤ (3 : Int) ∧ (3 : Int) < (4 : Int)) ∧ n62 = n62 ∧ (3 : Nat) < n63 ∧ some (Blk.mk n2 (Cont.cells [AV.v (Value.string (ByteArray.mk #[(97 : UInt8), (98 : UInt8), (99 : UInt8)]))] (9 : Nat)) true) = some (Blk.mk n2 (Cont.cells [AV.v (Value.string (ByteArray.mk #[(97 : UInt8), (98 : UInt8), (99 : UInt8)]))] (9 : Nat)) true) ∧ n4 = n4 ∧ n5 = n5 ∧ n4 = n4 ∧ n5 = n5 ∧ (2 : Int) ≤ (9223372036854775807 : Int) ∧ ∀ (n71 n72 n73 n74 n75 n76 : Nat), n71 = n71 ∧ n72 = n72 ∧ n73 = n73 ∧ ∀ (n77 : Nat), ((0 : Int) ≤ (0 : Int) ∧ (0 : Int) < (3 : Int)) ∧ n77 = n77 ∧ ((0 : Int) ≤ (1 : Int) ∧ (1 : Int) < (3 : Int)) ∧ n77 = n77 ∧ ((0 : Int) ≤ (2 : Int) ∧ (2 : Int) < (3 : Int)) ∧ n77 = n77 ∧ n74 = n74 ∧ n72 = n72 ∧ ∀ (n78 n79 : Nat), n79 = n79 ∧ n71 = n71 ∧ n72 = n72 ∧ ∀ (n80 n81 n82 : Nat), n80 = n80 ∧ n81 = n81 ∧ (3 : Nat) < (4294967281 : Nat) ∧ ((0 : Int) ≤ (0 : Int) ∧ (0 : Int) ≤ (3 : Int)) ∧ ((0 : Int) ≤ (1 : Int) ∧ (1 : Int) ≤ (3 : Int)) ∧ (3 : Nat) ≤ (3 : Nat) ∧ n82 = n82 ∧ n82 = n82 ∧ n78 = n78 ∧ n78 = n78 ∧ n78 = n78 ∧ n78 = n78 ∧ n78 = n78 ∧ n78 = n78 ∧ n79 = n79 ∧ n79 = n79 ∧ n74 = n74 ∧ n79 = n79 ∧ n74 = n74 ∧ n72 = n72 ∧ n78 = n78 ∧ n78 = n78 ∧ n78 = n78 ∧ n78 = n78 ∧ ((1 : Nat) ≤ (9223372036854775807 : Nat) ∧ (193 : Nat) ≤ (281474976710656 : Nat)) ∧ ∀ (n83 n84 : Nat), (1 : Nat) ≤ n84 → n78 = n78 ∧ n82 = n82 ∧ n80 = n80 ∧ n80 = n80 ∧ n81 = n81 ∧ (2 : Nat) < (4294967281 : Nat) ∧ ((0 : Int) ≤ (0 : Int) ∧ (0 : Int) ≤ (2 : Int)) ∧ ((0 : Int) ≤ (1 : Int) ∧ (1 : Int) ≤ (2 : Int)) ∧ (2 : Nat) ≤ (2 : Nat) ∧ n82 = n82 ∧ n82 = n82 ∧ n78 = n78 ∧ n78 = n78 ∧ n78 = n78 ∧ n78 = n78 ∧ n83 = n83 ∧ (1 : Nat) = (1 : Nat) ∧ n84 = n84 ∧ ((1 : Nat) ≤ (9223372036854775807 : Nat) ∧ (193 : Nat) ≤ (281474976710656 : Nat)) ∧ ∀ (n86 n87 : Nat), (1 : Nat) ≤ n87 → n78 = n78 ∧ n79 = n79 ∧ n79 = n79 ∧ n74 = n74 ∧ n79 = n79 ∧ n74 = n74 ∧ n73 = n73 ∧ n78 = n78 ∧ n78 = n78 ∧ n78 = n78 ∧ n78 = n78 ∧ n86 = n86 ∧ (1 : Nat) = (1 : Nat) ∧ n87 = n87 ∧ ((2 : Nat) ≤ (9223372036854775807 : Nat) ∧ (194 : Nat) ≤ (281474976710656 : Nat)) ∧ ∀ (n89 n90 : Nat), (2 : Nat) ≤ n90 → n78 = n78 ∧ n82 = n82 ∧ n80 = n80 ∧ n80 = n80 ∧ n81 = n81 ∧ (1 : Nat) < (4294967281 : Nat) ∧ ((0 : Int) ≤ (0 : Int) ∧ (0 : Int) ≤ (1 : Int)) ∧ ((0 : Int) ≤ (1 : Int) ∧ (1 : Int) ≤ (1 : Int)) ∧ (1 : Nat) ≤ (1 : Nat) ∧ n82 = n82 ∧ n82 = n82 ∧ n78 = n78 ∧ n78 = n78 ∧ n78 = n78 ∧ n78 = n78 ∧ n89 = n89 ∧ (2 : Nat) = (2 : Nat) ∧ n90 = n90 ∧ ((2 : Nat) ≤ (9223372036854775807 : Nat) ∧ (194 : Nat) ≤ (281474976710656 : Nat)) ∧ ∀ (n92 n93 : Nat), (2 : Nat) ≤ n93 → n78 = n78 ∧ n79 = n79 ∧ n79 = n79 ∧ n74 = n74 ∧ n79 = n79 ∧ n74 = n74 ∧ n72 = n72 ∧ n78 = n78 ∧ n78 = n78 ∧ n78 = n78 ∧ n78 = n78 ∧ n92 = n92 ∧ (2 : Nat) = (2 : Nat) ∧ n93 = n93 ∧ ((3 : Nat) ≤ (9223372036854775807 : Nat) ∧ (195 : Nat) ≤ (281474976710656 : Nat)) ∧ ∀ (n95 n96 : Nat), (3 : Nat) ≤ n96 → n78 = n78 ∧ n82 = n82 ∧ n80 = n80 ∧ n80 = n80 ∧ n81 = n81 ∧ (0 : Nat) < (4294967281 : Nat) ∧ n82 = n82 ∧ n82 = n82 ∧ n78 = n78 ∧ n78 = n78 ∧ n78 = n78 ∧ n78 = n78 ∧ n95 = n95 ∧ (3 : Nat) = (3 : Nat) ∧ n96 = n96 ∧ ((3 : Nat) ≤ (9223372036854775807 : Nat) ∧ (195 : Nat) ≤ (281474976710656 : Nat)) ∧ ∀ (n98 n99 : Nat), (3 : Nat) ≤ n99 → n78 = n78 ∧ n82 = n82 ∧ n82 = n82 ∧ n78 = n78 ∧ n78 = n78 ∧ n98 = n98 ∧ n99 = n99 ∧ some (Blk.mk n78 (Cont.cells [AV.ptr (38 : Nat) n78 (0 : Nat), AV.sl (43 : Nat) n98 (0 : Nat) (1 : Nat) (3 : Nat) n99] (67 : Nat)) true) = some (Blk.mk n78 (Cont.cells [AV.ptr (38 : Nat) n78 (0 : Nat), AV.sl (43 : Nat) n98 (0 : Nat) (1 : Nat) (3 : Nat) n99] (67 : Nat)) true) ∧ n98 = n98 ∧ (3 : Int) = (3 : Int) ∧ some (Blk.mk n78 (Cont.cells [AV.ptr (38 : Nat) n78 (0 : Nat), AV.sl (43 : Nat) n98 (0 : Nat) (1 : Nat) (3 : Nat) n99] (67 : Nat)) true) = some (Blk.mk n78 (Cont.cells [AV.ptr (38 : Nat) n78 (0 : Nat), AV.sl (43 : Nat) n98 (0 : Nat) (1 : Nat) (3 : Nat) n99] (67 : Nat)) true) ∧ some (Blk.mk n78 (Cont.cells [AV.ptr (38 : Nat) n78 (0 : Nat), AV.sl (43 : Nat) n98 (0 : Nat) (1 : Nat) (3 : Nat) n99] (67 : Nat)) true) = some (Blk.mk n78 (Cont.cells [AV.ptr (38 : Nat) n78 (0 : Nat), AV.sl (43 : Nat) n98 (0 : Nat) (1 : Nat) (3 : Nat) n99] (67 : Nat)) true) ∧ n75 = n75 ∧ n75 = n75 ∧ ∀ (n101 : Nat), ((0 : Int) ≤ (0 : Int) ∧ (0 : Int) < (1 : Int)) ∧ n101 = n101 ∧ n75 = n75 ∧ n75 = n75 ∧ n76 = n76 ∧ n75 = n75 ∧ n76 = n76 ∧ ∀ (n102 n103 n104 : Nat), n102 = n102 ∧ ∀ (n105 : Nat), ((0 : Int) ≤ (0 : Int) ∧ (0 : Int) < (1 : Int)) ∧ n105 = n105 ∧ ∀ (n106 : Nat), n102 = n102 ∧ ∀ (n107 n108 n109 : Nat), n107 = n107 ∧ n108 = n108 ∧ (7 : Nat) < (4294967281 : Nat) ∧ ((0 : Int) ≤ (0 : Int) ∧ (0 : Int) ≤ (7 : Int)) ∧ ((0 : Int) ≤ (1 : Int) ∧ (1 : Int) ≤ (7 : Int)) ∧ (7 : Nat) ≤ (7 : Nat) ∧ n109 = n109 ∧ n109 = n109 ∧ n109 = n109 ∧ n107 = n107 ∧ n107 = n107 ∧ n108 = n108 ∧ (6 : Nat) < (4294967281 : Nat) ∧ ((0 : Int) ≤ (0 : Int) ∧ (0 : Int) ≤ (6 : Int)) ∧ ((0 : Int) ≤ (1 : Int) ∧ (1 : Int) ≤ (6 : Int)) ∧ (6 : Nat) ≤ (6 : Nat) ∧ n109 = n109 ∧ n109 = n109 ∧ n109 = n109 ∧ n107 = n107 ∧ n107 = n107 ∧ n108 = n108 ∧ (5 : Nat) < (4294967281 : Nat) ∧ ((0 : Int) ≤ (1 : Int) ∧ (1 : Int) ≤ (5 : Int)) ∧ ((0 : Int) ≤ (2 : Int) ∧ (2 : Int) ≤ (5 : Int)) ∧ (5 : Nat) ≤ (5 : Nat) ∧ n109 = n109 ∧ n109 = n109 ∧ n106 = n106 ∧ ∀ (n110 : Nat), n110 = n110 ∧ ((1 : Nat) ≤ (9223372036854775807 : Nat) ∧ (3088 : Nat) ≤ (281474976710656 : Nat)) ∧ ∀ (n111 n112 : Nat), (1 : Nat) ≤ n112 → n106 = n106 ∧ n109 = n109 ∧ n107 = n107 ∧ n107 = n107 ∧ n108 = n108 ∧ (3 : Nat) < (4294967281 : Nat) ∧ ((0 : Int) ≤ (0 : Int) ∧ (0 : Int) ≤ (3 : Int)) ∧ ((0 : Int) ≤ (1 : Int) ∧ (1 : Int) ≤ (3 : Int)) ∧ (3 : Nat) ≤ (3 : Nat) ∧ n109 = n109 ∧ n109 = n109 ∧ n109 = n109 ∧ n107 = n107 ∧ n107 = n107 ∧ n108 = n108 ∧ (2 : Nat) < (4294967281 : Nat) ∧ ((0 : Int) ≤ (1 : Int) ∧ (1 : Int) ≤ (2 : Int)) ∧ ((0 : Int) ≤ (2 : Int) ∧ (2 : Int) ≤ (2 : Int)) ∧ (2 : Nat) ≤ (2 : Nat) ∧ n109 = n109 ∧ n109 = n109 ∧ n106 = n106 ∧ ∀ (n114 : Nat), n114 = n114 ∧ n111 = n111 ∧ n112 = n112 ∧ (1 : Nat) ≤ n112 ∧ ((2 : Nat) ≤ (9223372036854775807 : Nat) ∧ (3104 : Nat) ≤ (281474976710656 : Nat)) ∧ ∀ (b115 : Bool) (n116 n117 : Nat), (2 : Nat) ≤ n117 → n106 = n106 ∧ n109 = n109 ∧ n107 = n107 ∧ n107 = n107 ∧ n108 = n108 ∧ (0 : Nat) < (4294967281 : Nat) ∧ n109 = n109 ∧ n109 = n109 ∧ n109 = n109 ∧ n109 = n109 ∧ n106 = n106 ∧ (1 : Int) ≠ (0 : Int) ∧ ((0 : Int) ≤ (0 : Int) ∧ (0 : Int) < (2 : Int)) ∧ n116 = n116 ∧ (0 : Nat) < n117 ∧ ((0 : Int) ≤ (1 : Int) ∧ (1 : Int) < (2 : Int)) ∧ n116 = n116 ∧ (1 : Nat) < n117 ∧ ∀ (n119 : Nat), n119 = n119 ∧ n119 = n119 ∧ n119 = n119 ∧ n119 = n119 ∧ n119 = n119 ∧ n119 = n119 ∧ n119 = n119 ∧ n119 = n119 ∧ ((1 : Int) ≤ (3 : Int) ∧ (3 : Int) ≤ (281474976710656 : Int)) ∧ ∀ (n120 n121 : Nat), (3 : Nat) ≤ n121 → some (Blk.mk n119 (Cont.cells [AV.ptr (56 : Nat) n119 (0 : Nat), AV.v (Value.slice none (0 : Nat) (0 : Nat))] (67 : Nat)) true) = some (Blk.mk n119 (Cont.cells [AV.ptr (56 : Nat) n119 (0 : Nat), AV.v (Value.slice none (0 : Nat) (0 : Nat))] (67 : Nat)) true) ∧ some (Blk.mk n119 (Cont.cells [AV.ptr (56 : Nat) n119 (0 : Nat), AV.v (Value.slice none (0 : Nat) (0 : Nat))] (67 : Nat)) true) = some (Blk.mk n119 (Cont.cells [AV.ptr (56 : Nat) n119 (0 : Nat), AV.v (Value.slice none (0 : Nat) (0 : Nat))] (67 : Nat)) true) ∧ ((0 : Int) ≤ (0 : Int) ∧ (0 : Int) ≤ (↑n121 : Int)) ∧ n119 = n119 ∧ n119 = n119 ∧ ((0 : Int) ≤ (0 : Int) ∧ (0 : Int) < (2 : Int)) ∧ n116 = n116 ∧ (0 : Nat) < n117 ∧ n119 = n119 ∧ n119 = n119 ∧ n119 = n119 ∧ n119 = n119 ∧ n120 = n120 ∧ (0 : Nat) = (0 : Nat) ∧ n121 - (0 : Nat) = n121 ∧ ((1 : Nat) ≤ (9223372036854775807 : Nat) ∧ (193 : Nat) ≤ (281474976710656 : Nat)) ∧ ∀ (n123 n124 : Nat), (1 : Nat) ≤ n124 → n119 = n119 ∧ ((0 : Int) ≤ (1 : Int) ∧ (1 : Int) ≤ (2 : Int)) ∧ (2 : Nat) ≤ n117 ∧ ((0 : Int) ≤ (0 : Int) ∧ (0 : Int) < (1 : Int)) ∧ n116 = n116 ∧ (1 : Nat) < n117 ∧ n119 = n119 ∧ n119 = n119 ∧ n119 = n119 ∧ n119 = n119 ∧ n123 = n123 ∧ (1 : Nat) = (1 : Nat) ∧ n124 = n124 ∧ ((2 : Nat) ≤ (9223372036854775807 : Nat) ∧ (194 : Nat) ≤ (281474976710656 : Nat)) ∧ ∀ (n126 n127 : Nat), (2 : Nat) ≤ n127 → n119 = n119 ∧ n119 = n119 ∧ n119 = n119 ∧ n119 = n119 ∧ n119 = n119 ∧ n126 = n126 ∧ (2 : Nat) = (2 : Nat) ∧ n127 = n127 ∧ ((3 : Nat) ≤ (9223372036854775807 : Nat) ∧ (195 : Nat) ≤ (281474976710656 : Nat)) ∧ ∀ (n129 n130 : Nat), (3 : Nat) ≤ n130 → n119 = n119 ∧ n119 = n119 ∧ n119 = n119 ∧ n129 = n129 ∧ n130 = n130 ∧ some (Blk.mk n119 (Cont.cells [AV.ptr (56 : Nat) n119 (0 : Nat), AV.sl (57 : Nat) n129 (0 : Nat) (1 : Nat) (3 : Nat) n130] (67 : Nat)) true) = some (Blk.mk n119 (Cont.cells [AV.ptr (56 : Nat) n119 (0 : Nat), AV.sl (57 : Nat) n129 (0 : Nat) (1 : Nat) (3 : Nat) n130] (67 : Nat)) true) ∧ n129 = n129 ∧ (3 : Int) = (3 : Int) ∧ some (Blk.mk n119 (Cont.cells [AV.ptr (56 : Nat) n119 (0 : Nat), AV.sl (57 : Nat) n129 (0 : Nat) (1 : Nat) (3 : Nat) n130] (67 : Nat)) true) = some (Blk.mk n119 (Cont.cells [AV.ptr (56 : Nat) n119 (0 : Nat), AV.sl (57 : Nat) n129 (0 : Nat) (1 : Nat) (3 : Nat) n130] (67 : Nat)) true) ∧ some (Blk.mk n119 (Cont.cells [AV.ptr (56 : Nat) n119 (0 : Nat), AV.sl (57 : Nat) n129 (0 : Nat) (1 : Nat) (3 : Nat) n130] (67 : Nat)) true) = some (Blk.mk n119 (Cont.cells [AV.ptr (56 : Nat) n119 (0 : Nat), AV.sl (57 : Nat) n129 (0 : Nat) (1 : Nat) (3 : Nat) n130] (67 : Nat)) true) ∧ n103 = n103 ∧ n103 = n103 ∧ ∀ (n132 : Nat), ((0 : Int) ≤ (0 : Int) ∧ (0 : Int) < (1 : Int)) ∧ n132 = n132 ∧ n103 = n103 ∧ n103 = n103 ∧ n104 = n104 ∧ n103 = n103 ∧ n104 = n104 ∧ R (AV.v (Value.bool true)))) : LC Try.prog 14 [] [gB m] (fun z_ _ => R z_) :=
  lc_of_exec (tbl := l2) tab_ok l2_ok mixed noinv 2 _ Try.func14 rfl Try.ntmps14 (by decide) (by kernel_rfl) (Nat.le_of_ble_eq_true rfl) (@Eq.mpr (execN tab l2 noinv 2 Try.f14.ntmps [] none 0 (body Try.f14) (argsT [] 0) [gB m] (post Try.f14 tab (retK (fun z_ _ => R z_)))) _ (by kernel_rfl) h)

set_option maxRecDepth 100000 in
theorem lives_lc (m : Int) : LC Try.prog 14 [] [gB m] (fun z_ _ => z_ = .v (.bool true)) :=
  lives_vc m (by
    repeat' (first | (refine ⟨?_, ?_⟩) | intro _)
    all_goals (first | trivial | omega | decide | exact Nat.le_of_ble_eq_true rfl | exact Int.NonNeg.mk _))

def livesH : List AV → Option (Prop × AV)
  | [] => some (True, .v (.bool true))
  | _ => none

theorem lives_ok : HOk Try.prog 14 (glH livesH) := glH_ok (enters_of (c := body Try.f14) Try.func14 rfl (by kernel_rfl)) (by
  intro args p m h hp
  unfold livesH at h
  split at h
  · cases h; exact lives_lc m 
  · cases h)

end Go.Proofs.Ytgafgejkijbmpaa

