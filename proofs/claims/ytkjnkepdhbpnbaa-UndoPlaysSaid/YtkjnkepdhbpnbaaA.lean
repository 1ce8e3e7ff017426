/- Undo: the examples. -/
import Derived.Test.YtkjnkepdhbpnbaaTab
import Derived.IntWalk
namespace Go.Proofs.Ytkjnkepdhbpnbaa
open Go Go.Eng
set_option linter.unusedVariables false
set_option linter.unusedSimpArgs false

theorem mixed : Try.prog.follows .mixedOrders = true := by kernel_rfl

theorem w64 {x : Int} (h : -9223372036854775808 ≤ x ∧ x ≤ 9223372036854775807) : IntKind.i64.wrap x = x := IntWalk.i64_in _ h


def madeI : Handler := inlH tab [] noinv 2 Try.f25 1

set_option maxRecDepth 100000 in
theorem made_ok : HOk Try.prog 25 madeI :=
  inl_ok (tbl := []) tab_ok trivial mixed noinv 2 _ 1 Try.func25 rfl Try.ntmps25 (by decide) (by kernel_rfl) (Nat.le_of_ble_eq_true rfl)



def cloneI : Handler := inlH tab [] noinv 2 Try.f26 1

set_option maxRecDepth 100000 in
theorem clone_ok : HOk Try.prog 26 cloneI :=
  inl_ok (tbl := []) tab_ok trivial mixed noinv 2 _ 1 Try.func26 rfl Try.ntmps26 (by decide) (by kernel_rfl) (Nat.le_of_ble_eq_true rfl)



def keepI : Handler := inlH tab [] (fun _ _ _ => .unroll 6) 2 Try.f27 3

set_option maxRecDepth 100000 in
theorem keep_ok : HOk Try.prog 27 keepI :=
  inl_ok (tbl := []) tab_ok trivial mixed (fun _ _ _ => .unroll 6) 2 _ 3 Try.func27 rfl Try.ntmps27 (by decide) (by kernel_rfl) (Nat.le_of_ble_eq_true rfl)



def sameI : Handler := inlH tab [] (fun _ _ _ => .unroll 6) 2 Try.f17 2

set_option maxRecDepth 100000 in
theorem same_ok : HOk Try.prog 17 sameI :=
  inl_ok (tbl := []) tab_ok trivial mixed (fun _ _ _ => .unroll 6) 2 _ 2 Try.func17 rfl Try.ntmps17 (by decide) (by kernel_rfl) (Nat.le_of_ble_eq_true rfl)



def newI : Handler := inlH tab [] noinv 2 Try.f14 1

set_option maxRecDepth 100000 in
theorem new_ok : HOk Try.prog 14 newI :=
  inl_ok (tbl := []) tab_ok trivial mixed noinv 2 _ 1 Try.func14 rfl Try.ntmps14 (by decide) (by kernel_rfl) (Nat.le_of_ble_eq_true rfl)


def tb1 : Tbl := (25, .gen madeI) :: (26, .gen cloneI) :: (27, .gen keepI) :: (17, .gen sameI) :: (14, .gen newI) :: []

theorem tb1_ok : TblOk Try.prog tb1 := ⟨made_ok, clone_ok, keep_ok, same_ok, new_ok, trivial⟩


def doneI : Handler := inlH tab tb1 noinv 2 Try.f11 1

set_option maxRecDepth 100000 in
theorem done_ok : HOk Try.prog 11 doneI :=
  inl_ok (tbl := tb1) tab_ok tb1_ok mixed noinv 2 _ 1 Try.func11 rfl Try.ntmps11 (by decide) (by kernel_rfl) (Nat.le_of_ble_eq_true rfl)



def undoneI : Handler := inlH tab tb1 noinv 2 Try.f12 1

set_option maxRecDepth 100000 in
theorem undone_ok : HOk Try.prog 12 undoneI :=
  inl_ok (tbl := tb1) tab_ok tb1_ok mixed noinv 2 _ 1 Try.func12 rfl Try.ntmps12 (by decide) (by kernel_rfl) (Nat.le_of_ble_eq_true rfl)



def pushI : Handler := inlH tab tb1 noinv 2 Try.f13 2

set_option maxRecDepth 100000 in
theorem push_ok : HOk Try.prog 13 pushI :=
  inl_ok (tbl := tb1) tab_ok tb1_ok mixed noinv 2 _ 2 Try.func13 rfl Try.ntmps13 (by decide) (by kernel_rfl) (Nat.le_of_ble_eq_true rfl)



def backI : Handler := inlH tab tb1 noinv 2 Try.f15 1

set_option maxRecDepth 100000 in
theorem back_ok : HOk Try.prog 15 backI :=
  inl_ok (tbl := tb1) tab_ok tb1_ok mixed noinv 2 _ 1 Try.func15 rfl Try.ntmps15 (by decide) (by kernel_rfl) (Nat.le_of_ble_eq_true rfl)



def againI : Handler := inlH tab tb1 noinv 2 Try.f16 1

set_option maxRecDepth 100000 in
theorem again_ok : HOk Try.prog 16 againI :=
  inl_ok (tbl := tb1) tab_ok tb1_ok mixed noinv 2 _ 1 Try.func16 rfl Try.ntmps16 (by decide) (by kernel_rfl) (Nat.le_of_ble_eq_true rfl)



def markI : Handler := inlH tab tb1 noinv 2 Try.f23 2

set_option maxRecDepth 100000 in
theorem mark_ok : HOk Try.prog 23 markI :=
  inl_ok (tbl := tb1) tab_ok tb1_ok mixed noinv 2 _ 2 Try.func23 rfl Try.ntmps23 (by decide) (by kernel_rfl) (Nat.le_of_ble_eq_true rfl)


def tb2 : Tbl := (11, .gen doneI) :: (12, .gen undoneI) :: (13, .gen pushI) :: (15, .gen backI) :: (16, .gen againI) :: (23, .gen markI) :: tb1

theorem tb2_ok : TblOk Try.prog tb2 := ⟨done_ok, undone_ok, push_ok, back_ok, again_ok, mark_ok, tb1_ok⟩


def toI : Handler := inlH tab tb2 (fun _ _ _ => .unroll 6) 2 Try.f24 2

set_option maxRecDepth 100000 in
theorem to_ok : HOk Try.prog 24 toI :=
  inl_ok (tbl := tb2) tab_ok tb2_ok mixed (fun _ _ _ => .unroll 6) 2 _ 2 Try.func24 rfl Try.ntmps24 (by decide) (by kernel_rfl) (Nat.le_of_ble_eq_true rfl)


def tb3 : Tbl := (24, .gen toI) :: tb2

theorem tb3_ok : TblOk Try.prog tb3 := ⟨to_ok, tb2_ok⟩


set_option maxRecDepth 100000 in
theorem lives_vc  {R : AV → Prop} (h : (∀ (n1 n2 : Nat), n2 = n2 ∧ n2 = n2 ∧ n2 = n2 ∧ n2 = n2 ∧ ((0 : Int) ≤ (0 : Int) ∧ (0 : Int) ≤ (0 : Int)) ∧ ((0 : Int) ≤ (0 : Int) ∧ (0 : Int) ≤ (0 : Int)) ∧ ∀ (n3 : Nat), n3 = n3 ∧ ((1 : Nat) ≤ (9223372036854775807 : Nat) ∧ (1544 : Nat) ≤ (281474976710656 : Nat)) ∧ ∀ (n4 n5 : Nat), (1 : Nat) ≤ n5 → some (Blk.mk n2 (Cont.cells [AV.v (Value.int IntKind.i64 (2 : Int)), AV.v (Value.int IntKind.i64 (0 : Int)), AV.v (Value.slice none (0 : Nat) (0 : Nat)), AV.mp (0 : Nat) n1] (55 : Nat)) true) = some (Blk.mk n2 (Cont.cells [AV.v (Value.int IntKind.i64 (2 : Int)), AV.v (Value.int IntKind.i64 (0 : Int)), AV.v (Value.slice none (0 : Nat) (0 : Nat)), AV.mp (0 : Nat) n1] (55 : Nat)) true) ∧ some (Blk.mk n2 (Cont.cells [AV.v (Value.int IntKind.i64 (2 : Int)), AV.v (Value.int IntKind.i64 (0 : Int)), AV.v (Value.slice none (0 : Nat) (0 : Nat)), AV.mp (0 : Nat) n1] (55 : Nat)) true) = some (Blk.mk n2 (Cont.cells [AV.v (Value.int IntKind.i64 (2 : Int)), AV.v (Value.int IntKind.i64 (0 : Int)), AV.v (Value.slice none (0 : Nat) (0 : Nat)), AV.mp (0 : Nat) n1] (55 : Nat)) true) ∧ some (Blk.mk n2 (Cont.cells [AV.v (Value.int IntKind.i64 (2 : Int)), AV.v (Value.int IntKind.i64 (0 : Int)), AV.v (Value.slice none (0 : Nat) (0 : Nat)), AV.mp (0 : Nat) n1] (55 : Nat)) true) = some (Blk.mk n2 (Cont.cells [AV.v (Value.int IntKind.i64 (2 : Int)), AV.v (Value.int IntKind.i64 (0 : Int)), AV.v (Value.slice none (0 : Nat) (0 : Nat)), AV.mp (0 : Nat) n1] (55 : Nat)) true) ∧ n2 = n2 ∧ n2 = n2 ∧ n2 = n2 ∧ n1 = n1 ∧ ∀ (n7 : Nat), n7 = n7 ∧ n1 = n1 ∧ ((0 : Int) ≤ (0 : Int) ∧ (0 : Int) ≤ (1 : Int)) ∧ (1 : Nat) ≤ n5 ∧ n2 = n2 ∧ n2 = n2 ∧ n2 = n2 ∧ n2 = n2 ∧ n2 = n2 ∧ n2 = n2 ∧ n2 = n2 ∧ ((0 : Int) ≤ (1 : Int) ∧ (1 : Int) ≤ (↑(n5 - (0 : Nat)) : Int)) ∧ ((0 : Int) ≤ (1 : Int) ∧ (1 : Int) ≤ (1 : Int)) ∧ ∀ (n8 : Nat), n8 = n8 ∧ n4 = n4 ∧ (1 : Nat) ≤ n5 ∧ ((2 : Nat) ≤ (9223372036854775807 : Nat) ∧ (1552 : Nat) ≤ (281474976710656 : Nat)) ∧ ∀ (n9 n10 : Nat), (2 : Nat) ≤ n10 → some (Blk.mk n2 (Cont.cells [AV.v (Value.int IntKind.i64 (2 : Int)), AV.v (Value.int IntKind.i64 (1 : Int)), AV.sl (3 : Nat) n4 (0 : Nat) (1 : Nat) (1 : Nat) (n5 - (0 : Nat)), AV.mp (0 : Nat) n1] (55 : Nat)) true) = some (Blk.mk n2 (Cont.cells [AV.v (Value.int IntKind.i64 (2 : Int)), AV.v (Value.int IntKind.i64 (1 : Int)), AV.sl (3 : Nat) n4 (0 : Nat) (1 : Nat) (1 : Nat) (n5 - (0 : Nat)), AV.mp (0 : Nat) n1] (55 : Nat)) true) ∧ some (Blk.mk n2 (Cont.cells [AV.v (Value.int IntKind.i64 (2 : Int)), AV.v (Value.int IntKind.i64 (1 : Int)), AV.sl (3 : Nat) n4 (0 : Nat) (1 : Nat) (1 : Nat) (n5 - (0 : Nat)), AV.mp (0 : Nat) n1] (55 : Nat)) true) = some (Blk.mk n2 (Cont.cells [AV.v (Value.int IntKind.i64 (2 : Int)), AV.v (Value.int IntKind.i64 (1 : Int)), AV.sl (3 : Nat) n4 (0 : Nat) (1 : Nat) (1 : Nat) (n5 - (0 : Nat)), AV.mp (0 : Nat) n1] (55 : Nat)) true) ∧ some (Blk.mk n2 (Cont.cells [AV.v (Value.int IntKind.i64 (2 : Int)), AV.v (Value.int IntKind.i64 (1 : Int)), AV.sl (3 : Nat) n4 (0 : Nat) (1 : Nat) (1 : Nat) (n5 - (0 : Nat)), AV.mp (0 : Nat) n1] (55 : Nat)) true) = some (Blk.mk n2 (Cont.cells [AV.v (Value.int IntKind.i64 (2 : Int)), AV.v (Value.int IntKind.i64 (1 : Int)), AV.sl (3 : Nat) n4 (0 : Nat) (1 : Nat) (1 : Nat) (n5 - (0 : Nat)), AV.mp (0 : Nat) n1] (55 : Nat)) true) ∧ n2 = n2 ∧ n2 = n2 ∧ n2 = n2 ∧ n1 = n1 ∧ ∀ (n12 : Nat), n12 = n12 ∧ n1 = n1 ∧ ((0 : Int) ≤ (0 : Int) ∧ (0 : Int) ≤ (2 : Int)) ∧ (2 : Nat) ≤ n10 ∧ n2 = n2 ∧ n2 = n2 ∧ n2 = n2 ∧ n2 = n2 ∧ n2 = n2 ∧ n2 = n2 ∧ n2 = n2 ∧ ((0 : Int) ≤ (2 : Int) ∧ (2 : Int) ≤ (↑(n10 - (0 : Nat)) : Int)) ∧ ((0 : Int) ≤ (2 : Int) ∧ (2 : Int) ≤ (2 : Int)) ∧ ∀ (n13 : Nat), n13 = n13 ∧ n9 = n9 ∧ (2 : Nat) ≤ n10 ∧ ((3 : Nat) ≤ (9223372036854775807 : Nat) ∧ (1560 : Nat) ≤ (281474976710656 : Nat)) ∧ ∀ (n14 n15 : Nat), (3 : Nat) ≤ n15 → some (Blk.mk n2 (Cont.cells [AV.v (Value.int IntKind.i64 (2 : Int)), AV.v (Value.int IntKind.i64 (2 : Int)), AV.sl (6 : Nat) n9 (0 : Nat) (1 : Nat) (2 : Nat) (n10 - (0 : Nat)), AV.mp (0 : Nat) n1] (55 : Nat)) true) = some (Blk.mk n2 (Cont.cells [AV.v (Value.int IntKind.i64 (2 : Int)), AV.v (Value.int IntKind.i64 (2 : Int)), AV.sl (6 : Nat) n9 (0 : Nat) (1 : Nat) (2 : Nat) (n10 - (0 : Nat)), AV.mp (0 : Nat) n1] (55 : Nat)) true) ∧ some (Blk.mk n2 (Cont.cells [AV.v (Value.int IntKind.i64 (2 : Int)), AV.v (Value.int IntKind.i64 (2 : Int)), AV.sl (6 : Nat) n9 (0 : Nat) (1 : Nat) (2 : Nat) (n10 - (0 : Nat)), AV.mp (0 : Nat) n1] (55 : Nat)) true) = some (Blk.mk n2 (Cont.cells [AV.v (Value.int IntKind.i64 (2 : Int)), AV.v (Value.int IntKind.i64 (2 : Int)), AV.sl (6 : Nat) n9 (0 : Nat) (1 : Nat) (2 : Nat) (n10 - (0 : Nat)), AV.mp (0 : Nat) n1] (55 : Nat)) true) ∧ some (Blk.mk n2 (Cont.cells [AV.v (Value.int IntKind.i64 (2 : Int)), AV.v (Value.int IntKind.i64 (2 : Int)), AV.sl (6 : Nat) n9 (0 : Nat) (1 : Nat) (2 : Nat) (n10 - (0 : Nat)), AV.mp (0 : Nat) n1] (55 : Nat)) true) = some (Blk.mk n2 (Cont.cells [AV.v (Value.int IntKind.i64 (2 : Int)), AV.v (Value.int IntKind.i64 (2 : Int)), AV.sl (6 : Nat) n9 (0 : Nat) (1 : Nat) (2 : Nat) (n10 - (0 : Nat)), AV.mp (0 : Nat) n1] (55 : Nat)) true) ∧ n2 = n2 ∧ n2 = n2 ∧ n2 = n2 ∧ n1 = n1 ∧ ∀ (n17 : Nat), n17 = n17 ∧ n1 = n1 ∧ ((0 : Int) ≤ (1 : Int) ∧ (1 : Int) ≤ (3 : Int)) ∧ (3 : Nat) ≤ n15 ∧ n2 = n2 ∧ n2 = n2 ∧ n2 = n2 ∧ n2 = n2 ∧ n2 = n2 ∧ n2 = n2 ∧ ((0 : Int) ≤ (2 : Int) ∧ (2 : Int) ≤ (↑(n15 - (1 : Nat)) : Int)) ∧ ∀ (n18 : Nat), n14 = n14 ∧ (3 : Nat) ≤ n15 ∧ True ∧ n18 = n18 ∧ (0 : Nat) ≤ (0 : Nat) ∧ ((2 : Nat) ≤ (9223372036854775807 : Nat) ∧ (1552 : Nat) ≤ (281474976710656 : Nat)) ∧ ∀ (n19 n20 : Nat), (2 : Nat) ≤ n20 → some (Blk.mk n2 (Cont.cells [AV.v (Value.int IntKind.i64 (2 : Int)), AV.v (Value.int IntKind.i64 (2 : Int)), AV.sl (9 : Nat) n14 (1 : Nat) (1 : Nat) (2 : Nat) (n15 - (1 : Nat)), AV.mp (0 : Nat) n1] (55 : Nat)) true) = some (Blk.mk n2 (Cont.cells [AV.v (Value.int IntKind.i64 (2 : Int)), AV.v (Value.int IntKind.i64 (2 : Int)), AV.sl (9 : Nat) n14 (1 : Nat) (1 : Nat) (2 : Nat) (n15 - (1 : Nat)), AV.mp (0 : Nat) n1] (55 : Nat)) true) ∧ some (Blk.mk n2 (Cont.cells [AV.v (Value.int IntKind.i64 (2 : Int)), AV.v (Value.int IntKind.i64 (2 : Int)), AV.sl (9 : Nat) n14 (1 : Nat) (1 : Nat) (2 : Nat) (n15 - (1 : Nat)), AV.mp (0 : Nat) n1] (55 : Nat)) true) = some (Blk.mk n2 (Cont.cells [AV.v (Value.int IntKind.i64 (2 : Int)), AV.v (Value.int IntKind.i64 (2 : Int)), AV.sl (9 : Nat) n14 (1 : Nat) (1 : Nat) (2 : Nat) (n15 - (1 : Nat)), AV.mp (0 : Nat) n1] (55 : Nat)) true) ∧ n2 = n2 ∧ n2 = n2 ∧ n2 = n2 ∧ n2 = n2 ∧ n2 = n2 ∧ n2 = n2 ∧ ((0 : Int) ≤ (1 : Int) ∧ (1 : Int) < (2 : Int)) ∧ n14 = n14 ∧ (2 : Nat) < n15 ∧ n2 = n2 ∧ n2 = n2 ∧ n2 = n2 ∧ n2 = n2 ∧ n2 = n2 ∧ n2 = n2 ∧ n2 = n2 ∧ ((0 : Int) ≤ (1 : Int) ∧ (1 : Int) < (2 : Int)) ∧ n14 = n14 ∧ (2 : Nat) < n15 ∧ n2 = n2 ∧ n2 = n2 ∧ n2 = n2 ∧ n2 = n2 ∧ n2 = n2 ∧ n2 = n2 ∧ ((0 : Int) ≤ (1 : Int) ∧ (1 : Int) < (2 : Int)) ∧ n14 = n14 ∧ (2 : Nat) < n15 ∧ n2 = n2 ∧ n2 = n2 ∧ n2 = n2 ∧ n2 = n2 ∧ n2 = n2 ∧ n2 = n2 ∧ ((0 : Int) ≤ (0 : Int) ∧ (0 : Int) < (2 : Int)) ∧ n14 = n14 ∧ (1 : Nat) < n15 ∧ n2 = n2 ∧ n2 = n2 ∧ n2 = n2 ∧ ((0 : Int) ≤ (0 : Int) ∧ (0 : Int) ≤ (2 : Int)) ∧ (2 : Nat) ≤ n15 - (1 : Nat) ∧ ∀ (n22 : Nat), n14 = n14 ∧ (3 : Nat) ≤ n15 ∧ True ∧ n22 = n22 ∧ (0 : Nat) ≤ (0 : Nat) ∧ ((2 : Nat) ≤ (9223372036854775807 : Nat) ∧ (1552 : Nat) ≤ (281474976710656 : Nat)) ∧ ∀ (n23 n24 : Nat), (2 : Nat) ≤ n24 → some (Blk.mk n2 (Cont.cells [AV.v (Value.int IntKind.i64 (2 : Int)), AV.v (Value.int IntKind.i64 (0 : Int)), AV.sl (9 : Nat) n14 (1 : Nat) (1 : Nat) (2 : Nat) (n15 - (1 : Nat)), AV.mp (0 : Nat) n1] (55 : Nat)) true) = some (Blk.mk n2 (Cont.cells [AV.v (Value.int IntKind.i64 (2 : Int)), AV.v (Value.int IntKind.i64 (0 : Int)), AV.sl (9 : Nat) n14 (1 : Nat) (1 : Nat) (2 : Nat) (n15 - (1 : Nat)), AV.mp (0 : Nat) n1] (55 : Nat)) true) ∧ some (Blk.mk n2 (Cont.cells [AV.v (Value.int IntKind.i64 (2 : Int)), AV.v (Value.int IntKind.i64 (0 : Int)), AV.sl (9 : Nat) n14 (1 : Nat) (1 : Nat) (2 : Nat) (n15 - (1 : Nat)), AV.mp (0 : Nat) n1] (55 : Nat)) true) = some (Blk.mk n2 (Cont.cells [AV.v (Value.int IntKind.i64 (2 : Int)), AV.v (Value.int IntKind.i64 (0 : Int)), AV.sl (9 : Nat) n14 (1 : Nat) (1 : Nat) (2 : Nat) (n15 - (1 : Nat)), AV.mp (0 : Nat) n1] (55 : Nat)) true) ∧ n2 = n2 ∧ n2 = n2 ∧ n1 = n1 ∧ n2 = n2 ∧ n1 = n1 ∧ n2 = n2 ∧ n2 = n2 ∧ n1 = n1 ∧ n2 = n2 ∧ n2 = n2 ∧ n2 = n2 ∧ n2 = n2 ∧ n2 = n2 ∧ n2 = n2 ∧ n2 = n2 ∧ ((0 : Int) ≤ (0 : Int) ∧ (0 : Int) < (2 : Int)) ∧ n14 = n14 ∧ (1 : Nat) < n15 ∧ n2 = n2 ∧ n2 = n2 ∧ n2 = n2 ∧ n2 = n2 ∧ n2 = n2 ∧ n2 = n2 ∧ n2 = n2 ∧ ((0 : Int) ≤ (1 : Int) ∧ (1 : Int) < (2 : Int)) ∧ n14 = n14 ∧ (2 : Nat) < n15 ∧ n2 = n2 ∧ n2 = n2 ∧ n1 = n1 ∧ n2 = n2 ∧ n2 = n2 ∧ n2 = n2 ∧ n2 = n2 ∧ n2 = n2 ∧ n2 = n2 ∧ n2 = n2 ∧ ((0 : Int) ≤ (1 : Int) ∧ (1 : Int) < (2 : Int)) ∧ n14 = n14 ∧ (2 : Nat) < n15 ∧ ∀ (n26 : Nat), n26 = n26 ∧ ((1 : Nat) ≤ (9223372036854775807 : Nat) ∧ (1544 : Nat) ≤ (281474976710656 : Nat)) ∧ ∀ (n27 n28 : Nat), (1 : Nat) ≤ n28 → n2 = n2 ∧ n2 = n2 ∧ n2 = n2 ∧ n2 = n2 ∧ n2 = n2 ∧ n2 = n2 ∧ n2 = n2 ∧ ((0 : Int) ≤ (0 : Int) ∧ (0 : Int) < (2 : Int)) ∧ n14 = n14 ∧ (1 : Nat) < n15 ∧ ∀ (n30 : Nat), n30 = n30 ∧ n27 = n27 ∧ (1 : Nat) ≤ n28 ∧ br (Nat.ble (2 : Nat) n28) ((2 : Nat) ≤ n28 ∧ n2 = n2 ∧ n2 = n2 ∧ ∀ (n31 : Nat), ((0 : Int) ≤ (0 : Int) ∧ (0 : Int) < (2 : Int)) ∧ n19 = n19 ∧ (0 : Nat) < n20 ∧ ((0 : Int) ≤ (0 : Int) ∧ (0 : Int) < (2 : Int)) ∧ n31 = n31 ∧ ((0 : Int) ≤ (1 : Int) ∧ (1 : Int) < (2 : Int)) ∧ n19 = n19 ∧ (1 : Nat) < n20 ∧ ((0 : Int) ≤ (1 : Int) ∧ (1 : Int) < (2 : Int)) ∧ n31 = n31 ∧ ∀ (n32 : Nat), ((0 : Int) ≤ (0 : Int) ∧ (0 : Int) < (2 : Int)) ∧ n23 = n23 ∧ (0 : Nat) < n24 ∧ ((0 : Int) ≤ (0 : Int) ∧ (0 : Int) < (2 : Int)) ∧ n32 = n32 ∧ ((0 : Int) ≤ (1 : Int) ∧ (1 : Int) < (2 : Int)) ∧ n23 = n23 ∧ (1 : Nat) < n24 ∧ ((0 : Int) ≤ (1 : Int) ∧ (1 : Int) < (2 : Int)) ∧ n32 = n32 ∧ ∀ (n33 : Nat), ((0 : Int) ≤ (0 : Int) ∧ (0 : Int) < (2 : Int)) ∧ n27 = n27 ∧ (0 : Nat) < n28 ∧ ((0 : Int) ≤ (0 : Int) ∧ (0 : Int) < (2 : Int)) ∧ n33 = n33 ∧ ((0 : Int) ≤ (1 : Int) ∧ (1 : Int) < (2 : Int)) ∧ n27 = n27 ∧ (1 : Nat) < n28 ∧ ((0 : Int) ≤ (1 : Int) ∧ (1 : Int) < (2 : Int)) ∧ n33 = n33 ∧ n2 = n2 ∧ n2 = n2 ∧ n2 = n2 ∧ n2 = n2 ∧ ((0 : Int) ≤ (0 : Int) ∧ (0 : Int) ≤ (↑(n15 - (1 : Nat)) : Int)) ∧ ((0 : Int) ≤ (0 : Int) ∧ (0 : Int) ≤ (0 : Int)) ∧ ∀ (n34 : Nat), n34 = n34 ∧ n14 = n14 ∧ (1 : Nat) ≤ n15 ∧ ((1 : Nat) ≤ (9223372036854775807 : Nat) ∧ (1544 : Nat) ≤ (281474976710656 : Nat)) ∧ ∀ (n35 n36 : Nat), (1 : Nat) ≤ n36 → some (Blk.mk n2 (Cont.cells [AV.v (Value.int IntKind.i64 (2 : Int)), AV.v (Value.int IntKind.i64 (0 : Int)), AV.sl (9 : Nat) n14 (1 : Nat) (1 : Nat) (2 : Nat) (n15 - (1 : Nat)), AV.mp (0 : Nat) n1] (55 : Nat)) true) = some (Blk.mk n2 (Cont.cells [AV.v (Value.int IntKind.i64 (2 : Int)), AV.v (Value.int IntKind.i64 (0 : Int)), AV.sl (9 : Nat) n14 (1 : Nat) (1 : Nat) (2 : Nat) (n15 - (1 : Nat)), AV.mp (0 : Nat) n1] (55 : Nat)) true) ∧ some (Blk.mk n2 (Cont.cells [AV.v (Value.int IntKind.i64 (2 : Int)), AV.v (Value.int IntKind.i64 (0 : Int)), AV.sl (9 : Nat) n14 (1 : Nat) (1 : Nat) (2 : Nat) (n15 - (1 : Nat)), AV.mp (0 : Nat) n1] (55 : Nat)) true) = some (Blk.mk n2 (Cont.cells [AV.v (Value.int IntKind.i64 (2 : Int)), AV.v (Value.int IntKind.i64 (0 : Int)), AV.sl (9 : Nat) n14 (1 : Nat) (1 : Nat) (2 : Nat) (n15 - (1 : Nat)), AV.mp (0 : Nat) n1] (55 : Nat)) true) ∧ some (Blk.mk n2 (Cont.cells [AV.v (Value.int IntKind.i64 (2 : Int)), AV.v (Value.int IntKind.i64 (0 : Int)), AV.sl (9 : Nat) n14 (1 : Nat) (1 : Nat) (2 : Nat) (n15 - (1 : Nat)), AV.mp (0 : Nat) n1] (55 : Nat)) true) = some (Blk.mk n2 (Cont.cells [AV.v (Value.int IntKind.i64 (2 : Int)), AV.v (Value.int IntKind.i64 (0 : Int)), AV.sl (9 : Nat) n14 (1 : Nat) (1 : Nat) (2 : Nat) (n15 - (1 : Nat)), AV.mp (0 : Nat) n1] (55 : Nat)) true) ∧ n2 = n2 ∧ n2 = n2 ∧ n2 = n2 ∧ n1 = n1 ∧ ∀ (n38 : Nat), n38 = n38 ∧ n1 = n1 ∧ n38 = n38 ∧ n1 = n1 ∧ n2 = n2 ∧ n1 = n1 ∧ n38 = n38 ∧ n1 = n1 ∧ ((0 : Int) ≤ (0 : Int) ∧ (0 : Int) ≤ (1 : Int)) ∧ (1 : Nat) ≤ n36 ∧ n2 = n2 ∧ n2 = n2 ∧ n2 = n2 ∧ n2 = n2 ∧ n2 = n2 ∧ n2 = n2 ∧ ((0 : Int) ≤ (1 : Int) ∧ (1 : Int) ≤ (1 : Int)) ∧ (1 : Nat) ≤ n36 - (0 : Nat) ∧ ∀ (n39 : Nat), n35 = n35 ∧ offB (n36 - (0 : Nat)) (1 : Nat) (1 : Nat) (0 : Nat) + (0 : Nat) ≤ n36 ∧ True ∧ n39 = n39 ∧ (0 : Nat) ≤ (0 : Nat) ∧ some (Blk.mk n2 (Cont.cells [AV.v (Value.int IntKind.i64 (2 : Int)), AV.v (Value.int IntKind.i64 (1 : Int)), AV.sl (22 : Nat) n35 (0 : Nat) (1 : Nat) (1 : Nat) (n36 - (0 : Nat)), AV.mp (0 : Nat) n1] (55 : Nat)) true) = some (Blk.mk n2 (Cont.cells [AV.v (Value.int IntKind.i64 (2 : Int)), AV.v (Value.int IntKind.i64 (1 : Int)), AV.sl (22 : Nat) n35 (0 : Nat) (1 : Nat) (1 : Nat) (n36 - (0 : Nat)), AV.mp (0 : Nat) n1] (55 : Nat)) true) ∧ some (Blk.mk n2 (Cont.cells [AV.v (Value.int IntKind.i64 (2 : Int)), AV.v (Value.int IntKind.i64 (1 : Int)), AV.sl (22 : Nat) n35 (0 : Nat) (1 : Nat) (1 : Nat) (n36 - (0 : Nat)), AV.mp (0 : Nat) n1] (55 : Nat)) true) = some (Blk.mk n2 (Cont.cells [AV.v (Value.int IntKind.i64 (2 : Int)), AV.v (Value.int IntKind.i64 (1 : Int)), AV.sl (22 : Nat) n35 (0 : Nat) (1 : Nat) (1 : Nat) (n36 - (0 : Nat)), AV.mp (0 : Nat) n1] (55 : Nat)) true) ∧ R (AV.v (Value.bool true))) (((2 : Nat) ≤ (9223372036854775807 : Nat) ∧ (1552 : Nat) ≤ (281474976710656 : Nat)) ∧ ∀ (n31 n32 : Nat), (2 : Nat) ≤ n32 → n2 = n2 ∧ n2 = n2 ∧ ∀ (n34 : Nat), ((0 : Int) ≤ (0 : Int) ∧ (0 : Int) < (2 : Int)) ∧ n19 = n19 ∧ (0 : Nat) < n20 ∧ ((0 : Int) ≤ (0 : Int) ∧ (0 : Int) < (2 : Int)) ∧ n34 = n34 ∧ ((0 : Int) ≤ (1 : Int) ∧ (1 : Int) < (2 : Int)) ∧ n19 = n19 ∧ (1 : Nat) < n20 ∧ ((0 : Int) ≤ (1 : Int) ∧ (1 : Int) < (2 : Int)) ∧ n34 = n34 ∧ ∀ (n35 : Nat), ((0 : Int) ≤ (0 : Int) ∧ (0 : Int) < (2 : Int)) ∧ n23 = n23 ∧ (0 : Nat) < n24 ∧ ((0 : Int) ≤ (0 : Int) ∧ (0 : Int) < (2 : Int)) ∧ n35 = n35 ∧ ((0 : Int) ≤ (1 : Int) ∧ (1 : Int) < (2 : Int)) ∧ n23 = n23 ∧ (1 : Nat) < n24 ∧ ((0 : Int) ≤ (1 : Int) ∧ (1 : Int) < (2 : Int)) ∧ n35 = n35 ∧ ∀ (n36 : Nat), ((0 : Int) ≤ (0 : Int) ∧ (0 : Int) < (2 : Int)) ∧ n31 = n31 ∧ (0 : Nat) < n32 ∧ ((0 : Int) ≤ (0 : Int) ∧ (0 : Int) < (2 : Int)) ∧ n36 = n36 ∧ ((0 : Int) ≤ (1 : Int) ∧ (1 : Int) < (2 : Int)) ∧ n31 = n31 ∧ (1 : Nat) < n32 ∧ ((0 : Int) ≤ (1 : Int) ∧ (1 : Int) < (2 : Int)) ∧ n36 = n36 ∧ n2 = n2 ∧ n2 = n2 ∧ n2 = n2 ∧ n2 = n2 ∧ ((0 : Int) ≤ (0 : Int) ∧ (0 : Int) ≤ (↑(n15 - (1 : Nat)) : Int)) ∧ ((0 : Int) ≤ (0 : Int) ∧ (0 : Int) ≤ (0 : Int)) ∧ ∀ (n37 : Nat), n37 = n37 ∧ n14 = n14 ∧ (1 : Nat) ≤ n15 ∧ ((1 : Nat) ≤ (9223372036854775807 : Nat) ∧ (1544 : Nat) ≤ (281474976710656 : Nat)) ∧ ∀ (n38 n39 : Nat), (1 : Nat) ≤ n39 → some (Blk.mk n2 (Cont.cells [AV.v (Value.int IntKind.i64 (2 : Int)), AV.v (Value.int IntKind.i64 (0 : Int)), AV.sl (9 : Nat) n14 (1 : Nat) (1 : Nat) (2 : Nat) (n15 - (1 : Nat)), AV.mp (0 : Nat) n1] (55 : Nat)) true) = some (Blk.mk n2 (Cont.cells [AV.v (Value.int IntKind.i64 (2 : Int)), AV.v (Value.int IntKind.i64 (0 : Int)), AV.sl (9 : Nat) n14 (1 : Nat) (1 : Nat) (2 : Nat) (n15 - (1 : Nat)), AV.mp (0 : Nat) n1] (55 : Nat)) true) ∧ some (Blk.mk n2 (Cont.cells [AV.v (Value.int IntKind.i64 (2 : Int)), AV.v (Value.int IntKind.i64 (0 : Int)), AV.sl (9 : Nat) n14 (1 : Nat) (1 : Nat) (2 : Nat) (n15 - (1 : Nat)), AV.mp (0 : Nat) n1] (55 : Nat)) true) = some (Blk.mk n2 (Cont.cells [AV.v (Value.int IntKind.i64 (2 : Int)), AV.v (Value.int IntKind.i64 (0 : Int)), AV.sl (9 : Nat) n14 (1 : Nat) (1 : Nat) (2 : Nat) (n15 - (1 : Nat)), AV.mp (0 : Nat) n1] (55 : Nat)) true) ∧ some (Blk.mk n2 (Cont.cells [AV.v (Value.int IntKind.i64 (2 : Int)), AV.v (Value.int IntKind.i64 (0 : Int)), AV.sl (9 : Nat) n14 (1 : Nat) (1 : Nat) (2 : Nat) (n15 - (1 : Nat)), AV.mp (0 : Nat) n1] (55 : Nat)) true) = some (Blk.mk n2 (Cont.cells [AV.v (Value.int IntKind.i64 (2 : Int)), AV.v (Value.int IntKind.i64 (0 : Int)), AV.sl (9 : Nat) n14 (1 : Nat) (1 : Nat) (2 : Nat) (n15 - (1 : Nat)), AV.mp (0 : Nat) n1] (55 : Nat)) true) ∧ n2 = n2 ∧ n2 = n2 ∧ n2 = n2 ∧ n1 = n1 ∧ ∀ (n41 : Nat), n41 = n41 ∧ n1 = n1 ∧ n41 = n41 ∧ n1 = n1 ∧ n2 = n2 ∧ n1 = n1 ∧ n41 = n41 ∧ n1 = n1 ∧ ((0 : Int) ≤ (0 : Int) ∧ (0 : Int) ≤ (1 : Int)) ∧ (1 : Nat) ≤ n39 ∧ n2 = n2 ∧ n2 = n2 ∧ n2 = n2 ∧ n2 = n2 ∧ n2 = n2 ∧ n2 = n2 ∧ ((0 : Int) ≤ (1 : Int) ∧ (1 : Int) ≤ (1 : Int)) ∧ (1 : Nat) ≤ n39 - (0 : Nat) ∧ ∀ (n42 : Nat), n38 = n38 ∧ offB (n39 - (0 : Nat)) (1 : Nat) (1 : Nat) (0 : Nat) + (0 : Nat) ≤ n39 ∧ True ∧ n42 = n42 ∧ (0 : Nat) ≤ (0 : Nat) ∧ some (Blk.mk n2 (Cont.cells [AV.v (Value.int IntKind.i64 (2 : Int)), AV.v (Value.int IntKind.i64 (1 : Int)), AV.sl (23 : Nat) n38 (0 : Nat) (1 : Nat) (1 : Nat) (n39 - (0 : Nat)), AV.mp (0 : Nat) n1] (55 : Nat)) true) = some (Blk.mk n2 (Cont.cells [AV.v (Value.int IntKind.i64 (2 : Int)), AV.v (Value.int IntKind.i64 (1 : Int)), AV.sl (23 : Nat) n38 (0 : Nat) (1 : Nat) (1 : Nat) (n39 - (0 : Nat)), AV.mp (0 : Nat) n1] (55 : Nat)) true) ∧ some (Blk.mk n2 (Cont.cells [AV.v (Value.int IntKind.i64 (2 : Int)), AV.v (Value.int IntKind.i64 (1 : Int)), AV.sl (23 : Nat) n38 (0 : Nat) (1 : Nat) (1 : Nat) (n39 - (0 : Nat)), AV.mp (0 : Nat) n1] (55 : Nat)) true) = some (Blk.mk n2 (Cont.cells [AV.v (Value.int IntKind.i64 (2 : Int)), AV.v (Value.int IntKind.i64 (1 : Int)), AV.sl (23 : Nat) n38 (0 : Nat) (1 : Nat) (1 : Nat) (n39 - (0 : Nat)), AV.mp (0 : Nat) n1] (55 : Nat)) true) ∧ R (AV.v (Value.bool true))))) : LC Try.prog 10 [] [] (fun z_ _ => R z_) :=
  lc_of_exec (tbl := tb3) tab_ok tb3_ok mixed noinv 2 _ Try.func10 rfl Try.ntmps10 (by decide) (by kernel_rfl) (Nat.le_of_ble_eq_true rfl) (@Eq.mpr (execN tab tb3 noinv 2 Try.f10.ntmps [] none 0 (body Try.f10) (argsT [] 0) [] (post Try.f10 tab (retK (fun z_ _ => R z_)))) _ (by kernel_rfl) h)

set_option maxRecDepth 100000 in
theorem lives_lc  : LC Try.prog 10 [] [] (fun z_ _ => z_ = .v (.bool true)) :=
  lives_vc  (by
    intros
    simp (config := {decide := true}) [offB, offN, br_iff]
    all_goals (repeat' (first | (refine ⟨?_, ?_⟩) | intro _))
    all_goals (first | omega | (split <;> omega)))

def livesH : List AV → Option AV
  | [] => some (.v (.bool true))
  | _ => none

theorem lives_ok : POk Try.prog 10 livesH := POk.of_lc (enters_of (c := body Try.f10) Try.func10 rfl (by kernel_rfl)) (by
  intro args v h
  unfold livesH at h
  split at h
  · cases h; exact lives_lc 
  · cases h)

end Go.Proofs.Ytkjnkepdhbpnbaa

