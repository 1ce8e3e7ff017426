/- Place: the examples. -/
import Derived.Test.YtilejaehbgljbaaDoorA
namespace Go.Proofs.YtilejaehbgljbaaDoor
open Go Go.Eng
set_option linter.unusedVariables false
set_option linter.unusedSimpArgs false


def smallI : Handler := inlH tab [] noinv 2 Tryd.f53 1

set_option maxRecDepth 100000 in
theorem small_ok : HOk Tryd.prog 53 smallI :=
  inl_ok (tbl := []) tab_ok trivial mixed noinv 2 _ 1 Tryd.func53 rfl Tryd.ntmps53 (by decide) (by kernel_rfl) (Nat.le_of_ble_eq_true rfl)


def tn1 : Tbl := [(53, .gen smallI)]

theorem tn1_ok : TblOk Tryd.prog tn1 := ⟨small_ok, trivial⟩


def formatI : Handler := inlH tab tn1 noinv 2 Tryd.f47 2

set_option maxRecDepth 100000 in
theorem format_ok : HOk Tryd.prog 47 formatI :=
  inl_ok (tbl := tn1) tab_ok tn1_ok mixed noinv 2 _ 2 Tryd.func47 rfl Tryd.ntmps47 (by decide) (by kernel_rfl) (Nat.le_of_ble_eq_true rfl)


def tn2 : Tbl := [(47, .gen formatI)]

theorem tn2_ok : TblOk Tryd.prog tn2 := ⟨format_ok, trivial⟩


def iitoaI : Handler := inlH tab tn2 noinv 2 Tryd.f43 1

set_option maxRecDepth 100000 in
theorem iitoa_ok : HOk Tryd.prog 43 iitoaI :=
  inl_ok (tbl := tn2) tab_ok tn2_ok mixed noinv 2 _ 1 Tryd.func43 rfl Tryd.ntmps43 (by decide) (by kernel_rfl) (Nat.le_of_ble_eq_true rfl)


def tn3 : Tbl := [(43, .gen iitoaI)]

theorem tn3_ok : TblOk Tryd.prog tn3 := ⟨iitoa_ok, trivial⟩


def itoaI : Handler := inlH tab tn3 noinv 2 Tryd.f32 1

set_option maxRecDepth 100000 in
theorem itoa_ok : HOk Tryd.prog 32 itoaI :=
  inl_ok (tbl := tn3) tab_ok tn3_ok mixed noinv 2 _ 1 Tryd.func32 rfl Tryd.ntmps32 (by decide) (by kernel_rfl) (Nat.le_of_ble_eq_true rfl)



def iatoiI : Handler := inlH tab [] (fun _ _ _ => .unroll 4) 2 Tryd.f45 1

set_option maxRecDepth 100000 in
theorem iatoi_ok : HOk Tryd.prog 45 iatoiI :=
  inl_ok (tbl := []) tab_ok trivial mixed (fun _ _ _ => .unroll 4) 2 _ 1 Tryd.func45 rfl Tryd.ntmps45 (by decide) (by kernel_rfl) (Nat.le_of_ble_eq_true rfl)


def tn4 : Tbl := [(45, .gen iatoiI)]

theorem tn4_ok : TblOk Tryd.prog tn4 := ⟨iatoi_ok, trivial⟩


def atoiI : Handler := inlH tab tn4 noinv 2 Tryd.f40 1

set_option maxRecDepth 100000 in
theorem atoi_ok : HOk Tryd.prog 40 atoiI :=
  inl_ok (tbl := tn4) tab_ok tn4_ok mixed noinv 2 _ 1 Tryd.func40 rfl Tryd.ntmps40 (by decide) (by kernel_rfl) (Nat.le_of_ble_eq_true rfl)



def letterI : Handler := inlH tab [] noinv 2 Tryd.f29 1

set_option maxRecDepth 100000 in
theorem letter_ok : HOk Tryd.prog 29 letterI :=
  inl_ok (tbl := []) tab_ok trivial mixed noinv 2 _ 1 Tryd.func29 rfl Tryd.ntmps29 (by decide) (by kernel_rfl) (Nat.le_of_ble_eq_true rfl)


def tl1 : Tbl := (29, .gen letterI) :: (32, .gen itoaI) :: (40, .gen atoiI) :: tb4

theorem tl1_ok : TblOk Tryd.prog tl1 := ⟨letter_ok, itoa_ok, atoi_ok, tb4_ok⟩


def lettersI : Handler := inlH tab tl1 (fun _ _ _ => .unroll 6) 2 Tryd.f10 1

set_option maxRecDepth 100000 in
theorem letters_ok : HOk Tryd.prog 10 lettersI :=
  inl_ok (tbl := tl1) tab_ok tl1_ok mixed (fun _ _ _ => .unroll 6) 2 _ 1 Tryd.func10 rfl Tryd.ntmps10 (by decide) (by kernel_rfl) (Nat.le_of_ble_eq_true rfl)



def columnI : Handler := inlH tab tl1 (fun _ _ _ => .unroll 6) 2 Tryd.f12 1

set_option maxRecDepth 100000 in
theorem column_ok : HOk Tryd.prog 12 columnI :=
  inl_ok (tbl := tl1) tab_ok tl1_ok mixed (fun _ _ _ => .unroll 6) 2 _ 1 Tryd.func12 rfl Tryd.ntmps12 (by decide) (by kernel_rfl) (Nat.le_of_ble_eq_true rfl)



def cutterI : Handler := inlH tab tl1 noinv 2 Tryd.f35 1

set_option maxRecDepth 100000 in
theorem cutter_ok : HOk Tryd.prog 35 cutterI :=
  inl_ok (tbl := tl1) tab_ok tl1_ok mixed noinv 2 _ 1 Tryd.func35 rfl Tryd.ntmps35 (by decide) (by kernel_rfl) (Nat.le_of_ble_eq_true rfl)



def p1I : Handler := inlH tab tl1 noinv 2 Tryd.f36 1

set_option maxRecDepth 100000 in
theorem p1_ok : HOk Tryd.prog 36 p1I :=
  inl_ok (tbl := tl1) tab_ok tl1_ok mixed noinv 2 _ 1 Tryd.func36 rfl Tryd.ntmps36 (by decide) (by kernel_rfl) (Nat.le_of_ble_eq_true rfl)



def p2I : Handler := inlH tab tl1 noinv 2 Tryd.f37 1

set_option maxRecDepth 100000 in
theorem p2_ok : HOk Tryd.prog 37 p2I :=
  inl_ok (tbl := tl1) tab_ok tl1_ok mixed noinv 2 _ 1 Tryd.func37 rfl Tryd.ntmps37 (by decide) (by kernel_rfl) (Nat.le_of_ble_eq_true rfl)



def p3I : Handler := inlH tab tl1 noinv 2 Tryd.f38 1

set_option maxRecDepth 100000 in
theorem p3_ok : HOk Tryd.prog 38 p3I :=
  inl_ok (tbl := tl1) tab_ok tl1_ok mixed noinv 2 _ 1 Tryd.func38 rfl Tryd.ntmps38 (by decide) (by kernel_rfl) (Nat.le_of_ble_eq_true rfl)



def p4I : Handler := inlH tab tl1 noinv 2 Tryd.f39 1

set_option maxRecDepth 100000 in
theorem p4_ok : HOk Tryd.prog 39 p4I :=
  inl_ok (tbl := tl1) tab_ok tl1_ok mixed noinv 2 _ 1 Tryd.func39 rfl Tryd.ntmps39 (by decide) (by kernel_rfl) (Nat.le_of_ble_eq_true rfl)


def tl2 : Tbl := (10, .gen lettersI) :: (12, .gen columnI) :: (35, .gen cutterI) :: (36, .gen p1I) :: (37, .gen p2I) :: (38, .gen p3I) :: (39, .gen p4I) :: tl1

theorem tl2_ok : TblOk Tryd.prog tl2 := ⟨letters_ok, column_ok, cutter_ok, p1_ok, p2_ok, p3_ok, p4_ok, tl1_ok⟩


def cutI : Handler := inlH tab tl2 (fun _ _ _ => .unroll 8) 2 Tryd.f44 3

set_option maxRecDepth 100000 in
theorem cut_ok : HOk Tryd.prog 44 cutI :=
  inl_ok (tbl := tl2) tab_ok tl2_ok mixed (fun _ _ _ => .unroll 8) 2 _ 3 Tryd.func44 rfl Tryd.ntmps44 (by decide) (by kernel_rfl) (Nat.le_of_ble_eq_true rfl)


def tl3 : Tbl := (44, .gen cutI) :: tl2

theorem tl3_ok : TblOk Tryd.prog tl3 := ⟨cut_ok, tl2_ok⟩


def parseI : Handler := inlH tab tl3 noinv 2 Tryd.f17 1

set_option maxRecDepth 100000 in
theorem parse_ok : HOk Tryd.prog 17 parseI :=
  inl_ok (tbl := tl3) tab_ok tl3_ok mixed noinv 2 _ 1 Tryd.func17 rfl Tryd.ntmps17 (by decide) (by kernel_rfl) (Nat.le_of_ble_eq_true rfl)



def printI : Handler := inlH tab tl3 noinv 2 Tryd.f15 1

set_option maxRecDepth 100000 in
theorem print_ok : HOk Tryd.prog 15 printI :=
  inl_ok (tbl := tl3) tab_ok tl3_ok mixed noinv 2 _ 1 Tryd.func15 rfl Tryd.ntmps15 (by decide) (by kernel_rfl) (Nat.le_of_ble_eq_true rfl)


def tl4 : Tbl := (17, .gen parseI) :: (15, .gen printI) :: tl3

theorem tl4_ok : TblOk Tryd.prog tl4 := ⟨parse_ok, print_ok, tl3_ok⟩


set_option maxRecDepth 100000 in
theorem lives_vc  {R : AV → Prop} (h : (∀ (n1 : Nat), (26 : Int) ≠ (0 : Int) ∧ ((0 : Int) ≤ (2 : Int) ∧ (2 : Int) < (3 : Int)) ∧ n1 = n1 ∧ (26 : Int) ≠ (0 : Int) ∧ (26 : Int) ≠ (0 : Int) ∧ ((0 : Int) ≤ (1 : Int) ∧ (1 : Int) < (3 : Int)) ∧ n1 = n1 ∧ (26 : Int) ≠ (0 : Int) ∧ (26 : Int) ≠ (0 : Int) ∧ ((0 : Int) ≤ (0 : Int) ∧ (0 : Int) < (3 : Int)) ∧ n1 = n1 ∧ (26 : Int) ≠ (0 : Int) ∧ ((0 : Int) ≤ (0 : Int) ∧ (0 : Int) ≤ (3 : Int)) ∧ (3 : Nat) ≤ (3 : Nat) ∧ n1 = n1 ∧ ((0 : Int) ≤ (0 : Int) ∧ (0 : Int) < (3 : Int)) ∧ ((0 : Int) ≤ (1 : Int) ∧ (1 : Int) < (3 : Int)) ∧ ((0 : Int) ≤ (2 : Int) ∧ (2 : Int) < (3 : Int)) ∧ ((0 : Int) ≤ (0 : Int) ∧ (0 : Int) < (3 : Int)) ∧ ((0 : Int) ≤ (1 : Int) ∧ (1 : Int) < (3 : Int)) ∧ ((0 : Int) ≤ (2 : Int) ∧ (2 : Int) < (3 : Int)) ∧ ∀ (n2 n3 : Nat), n3 = n3 ∧ n3 = n3 ∧ ((0 : Int) ≤ (0 : Int) ∧ (0 : Int) < (4 : Int)) ∧ n3 = n3 ∧ n3 = n3 ∧ ((0 : Int) ≤ (1 : Int) ∧ (1 : Int) ≤ (4 : Int)) ∧ n3 = n3 ∧ ((0 : Int) ≤ (1 : Int) ∧ (1 : Int) ≤ (4 : Int)) ∧ (4 : Nat) ≤ (4 : Nat) ∧ n3 = n3 ∧ n3 = n3 ∧ n3 = n3 ∧ ((0 : Int) ≤ (0 : Int) ∧ (0 : Int) < (3 : Int)) ∧ n3 = n3 ∧ n3 = n3 ∧ ((0 : Int) ≤ (1 : Int) ∧ (1 : Int) < (3 : Int)) ∧ n3 = n3 ∧ ((0 : Int) ≤ (1 : Int) ∧ (1 : Int) ≤ (3 : Int)) ∧ n3 = n3 ∧ ((0 : Int) ≤ (1 : Int) ∧ (1 : Int) ≤ (3 : Int)) ∧ (3 : Nat) ≤ (3 : Nat) ∧ n3 = n3 ∧ n3 = n3 ∧ n3 = n3 ∧ ((0 : Int) ≤ (0 : Int) ∧ (0 : Int) < (2 : Int)) ∧ n3 = n3 ∧ n3 = n3 ∧ ((0 : Int) ≤ (1 : Int) ∧ (1 : Int) ≤ (2 : Int)) ∧ n3 = n3 ∧ ((0 : Int) ≤ (1 : Int) ∧ (1 : Int) ≤ (2 : Int)) ∧ (2 : Nat) ≤ (2 : Nat) ∧ n3 = n3 ∧ n3 = n3 ∧ n3 = n3 ∧ ((0 : Int) ≤ (0 : Int) ∧ (0 : Int) < (1 : Int)) ∧ n3 = n3 ∧ n3 = n3 ∧ ((0 : Int) ≤ (1 : Int) ∧ (1 : Int) ≤ (1 : Int)) ∧ n3 = n3 ∧ ((0 : Int) ≤ (1 : Int) ∧ (1 : Int) ≤ (1 : Int)) ∧ (1 : Nat) ≤ (1 : Nat) ∧ n3 = n3 ∧ n3 = n3 ∧ n3 = n3 ∧ ((0 : Int) ≤ (0 : Int) ∧ (0 : Int) ≤ (0 : Int)) ∧ n3 = n3 ∧ ((0 : Int) ≤ (0 : Int) ∧ (0 : Int) ≤ (0 : Int)) ∧ (0 : Nat) ≤ (0 : Nat) ∧ n3 = n3 ∧ ((0 : Int) ≤ (0 : Int) ∧ (0 : Int) < (1 : Int)) ∧ ((0 : Int) ≤ (0 : Int) ∧ (0 : Int) < (1 : Int)) ∧ ((0 : Int) ≤ (0 : Int) ∧ (0 : Int) < (1 : Int)) ∧ ((0 : Int) ≤ (0 : Int) ∧ (0 : Int) < (1 : Int)) ∧ ∀ (n4 n5 : Nat), (1 : Nat) ≤ n5 → ((0 : Int) ≤ (0 : Int) ∧ (0 : Int) < (1 : Int)) ∧ n4 = n4 ∧ (0 : Nat) < n5 ∧ ((0 : Int) ≤ (0 : Int) ∧ (0 : Int) < (1 : Int)) ∧ n2 = n2 ∧ n2 = n2 ∧ ∀ (n7 : Nat), n7 = n7 ∧ ∀ (n8 n9 : Nat), n9 = n9 ∧ n9 = n9 ∧ ((0 : Int) ≤ (0 : Int) ∧ (0 : Int) < (3 : Int)) ∧ n9 = n9 ∧ ((0 : Int) ≤ (0 : Int) ∧ (0 : Int) ≤ (3 : Int)) ∧ n9 = n9 ∧ ((0 : Int) ≤ (0 : Int) ∧ (0 : Int) ≤ (3 : Int)) ∧ (3 : Nat) ≤ (3 : Nat) ∧ n9 = n9 ∧ n9 = n9 ∧ n9 = n9 ∧ ((0 : Int) ≤ (0 : Int) ∧ (0 : Int) < (3 : Int)) ∧ n9 = n9 ∧ n9 = n9 ∧ ((0 : Int) ≤ (1 : Int) ∧ (1 : Int) < (3 : Int)) ∧ n9 = n9 ∧ ((0 : Int) ≤ (1 : Int) ∧ (1 : Int) ≤ (3 : Int)) ∧ n9 = n9 ∧ ((0 : Int) ≤ (1 : Int) ∧ (1 : Int) ≤ (3 : Int)) ∧ (3 : Nat) ≤ (3 : Nat) ∧ n9 = n9 ∧ n9 = n9 ∧ n9 = n9 ∧ ((0 : Int) ≤ (0 : Int) ∧ (0 : Int) < (2 : Int)) ∧ n9 = n9 ∧ ((0 : Int) ≤ (0 : Int) ∧ (0 : Int) ≤ (2 : Int)) ∧ n9 = n9 ∧ ((0 : Int) ≤ (0 : Int) ∧ (0 : Int) ≤ (2 : Int)) ∧ (2 : Nat) ≤ (2 : Nat) ∧ n9 = n9 ∧ n9 = n9 ∧ n9 = n9 ∧ ((0 : Int) ≤ (0 : Int) ∧ (0 : Int) < (2 : Int)) ∧ n9 = n9 ∧ n9 = n9 ∧ ((0 : Int) ≤ (1 : Int) ∧ (1 : Int) < (2 : Int)) ∧ n9 = n9 ∧ n9 = n9 ∧ ((0 : Int) ≤ (2 : Int) ∧ (2 : Int) ≤ (2 : Int)) ∧ n9 = n9 ∧ ((0 : Int) ≤ (2 : Int) ∧ (2 : Int) ≤ (2 : Int)) ∧ (2 : Nat) ≤ (2 : Nat) ∧ n9 = n9 ∧ n9 = n9 ∧ n9 = n9 ∧ ((0 : Int) ≤ (0 : Int) ∧ (0 : Int) ≤ (0 : Int)) ∧ n9 = n9 ∧ ((0 : Int) ≤ (0 : Int) ∧ (0 : Int) ≤ (0 : Int)) ∧ (0 : Nat) ≤ (0 : Nat) ∧ n9 = n9 ∧ ((0 : Int) ≤ (0 : Int) ∧ (0 : Int) < (1 : Int)) ∧ ((0 : Int) ≤ (0 : Int) ∧ (0 : Int) < (2 : Int)) ∧ n8 = n8 ∧ n8 = n8 ∧ ∀ (n10 : Nat), n10 = n10 ∧ ∀ (n11 : Nat), n11 = n11 ∧ n7 = n7 ∧ ∀ (n12 : Nat), n12 = n12 ∧ n12 = n12 ∧ ∀ (n13 : Nat), (26 : Int) ≠ (0 : Int) ∧ ((0 : Int) ≤ (2 : Int) ∧ (2 : Int) < (3 : Int)) ∧ n13 = n13 ∧ (26 : Int) ≠ (0 : Int) ∧ ((0 : Int) ≤ (2 : Int) ∧ (2 : Int) ≤ (3 : Int)) ∧ (3 : Nat) ≤ (3 : Nat) ∧ n13 = n13 ∧ n12 = n12 ∧ (2 : Nat) ≤ (9223372036854775807 : Nat) ∧ n12 = n12 ∧ (3 : Nat) ≤ (9223372036854775807 : Nat) ∧ n12 = n12 ∧ ((0 : Int) ≤ (8 : Int) ∧ (8 : Int) ≤ (36 : Int)) ∧ ((0 : Int) ≤ (7 : Int) ∧ (7 : Int) ≤ (8 : Int)) ∧ (4 : Nat) ≤ (9223372036854775807 : Nat) ∧ n7 = n7 ∧ n11 = n11 ∧ R (AV.v (Value.bool true)))) : LC Tryd.prog 14 [] [] (fun z_ _ => R z_) :=
  lc_of_exec (tbl := tl4) tab_ok tl4_ok mixed noinv 2 _ Tryd.func14 rfl Tryd.ntmps14 (by decide) (by kernel_rfl) (Nat.le_of_ble_eq_true rfl) (@Eq.mpr (execN tab tl4 noinv 2 Tryd.f14.ntmps [] none 0 (body Tryd.f14) (argsT [] 0) [] (post Tryd.f14 tab (retK (fun z_ _ => R z_)))) _ (by kernel_rfl) h)

set_option maxRecDepth 100000 in
theorem lives_lc  : LC Tryd.prog 14 [] [] (fun z_ _ => z_ = .v (.bool true)) :=
  lives_vc  (by
    intros
    simp (config := {decide := true})
    all_goals omega)

def livesH : List AV → Option AV
  | [] => some (.v (.bool true))
  | _ => none

theorem lives_ok : POk Tryd.prog 14 livesH := POk.of_lc (enters_of (c := body Tryd.f14) Tryd.func14 rfl (by kernel_rfl)) (by
  intro args v h
  unfold livesH at h
  split at h
  · cases h; exact lives_lc 
  · cases h)

end Go.Proofs.YtilejaehbgljbaaDoor

