/- Move: the small functions. -/
import Derived.Test.YtbdifnmadaggaaaTab
namespace Go.Proofs.Ytbdifnmadaggaaa
open Go Go.Eng
set_option linter.unusedVariables false

theorem mixed : Try.prog.follows .mixedOrders = true := by kernel_rfl

def rowsF (k : Int) : Bool := decide (k = 1 ∨ k = 2)


set_option maxRecDepth 100000 in
theorem rows_vc (k a c : Int) {R : AV → Prop} (h : (∀ (n1 : Nat), n1 = n1 ∧ br (k == 1) (R (AV.v (Value.bool true))) (n1 = n1 ∧ R (AV.v (Value.bool (k == 2)))))) : LC Try.prog 25 [.agg [.v (.int .i64 k), .v (.int .i64 a), .v (.int .i64 c)]] [] (fun z_ _ => R z_) :=
  lc_of_exec (tbl := []) tab_ok trivial mixed noinv _ Try.func25 rfl Try.ntmps25 (by decide) (by kernel_rfl) (Nat.le_of_ble_eq_true rfl) (Eq.mpr (by kernel_rfl : exec tab [] noinv 0 (body Try.f25) (argsT [.agg [.v (.int .i64 k), .v (.int .i64 a), .v (.int .i64 c)]] 0) [] (post Try.f25 tab (fun z_ _ => R z_)) = (∀ (n1 : Nat), n1 = n1 ∧ br (k == 1) (R (AV.v (Value.bool true))) (n1 = n1 ∧ R (AV.v (Value.bool (k == 2)))))) h)

set_option maxRecDepth 100000 in
theorem rows_lc (k a c : Int) : LC Try.prog 25 [.agg [.v (.int .i64 k), .v (.int .i64 a), .v (.int .i64 c)]] [] (fun z_ _ => z_ = .v (.bool (rowsF k))) :=
  rows_vc k a c (by
    intros
    simp only [true_and, br_iff, AV.v.injEq, Value.bool.injEq, rowsF]
    by_cases h1 : k = 1 <;> by_cases h2 : k = 2 <;> simp_all)

def rowsH : List AV → Option AV
  | [.agg [.v (.int .i64 k), .v (.int .i64 a), .v (.int .i64 c)]] => some (.v (.bool (rowsF k)))
  | _ => none

theorem rows_ok : POk Try.prog 25 rowsH := POk.of_lc (rows_lc default default default).enters (by
  intro args v h
  unfold rowsH at h
  split at h
  · cases h; exact rows_lc _ _ _
  · cases h)


def insF (k : Int) : Bool := decide (k = 1 ∨ k = 3)


set_option maxRecDepth 100000 in
theorem inserts_vc (k a c : Int) {R : AV → Prop} (h : (∀ (n1 : Nat), n1 = n1 ∧ br (k == 1) (R (AV.v (Value.bool true))) (n1 = n1 ∧ R (AV.v (Value.bool (k == 3)))))) : LC Try.prog 35 [.agg [.v (.int .i64 k), .v (.int .i64 a), .v (.int .i64 c)]] [] (fun z_ _ => R z_) :=
  lc_of_exec (tbl := []) tab_ok trivial mixed noinv _ Try.func35 rfl Try.ntmps35 (by decide) (by kernel_rfl) (Nat.le_of_ble_eq_true rfl) (Eq.mpr (by kernel_rfl : exec tab [] noinv 0 (body Try.f35) (argsT [.agg [.v (.int .i64 k), .v (.int .i64 a), .v (.int .i64 c)]] 0) [] (post Try.f35 tab (fun z_ _ => R z_)) = (∀ (n1 : Nat), n1 = n1 ∧ br (k == 1) (R (AV.v (Value.bool true))) (n1 = n1 ∧ R (AV.v (Value.bool (k == 3)))))) h)

set_option maxRecDepth 100000 in
theorem inserts_lc (k a c : Int) : LC Try.prog 35 [.agg [.v (.int .i64 k), .v (.int .i64 a), .v (.int .i64 c)]] [] (fun z_ _ => z_ = .v (.bool (insF k))) :=
  inserts_vc k a c (by
    intros
    simp only [true_and, br_iff, AV.v.injEq, Value.bool.injEq, insF]
    by_cases h1 : k = 1 <;> by_cases h2 : k = 3 <;> simp_all)

def insertsH : List AV → Option AV
  | [.agg [.v (.int .i64 k), .v (.int .i64 a), .v (.int .i64 c)]] => some (.v (.bool (insF k)))
  | _ => none

theorem inserts_ok : POk Try.prog 35 insertsH := POk.of_lc (inserts_lc default default default).enters (by
  intro args v h
  unfold insertsH at h
  split at h
  · cases h; exact inserts_lc _ _ _
  · cases h)


def tb1 : Tbl := [(25, .pure rowsH), (35, .pure insertsH)]

theorem tb1_ok : TblOk Try.prog tb1 := ⟨rows_ok, inserts_ok, trivial⟩

def mostF (k : Int) : Int := if rowsF k then 1048576 else 16384


set_option maxRecDepth 100000 in
theorem most_vc (k a c : Int) {R : AV → Prop} (h : (∀ (n1 : Nat), n1 = n1 ∧ br (rowsF k) (R (AV.v (Value.int IntKind.i64 1048576))) (R (AV.v (Value.int IntKind.i64 16384))))) : LC Try.prog 31 [.agg [.v (.int .i64 k), .v (.int .i64 a), .v (.int .i64 c)]] [] (fun z_ _ => R z_) :=
  lc_of_exec (tbl := tb1) tab_ok tb1_ok mixed noinv _ Try.func31 rfl Try.ntmps31 (by decide) (by kernel_rfl) (Nat.le_of_ble_eq_true rfl) (Eq.mpr (by kernel_rfl : exec tab tb1 noinv 0 (body Try.f31) (argsT [.agg [.v (.int .i64 k), .v (.int .i64 a), .v (.int .i64 c)]] 0) [] (post Try.f31 tab (fun z_ _ => R z_)) = (∀ (n1 : Nat), n1 = n1 ∧ br (rowsF k) (R (AV.v (Value.int IntKind.i64 1048576))) (R (AV.v (Value.int IntKind.i64 16384))))) h)

set_option maxRecDepth 100000 in
theorem most_lc (k a c : Int) : LC Try.prog 31 [.agg [.v (.int .i64 k), .v (.int .i64 a), .v (.int .i64 c)]] [] (fun z_ _ => z_ = .v (.int .i64 (mostF k))) :=
  most_vc k a c (by
    intros
    simp only [true_and, br_iff, AV.v.injEq, Value.int.injEq, mostF]
    cases rowsF k <;> simp)

def mostH : List AV → Option AV
  | [.agg [.v (.int .i64 k), .v (.int .i64 a), .v (.int .i64 c)]] => some (.v (.int .i64 (mostF k)))
  | _ => none

theorem most_ok : POk Try.prog 31 mostH := POk.of_lc (most_lc default default default).enters (by
  intro args v h
  unfold mostH at h
  split at h
  · cases h; exact most_lc _ _ _
  · cases h)


def tb2 : Tbl := (31, .pure mostH) :: tb1

theorem tb2_ok : TblOk Try.prog tb2 := ⟨most_ok, tb1_ok⟩

def ifB (c : Bool) (a b : Int) : Int := if c then a else b

def rightF (k a n : Int) : Bool := decide (1 ≤ k ∧ k ≤ 4 ∧ 1 ≤ a ∧ a ≤ mostF k ∧ 1 ≤ n ∧ n ≤ IntKind.i64.wrap (IntKind.i64.wrap (mostF k - a) + 1))


set_option maxRecDepth 100000 in
theorem check_vc (k a c : Int) {R : AV → Prop} (h : (∀ (n1 : Nat), n1 = n1 ∧ br (decide (k < 1)) (R (AV.v (Value.int IntKind.i64 2))) (n1 = n1 ∧ br (decide (k > 4)) (R (AV.v (Value.int IntKind.i64 2))) (n1 = n1 ∧ br (decide (a < 1)) (R (AV.v (Value.int IntKind.i64 2))) (n1 = n1 ∧ n1 = n1 ∧ br (decide (a > mostF k)) (R (AV.v (Value.int IntKind.i64 2))) (n1 = n1 ∧ br (decide (c < 1)) (R (AV.v (Value.int IntKind.i64 2))) (n1 = n1 ∧ n1 = n1 ∧ n1 = n1 ∧ br (decide (c > IntKind.i64.wrap (IntKind.i64.wrap (mostF k - a) + 1))) (R (AV.v (Value.int IntKind.i64 2))) (R (AV.v (Value.int IntKind.i64 0)))))))))) : LC Try.prog 14 [.agg [.v (.int .i64 k), .v (.int .i64 a), .v (.int .i64 c)]] [] (fun z_ _ => R z_) :=
  lc_of_exec (tbl := tb2) tab_ok tb2_ok mixed noinv _ Try.func14 rfl Try.ntmps14 (by decide) (by kernel_rfl) (Nat.le_of_ble_eq_true rfl) (Eq.mpr (by kernel_rfl : exec tab tb2 noinv 0 (body Try.f14) (argsT [.agg [.v (.int .i64 k), .v (.int .i64 a), .v (.int .i64 c)]] 0) [] (post Try.f14 tab (fun z_ _ => R z_)) = (∀ (n1 : Nat), n1 = n1 ∧ br (decide (k < 1)) (R (AV.v (Value.int IntKind.i64 2))) (n1 = n1 ∧ br (decide (k > 4)) (R (AV.v (Value.int IntKind.i64 2))) (n1 = n1 ∧ br (decide (a < 1)) (R (AV.v (Value.int IntKind.i64 2))) (n1 = n1 ∧ n1 = n1 ∧ br (decide (a > mostF k)) (R (AV.v (Value.int IntKind.i64 2))) (n1 = n1 ∧ br (decide (c < 1)) (R (AV.v (Value.int IntKind.i64 2))) (n1 = n1 ∧ n1 = n1 ∧ n1 = n1 ∧ br (decide (c > IntKind.i64.wrap (IntKind.i64.wrap (mostF k - a) + 1))) (R (AV.v (Value.int IntKind.i64 2))) (R (AV.v (Value.int IntKind.i64 0)))))))))) h)

set_option maxRecDepth 100000 in
theorem check_lc (k a c : Int) : LC Try.prog 14 [.agg [.v (.int .i64 k), .v (.int .i64 a), .v (.int .i64 c)]] [] (fun z_ _ => z_ = .v (.int .i64 (ifB (rightF k a c) 0 2))) :=
  check_vc k a c (by
    intros
    simp only [true_and, br_iff, AV.v.injEq, Value.int.injEq, ifB, rightF, decide_eq_true_eq, decide_eq_false_iff_not]
    repeat' (first | (refine ⟨?_, ?_⟩) | intro _)
    all_goals (first | rw [if_pos (by omega)] | rw [if_neg (by omega)]))

def checkH : List AV → Option AV
  | [.agg [.v (.int .i64 k), .v (.int .i64 a), .v (.int .i64 c)]] => some (.v (.int .i64 (ifB (rightF k a c) 0 2)))
  | _ => none

theorem check_ok : POk Try.prog 14 checkH := POk.of_lc (check_lc default default default).enters (by
  intro args v h
  unfold checkH at h
  split at h
  · cases h; exact check_lc _ _ _
  · cases h)

end Go.Proofs.Ytbdifnmadaggaaa

