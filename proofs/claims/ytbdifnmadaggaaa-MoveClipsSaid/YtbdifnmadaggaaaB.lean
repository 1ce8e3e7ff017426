/- Move: places, rectangles, and the document's own. -/
import Derived.Test.YtbdifnmadaggaaaA
import Derived.IntWalk
namespace Go.Proofs.Ytbdifnmadaggaaa
open Go Go.Eng
set_option linter.unusedVariables false
set_option linter.unusedSimpArgs false

theorem w64 {x : Int} (h : -9223372036854775808 ≤ x ∧ x ≤ 9223372036854775807) : IntKind.i64.wrap x = x := IntWalk.i64_in _ h

def okP (r q : Int) : Bool := decide (1 ≤ r ∧ r ≤ 1048576 ∧ 1 ≤ q ∧ q ≤ 16384)


set_option maxRecDepth 100000 in
theorem is_vc (r q : Int) {R : AV → Prop} (h : (∀ (n1 : Nat), n1 = n1 ∧ br (decide (r ≥ 1)) (n1 = n1 ∧ br (decide (r ≤ 1048576)) (n1 = n1 ∧ br (decide (q ≥ 1)) (n1 = n1 ∧ R (AV.v (Value.bool (decide (q ≤ 16384))))) (R (AV.v (Value.bool false)))) (R (AV.v (Value.bool false)))) (R (AV.v (Value.bool false))))) : LC Try.prog 36 [.agg [.v (.int .i64 r), .v (.int .i64 q)]] [] (fun z_ _ => R z_) :=
  lc_of_exec (tbl := []) tab_ok trivial mixed noinv _ Try.func36 rfl Try.ntmps36 (by decide) (by kernel_rfl) (Nat.le_of_ble_eq_true rfl) (Eq.mpr (by kernel_rfl : exec tab [] noinv 0 (body Try.f36) (argsT [.agg [.v (.int .i64 r), .v (.int .i64 q)]] 0) [] (post Try.f36 tab (fun z_ _ => R z_)) = (∀ (n1 : Nat), n1 = n1 ∧ br (decide (r ≥ 1)) (n1 = n1 ∧ br (decide (r ≤ 1048576)) (n1 = n1 ∧ br (decide (q ≥ 1)) (n1 = n1 ∧ R (AV.v (Value.bool (decide (q ≤ 16384))))) (R (AV.v (Value.bool false)))) (R (AV.v (Value.bool false)))) (R (AV.v (Value.bool false))))) h)

set_option maxRecDepth 100000 in
theorem is_lc (r q : Int) : LC Try.prog 36 [.agg [.v (.int .i64 r), .v (.int .i64 q)]] [] (fun z_ _ => z_ = .v (.bool (okP r q))) :=
  is_vc r q (by
    intros
    simp only [true_and, and_true, br_iff, AV.v.injEq, AV.tup.injEq, AV.agg.injEq, List.cons.injEq, Value.bool.injEq, Value.int.injEq, decide_eq_true_eq, decide_eq_false_iff_not, okP]
    repeat' (first | (refine ⟨?_, ?_⟩) | intro _)
    all_goals (first | trivial | omega | (simp_all; done) | (simp_all; omega) | (rw [Bool.eq_iff_iff]; simp (config := {failIfUnchanged := false}) only [decide_eq_true_eq, Bool.false_eq_true, false_iff, iff_false, true_iff, iff_true, Bool.and_eq_true, Bool.or_eq_true]; omega) | (simp_all; rw [Bool.eq_iff_iff]; simp; omega)))

def isH : List AV → Option AV
  | [.agg [.v (.int .i64 r), .v (.int .i64 q)]] => some (.v (.bool (okP r q)))
  | _ => none

theorem is_ok : POk Try.prog 36 isH := POk.of_lc (is_lc default default).enters (by
  intro args v h
  unfold isH at h
  split at h
  · cases h; exact is_lc _ _
  · cases h)



set_option maxRecDepth 100000 in
theorem rPlace_vc (r q : Int) {R : AV → Prop} (h : (∀ (n1 : Nat), n1 = n1 ∧ br (decide (r ≥ 1)) (n1 = n1 ∧ br (decide (r ≤ 1048576)) (n1 = n1 ∧ br (decide (q ≥ 1)) (n1 = n1 ∧ R (AV.v (Value.bool (decide (q ≤ 16384))))) (R (AV.v (Value.bool false)))) (R (AV.v (Value.bool false)))) (R (AV.v (Value.bool false))))) : LC Try.prog 28 [.agg [.v (.int .i64 r), .v (.int .i64 q)]] [] (fun z_ _ => R z_) :=
  lc_of_exec (tbl := []) tab_ok trivial mixed noinv _ Try.func28 rfl Try.ntmps28 (by decide) (by kernel_rfl) (Nat.le_of_ble_eq_true rfl) (Eq.mpr (by kernel_rfl : exec tab [] noinv 0 (body Try.f28) (argsT [.agg [.v (.int .i64 r), .v (.int .i64 q)]] 0) [] (post Try.f28 tab (fun z_ _ => R z_)) = (∀ (n1 : Nat), n1 = n1 ∧ br (decide (r ≥ 1)) (n1 = n1 ∧ br (decide (r ≤ 1048576)) (n1 = n1 ∧ br (decide (q ≥ 1)) (n1 = n1 ∧ R (AV.v (Value.bool (decide (q ≤ 16384))))) (R (AV.v (Value.bool false)))) (R (AV.v (Value.bool false)))) (R (AV.v (Value.bool false))))) h)

set_option maxRecDepth 100000 in
theorem rPlace_lc (r q : Int) : LC Try.prog 28 [.agg [.v (.int .i64 r), .v (.int .i64 q)]] [] (fun z_ _ => z_ = .v (.bool (okP r q))) :=
  rPlace_vc r q (by
    intros
    simp only [true_and, and_true, br_iff, AV.v.injEq, AV.tup.injEq, AV.agg.injEq, List.cons.injEq, Value.bool.injEq, Value.int.injEq, decide_eq_true_eq, decide_eq_false_iff_not, okP]
    repeat' (first | (refine ⟨?_, ?_⟩) | intro _)
    all_goals (first | trivial | omega | (simp_all; done) | (simp_all; omega) | (rw [Bool.eq_iff_iff]; simp (config := {failIfUnchanged := false}) only [decide_eq_true_eq, Bool.false_eq_true, false_iff, iff_false, true_iff, iff_true, Bool.and_eq_true, Bool.or_eq_true]; omega) | (simp_all; rw [Bool.eq_iff_iff]; simp; omega)))

def rPlaceH : List AV → Option AV
  | [.agg [.v (.int .i64 r), .v (.int .i64 q)]] => some (.v (.bool (okP r q)))
  | _ => none

theorem rPlace_ok : POk Try.prog 28 rPlaceH := POk.of_lc (rPlace_lc default default).enters (by
  intro args v h
  unfold rPlaceH at h
  split at h
  · cases h; exact rPlace_lc _ _
  · cases h)


def tb3 : Tbl := (36, .pure isH) :: (28, .pure rPlaceH) :: (14, .pure checkH) :: tb2

theorem tb3_ok : TblOk Try.prog tb3 := ⟨is_ok, rPlace_ok, check_ok, tb2_ok⟩

def okR (t l b r : Int) : Bool := okP t l && okP b r && decide (t ≤ b) && decide (l ≤ r)


set_option maxRecDepth 100000 in
theorem of_vc (a b c d : Int) {R : AV → Prop} (h : (∀ (n1 n2 n3 : Nat), n1 = n1 ∧ br (!okP a b) (n3 = n3 ∧ n3 = n3 ∧ R (AV.tup [AV.agg [AV.v (Value.int IntKind.i64 0), AV.v (Value.int IntKind.i64 0), AV.v (Value.int IntKind.i64 0), AV.v (Value.int IntKind.i64 0)], AV.v (Value.int IntKind.i64 2)])) (n2 = n2 ∧ br (!okP c d) (n3 = n3 ∧ n3 = n3 ∧ R (AV.tup [AV.agg [AV.v (Value.int IntKind.i64 0), AV.v (Value.int IntKind.i64 0), AV.v (Value.int IntKind.i64 0), AV.v (Value.int IntKind.i64 0)], AV.v (Value.int IntKind.i64 2)])) (n1 = n1 ∧ n2 = n2 ∧ n1 = n1 ∧ n2 = n2 ∧ n1 = n1 ∧ n2 = n2 ∧ n1 = n1 ∧ n2 = n2 ∧ n3 = n3 ∧ n3 = n3 ∧ R (AV.tup [AV.agg [AV.v (Value.int IntKind.i64 (if c < a then c else a)), AV.v (Value.int IntKind.i64 (if d < b then d else b)), AV.v (Value.int IntKind.i64 (if c > a then c else a)), AV.v (Value.int IntKind.i64 (if d > b then d else b))], AV.v (Value.int IntKind.i64 0)]))))) : LC Try.prog 24 [.agg [.v (.int .i64 a), .v (.int .i64 b)], .agg [.v (.int .i64 c), .v (.int .i64 d)]] [] (fun z_ _ => R z_) :=
  lc_of_exec (tbl := tb3) tab_ok tb3_ok mixed noinv _ Try.func24 rfl Try.ntmps24 (by decide) (by kernel_rfl) (Nat.le_of_ble_eq_true rfl) (Eq.mpr (by kernel_rfl : exec tab tb3 noinv 0 (body Try.f24) (argsT [.agg [.v (.int .i64 a), .v (.int .i64 b)], .agg [.v (.int .i64 c), .v (.int .i64 d)]] 0) [] (post Try.f24 tab (fun z_ _ => R z_)) = (∀ (n1 n2 n3 : Nat), n1 = n1 ∧ br (!okP a b) (n3 = n3 ∧ n3 = n3 ∧ R (AV.tup [AV.agg [AV.v (Value.int IntKind.i64 0), AV.v (Value.int IntKind.i64 0), AV.v (Value.int IntKind.i64 0), AV.v (Value.int IntKind.i64 0)], AV.v (Value.int IntKind.i64 2)])) (n2 = n2 ∧ br (!okP c d) (n3 = n3 ∧ n3 = n3 ∧ R (AV.tup [AV.agg [AV.v (Value.int IntKind.i64 0), AV.v (Value.int IntKind.i64 0), AV.v (Value.int IntKind.i64 0), AV.v (Value.int IntKind.i64 0)], AV.v (Value.int IntKind.i64 2)])) (n1 = n1 ∧ n2 = n2 ∧ n1 = n1 ∧ n2 = n2 ∧ n1 = n1 ∧ n2 = n2 ∧ n1 = n1 ∧ n2 = n2 ∧ n3 = n3 ∧ n3 = n3 ∧ R (AV.tup [AV.agg [AV.v (Value.int IntKind.i64 (if c < a then c else a)), AV.v (Value.int IntKind.i64 (if d < b then d else b)), AV.v (Value.int IntKind.i64 (if c > a then c else a)), AV.v (Value.int IntKind.i64 (if d > b then d else b))], AV.v (Value.int IntKind.i64 0)]))))) h)

set_option maxRecDepth 100000 in
theorem of_lc (a b c d : Int) : LC Try.prog 24 [.agg [.v (.int .i64 a), .v (.int .i64 b)], .agg [.v (.int .i64 c), .v (.int .i64 d)]] [] (fun z_ _ => z_ = .tup [.agg [.v (.int .i64 (ifB (okP a b && okP c d) (min a c) 0)), .v (.int .i64 (ifB (okP a b && okP c d) (min b d) 0)), .v (.int .i64 (ifB (okP a b && okP c d) (max a c) 0)), .v (.int .i64 (ifB (okP a b && okP c d) (max b d) 0))], .v (.int .i64 (ifB (okP a b && okP c d) 0 2))]) :=
  of_vc a b c d (by
    intros
    simp only [true_and, br_iff, AV.v.injEq, AV.tup.injEq, AV.agg.injEq, List.cons.injEq, Value.int.injEq, and_true]
    cases okP a b <;> cases okP c d <;> simp [ifB] <;> omega)

def ofH : List AV → Option AV
  | [.agg [.v (.int .i64 a), .v (.int .i64 b)], .agg [.v (.int .i64 c), .v (.int .i64 d)]] => some (.tup [.agg [.v (.int .i64 (ifB (okP a b && okP c d) (min a c) 0)), .v (.int .i64 (ifB (okP a b && okP c d) (min b d) 0)), .v (.int .i64 (ifB (okP a b && okP c d) (max a c) 0)), .v (.int .i64 (ifB (okP a b && okP c d) (max b d) 0))], .v (.int .i64 (ifB (okP a b && okP c d) 0 2))])
  | _ => none

theorem of_ok : POk Try.prog 24 ofH := POk.of_lc (of_lc default default default default).enters (by
  intro args v h
  unfold ofH at h
  split at h
  · cases h; exact of_lc _ _ _ _
  · cases h)


def tb4 : Tbl := (24, .pure ofH) :: tb3

theorem tb4_ok : TblOk Try.prog tb4 := ⟨of_ok, tb3_ok⟩


set_option maxRecDepth 100000 in
theorem pcheck_vc (t l b r : Int) {R : AV → Prop} (h : (∀ (n1 : Nat), n1 = n1 ∧ n1 = n1 ∧ n1 = n1 ∧ n1 = n1 ∧ ∀ (n2 : Nat), n2 = n2 ∧ br (ifB (okP t l && okP b r) 0 2 != 0) (R (AV.v (Value.int IntKind.i64 2))) (n2 = n2 ∧ n1 = n1 ∧ br (!(ifB (okP t l && okP b r) (min t b) 0 == t && (ifB (okP t l && okP b r) (min l r) 0 == l && (ifB (okP t l && okP b r) (max t b) 0 == b && (ifB (okP t l && okP b r) (max l r) 0 == r && true))))) (R (AV.v (Value.int IntKind.i64 2))) (R (AV.v (Value.int IntKind.i64 0)))))) : LC Try.prog 19 [.agg [.v (.int .i64 t), .v (.int .i64 l), .v (.int .i64 b), .v (.int .i64 r)]] [] (fun z_ _ => R z_) :=
  lc_of_exec (tbl := tb4) tab_ok tb4_ok mixed noinv _ Try.func19 rfl Try.ntmps19 (by decide) (by kernel_rfl) (Nat.le_of_ble_eq_true rfl) (Eq.mpr (by kernel_rfl : exec tab tb4 noinv 0 (body Try.f19) (argsT [.agg [.v (.int .i64 t), .v (.int .i64 l), .v (.int .i64 b), .v (.int .i64 r)]] 0) [] (post Try.f19 tab (fun z_ _ => R z_)) = (∀ (n1 : Nat), n1 = n1 ∧ n1 = n1 ∧ n1 = n1 ∧ n1 = n1 ∧ ∀ (n2 : Nat), n2 = n2 ∧ br (ifB (okP t l && okP b r) 0 2 != 0) (R (AV.v (Value.int IntKind.i64 2))) (n2 = n2 ∧ n1 = n1 ∧ br (!(ifB (okP t l && okP b r) (min t b) 0 == t && (ifB (okP t l && okP b r) (min l r) 0 == l && (ifB (okP t l && okP b r) (max t b) 0 == b && (ifB (okP t l && okP b r) (max l r) 0 == r && true))))) (R (AV.v (Value.int IntKind.i64 2))) (R (AV.v (Value.int IntKind.i64 0)))))) h)

set_option maxRecDepth 100000 in
theorem pcheck_lc (t l b r : Int) : LC Try.prog 19 [.agg [.v (.int .i64 t), .v (.int .i64 l), .v (.int .i64 b), .v (.int .i64 r)]] [] (fun z_ _ => z_ = .v (.int .i64 (ifB (okR t l b r) 0 2))) :=
  pcheck_vc t l b r (by
    intros
    simp only [true_and, br_iff, AV.v.injEq, Value.int.injEq, okR]
    cases okP t l <;> cases okP b r <;> simp [ifB] <;> (repeat' (first | (refine ⟨?_, ?_⟩) | intro _)) <;> (first | omega | skip)
    all_goals simp_all
    all_goals omega)

def pcheckH : List AV → Option AV
  | [.agg [.v (.int .i64 t), .v (.int .i64 l), .v (.int .i64 b), .v (.int .i64 r)]] => some (.v (.int .i64 (ifB (okR t l b r) 0 2)))
  | _ => none

theorem pcheck_ok : POk Try.prog 19 pcheckH := POk.of_lc (pcheck_lc default default default default).enters (by
  intro args v h
  unfold pcheckH at h
  split at h
  · cases h; exact pcheck_lc _ _ _ _
  · cases h)


def tb5 : Tbl := (19, .pure pcheckH) :: tb4

theorem tb5_ok : TblOk Try.prog tb5 := ⟨pcheck_ok, tb4_ok⟩

def inF (t l b r y x : Int) : Bool := okR t l b r && decide (t ≤ y ∧ y ≤ b ∧ l ≤ x ∧ x ≤ r)


set_option maxRecDepth 100000 in
theorem pin_vc (t l b r y x : Int) {R : AV → Prop} (h : (∀ (n1 n2 : Nat), n1 = n1 ∧ br (ifB (okR t l b r) 0 2 == 0) (n2 = n2 ∧ n1 = n1 ∧ br (decide (y ≥ t)) (n2 = n2 ∧ n1 = n1 ∧ br (decide (y ≤ b)) (n2 = n2 ∧ n1 = n1 ∧ br (decide (x ≥ l)) (n2 = n2 ∧ n1 = n1 ∧ R (AV.v (Value.bool (decide (x ≤ r))))) (R (AV.v (Value.bool false)))) (R (AV.v (Value.bool false)))) (R (AV.v (Value.bool false)))) (R (AV.v (Value.bool false))))) : LC Try.prog 18 [.agg [.v (.int .i64 t), .v (.int .i64 l), .v (.int .i64 b), .v (.int .i64 r)], .agg [.v (.int .i64 y), .v (.int .i64 x)]] [] (fun z_ _ => R z_) :=
  lc_of_exec (tbl := tb5) tab_ok tb5_ok mixed noinv _ Try.func18 rfl Try.ntmps18 (by decide) (by kernel_rfl) (Nat.le_of_ble_eq_true rfl) (Eq.mpr (by kernel_rfl : exec tab tb5 noinv 0 (body Try.f18) (argsT [.agg [.v (.int .i64 t), .v (.int .i64 l), .v (.int .i64 b), .v (.int .i64 r)], .agg [.v (.int .i64 y), .v (.int .i64 x)]] 0) [] (post Try.f18 tab (fun z_ _ => R z_)) = (∀ (n1 n2 : Nat), n1 = n1 ∧ br (ifB (okR t l b r) 0 2 == 0) (n2 = n2 ∧ n1 = n1 ∧ br (decide (y ≥ t)) (n2 = n2 ∧ n1 = n1 ∧ br (decide (y ≤ b)) (n2 = n2 ∧ n1 = n1 ∧ br (decide (x ≥ l)) (n2 = n2 ∧ n1 = n1 ∧ R (AV.v (Value.bool (decide (x ≤ r))))) (R (AV.v (Value.bool false)))) (R (AV.v (Value.bool false)))) (R (AV.v (Value.bool false)))) (R (AV.v (Value.bool false))))) h)

set_option maxRecDepth 100000 in
theorem pin_lc (t l b r y x : Int) : LC Try.prog 18 [.agg [.v (.int .i64 t), .v (.int .i64 l), .v (.int .i64 b), .v (.int .i64 r)], .agg [.v (.int .i64 y), .v (.int .i64 x)]] [] (fun z_ _ => z_ = .v (.bool (inF t l b r y x))) :=
  pin_vc t l b r y x (by
    intros
    simp only [true_and, and_true, br_iff, AV.v.injEq, AV.tup.injEq, AV.agg.injEq, List.cons.injEq, Value.bool.injEq, Value.int.injEq, decide_eq_true_eq, decide_eq_false_iff_not, ifB, inF]
    repeat' (first | (refine ⟨?_, ?_⟩) | intro _)
    all_goals (first | trivial | omega | (simp_all; done) | (simp_all; omega) | (rw [Bool.eq_iff_iff]; simp (config := {failIfUnchanged := false}) only [decide_eq_true_eq, Bool.false_eq_true, false_iff, iff_false, true_iff, iff_true, Bool.and_eq_true, Bool.or_eq_true]; omega) | (simp_all; rw [Bool.eq_iff_iff]; simp; omega)))

def pinH : List AV → Option AV
  | [.agg [.v (.int .i64 t), .v (.int .i64 l), .v (.int .i64 b), .v (.int .i64 r)], .agg [.v (.int .i64 y), .v (.int .i64 x)]] => some (.v (.bool (inF t l b r y x)))
  | _ => none

theorem pin_ok : POk Try.prog 18 pinH := POk.of_lc (pin_lc default default default default default default).enters (by
  intro args v h
  unfold pinH at h
  split at h
  · cases h; exact pin_lc _ _ _ _ _ _
  · cases h)


def areaF (t l b r : Int) : Int := ifB (okR t l b r) ((b - t + 1) * (r - l + 1)) 0

theorem okR_b {t l b r : Int} (h : okR t l b r = true) : 1 ≤ t ∧ t ≤ b ∧ b ≤ 1048576 ∧ 1 ≤ l ∧ l ≤ r ∧ r ≤ 16384 := by
  simp only [okR, okP, Bool.and_eq_true, decide_eq_true_eq] at h; omega

theorem area_w {t l b r : Int} (h : okR t l b r = true) : IntKind.i64.wrap (IntKind.i64.wrap (IntKind.i64.wrap (b - t) + 1) * IntKind.i64.wrap (IntKind.i64.wrap (r - l) + 1)) = (b - t + 1) * (r - l + 1) := by
  have := okR_b h
  rw [w64 (x := b - t) (by omega), w64 (x := r - l) (by omega), w64 (x := b - t + 1) (by omega), w64 (x := r - l + 1) (by omega)]
  have h1 : 0 ≤ (b - t + 1) * (r - l + 1) := Int.mul_nonneg (by omega) (by omega)
  have h2 : (b - t + 1) * (r - l + 1) ≤ 1048576 * 16384 := Int.mul_le_mul (by omega) (by omega) (by omega) (by omega)
  exact w64 (by omega)


set_option maxRecDepth 100000 in
theorem parea_vc (t l b r : Int) {R : AV → Prop} (h : (∀ (n1 : Nat), n1 = n1 ∧ br (ifB (okR t l b r) 0 2 != 0) (R (AV.tup [AV.v (Value.int IntKind.i64 0), AV.v (Value.int IntKind.i64 2)])) (n1 = n1 ∧ n1 = n1 ∧ n1 = n1 ∧ n1 = n1 ∧ R (AV.tup [AV.v (Value.int IntKind.i64 (IntKind.i64.wrap (IntKind.i64.wrap (IntKind.i64.wrap (b - t) + 1) * IntKind.i64.wrap (IntKind.i64.wrap (r - l) + 1)))), AV.v (Value.int IntKind.i64 0)])))) : LC Try.prog 23 [.agg [.v (.int .i64 t), .v (.int .i64 l), .v (.int .i64 b), .v (.int .i64 r)]] [] (fun z_ _ => R z_) :=
  lc_of_exec (tbl := tb5) tab_ok tb5_ok mixed noinv _ Try.func23 rfl Try.ntmps23 (by decide) (by kernel_rfl) (Nat.le_of_ble_eq_true rfl) (Eq.mpr (by kernel_rfl : exec tab tb5 noinv 0 (body Try.f23) (argsT [.agg [.v (.int .i64 t), .v (.int .i64 l), .v (.int .i64 b), .v (.int .i64 r)]] 0) [] (post Try.f23 tab (fun z_ _ => R z_)) = (∀ (n1 : Nat), n1 = n1 ∧ br (ifB (okR t l b r) 0 2 != 0) (R (AV.tup [AV.v (Value.int IntKind.i64 0), AV.v (Value.int IntKind.i64 2)])) (n1 = n1 ∧ n1 = n1 ∧ n1 = n1 ∧ n1 = n1 ∧ R (AV.tup [AV.v (Value.int IntKind.i64 (IntKind.i64.wrap (IntKind.i64.wrap (IntKind.i64.wrap (b - t) + 1) * IntKind.i64.wrap (IntKind.i64.wrap (r - l) + 1)))), AV.v (Value.int IntKind.i64 0)])))) h)

set_option maxRecDepth 100000 in
theorem parea_lc (t l b r : Int) : LC Try.prog 23 [.agg [.v (.int .i64 t), .v (.int .i64 l), .v (.int .i64 b), .v (.int .i64 r)]] [] (fun z_ _ => z_ = .tup [.v (.int .i64 (areaF t l b r)), .v (.int .i64 (ifB (okR t l b r) 0 2))]) :=
  parea_vc t l b r (by
    intros
    simp only [true_and, br_iff, AV.v.injEq, AV.tup.injEq, List.cons.injEq, Value.int.injEq, and_true, areaF]
    cases h : okR t l b r <;> simp [ifB, area_w, h])

def pareaH : List AV → Option AV
  | [.agg [.v (.int .i64 t), .v (.int .i64 l), .v (.int .i64 b), .v (.int .i64 r)]] => some (.tup [.v (.int .i64 (areaF t l b r)), .v (.int .i64 (ifB (okR t l b r) 0 2))])
  | _ => none

theorem parea_ok : POk Try.prog 23 pareaH := POk.of_lc (parea_lc default default default default).enters (by
  intro args v h
  unfold pareaH at h
  split at h
  · cases h; exact parea_lc _ _ _ _
  · cases h)



set_option maxRecDepth 100000 in
theorem rRows_vc (k a c : Int) {R : AV → Prop} (h : (∀ (n1 : Nat), n1 = n1 ∧ br (k == 1) (R (AV.v (Value.bool true))) (n1 = n1 ∧ R (AV.v (Value.bool (k == 2)))))) : LC Try.prog 29 [.agg [.v (.int .i64 k), .v (.int .i64 a), .v (.int .i64 c)]] [] (fun z_ _ => R z_) :=
  lc_of_exec (tbl := []) tab_ok trivial mixed noinv _ Try.func29 rfl Try.ntmps29 (by decide) (by kernel_rfl) (Nat.le_of_ble_eq_true rfl) (Eq.mpr (by kernel_rfl : exec tab [] noinv 0 (body Try.f29) (argsT [.agg [.v (.int .i64 k), .v (.int .i64 a), .v (.int .i64 c)]] 0) [] (post Try.f29 tab (fun z_ _ => R z_)) = (∀ (n1 : Nat), n1 = n1 ∧ br (k == 1) (R (AV.v (Value.bool true))) (n1 = n1 ∧ R (AV.v (Value.bool (k == 2)))))) h)

set_option maxRecDepth 100000 in
theorem rRows_lc (k a c : Int) : LC Try.prog 29 [.agg [.v (.int .i64 k), .v (.int .i64 a), .v (.int .i64 c)]] [] (fun z_ _ => z_ = .v (.bool (rowsF k))) :=
  rRows_vc k a c (by
    intros
    simp only [true_and, br_iff, AV.v.injEq, Value.bool.injEq, rowsF]
    by_cases h1 : k = 1 <;> by_cases h2 : k = 2 <;> simp_all)

def rRowsH : List AV → Option AV
  | [.agg [.v (.int .i64 k), .v (.int .i64 a), .v (.int .i64 c)]] => some (.v (.bool (rowsF k)))
  | _ => none

theorem rRows_ok : POk Try.prog 29 rRowsH := POk.of_lc (rRows_lc default default default).enters (by
  intro args v h
  unfold rRowsH at h
  split at h
  · cases h; exact rRows_lc _ _ _
  · cases h)


def tb6 : Tbl := (18, .pure pinH) :: (23, .pure pareaH) :: (29, .pure rRowsH) :: tb5

theorem tb6_ok : TblOk Try.prog tb6 := ⟨pin_ok, parea_ok, rRows_ok, tb5_ok⟩


set_option maxRecDepth 100000 in
theorem rmost_vc (k a c : Int) {R : AV → Prop} (h : (∀ (n1 : Nat), n1 = n1 ∧ br (rowsF k) (R (AV.v (Value.int IntKind.i64 1048576))) (R (AV.v (Value.int IntKind.i64 16384))))) : LC Try.prog 37 [.agg [.v (.int .i64 k), .v (.int .i64 a), .v (.int .i64 c)]] [] (fun z_ _ => R z_) :=
  lc_of_exec (tbl := tb6) tab_ok tb6_ok mixed noinv _ Try.func37 rfl Try.ntmps37 (by decide) (by kernel_rfl) (Nat.le_of_ble_eq_true rfl) (Eq.mpr (by kernel_rfl : exec tab tb6 noinv 0 (body Try.f37) (argsT [.agg [.v (.int .i64 k), .v (.int .i64 a), .v (.int .i64 c)]] 0) [] (post Try.f37 tab (fun z_ _ => R z_)) = (∀ (n1 : Nat), n1 = n1 ∧ br (rowsF k) (R (AV.v (Value.int IntKind.i64 1048576))) (R (AV.v (Value.int IntKind.i64 16384))))) h)

set_option maxRecDepth 100000 in
theorem rmost_lc (k a c : Int) : LC Try.prog 37 [.agg [.v (.int .i64 k), .v (.int .i64 a), .v (.int .i64 c)]] [] (fun z_ _ => z_ = .v (.int .i64 (mostF k))) :=
  rmost_vc k a c (by
    intros
    simp only [true_and, br_iff, AV.v.injEq, Value.int.injEq, mostF]
    cases rowsF k <;> simp)

def rmostH : List AV → Option AV
  | [.agg [.v (.int .i64 k), .v (.int .i64 a), .v (.int .i64 c)]] => some (.v (.int .i64 (mostF k)))
  | _ => none

theorem rmost_ok : POk Try.prog 37 rmostH := POk.of_lc (rmost_lc default default default).enters (by
  intro args v h
  unfold rmostH at h
  split at h
  · cases h; exact rmost_lc _ _ _
  · cases h)


def tb7 : Tbl := (37, .pure rmostH) :: tb6

theorem tb7_ok : TblOk Try.prog tb7 := ⟨rmost_ok, tb6_ok⟩


set_option maxRecDepth 100000 in
theorem rRight_vc (k a c : Int) {R : AV → Prop} (h : (∀ (n1 : Nat), n1 = n1 ∧ br (decide (k ≥ 1)) (n1 = n1 ∧ br (decide (k ≤ 4)) (n1 = n1 ∧ br (decide (a ≥ 1)) (n1 = n1 ∧ n1 = n1 ∧ br (decide (a ≤ mostF k)) (n1 = n1 ∧ br (decide (c ≥ 1)) (n1 = n1 ∧ n1 = n1 ∧ n1 = n1 ∧ R (AV.v (Value.bool (decide (c ≤ IntKind.i64.wrap (IntKind.i64.wrap (mostF k - a) + 1)))))) (R (AV.v (Value.bool false)))) (R (AV.v (Value.bool false)))) (R (AV.v (Value.bool false)))) (R (AV.v (Value.bool false)))) (R (AV.v (Value.bool false))))) : LC Try.prog 27 [.agg [.v (.int .i64 k), .v (.int .i64 a), .v (.int .i64 c)]] [] (fun z_ _ => R z_) :=
  lc_of_exec (tbl := tb7) tab_ok tb7_ok mixed noinv _ Try.func27 rfl Try.ntmps27 (by decide) (by kernel_rfl) (Nat.le_of_ble_eq_true rfl) (Eq.mpr (by kernel_rfl : exec tab tb7 noinv 0 (body Try.f27) (argsT [.agg [.v (.int .i64 k), .v (.int .i64 a), .v (.int .i64 c)]] 0) [] (post Try.f27 tab (fun z_ _ => R z_)) = (∀ (n1 : Nat), n1 = n1 ∧ br (decide (k ≥ 1)) (n1 = n1 ∧ br (decide (k ≤ 4)) (n1 = n1 ∧ br (decide (a ≥ 1)) (n1 = n1 ∧ n1 = n1 ∧ br (decide (a ≤ mostF k)) (n1 = n1 ∧ br (decide (c ≥ 1)) (n1 = n1 ∧ n1 = n1 ∧ n1 = n1 ∧ R (AV.v (Value.bool (decide (c ≤ IntKind.i64.wrap (IntKind.i64.wrap (mostF k - a) + 1)))))) (R (AV.v (Value.bool false)))) (R (AV.v (Value.bool false)))) (R (AV.v (Value.bool false)))) (R (AV.v (Value.bool false)))) (R (AV.v (Value.bool false))))) h)

set_option maxRecDepth 100000 in
theorem rRight_lc (k a c : Int) : LC Try.prog 27 [.agg [.v (.int .i64 k), .v (.int .i64 a), .v (.int .i64 c)]] [] (fun z_ _ => z_ = .v (.bool (rightF k a c))) :=
  rRight_vc k a c (by
    intros
    simp only [true_and, and_true, br_iff, AV.v.injEq, AV.tup.injEq, AV.agg.injEq, List.cons.injEq, Value.bool.injEq, Value.int.injEq, decide_eq_true_eq, decide_eq_false_iff_not, rightF]
    repeat' (first | (refine ⟨?_, ?_⟩) | intro _)
    all_goals (first | trivial | omega | (simp_all; done) | (simp_all; omega) | (rw [Bool.eq_iff_iff]; simp (config := {failIfUnchanged := false}) only [decide_eq_true_eq, Bool.false_eq_true, false_iff, iff_false, true_iff, iff_true, Bool.and_eq_true, Bool.or_eq_true]; omega) | (simp_all; rw [Bool.eq_iff_iff]; simp; omega)))

def rRightH : List AV → Option AV
  | [.agg [.v (.int .i64 k), .v (.int .i64 a), .v (.int .i64 c)]] => some (.v (.bool (rightF k a c)))
  | _ => none

theorem rRight_ok : POk Try.prog 27 rRightH := POk.of_lc (rRight_lc default default default).enters (by
  intro args v h
  unfold rRightH at h
  split at h
  · cases h; exact rRight_lc _ _ _
  · cases h)



set_option maxRecDepth 100000 in
theorem rRightR_vc (t l b r : Int) {R : AV → Prop} (h : (∀ (n1 : Nat), n1 = n1 ∧ n1 = n1 ∧ br (okP t l) (n1 = n1 ∧ n1 = n1 ∧ br (okP b r) (n1 = n1 ∧ n1 = n1 ∧ br (decide (t ≤ b)) (n1 = n1 ∧ n1 = n1 ∧ R (AV.v (Value.bool (decide (l ≤ r))))) (R (AV.v (Value.bool false)))) (R (AV.v (Value.bool false)))) (R (AV.v (Value.bool false))))) : LC Try.prog 33 [.agg [.v (.int .i64 t), .v (.int .i64 l), .v (.int .i64 b), .v (.int .i64 r)]] [] (fun z_ _ => R z_) :=
  lc_of_exec (tbl := tb7) tab_ok tb7_ok mixed noinv _ Try.func33 rfl Try.ntmps33 (by decide) (by kernel_rfl) (Nat.le_of_ble_eq_true rfl) (Eq.mpr (by kernel_rfl : exec tab tb7 noinv 0 (body Try.f33) (argsT [.agg [.v (.int .i64 t), .v (.int .i64 l), .v (.int .i64 b), .v (.int .i64 r)]] 0) [] (post Try.f33 tab (fun z_ _ => R z_)) = (∀ (n1 : Nat), n1 = n1 ∧ n1 = n1 ∧ br (okP t l) (n1 = n1 ∧ n1 = n1 ∧ br (okP b r) (n1 = n1 ∧ n1 = n1 ∧ br (decide (t ≤ b)) (n1 = n1 ∧ n1 = n1 ∧ R (AV.v (Value.bool (decide (l ≤ r))))) (R (AV.v (Value.bool false)))) (R (AV.v (Value.bool false)))) (R (AV.v (Value.bool false))))) h)

set_option maxRecDepth 100000 in
theorem rRightR_lc (t l b r : Int) : LC Try.prog 33 [.agg [.v (.int .i64 t), .v (.int .i64 l), .v (.int .i64 b), .v (.int .i64 r)]] [] (fun z_ _ => z_ = .v (.bool (okR t l b r))) :=
  rRightR_vc t l b r (by
    intros
    simp only [true_and, and_true, br_iff, AV.v.injEq, AV.tup.injEq, AV.agg.injEq, List.cons.injEq, Value.bool.injEq, Value.int.injEq, decide_eq_true_eq, decide_eq_false_iff_not, okR]
    repeat' (first | (refine ⟨?_, ?_⟩) | intro _)
    all_goals (first | trivial | omega | (simp_all; done) | (simp_all; omega) | (rw [Bool.eq_iff_iff]; simp (config := {failIfUnchanged := false}) only [decide_eq_true_eq, Bool.false_eq_true, false_iff, iff_false, true_iff, iff_true, Bool.and_eq_true, Bool.or_eq_true]; omega) | (simp_all; rw [Bool.eq_iff_iff]; simp; omega)))

def rRightRH : List AV → Option AV
  | [.agg [.v (.int .i64 t), .v (.int .i64 l), .v (.int .i64 b), .v (.int .i64 r)]] => some (.v (.bool (okR t l b r)))
  | _ => none

theorem rRightR_ok : POk Try.prog 33 rRightRH := POk.of_lc (rRightR_lc default default default default).enters (by
  intro args v h
  unfold rRightRH at h
  split at h
  · cases h; exact rRightR_lc _ _ _ _
  · cases h)


def tb8 : Tbl := (27, .pure rRightH) :: (33, .pure rRightRH) :: tb7

theorem tb8_ok : TblOk Try.prog tb8 := ⟨rRight_ok, rRightR_ok, tb7_ok⟩


set_option maxRecDepth 100000 in
theorem rCheck_vc (k a c : Int) {R : AV → Prop} (h : (∀ (n1 : Nat), n1 = n1 ∧ br (!rightF k a c) (R (AV.v (Value.int IntKind.i64 2))) (R (AV.v (Value.int IntKind.i64 0))))) : LC Try.prog 15 [.agg [.v (.int .i64 k), .v (.int .i64 a), .v (.int .i64 c)]] [] (fun z_ _ => R z_) :=
  lc_of_exec (tbl := tb8) tab_ok tb8_ok mixed noinv _ Try.func15 rfl Try.ntmps15 (by decide) (by kernel_rfl) (Nat.le_of_ble_eq_true rfl) (Eq.mpr (by kernel_rfl : exec tab tb8 noinv 0 (body Try.f15) (argsT [.agg [.v (.int .i64 k), .v (.int .i64 a), .v (.int .i64 c)]] 0) [] (post Try.f15 tab (fun z_ _ => R z_)) = (∀ (n1 : Nat), n1 = n1 ∧ br (!rightF k a c) (R (AV.v (Value.int IntKind.i64 2))) (R (AV.v (Value.int IntKind.i64 0))))) h)

set_option maxRecDepth 100000 in
theorem rCheck_lc (k a c : Int) : LC Try.prog 15 [.agg [.v (.int .i64 k), .v (.int .i64 a), .v (.int .i64 c)]] [] (fun z_ _ => z_ = .v (.int .i64 (ifB (rightF k a c) 0 2))) :=
  rCheck_vc k a c (by
    intros
    simp only [true_and, br_iff, AV.v.injEq, Value.int.injEq]
    cases rightF k a c <;> simp [ifB])

def rCheckH : List AV → Option AV
  | [.agg [.v (.int .i64 k), .v (.int .i64 a), .v (.int .i64 c)]] => some (.v (.int .i64 (ifB (rightF k a c) 0 2)))
  | _ => none

theorem rCheck_ok : POk Try.prog 15 rCheckH := POk.of_lc (rCheck_lc default default default).enters (by
  intro args v h
  unfold rCheckH at h
  split at h
  · cases h; exact rCheck_lc _ _ _
  · cases h)


def backK (k : Int) : Int := if k = 1 then 2 else if k = 2 then 1 else if k = 3 then 4 else 3


set_option maxRecDepth 100000 in
theorem rBack_vc (k a c : Int) {R : AV → Prop} (h : (∀ (n1 n2 : Nat), n1 = n1 ∧ br (!rightF k a c) (n2 = n2 ∧ n2 = n2 ∧ R (AV.tup [AV.agg [AV.v (Value.int IntKind.i64 0), AV.v (Value.int IntKind.i64 0), AV.v (Value.int IntKind.i64 0)], AV.v (Value.int IntKind.i64 2)])) (n1 = n1 ∧ br (k == 1) (n1 = n1 ∧ n1 = n1 ∧ n2 = n2 ∧ n2 = n2 ∧ R (AV.tup [AV.agg [AV.v (Value.int IntKind.i64 2), AV.v (Value.int IntKind.i64 a), AV.v (Value.int IntKind.i64 c)], AV.v (Value.int IntKind.i64 0)])) (br (k == 2) (n1 = n1 ∧ n1 = n1 ∧ n2 = n2 ∧ n2 = n2 ∧ R (AV.tup [AV.agg [AV.v (Value.int IntKind.i64 1), AV.v (Value.int IntKind.i64 a), AV.v (Value.int IntKind.i64 c)], AV.v (Value.int IntKind.i64 0)])) (br (k == 3) (n1 = n1 ∧ n1 = n1 ∧ n2 = n2 ∧ n2 = n2 ∧ R (AV.tup [AV.agg [AV.v (Value.int IntKind.i64 4), AV.v (Value.int IntKind.i64 a), AV.v (Value.int IntKind.i64 c)], AV.v (Value.int IntKind.i64 0)])) (n1 = n1 ∧ n1 = n1 ∧ n2 = n2 ∧ n2 = n2 ∧ R (AV.tup [AV.agg [AV.v (Value.int IntKind.i64 3), AV.v (Value.int IntKind.i64 a), AV.v (Value.int IntKind.i64 c)], AV.v (Value.int IntKind.i64 0)]))))))) : LC Try.prog 13 [.agg [.v (.int .i64 k), .v (.int .i64 a), .v (.int .i64 c)]] [] (fun z_ _ => R z_) :=
  lc_of_exec (tbl := tb8) tab_ok tb8_ok mixed noinv _ Try.func13 rfl Try.ntmps13 (by decide) (by kernel_rfl) (Nat.le_of_ble_eq_true rfl) (Eq.mpr (by kernel_rfl : exec tab tb8 noinv 0 (body Try.f13) (argsT [.agg [.v (.int .i64 k), .v (.int .i64 a), .v (.int .i64 c)]] 0) [] (post Try.f13 tab (fun z_ _ => R z_)) = (∀ (n1 n2 : Nat), n1 = n1 ∧ br (!rightF k a c) (n2 = n2 ∧ n2 = n2 ∧ R (AV.tup [AV.agg [AV.v (Value.int IntKind.i64 0), AV.v (Value.int IntKind.i64 0), AV.v (Value.int IntKind.i64 0)], AV.v (Value.int IntKind.i64 2)])) (n1 = n1 ∧ br (k == 1) (n1 = n1 ∧ n1 = n1 ∧ n2 = n2 ∧ n2 = n2 ∧ R (AV.tup [AV.agg [AV.v (Value.int IntKind.i64 2), AV.v (Value.int IntKind.i64 a), AV.v (Value.int IntKind.i64 c)], AV.v (Value.int IntKind.i64 0)])) (br (k == 2) (n1 = n1 ∧ n1 = n1 ∧ n2 = n2 ∧ n2 = n2 ∧ R (AV.tup [AV.agg [AV.v (Value.int IntKind.i64 1), AV.v (Value.int IntKind.i64 a), AV.v (Value.int IntKind.i64 c)], AV.v (Value.int IntKind.i64 0)])) (br (k == 3) (n1 = n1 ∧ n1 = n1 ∧ n2 = n2 ∧ n2 = n2 ∧ R (AV.tup [AV.agg [AV.v (Value.int IntKind.i64 4), AV.v (Value.int IntKind.i64 a), AV.v (Value.int IntKind.i64 c)], AV.v (Value.int IntKind.i64 0)])) (n1 = n1 ∧ n1 = n1 ∧ n2 = n2 ∧ n2 = n2 ∧ R (AV.tup [AV.agg [AV.v (Value.int IntKind.i64 3), AV.v (Value.int IntKind.i64 a), AV.v (Value.int IntKind.i64 c)], AV.v (Value.int IntKind.i64 0)]))))))) h)

set_option maxRecDepth 100000 in
theorem rBack_lc (k a c : Int) : LC Try.prog 13 [.agg [.v (.int .i64 k), .v (.int .i64 a), .v (.int .i64 c)]] [] (fun z_ _ => z_ = .tup [.agg [.v (.int .i64 (ifB (rightF k a c) (backK k) 0)), .v (.int .i64 (ifB (rightF k a c) a 0)), .v (.int .i64 (ifB (rightF k a c) c 0))], .v (.int .i64 (ifB (rightF k a c) 0 2))]) :=
  rBack_vc k a c (by
    intros
    simp only [true_and, br_iff, AV.v.injEq, AV.tup.injEq, AV.agg.injEq, List.cons.injEq, Value.int.injEq, and_true]
    cases rightF k a c <;> simp [ifB, backK] <;> (repeat' (first | (refine ⟨?_, ?_⟩) | intro _)) <;> simp_all)

def rBackH : List AV → Option AV
  | [.agg [.v (.int .i64 k), .v (.int .i64 a), .v (.int .i64 c)]] => some (.tup [.agg [.v (.int .i64 (ifB (rightF k a c) (backK k) 0)), .v (.int .i64 (ifB (rightF k a c) a 0)), .v (.int .i64 (ifB (rightF k a c) c 0))], .v (.int .i64 (ifB (rightF k a c) 0 2))])
  | _ => none

theorem rBack_ok : POk Try.prog 13 rBackH := POk.of_lc (rBack_lc default default default).enters (by
  intro args v h
  unfold rBackH at h
  split at h
  · cases h; exact rBack_lc _ _ _
  · cases h)


theorem rightF_b {k a c : Int} (h : rightF k a c = true) : 1 ≤ k ∧ k ≤ 4 ∧ 1 ≤ a ∧ a ≤ mostF k ∧ 1 ≤ c ∧ c ≤ mostF k - a + 1 ∧ 16384 ≤ mostF k ∧ mostF k ≤ 1048576 := by
  simp only [rightF, decide_eq_true_eq] at h
  have hm : 16384 ≤ mostF k ∧ mostF k ≤ 1048576 := by unfold mostF; split <;> omega
  have hw : IntKind.i64.wrap (IntKind.i64.wrap (mostF k - a) + 1) = mostF k - a + 1 := by
    rw [w64 (x := mostF k - a) (by omega), w64 (by omega)]
  rw [hw] at h
  omega


set_option maxRecDepth 100000 in
theorem mback_vc (k a c : Int) {R : AV → Prop} (h : (∀ (n1 n2 : Nat), n1 = n1 ∧ br (ifB (rightF k a c) 0 2 != 0) (n2 = n2 ∧ n2 = n2 ∧ R (AV.tup [AV.agg [AV.v (Value.int IntKind.i64 0), AV.v (Value.int IntKind.i64 0), AV.v (Value.int IntKind.i64 0)], AV.v (Value.int IntKind.i64 (ifB (rightF k a c) 0 2))])) (n1 = n1 ∧ n1 = n1 ∧ n1 = n1 ∧ n2 = n2 ∧ n2 = n2 ∧ R (AV.tup [AV.agg [AV.v (Value.int IntKind.i64 (IntKind.i64.wrap (ibits BinOp.xor IntKind.i64 (IntKind.i64.wrap (k - 1)) 1 + 1))), AV.v (Value.int IntKind.i64 a), AV.v (Value.int IntKind.i64 c)], AV.v (Value.int IntKind.i64 0)])))) : LC Try.prog 12 [.agg [.v (.int .i64 k), .v (.int .i64 a), .v (.int .i64 c)]] [] (fun z_ _ => R z_) :=
  lc_of_exec (tbl := tb8) tab_ok tb8_ok mixed noinv _ Try.func12 rfl Try.ntmps12 (by decide) (by kernel_rfl) (Nat.le_of_ble_eq_true rfl) (Eq.mpr (by kernel_rfl : exec tab tb8 noinv 0 (body Try.f12) (argsT [.agg [.v (.int .i64 k), .v (.int .i64 a), .v (.int .i64 c)]] 0) [] (post Try.f12 tab (fun z_ _ => R z_)) = (∀ (n1 n2 : Nat), n1 = n1 ∧ br (ifB (rightF k a c) 0 2 != 0) (n2 = n2 ∧ n2 = n2 ∧ R (AV.tup [AV.agg [AV.v (Value.int IntKind.i64 0), AV.v (Value.int IntKind.i64 0), AV.v (Value.int IntKind.i64 0)], AV.v (Value.int IntKind.i64 (ifB (rightF k a c) 0 2))])) (n1 = n1 ∧ n1 = n1 ∧ n1 = n1 ∧ n2 = n2 ∧ n2 = n2 ∧ R (AV.tup [AV.agg [AV.v (Value.int IntKind.i64 (IntKind.i64.wrap (ibits BinOp.xor IntKind.i64 (IntKind.i64.wrap (k - 1)) 1 + 1))), AV.v (Value.int IntKind.i64 a), AV.v (Value.int IntKind.i64 c)], AV.v (Value.int IntKind.i64 0)])))) h)

set_option maxRecDepth 100000 in
theorem mback_lc (k a c : Int) : LC Try.prog 12 [.agg [.v (.int .i64 k), .v (.int .i64 a), .v (.int .i64 c)]] [] (fun z_ _ => z_ = .tup [.agg [.v (.int .i64 (ifB (rightF k a c) (backK k) 0)), .v (.int .i64 (ifB (rightF k a c) a 0)), .v (.int .i64 (ifB (rightF k a c) c 0))], .v (.int .i64 (ifB (rightF k a c) 0 2))]) :=
  mback_vc k a c (by
    intros
    simp only [true_and, br_iff, AV.v.injEq, AV.tup.injEq, AV.agg.injEq, List.cons.injEq, Value.int.injEq, and_true]
    cases h : rightF k a c <;> simp [ifB]
    have hb := rightF_b h
    have hk : k = 1 ∨ k = 2 ∨ k = 3 ∨ k = 4 := by omega
    rcases hk with rfl | rfl | rfl | rfl <;> rfl)

def mbackH : List AV → Option AV
  | [.agg [.v (.int .i64 k), .v (.int .i64 a), .v (.int .i64 c)]] => some (.tup [.agg [.v (.int .i64 (ifB (rightF k a c) (backK k) 0)), .v (.int .i64 (ifB (rightF k a c) a 0)), .v (.int .i64 (ifB (rightF k a c) c 0))], .v (.int .i64 (ifB (rightF k a c) 0 2))])
  | _ => none

theorem mback_ok : POk Try.prog 12 mbackH := POk.of_lc (mback_lc default default default).enters (by
  intro args v h
  unfold mbackH at h
  split at h
  · cases h; exact mback_lc _ _ _
  · cases h)

end Go.Proofs.Ytbdifnmadaggaaa

