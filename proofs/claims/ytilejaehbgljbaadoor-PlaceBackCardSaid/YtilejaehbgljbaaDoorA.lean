/- Place: places and rectangles, the program's and the document's. -/
import Derived.Test.YtilejaehbgljbaaDoorTab
import Derived.IntWalk
namespace Go.Proofs.YtilejaehbgljbaaDoor
open Go Go.Eng
set_option linter.unusedVariables false
set_option linter.unusedSimpArgs false

theorem mixed : Tryd.prog.follows .mixedOrders = true := by kernel_rfl

theorem w64 {x : Int} (h : -9223372036854775808 ≤ x ∧ x ≤ 9223372036854775807) : IntKind.i64.wrap x = x := IntWalk.i64_in _ h

def ifB (c : Bool) (a b : Int) : Int := if c then a else b

def okP (r q : Int) : Bool := decide (1 ≤ r ∧ r ≤ 1048576 ∧ 1 ≤ q ∧ q ≤ 16384)


set_option maxRecDepth 100000 in
theorem is_vc (r q : Int) {R : AV → Prop} (h : (∀ (n1 : Nat), n1 = n1 ∧ br (decide (r ≥ (1 : Int))) (n1 = n1 ∧ br (decide (r ≤ (1048576 : Int))) (n1 = n1 ∧ br (decide (q ≥ (1 : Int))) (n1 = n1 ∧ R (AV.v (Value.bool (decide (q ≤ (16384 : Int)))))) (R (AV.v (Value.bool false)))) (R (AV.v (Value.bool false)))) (R (AV.v (Value.bool false))))) : LC Tryd.prog 31 [.agg [.v (.int .i64 r), .v (.int .i64 q)]] [] (fun z_ _ => R z_) :=
  lc_of_exec (tbl := []) tab_ok trivial mixed noinv 2 _ Tryd.func31 rfl Tryd.ntmps31 (by decide) (by kernel_rfl) (Nat.le_of_ble_eq_true rfl) (@Eq.mpr (execN tab [] noinv 2 Tryd.f31.ntmps [] none 0 (body Tryd.f31) (argsT [.agg [.v (.int .i64 r), .v (.int .i64 q)]] 0) [] (post Tryd.f31 tab (retK (fun z_ _ => R z_)))) _ (by kernel_rfl) h)

set_option maxRecDepth 100000 in
theorem is_lc (r q : Int) : LC Tryd.prog 31 [.agg [.v (.int .i64 r), .v (.int .i64 q)]] [] (fun z_ _ => z_ = .v (.bool (okP r q))) :=
  is_vc r q (by
    intros
    simp only [true_and, and_true, br_iff, AV.v.injEq, AV.tup.injEq, AV.agg.injEq, List.cons.injEq, Value.bool.injEq, Value.int.injEq, decide_eq_true_eq, decide_eq_false_iff_not, okP]
    repeat' (first | (refine ⟨?_, ?_⟩) | intro _)
    all_goals (first | trivial | omega | (simp_all; done) | (simp_all; omega) | (rw [Bool.eq_iff_iff]; simp (config := {failIfUnchanged := false}) only [decide_eq_true_eq, Bool.false_eq_true, false_iff, iff_false, true_iff, iff_true, Bool.and_eq_true, Bool.or_eq_true]; omega) | (simp_all; rw [Bool.eq_iff_iff]; simp <;> omega)))

def isH : List AV → Option AV
  | [.agg [.v (.int .i64 r), .v (.int .i64 q)]] => some (.v (.bool (okP r q)))
  | _ => none

theorem is_ok : POk Tryd.prog 31 isH := POk.of_lc (enters_of (c := body Tryd.f31) Tryd.func31 rfl (by kernel_rfl)) (by
  intro args v h
  unfold isH at h
  split at h
  · cases h; exact is_lc _ _
  · cases h)



set_option maxRecDepth 100000 in
theorem rPlace_vc (r q : Int) {R : AV → Prop} (h : (∀ (n1 : Nat), n1 = n1 ∧ br (decide (r ≥ (1 : Int))) (n1 = n1 ∧ br (decide (r ≤ (1048576 : Int))) (n1 = n1 ∧ br (decide (q ≥ (1 : Int))) (n1 = n1 ∧ R (AV.v (Value.bool (decide (q ≤ (16384 : Int)))))) (R (AV.v (Value.bool false)))) (R (AV.v (Value.bool false)))) (R (AV.v (Value.bool false))))) : LC Tryd.prog 33 [.agg [.v (.int .i64 r), .v (.int .i64 q)]] [] (fun z_ _ => R z_) :=
  lc_of_exec (tbl := []) tab_ok trivial mixed noinv 2 _ Tryd.func33 rfl Tryd.ntmps33 (by decide) (by kernel_rfl) (Nat.le_of_ble_eq_true rfl) (@Eq.mpr (execN tab [] noinv 2 Tryd.f33.ntmps [] none 0 (body Tryd.f33) (argsT [.agg [.v (.int .i64 r), .v (.int .i64 q)]] 0) [] (post Tryd.f33 tab (retK (fun z_ _ => R z_)))) _ (by kernel_rfl) h)

set_option maxRecDepth 100000 in
theorem rPlace_lc (r q : Int) : LC Tryd.prog 33 [.agg [.v (.int .i64 r), .v (.int .i64 q)]] [] (fun z_ _ => z_ = .v (.bool (okP r q))) :=
  rPlace_vc r q (by
    intros
    simp only [true_and, and_true, br_iff, AV.v.injEq, AV.tup.injEq, AV.agg.injEq, List.cons.injEq, Value.bool.injEq, Value.int.injEq, decide_eq_true_eq, decide_eq_false_iff_not, okP]
    repeat' (first | (refine ⟨?_, ?_⟩) | intro _)
    all_goals (first | trivial | omega | (simp_all; done) | (simp_all; omega) | (rw [Bool.eq_iff_iff]; simp (config := {failIfUnchanged := false}) only [decide_eq_true_eq, Bool.false_eq_true, false_iff, iff_false, true_iff, iff_true, Bool.and_eq_true, Bool.or_eq_true]; omega) | (simp_all; rw [Bool.eq_iff_iff]; simp <;> omega)))

def rPlaceH : List AV → Option AV
  | [.agg [.v (.int .i64 r), .v (.int .i64 q)]] => some (.v (.bool (okP r q)))
  | _ => none

theorem rPlace_ok : POk Tryd.prog 33 rPlaceH := POk.of_lc (enters_of (c := body Tryd.f33) Tryd.func33 rfl (by kernel_rfl)) (by
  intro args v h
  unfold rPlaceH at h
  split at h
  · cases h; exact rPlace_lc _ _
  · cases h)


def tb1 : Tbl := (31, .pure isH) :: (33, .pure rPlaceH) :: []

theorem tb1_ok : TblOk Tryd.prog tb1 := ⟨is_ok, rPlace_ok, trivial⟩

def okR (t l b r : Int) : Bool := okP t l && okP b r && decide (t ≤ b) && decide (l ≤ r)


set_option maxRecDepth 100000 in
theorem of_vc (a b c d : Int) {R : AV → Prop} (h : (∀ (n1 n2 n3 : Nat), n1 = n1 ∧ br (!okP a b) (n3 = n3 ∧ n3 = n3 ∧ R (AV.tup [AV.agg [AV.v (Value.int IntKind.i64 (0 : Int)), AV.v (Value.int IntKind.i64 (0 : Int)), AV.v (Value.int IntKind.i64 (0 : Int)), AV.v (Value.int IntKind.i64 (0 : Int))], AV.v (Value.int IntKind.i64 (2 : Int))])) (n2 = n2 ∧ br (!okP c d) (n3 = n3 ∧ n3 = n3 ∧ R (AV.tup [AV.agg [AV.v (Value.int IntKind.i64 (0 : Int)), AV.v (Value.int IntKind.i64 (0 : Int)), AV.v (Value.int IntKind.i64 (0 : Int)), AV.v (Value.int IntKind.i64 (0 : Int))], AV.v (Value.int IntKind.i64 (2 : Int))])) (n1 = n1 ∧ n2 = n2 ∧ n1 = n1 ∧ n2 = n2 ∧ n1 = n1 ∧ n2 = n2 ∧ n1 = n1 ∧ n2 = n2 ∧ n3 = n3 ∧ n3 = n3 ∧ R (AV.tup [AV.agg [AV.v (Value.int IntKind.i64 (if c < a then c else a)), AV.v (Value.int IntKind.i64 (if d < b then d else b)), AV.v (Value.int IntKind.i64 (if c > a then c else a)), AV.v (Value.int IntKind.i64 (if d > b then d else b))], AV.v (Value.int IntKind.i64 (0 : Int))]))))) : LC Tryd.prog 19 [.agg [.v (.int .i64 a), .v (.int .i64 b)], .agg [.v (.int .i64 c), .v (.int .i64 d)]] [] (fun z_ _ => R z_) :=
  lc_of_exec (tbl := tb1) tab_ok tb1_ok mixed noinv 2 _ Tryd.func19 rfl Tryd.ntmps19 (by decide) (by kernel_rfl) (Nat.le_of_ble_eq_true rfl) (@Eq.mpr (execN tab tb1 noinv 2 Tryd.f19.ntmps [] none 0 (body Tryd.f19) (argsT [.agg [.v (.int .i64 a), .v (.int .i64 b)], .agg [.v (.int .i64 c), .v (.int .i64 d)]] 0) [] (post Tryd.f19 tab (retK (fun z_ _ => R z_)))) _ (by kernel_rfl) h)

set_option maxRecDepth 100000 in
theorem of_lc (a b c d : Int) : LC Tryd.prog 19 [.agg [.v (.int .i64 a), .v (.int .i64 b)], .agg [.v (.int .i64 c), .v (.int .i64 d)]] [] (fun z_ _ => z_ = .tup [.agg [.v (.int .i64 (ifB (okP a b && okP c d) (min a c) 0)), .v (.int .i64 (ifB (okP a b && okP c d) (min b d) 0)), .v (.int .i64 (ifB (okP a b && okP c d) (max a c) 0)), .v (.int .i64 (ifB (okP a b && okP c d) (max b d) 0))], .v (.int .i64 (ifB (okP a b && okP c d) 0 2))]) :=
  of_vc a b c d (by
    intros
    simp only [true_and, br_iff, AV.v.injEq, AV.tup.injEq, AV.agg.injEq, List.cons.injEq, Value.int.injEq, and_true]
    cases okP a b <;> cases okP c d <;> simp [ifB] <;> omega)

def ofH : List AV → Option AV
  | [.agg [.v (.int .i64 a), .v (.int .i64 b)], .agg [.v (.int .i64 c), .v (.int .i64 d)]] => some (.tup [.agg [.v (.int .i64 (ifB (okP a b && okP c d) (min a c) 0)), .v (.int .i64 (ifB (okP a b && okP c d) (min b d) 0)), .v (.int .i64 (ifB (okP a b && okP c d) (max a c) 0)), .v (.int .i64 (ifB (okP a b && okP c d) (max b d) 0))], .v (.int .i64 (ifB (okP a b && okP c d) 0 2))])
  | _ => none

theorem of_ok : POk Tryd.prog 19 ofH := POk.of_lc (enters_of (c := body Tryd.f19) Tryd.func19 rfl (by kernel_rfl)) (by
  intro args v h
  unfold ofH at h
  split at h
  · cases h; exact of_lc _ _ _ _
  · cases h)



set_option maxRecDepth 100000 in
theorem rOf_vc (a b c d : Int) {R : AV → Prop} (h : (∀ (n1 n2 n3 : Nat), n1 = n1 ∧ br (!okP a b) (n3 = n3 ∧ n3 = n3 ∧ R (AV.tup [AV.agg [AV.v (Value.int IntKind.i64 (0 : Int)), AV.v (Value.int IntKind.i64 (0 : Int)), AV.v (Value.int IntKind.i64 (0 : Int)), AV.v (Value.int IntKind.i64 (0 : Int))], AV.v (Value.int IntKind.i64 (2 : Int))])) (n2 = n2 ∧ br (!okP c d) (n3 = n3 ∧ n3 = n3 ∧ R (AV.tup [AV.agg [AV.v (Value.int IntKind.i64 (0 : Int)), AV.v (Value.int IntKind.i64 (0 : Int)), AV.v (Value.int IntKind.i64 (0 : Int)), AV.v (Value.int IntKind.i64 (0 : Int))], AV.v (Value.int IntKind.i64 (2 : Int))])) (n1 = n1 ∧ n2 = n2 ∧ n1 = n1 ∧ n2 = n2 ∧ n1 = n1 ∧ n2 = n2 ∧ n1 = n1 ∧ n2 = n2 ∧ n3 = n3 ∧ n3 = n3 ∧ R (AV.tup [AV.agg [AV.v (Value.int IntKind.i64 (if c < a then c else a)), AV.v (Value.int IntKind.i64 (if d < b then d else b)), AV.v (Value.int IntKind.i64 (if c > a then c else a)), AV.v (Value.int IntKind.i64 (if d > b then d else b))], AV.v (Value.int IntKind.i64 (0 : Int))]))))) : LC Tryd.prog 26 [.agg [.v (.int .i64 a), .v (.int .i64 b)], .agg [.v (.int .i64 c), .v (.int .i64 d)]] [] (fun z_ _ => R z_) :=
  lc_of_exec (tbl := tb1) tab_ok tb1_ok mixed noinv 2 _ Tryd.func26 rfl Tryd.ntmps26 (by decide) (by kernel_rfl) (Nat.le_of_ble_eq_true rfl) (@Eq.mpr (execN tab tb1 noinv 2 Tryd.f26.ntmps [] none 0 (body Tryd.f26) (argsT [.agg [.v (.int .i64 a), .v (.int .i64 b)], .agg [.v (.int .i64 c), .v (.int .i64 d)]] 0) [] (post Tryd.f26 tab (retK (fun z_ _ => R z_)))) _ (by kernel_rfl) h)

set_option maxRecDepth 100000 in
theorem rOf_lc (a b c d : Int) : LC Tryd.prog 26 [.agg [.v (.int .i64 a), .v (.int .i64 b)], .agg [.v (.int .i64 c), .v (.int .i64 d)]] [] (fun z_ _ => z_ = .tup [.agg [.v (.int .i64 (ifB (okP a b && okP c d) (min a c) 0)), .v (.int .i64 (ifB (okP a b && okP c d) (min b d) 0)), .v (.int .i64 (ifB (okP a b && okP c d) (max a c) 0)), .v (.int .i64 (ifB (okP a b && okP c d) (max b d) 0))], .v (.int .i64 (ifB (okP a b && okP c d) 0 2))]) :=
  rOf_vc a b c d (by
    intros
    simp only [true_and, br_iff, AV.v.injEq, AV.tup.injEq, AV.agg.injEq, List.cons.injEq, Value.int.injEq, and_true]
    cases okP a b <;> cases okP c d <;> simp [ifB] <;> omega)

def rOfH : List AV → Option AV
  | [.agg [.v (.int .i64 a), .v (.int .i64 b)], .agg [.v (.int .i64 c), .v (.int .i64 d)]] => some (.tup [.agg [.v (.int .i64 (ifB (okP a b && okP c d) (min a c) 0)), .v (.int .i64 (ifB (okP a b && okP c d) (min b d) 0)), .v (.int .i64 (ifB (okP a b && okP c d) (max a c) 0)), .v (.int .i64 (ifB (okP a b && okP c d) (max b d) 0))], .v (.int .i64 (ifB (okP a b && okP c d) 0 2))])
  | _ => none

theorem rOf_ok : POk Tryd.prog 26 rOfH := POk.of_lc (enters_of (c := body Tryd.f26) Tryd.func26 rfl (by kernel_rfl)) (by
  intro args v h
  unfold rOfH at h
  split at h
  · cases h; exact rOf_lc _ _ _ _
  · cases h)



set_option maxRecDepth 100000 in
theorem rRight_vc (t l b r : Int) {R : AV → Prop} (h : (∀ (n1 : Nat), n1 = n1 ∧ n1 = n1 ∧ br (okP t l) (n1 = n1 ∧ n1 = n1 ∧ br (okP b r) (n1 = n1 ∧ n1 = n1 ∧ br (decide (t ≤ b)) (n1 = n1 ∧ n1 = n1 ∧ R (AV.v (Value.bool (decide (l ≤ r))))) (R (AV.v (Value.bool false)))) (R (AV.v (Value.bool false)))) (R (AV.v (Value.bool false))))) : LC Tryd.prog 42 [.agg [.v (.int .i64 t), .v (.int .i64 l), .v (.int .i64 b), .v (.int .i64 r)]] [] (fun z_ _ => R z_) :=
  lc_of_exec (tbl := tb1) tab_ok tb1_ok mixed noinv 2 _ Tryd.func42 rfl Tryd.ntmps42 (by decide) (by kernel_rfl) (Nat.le_of_ble_eq_true rfl) (@Eq.mpr (execN tab tb1 noinv 2 Tryd.f42.ntmps [] none 0 (body Tryd.f42) (argsT [.agg [.v (.int .i64 t), .v (.int .i64 l), .v (.int .i64 b), .v (.int .i64 r)]] 0) [] (post Tryd.f42 tab (retK (fun z_ _ => R z_)))) _ (by kernel_rfl) h)

set_option maxRecDepth 100000 in
theorem rRight_lc (t l b r : Int) : LC Tryd.prog 42 [.agg [.v (.int .i64 t), .v (.int .i64 l), .v (.int .i64 b), .v (.int .i64 r)]] [] (fun z_ _ => z_ = .v (.bool (okR t l b r))) :=
  rRight_vc t l b r (by
    intros
    simp only [true_and, and_true, br_iff, AV.v.injEq, AV.tup.injEq, AV.agg.injEq, List.cons.injEq, Value.bool.injEq, Value.int.injEq, decide_eq_true_eq, decide_eq_false_iff_not, okR]
    repeat' (first | (refine ⟨?_, ?_⟩) | intro _)
    all_goals (first | trivial | omega | (simp_all; done) | (simp_all; omega) | (rw [Bool.eq_iff_iff]; simp (config := {failIfUnchanged := false}) only [decide_eq_true_eq, Bool.false_eq_true, false_iff, iff_false, true_iff, iff_true, Bool.and_eq_true, Bool.or_eq_true]; omega) | (simp_all; rw [Bool.eq_iff_iff]; simp <;> omega)))

def rRightH : List AV → Option AV
  | [.agg [.v (.int .i64 t), .v (.int .i64 l), .v (.int .i64 b), .v (.int .i64 r)]] => some (.v (.bool (okR t l b r)))
  | _ => none

theorem rRight_ok : POk Tryd.prog 42 rRightH := POk.of_lc (enters_of (c := body Tryd.f42) Tryd.func42 rfl (by kernel_rfl)) (by
  intro args v h
  unfold rRightH at h
  split at h
  · cases h; exact rRight_lc _ _ _ _
  · cases h)


def tb2 : Tbl := (19, .pure ofH) :: (26, .pure rOfH) :: (42, .pure rRightH) :: tb1

theorem tb2_ok : TblOk Tryd.prog tb2 := ⟨of_ok, rOf_ok, rRight_ok, tb1_ok⟩


set_option maxRecDepth 100000 in
theorem pcheck_vc (t l b r : Int) {R : AV → Prop} (h : (∀ (n1 : Nat), n1 = n1 ∧ n1 = n1 ∧ n1 = n1 ∧ n1 = n1 ∧ ∀ (n2 : Nat), n2 = n2 ∧ br (ifB (okP t l && okP b r) (0 : Int) (2 : Int) != (0 : Int)) (R (AV.v (Value.int IntKind.i64 (2 : Int)))) (n2 = n2 ∧ n1 = n1 ∧ br (!(ifB (okP t l && okP b r) (min t b) (0 : Int) == t && (ifB (okP t l && okP b r) (min l r) (0 : Int) == l && (ifB (okP t l && okP b r) (max t b) (0 : Int) == b && (ifB (okP t l && okP b r) (max l r) (0 : Int) == r && true))))) (R (AV.v (Value.int IntKind.i64 (2 : Int)))) (R (AV.v (Value.int IntKind.i64 (0 : Int))))))) : LC Tryd.prog 23 [.agg [.v (.int .i64 t), .v (.int .i64 l), .v (.int .i64 b), .v (.int .i64 r)]] [] (fun z_ _ => R z_) :=
  lc_of_exec (tbl := tb2) tab_ok tb2_ok mixed noinv 2 _ Tryd.func23 rfl Tryd.ntmps23 (by decide) (by kernel_rfl) (Nat.le_of_ble_eq_true rfl) (@Eq.mpr (execN tab tb2 noinv 2 Tryd.f23.ntmps [] none 0 (body Tryd.f23) (argsT [.agg [.v (.int .i64 t), .v (.int .i64 l), .v (.int .i64 b), .v (.int .i64 r)]] 0) [] (post Tryd.f23 tab (retK (fun z_ _ => R z_)))) _ (by kernel_rfl) h)

set_option maxRecDepth 100000 in
theorem pcheck_lc (t l b r : Int) : LC Tryd.prog 23 [.agg [.v (.int .i64 t), .v (.int .i64 l), .v (.int .i64 b), .v (.int .i64 r)]] [] (fun z_ _ => z_ = .v (.int .i64 (ifB (okR t l b r) 0 2))) :=
  pcheck_vc t l b r (by
    intros
    simp only [true_and, br_iff, AV.v.injEq, Value.int.injEq, okR]
    cases okP t l <;> cases okP b r <;> simp [ifB] <;> (repeat' (first | (refine ⟨?_, ?_⟩) | intro _)) <;> (first | omega | skip)
    all_goals simp_all
    all_goals omega)

def pcheckH : List AV → Option AV
  | [.agg [.v (.int .i64 t), .v (.int .i64 l), .v (.int .i64 b), .v (.int .i64 r)]] => some (.v (.int .i64 (ifB (okR t l b r) 0 2)))
  | _ => none

theorem pcheck_ok : POk Tryd.prog 23 pcheckH := POk.of_lc (enters_of (c := body Tryd.f23) Tryd.func23 rfl (by kernel_rfl)) (by
  intro args v h
  unfold pcheckH at h
  split at h
  · cases h; exact pcheck_lc _ _ _ _
  · cases h)



set_option maxRecDepth 100000 in
theorem rCheck_vc (t l b r : Int) {R : AV → Prop} (h : (∀ (n1 : Nat), n1 = n1 ∧ br (!okR t l b r) (R (AV.v (Value.int IntKind.i64 (2 : Int)))) (R (AV.v (Value.int IntKind.i64 (0 : Int)))))) : LC Tryd.prog 27 [.agg [.v (.int .i64 t), .v (.int .i64 l), .v (.int .i64 b), .v (.int .i64 r)]] [] (fun z_ _ => R z_) :=
  lc_of_exec (tbl := tb2) tab_ok tb2_ok mixed noinv 2 _ Tryd.func27 rfl Tryd.ntmps27 (by decide) (by kernel_rfl) (Nat.le_of_ble_eq_true rfl) (@Eq.mpr (execN tab tb2 noinv 2 Tryd.f27.ntmps [] none 0 (body Tryd.f27) (argsT [.agg [.v (.int .i64 t), .v (.int .i64 l), .v (.int .i64 b), .v (.int .i64 r)]] 0) [] (post Tryd.f27 tab (retK (fun z_ _ => R z_)))) _ (by kernel_rfl) h)

set_option maxRecDepth 100000 in
theorem rCheck_lc (t l b r : Int) : LC Tryd.prog 27 [.agg [.v (.int .i64 t), .v (.int .i64 l), .v (.int .i64 b), .v (.int .i64 r)]] [] (fun z_ _ => z_ = .v (.int .i64 (ifB (okR t l b r) 0 2))) :=
  rCheck_vc t l b r (by
    intros
    simp only [true_and, and_true, br_iff, AV.v.injEq, AV.tup.injEq, AV.agg.injEq, List.cons.injEq, Value.bool.injEq, Value.int.injEq, decide_eq_true_eq, decide_eq_false_iff_not, ifB]
    repeat' (first | (refine ⟨?_, ?_⟩) | intro _)
    all_goals (first | trivial | omega | (simp_all; done) | (simp_all; omega) | (rw [Bool.eq_iff_iff]; simp (config := {failIfUnchanged := false}) only [decide_eq_true_eq, Bool.false_eq_true, false_iff, iff_false, true_iff, iff_true, Bool.and_eq_true, Bool.or_eq_true]; omega) | (simp_all; rw [Bool.eq_iff_iff]; simp <;> omega)))

def rCheckH : List AV → Option AV
  | [.agg [.v (.int .i64 t), .v (.int .i64 l), .v (.int .i64 b), .v (.int .i64 r)]] => some (.v (.int .i64 (ifB (okR t l b r) 0 2)))
  | _ => none

theorem rCheck_ok : POk Tryd.prog 27 rCheckH := POk.of_lc (enters_of (c := body Tryd.f27) Tryd.func27 rfl (by kernel_rfl)) (by
  intro args v h
  unfold rCheckH at h
  split at h
  · cases h; exact rCheck_lc _ _ _ _
  · cases h)


def tb3 : Tbl := (23, .pure pcheckH) :: (27, .pure rCheckH) :: tb2

theorem tb3_ok : TblOk Tryd.prog tb3 := ⟨pcheck_ok, rCheck_ok, tb2_ok⟩

def inF (t l b r y x : Int) : Bool := okR t l b r && decide (t ≤ y ∧ y ≤ b ∧ l ≤ x ∧ x ≤ r)


set_option maxRecDepth 100000 in
theorem pin_vc (t l b r y x : Int) {R : AV → Prop} (h : (∀ (n1 n2 : Nat), n1 = n1 ∧ br (ifB (okR t l b r) (0 : Int) (2 : Int) == (0 : Int)) (n2 = n2 ∧ n1 = n1 ∧ br (decide (y ≥ t)) (n2 = n2 ∧ n1 = n1 ∧ br (decide (y ≤ b)) (n2 = n2 ∧ n1 = n1 ∧ br (decide (x ≥ l)) (n2 = n2 ∧ n1 = n1 ∧ R (AV.v (Value.bool (decide (x ≤ r))))) (R (AV.v (Value.bool false)))) (R (AV.v (Value.bool false)))) (R (AV.v (Value.bool false)))) (R (AV.v (Value.bool false))))) : LC Tryd.prog 21 [.agg [.v (.int .i64 t), .v (.int .i64 l), .v (.int .i64 b), .v (.int .i64 r)], .agg [.v (.int .i64 y), .v (.int .i64 x)]] [] (fun z_ _ => R z_) :=
  lc_of_exec (tbl := tb3) tab_ok tb3_ok mixed noinv 2 _ Tryd.func21 rfl Tryd.ntmps21 (by decide) (by kernel_rfl) (Nat.le_of_ble_eq_true rfl) (@Eq.mpr (execN tab tb3 noinv 2 Tryd.f21.ntmps [] none 0 (body Tryd.f21) (argsT [.agg [.v (.int .i64 t), .v (.int .i64 l), .v (.int .i64 b), .v (.int .i64 r)], .agg [.v (.int .i64 y), .v (.int .i64 x)]] 0) [] (post Tryd.f21 tab (retK (fun z_ _ => R z_)))) _ (by kernel_rfl) h)

set_option maxRecDepth 100000 in
theorem pin_lc (t l b r y x : Int) : LC Tryd.prog 21 [.agg [.v (.int .i64 t), .v (.int .i64 l), .v (.int .i64 b), .v (.int .i64 r)], .agg [.v (.int .i64 y), .v (.int .i64 x)]] [] (fun z_ _ => z_ = .v (.bool (inF t l b r y x))) :=
  pin_vc t l b r y x (by
    intros
    simp only [true_and, and_true, br_iff, AV.v.injEq, AV.tup.injEq, AV.agg.injEq, List.cons.injEq, Value.bool.injEq, Value.int.injEq, decide_eq_true_eq, decide_eq_false_iff_not, ifB, inF]
    repeat' (first | (refine ⟨?_, ?_⟩) | intro _)
    all_goals (first | trivial | omega | (simp_all; done) | (simp_all; omega) | (rw [Bool.eq_iff_iff]; simp (config := {failIfUnchanged := false}) only [decide_eq_true_eq, Bool.false_eq_true, false_iff, iff_false, true_iff, iff_true, Bool.and_eq_true, Bool.or_eq_true]; omega) | (simp_all; rw [Bool.eq_iff_iff]; simp <;> omega)))

def pinH : List AV → Option AV
  | [.agg [.v (.int .i64 t), .v (.int .i64 l), .v (.int .i64 b), .v (.int .i64 r)], .agg [.v (.int .i64 y), .v (.int .i64 x)]] => some (.v (.bool (inF t l b r y x)))
  | _ => none

theorem pin_ok : POk Tryd.prog 21 pinH := POk.of_lc (enters_of (c := body Tryd.f21) Tryd.func21 rfl (by kernel_rfl)) (by
  intro args v h
  unfold pinH at h
  split at h
  · cases h; exact pin_lc _ _ _ _ _ _
  · cases h)



set_option maxRecDepth 100000 in
theorem rIn_vc (t l b r y x : Int) {R : AV → Prop} (h : (∀ (n1 n2 : Nat), n1 = n1 ∧ br (okR t l b r) (n2 = n2 ∧ n1 = n1 ∧ br (decide (y ≥ t)) (n2 = n2 ∧ n1 = n1 ∧ br (decide (y ≤ b)) (n2 = n2 ∧ n1 = n1 ∧ br (decide (x ≥ l)) (n2 = n2 ∧ n1 = n1 ∧ R (AV.v (Value.bool (decide (x ≤ r))))) (R (AV.v (Value.bool false)))) (R (AV.v (Value.bool false)))) (R (AV.v (Value.bool false)))) (R (AV.v (Value.bool false))))) : LC Tryd.prog 28 [.agg [.v (.int .i64 t), .v (.int .i64 l), .v (.int .i64 b), .v (.int .i64 r)], .agg [.v (.int .i64 y), .v (.int .i64 x)]] [] (fun z_ _ => R z_) :=
  lc_of_exec (tbl := tb3) tab_ok tb3_ok mixed noinv 2 _ Tryd.func28 rfl Tryd.ntmps28 (by decide) (by kernel_rfl) (Nat.le_of_ble_eq_true rfl) (@Eq.mpr (execN tab tb3 noinv 2 Tryd.f28.ntmps [] none 0 (body Tryd.f28) (argsT [.agg [.v (.int .i64 t), .v (.int .i64 l), .v (.int .i64 b), .v (.int .i64 r)], .agg [.v (.int .i64 y), .v (.int .i64 x)]] 0) [] (post Tryd.f28 tab (retK (fun z_ _ => R z_)))) _ (by kernel_rfl) h)

set_option maxRecDepth 100000 in
theorem rIn_lc (t l b r y x : Int) : LC Tryd.prog 28 [.agg [.v (.int .i64 t), .v (.int .i64 l), .v (.int .i64 b), .v (.int .i64 r)], .agg [.v (.int .i64 y), .v (.int .i64 x)]] [] (fun z_ _ => z_ = .v (.bool (inF t l b r y x))) :=
  rIn_vc t l b r y x (by
    intros
    simp only [true_and, and_true, br_iff, AV.v.injEq, AV.tup.injEq, AV.agg.injEq, List.cons.injEq, Value.bool.injEq, Value.int.injEq, decide_eq_true_eq, decide_eq_false_iff_not, ifB, inF]
    repeat' (first | (refine ⟨?_, ?_⟩) | intro _)
    all_goals (first | trivial | omega | (simp_all; done) | (simp_all; omega) | (rw [Bool.eq_iff_iff]; simp (config := {failIfUnchanged := false}) only [decide_eq_true_eq, Bool.false_eq_true, false_iff, iff_false, true_iff, iff_true, Bool.and_eq_true, Bool.or_eq_true]; omega) | (simp_all; rw [Bool.eq_iff_iff]; simp <;> omega)))

def rInH : List AV → Option AV
  | [.agg [.v (.int .i64 t), .v (.int .i64 l), .v (.int .i64 b), .v (.int .i64 r)], .agg [.v (.int .i64 y), .v (.int .i64 x)]] => some (.v (.bool (inF t l b r y x)))
  | _ => none

theorem rIn_ok : POk Tryd.prog 28 rInH := POk.of_lc (enters_of (c := body Tryd.f28) Tryd.func28 rfl (by kernel_rfl)) (by
  intro args v h
  unfold rInH at h
  split at h
  · cases h; exact rIn_lc _ _ _ _ _ _
  · cases h)


def areaF (t l b r : Int) : Int := ifB (okR t l b r) ((b - t + 1) * (r - l + 1)) 0

theorem okR_b {t l b r : Int} (h : okR t l b r = true) : 1 ≤ t ∧ t ≤ b ∧ b ≤ 1048576 ∧ 1 ≤ l ∧ l ≤ r ∧ r ≤ 16384 := by
  simp only [okR, okP, Bool.and_eq_true, decide_eq_true_eq] at h; omega

theorem okR_iff {t l b r : Int} : okR t l b r = true ↔ 1 ≤ t ∧ t ≤ b ∧ b ≤ 1048576 ∧ 1 ≤ l ∧ l ≤ r ∧ r ≤ 16384 := by
  simp only [okR, okP, Bool.and_eq_true, decide_eq_true_eq]; omega

theorem area_w {t l b r : Int} (h : okR t l b r = true) : IntKind.i64.wrap (IntKind.i64.wrap (IntKind.i64.wrap (b - t) + 1) * IntKind.i64.wrap (IntKind.i64.wrap (r - l) + 1)) = (b - t + 1) * (r - l + 1) := by
  have := okR_b h
  rw [w64 (x := b - t) (by omega), w64 (x := r - l) (by omega), w64 (x := b - t + 1) (by omega), w64 (x := r - l + 1) (by omega)]
  have h1 : 0 ≤ (b - t + 1) * (r - l + 1) := Int.mul_nonneg (by omega) (by omega)
  have h2 : (b - t + 1) * (r - l + 1) ≤ 1048576 * 16384 := Int.mul_le_mul (by omega) (by omega) (by omega) (by omega)
  exact w64 (by omega)


set_option maxRecDepth 100000 in
theorem parea_vc (t l b r : Int) {R : AV → Prop} (h : (∀ (n1 : Nat), n1 = n1 ∧ br (ifB (okR t l b r) (0 : Int) (2 : Int) != (0 : Int)) (R (AV.tup [AV.v (Value.int IntKind.i64 (0 : Int)), AV.v (Value.int IntKind.i64 (2 : Int))])) (n1 = n1 ∧ n1 = n1 ∧ n1 = n1 ∧ n1 = n1 ∧ R (AV.tup [AV.v (Value.int IntKind.i64 (IntKind.i64.wrap (IntKind.i64.wrap (IntKind.i64.wrap (b - t) + (1 : Int)) * IntKind.i64.wrap (IntKind.i64.wrap (r - l) + (1 : Int))))), AV.v (Value.int IntKind.i64 (0 : Int))])))) : LC Tryd.prog 20 [.agg [.v (.int .i64 t), .v (.int .i64 l), .v (.int .i64 b), .v (.int .i64 r)]] [] (fun z_ _ => R z_) :=
  lc_of_exec (tbl := tb3) tab_ok tb3_ok mixed noinv 2 _ Tryd.func20 rfl Tryd.ntmps20 (by decide) (by kernel_rfl) (Nat.le_of_ble_eq_true rfl) (@Eq.mpr (execN tab tb3 noinv 2 Tryd.f20.ntmps [] none 0 (body Tryd.f20) (argsT [.agg [.v (.int .i64 t), .v (.int .i64 l), .v (.int .i64 b), .v (.int .i64 r)]] 0) [] (post Tryd.f20 tab (retK (fun z_ _ => R z_)))) _ (by kernel_rfl) h)

set_option maxRecDepth 100000 in
theorem parea_lc (t l b r : Int) : LC Tryd.prog 20 [.agg [.v (.int .i64 t), .v (.int .i64 l), .v (.int .i64 b), .v (.int .i64 r)]] [] (fun z_ _ => z_ = .tup [.v (.int .i64 (areaF t l b r)), .v (.int .i64 (ifB (okR t l b r) 0 2))]) :=
  parea_vc t l b r (by
    intros
    simp only [true_and, br_iff, AV.v.injEq, AV.tup.injEq, List.cons.injEq, Value.int.injEq, and_true, areaF]
    cases h : okR t l b r <;> simp [ifB, area_w, h])

def pareaH : List AV → Option AV
  | [.agg [.v (.int .i64 t), .v (.int .i64 l), .v (.int .i64 b), .v (.int .i64 r)]] => some (.tup [.v (.int .i64 (areaF t l b r)), .v (.int .i64 (ifB (okR t l b r) 0 2))])
  | _ => none

theorem parea_ok : POk Tryd.prog 20 pareaH := POk.of_lc (enters_of (c := body Tryd.f20) Tryd.func20 rfl (by kernel_rfl)) (by
  intro args v h
  unfold pareaH at h
  split at h
  · cases h; exact parea_lc _ _ _ _
  · cases h)



set_option maxRecDepth 100000 in
theorem rArea_vc (t l b r : Int) {R : AV → Prop} (h : (∀ (n1 : Nat), n1 = n1 ∧ br (!okR t l b r) (R (AV.tup [AV.v (Value.int IntKind.i64 (0 : Int)), AV.v (Value.int IntKind.i64 (2 : Int))])) (n1 = n1 ∧ n1 = n1 ∧ n1 = n1 ∧ n1 = n1 ∧ R (AV.tup [AV.v (Value.int IntKind.i64 (IntKind.i64.wrap (IntKind.i64.wrap (IntKind.i64.wrap (b - t) + (1 : Int)) * IntKind.i64.wrap (IntKind.i64.wrap (r - l) + (1 : Int))))), AV.v (Value.int IntKind.i64 (0 : Int))])))) : LC Tryd.prog 24 [.agg [.v (.int .i64 t), .v (.int .i64 l), .v (.int .i64 b), .v (.int .i64 r)]] [] (fun z_ _ => R z_) :=
  lc_of_exec (tbl := tb3) tab_ok tb3_ok mixed noinv 2 _ Tryd.func24 rfl Tryd.ntmps24 (by decide) (by kernel_rfl) (Nat.le_of_ble_eq_true rfl) (@Eq.mpr (execN tab tb3 noinv 2 Tryd.f24.ntmps [] none 0 (body Tryd.f24) (argsT [.agg [.v (.int .i64 t), .v (.int .i64 l), .v (.int .i64 b), .v (.int .i64 r)]] 0) [] (post Tryd.f24 tab (retK (fun z_ _ => R z_)))) _ (by kernel_rfl) h)

set_option maxRecDepth 100000 in
theorem rArea_lc (t l b r : Int) : LC Tryd.prog 24 [.agg [.v (.int .i64 t), .v (.int .i64 l), .v (.int .i64 b), .v (.int .i64 r)]] [] (fun z_ _ => z_ = .tup [.v (.int .i64 (areaF t l b r)), .v (.int .i64 (ifB (okR t l b r) 0 2))]) :=
  rArea_vc t l b r (by
    intros
    simp only [true_and, br_iff, AV.v.injEq, AV.tup.injEq, List.cons.injEq, Value.int.injEq, and_true, areaF]
    cases h : okR t l b r <;> simp [ifB, area_w, h])

def rAreaH : List AV → Option AV
  | [.agg [.v (.int .i64 t), .v (.int .i64 l), .v (.int .i64 b), .v (.int .i64 r)]] => some (.tup [.v (.int .i64 (areaF t l b r)), .v (.int .i64 (ifB (okR t l b r) 0 2))])
  | _ => none

theorem rArea_ok : POk Tryd.prog 24 rAreaH := POk.of_lc (enters_of (c := body Tryd.f24) Tryd.func24 rfl (by kernel_rfl)) (by
  intro args v h
  unfold rAreaH at h
  split at h
  · cases h; exact rArea_lc _ _ _ _
  · cases h)


def mt (t l b r t' l' b' r' : Int) : Bool := okR t l b r && okR t' l' b' r' && okR (max t t') (max l l') (min b b') (min r r')

theorem mt_and {t l b r t' l' b' r' : Int} (h : okR t l b r = true) (h' : okR t' l' b' r' = true) : okR (max t t') (max l l') (min b b') (min r r') = (decide (max t t' ≤ min b b') && decide (max l l' ≤ min r r')) := by
  have := okR_b h
  have := okR_b h'
  rw [Bool.eq_iff_iff, okR_iff]
  simp only [Bool.and_eq_true, decide_eq_true_eq]
  omega


set_option maxRecDepth 100000 in
theorem meet_vc (t l b r t' l' b' r' : Int) {R : AV → Prop} (h : (∀ (n1 n2 n3 : Nat), n1 = n1 ∧ br (ifB (okR t l b r) (0 : Int) (2 : Int) != (0 : Int)) (n3 = n3 ∧ n3 = n3 ∧ R (AV.tup [AV.agg [AV.v (Value.int IntKind.i64 (0 : Int)), AV.v (Value.int IntKind.i64 (0 : Int)), AV.v (Value.int IntKind.i64 (0 : Int)), AV.v (Value.int IntKind.i64 (0 : Int))], AV.v (Value.bool false)])) (n2 = n2 ∧ br (ifB (okR t' l' b' r') (0 : Int) (2 : Int) != (0 : Int)) (n3 = n3 ∧ n3 = n3 ∧ R (AV.tup [AV.agg [AV.v (Value.int IntKind.i64 (0 : Int)), AV.v (Value.int IntKind.i64 (0 : Int)), AV.v (Value.int IntKind.i64 (0 : Int)), AV.v (Value.int IntKind.i64 (0 : Int))], AV.v (Value.bool false)])) (n1 = n1 ∧ n2 = n2 ∧ n1 = n1 ∧ n2 = n2 ∧ n1 = n1 ∧ n2 = n2 ∧ n1 = n1 ∧ n2 = n2 ∧ ∀ (n4 : Nat), n4 = n4 ∧ n4 = n4 ∧ br (ifB (okR (if t' > t then t' else t) (if l' > l then l' else l) (if b' < b then b' else b) (if r' < r then r' else r)) (0 : Int) (2 : Int) != (0 : Int)) (n3 = n3 ∧ n3 = n3 ∧ R (AV.tup [AV.agg [AV.v (Value.int IntKind.i64 (0 : Int)), AV.v (Value.int IntKind.i64 (0 : Int)), AV.v (Value.int IntKind.i64 (0 : Int)), AV.v (Value.int IntKind.i64 (0 : Int))], AV.v (Value.bool false)])) (n4 = n4 ∧ n3 = n3 ∧ n3 = n3 ∧ R (AV.tup [AV.agg [AV.v (Value.int IntKind.i64 (if t' > t then t' else t)), AV.v (Value.int IntKind.i64 (if l' > l then l' else l)), AV.v (Value.int IntKind.i64 (if b' < b then b' else b)), AV.v (Value.int IntKind.i64 (if r' < r then r' else r))], AV.v (Value.bool true)])))))) : LC Tryd.prog 22 [.agg [.v (.int .i64 t), .v (.int .i64 l), .v (.int .i64 b), .v (.int .i64 r)], .agg [.v (.int .i64 t'), .v (.int .i64 l'), .v (.int .i64 b'), .v (.int .i64 r')]] [] (fun z_ _ => R z_) :=
  lc_of_exec (tbl := tb3) tab_ok tb3_ok mixed noinv 2 _ Tryd.func22 rfl Tryd.ntmps22 (by decide) (by kernel_rfl) (Nat.le_of_ble_eq_true rfl) (@Eq.mpr (execN tab tb3 noinv 2 Tryd.f22.ntmps [] none 0 (body Tryd.f22) (argsT [.agg [.v (.int .i64 t), .v (.int .i64 l), .v (.int .i64 b), .v (.int .i64 r)], .agg [.v (.int .i64 t'), .v (.int .i64 l'), .v (.int .i64 b'), .v (.int .i64 r')]] 0) [] (post Tryd.f22 tab (retK (fun z_ _ => R z_)))) _ (by kernel_rfl) h)

set_option maxRecDepth 100000 in
theorem meet_lc (t l b r t' l' b' r' : Int) : LC Tryd.prog 22 [.agg [.v (.int .i64 t), .v (.int .i64 l), .v (.int .i64 b), .v (.int .i64 r)], .agg [.v (.int .i64 t'), .v (.int .i64 l'), .v (.int .i64 b'), .v (.int .i64 r')]] [] (fun z_ _ => z_ = .tup [.agg [.v (.int .i64 (ifB (mt t l b r t' l' b' r') (max t t') 0)), .v (.int .i64 (ifB (mt t l b r t' l' b' r') (max l l') 0)), .v (.int .i64 (ifB (mt t l b r t' l' b' r') (min b b') 0)), .v (.int .i64 (ifB (mt t l b r t' l' b' r') (min r r') 0))], .v (.bool (mt t l b r t' l' b' r'))]) :=
  meet_vc t l b r t' l' b' r' (by
    intros
    have e1 : (if t' > t then t' else t) = max t t' := by omega
    have e2 : (if l' > l then l' else l) = max l l' := by omega
    have e3 : (if b' < b then b' else b) = min b b' := by omega
    have e4 : (if r' < r then r' else r) = min r r' := by omega
    simp only [e1, e2, e3, e4, mt]
    cases okR t l b r <;> cases okR t' l' b' r' <;> cases okR (max t t') (max l l') (min b b') (min r r') <;> simp [br_iff, ifB])

def meetH : List AV → Option AV
  | [.agg [.v (.int .i64 t), .v (.int .i64 l), .v (.int .i64 b), .v (.int .i64 r)], .agg [.v (.int .i64 t'), .v (.int .i64 l'), .v (.int .i64 b'), .v (.int .i64 r')]] => some (.tup [.agg [.v (.int .i64 (ifB (mt t l b r t' l' b' r') (max t t') 0)), .v (.int .i64 (ifB (mt t l b r t' l' b' r') (max l l') 0)), .v (.int .i64 (ifB (mt t l b r t' l' b' r') (min b b') 0)), .v (.int .i64 (ifB (mt t l b r t' l' b' r') (min r r') 0))], .v (.bool (mt t l b r t' l' b' r'))])
  | _ => none

theorem meet_ok : POk Tryd.prog 22 meetH := POk.of_lc (enters_of (c := body Tryd.f22) Tryd.func22 rfl (by kernel_rfl)) (by
  intro args v h
  unfold meetH at h
  split at h
  · cases h; exact meet_lc _ _ _ _ _ _ _ _
  · cases h)



set_option maxRecDepth 100000 in
theorem rMeet_vc (t l b r t' l' b' r' : Int) {R : AV → Prop} (h : (∀ (n1 n2 n3 : Nat), n1 = n1 ∧ br (!okR t l b r) (n3 = n3 ∧ n3 = n3 ∧ R (AV.tup [AV.agg [AV.v (Value.int IntKind.i64 (0 : Int)), AV.v (Value.int IntKind.i64 (0 : Int)), AV.v (Value.int IntKind.i64 (0 : Int)), AV.v (Value.int IntKind.i64 (0 : Int))], AV.v (Value.bool false)])) (n2 = n2 ∧ br (!okR t' l' b' r') (n3 = n3 ∧ n3 = n3 ∧ R (AV.tup [AV.agg [AV.v (Value.int IntKind.i64 (0 : Int)), AV.v (Value.int IntKind.i64 (0 : Int)), AV.v (Value.int IntKind.i64 (0 : Int)), AV.v (Value.int IntKind.i64 (0 : Int))], AV.v (Value.bool false)])) (n1 = n1 ∧ n2 = n2 ∧ n1 = n1 ∧ n2 = n2 ∧ n1 = n1 ∧ n2 = n2 ∧ n1 = n1 ∧ n2 = n2 ∧ ∀ (n4 : Nat), n4 = n4 ∧ n4 = n4 ∧ n4 = n4 ∧ br (decide ((if t' > t then t' else t) > if b' < b then b' else b)) (n3 = n3 ∧ n3 = n3 ∧ R (AV.tup [AV.agg [AV.v (Value.int IntKind.i64 (0 : Int)), AV.v (Value.int IntKind.i64 (0 : Int)), AV.v (Value.int IntKind.i64 (0 : Int)), AV.v (Value.int IntKind.i64 (0 : Int))], AV.v (Value.bool false)])) (n4 = n4 ∧ n4 = n4 ∧ br (decide ((if l' > l then l' else l) > if r' < r then r' else r)) (n3 = n3 ∧ n3 = n3 ∧ R (AV.tup [AV.agg [AV.v (Value.int IntKind.i64 (0 : Int)), AV.v (Value.int IntKind.i64 (0 : Int)), AV.v (Value.int IntKind.i64 (0 : Int)), AV.v (Value.int IntKind.i64 (0 : Int))], AV.v (Value.bool false)])) (n4 = n4 ∧ n3 = n3 ∧ n3 = n3 ∧ R (AV.tup [AV.agg [AV.v (Value.int IntKind.i64 (if t' > t then t' else t)), AV.v (Value.int IntKind.i64 (if l' > l then l' else l)), AV.v (Value.int IntKind.i64 (if b' < b then b' else b)), AV.v (Value.int IntKind.i64 (if r' < r then r' else r))], AV.v (Value.bool true)]))))))) : LC Tryd.prog 25 [.agg [.v (.int .i64 t), .v (.int .i64 l), .v (.int .i64 b), .v (.int .i64 r)], .agg [.v (.int .i64 t'), .v (.int .i64 l'), .v (.int .i64 b'), .v (.int .i64 r')]] [] (fun z_ _ => R z_) :=
  lc_of_exec (tbl := tb3) tab_ok tb3_ok mixed noinv 2 _ Tryd.func25 rfl Tryd.ntmps25 (by decide) (by kernel_rfl) (Nat.le_of_ble_eq_true rfl) (@Eq.mpr (execN tab tb3 noinv 2 Tryd.f25.ntmps [] none 0 (body Tryd.f25) (argsT [.agg [.v (.int .i64 t), .v (.int .i64 l), .v (.int .i64 b), .v (.int .i64 r)], .agg [.v (.int .i64 t'), .v (.int .i64 l'), .v (.int .i64 b'), .v (.int .i64 r')]] 0) [] (post Tryd.f25 tab (retK (fun z_ _ => R z_)))) _ (by kernel_rfl) h)

set_option maxRecDepth 100000 in
theorem rMeet_lc (t l b r t' l' b' r' : Int) : LC Tryd.prog 25 [.agg [.v (.int .i64 t), .v (.int .i64 l), .v (.int .i64 b), .v (.int .i64 r)], .agg [.v (.int .i64 t'), .v (.int .i64 l'), .v (.int .i64 b'), .v (.int .i64 r')]] [] (fun z_ _ => z_ = .tup [.agg [.v (.int .i64 (ifB (mt t l b r t' l' b' r') (max t t') 0)), .v (.int .i64 (ifB (mt t l b r t' l' b' r') (max l l') 0)), .v (.int .i64 (ifB (mt t l b r t' l' b' r') (min b b') 0)), .v (.int .i64 (ifB (mt t l b r t' l' b' r') (min r r') 0))], .v (.bool (mt t l b r t' l' b' r'))]) :=
  rMeet_vc t l b r t' l' b' r' (by
    intros
    have e1 : (if t' > t then t' else t) = max t t' := by omega
    have e2 : (if l' > l then l' else l) = max l l' := by omega
    have e3 : (if b' < b then b' else b) = min b b' := by omega
    have e4 : (if r' < r then r' else r) = min r r' := by omega
    simp only [e1, e2, e3, e4, mt]
    cases h1 : okR t l b r
    · simp [br_iff, ifB]
    · cases h2 : okR t' l' b' r'
      · simp [br_iff, ifB]
      · rw [mt_and h1 h2]
        by_cases c1 : max t t' ≤ min b b' <;> by_cases c2 : max l l' ≤ min r r' <;> simp [br_iff, ifB, c1, c2] <;> omega)

def rMeetH : List AV → Option AV
  | [.agg [.v (.int .i64 t), .v (.int .i64 l), .v (.int .i64 b), .v (.int .i64 r)], .agg [.v (.int .i64 t'), .v (.int .i64 l'), .v (.int .i64 b'), .v (.int .i64 r')]] => some (.tup [.agg [.v (.int .i64 (ifB (mt t l b r t' l' b' r') (max t t') 0)), .v (.int .i64 (ifB (mt t l b r t' l' b' r') (max l l') 0)), .v (.int .i64 (ifB (mt t l b r t' l' b' r') (min b b') 0)), .v (.int .i64 (ifB (mt t l b r t' l' b' r') (min r r') 0))], .v (.bool (mt t l b r t' l' b' r'))])
  | _ => none

theorem rMeet_ok : POk Tryd.prog 25 rMeetH := POk.of_lc (enters_of (c := body Tryd.f25) Tryd.func25 rfl (by kernel_rfl)) (by
  intro args v h
  unfold rMeetH at h
  split at h
  · cases h; exact rMeet_lc _ _ _ _ _ _ _ _
  · cases h)


def tb4 : Tbl := (21, .pure pinH) :: (28, .pure rInH) :: (20, .pure pareaH) :: (24, .pure rAreaH) :: (22, .pure meetH) :: (25, .pure rMeetH) :: tb3

theorem tb4_ok : TblOk Tryd.prog tb4 := ⟨pin_ok, rIn_ok, parea_ok, rArea_ok, meet_ok, rMeet_ok, tb3_ok⟩
end Go.Proofs.YtilejaehbgljbaaDoor

